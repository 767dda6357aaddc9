/- TablesNobody: a lemma of its walks. -/
import Derived.Test.YtndhbamfgihncaaTabN
import Derived.Test.YtndhbamfgihncaaTabAct
import Derived.Test.YtndhbamfgihncaaOrd
namespace Go.Proofs.Ytndhbamfgihncaa
open Go.RowKit
theorem tAct_more {w : World} {B B' : Nat} {cs : List Value} {a : Act_} (h : tAct.rd w B cs a) (hB : B ≤ B') : tAct.rd w B' cs a := by
  obtain ⟨c1, r1, rfl, h1, c2, r2, rfl, h2, c3, r3, rfl, h3, c4, r4, rfl, h4, c5, r5, rfl, h5, c6, r6, rfl, h6, A, c, rfl, h7, h8, h9⟩ := h
  refine ⟨c1, _, rfl, h1, c2, _, rfl, h2, c3, _, rfl, h3, c4, _, rfl, h4, c5, _, rfl, h5, c6, _, rfl, h6, A, c, rfl, h7, h8, ?_⟩
  rcases h9 with h9 | ⟨b, o, e, hb, hc⟩
  · exact .inl h9
  · exact .inr ⟨b, o, e, by omega, fun i x hx => by obtain ⟨ds, k1, k2⟩ := hc i x hx; exact ⟨ds, k1, k2⟩⟩
end Go.Proofs.Ytndhbamfgihncaa
