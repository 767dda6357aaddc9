/- Contracts: Elem, Data, Mem, poke. -/
import Derived.Test.YthggdemiddjlgaaStIO
namespace Go.Proofs.Ythggdemiddjlgaa
open Go.RowKit

/-- A copy of the list l, and the flag ok. -/
def CopyOk {α : Type} (t : Ty α) (el : TypeId) (l : List α) (ok : Bool) (w : World) (e : Ending) (w' : World) : Prop :=
  ∃ (A : Option Addr) (c : Nat), e = .returned (.tuple #[.slice A l.length c, .bool ok]) ∧ t.row w' w.heap.size Emp el (.slice A l.length c) l ∧ Fr No w w'
theorem row_base {α : Type} {t : Ty α} {w : World} {b b' : Nat} {S : Nat → Prop} {el : TypeId} {v : Value} {l : List α} (h : t.row w b S el v l) (hb : b' ≤ b) : t.row w b' S el v l := by
  obtain ⟨css, h1, h2⟩ := h
  refine ⟨css, h1, h2.1, ?_⟩
  rcases h2.2 with h0 | ⟨g, cap, cur, e, hg, k⟩
  · exact .inl h0
  · exact .inr ⟨g, cap, cur, e, Nat.le_trans hb hg, k⟩
theorem atD_mem {α : Type} {d : α} {l : List α} {i : Int} {p : α → Prop} (hd : p d) (h : ∀ a ∈ l, p a) : p (atD d l i).1 := by
  unfold atD
  split
  · exact h _ (List.getElem_mem _)
  · exact hd
section
variable {w : World} {R : Nat → Prop} {V : Pl} {x : Rx}
set_option maxHeartbeats 1600000 in
theorem mem_any (h : StIn w R V x) (i : Int) (hn : x.mems.length ≤ 1000000) :
    Calls Try.prog 39 #[.pointer (some ⟨V.P, 0, none⟩), .int .i64 i] w fun e w' => e = .returned (ptrV (getI (V.mp.map (·.1)) i)) ∧ Fr No w w' := by
  obtain ⟨A, c, hv, _, hel⟩ := h.sl_me
  have hcell : w.cell? ⟨V.P, 5, none⟩ = some (.slice A (V.mp.map (·.1)).length c) := by rw [← hv]; exact h.blk.cell 5
  have HA := hid (atPtM_any V.P 5 A c (V.mp.map (·.1)) i (· < w.heap.size) w hcell hel (by simp [h.ml]; exact hn))
  clear hel hcell hv h
  go_enter Try.func39, Try.ntmps39
  go_wp2_with fail
  refine HA.out.mono ?_
  rintro e w1 ⟨rfl, f1⟩
  have F1 := hid f1
  clear HA f1
  go_wp2
  go_ret
  exact ⟨rfl, F1.out⟩
theorem mem_nil (i : Int) (w : World) : Calls Try.prog 39 #[.pointer none, .int .i64 i] w fun e w' => e = .returned (.pointer none) ∧ w = w' := by
  go_enter Try.func39, Try.ntmps39
  go_wp2
  go_ret
  exact ⟨rfl, rfl⟩
end
end Go.Proofs.Ythggdemiddjlgaa
