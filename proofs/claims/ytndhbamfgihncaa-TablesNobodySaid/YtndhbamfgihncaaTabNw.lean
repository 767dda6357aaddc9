/- TablesNobody: the walk for every input. -/
import Derived.Test.YtndhbamfgihncaaTabNbA
import Derived.Test.YtndhbamfgihncaaTabNbB
import Derived.Test.YtndhbamfgihncaaTabNbC
import Derived.Test.YtndhbamfgihncaaTabNbD
import Derived.Test.YtndhbamfgihncaaTabNbE
import Derived.Test.YtndhbamfgihncaaTabNbF
import Derived.Test.YtndhbamfgihncaaTabNbG
namespace Go.Proofs.Ytndhbamfgihncaa
open Go.RowKit

set_option maxHeartbeats 800000 in
set_option maxRecDepth 100000 in
theorem nobody_big (kind to at_ n ref : Int) (oth : Bool) (A : Option Addr) (cl ln : Nat) (w : World)
    (hfew : Hid (∀ W, Fr No w W → W.heap.size = w.heap.size + 2 → Blk W (w.heap.size + 1) 55 #[.int .u8 kind, .bool oth, .int .u64 to, .int .u64 at_, .int .u64 n, .int .u64 ref, .slice A ln cl] →
      Calls Try.prog 20 #[.slice (some ⟨w.heap.size + 1, 0, none⟩) 1 1] W fun e w' => e = .returned (.bool false) ∧ W = w')) :
    Calls Try.prog 7 #[.agg #[.int .u8 kind, .bool oth, .int .u64 to, .int .u64 at_, .int .u64 n, .int .u64 ref, .slice A ln cl]] w fun e' w' => e' = .returned (.bool true) ∧ Fr No w w' := by
  go_enter Try.func7, Try.ntmps7
  go_wp2_with fail
  refine (hfew.out _ (((Fr.refl No w).alloc _).alloc _) (by simp) (Blk.new1 w _ _ _)).mono ?_
  rintro e w1 ⟨rfl, rfl⟩
  go_wp2_with (go_at_call 8; refine (alive_any _).mono ?_; rintro e w1 ⟨rfl, hf⟩)
  go_ret
  exact ⟨rfl, (((Fr.refl No w).alloc _).alloc _).trans hf (fun _ _ h => h)⟩

theorem one_els {W : World} {b B : Nat} {t : TypeId} {cs : List Value} {a : Act_} (hb : Blk W b t cs.toArray) (hB : b < B) (hr : tAct.rd W B cs a) : tAct.els W B (some ⟨b, 0, none⟩) [a] := by
  refine .inr ⟨b, 0, rfl, hB, fun i x hx => ?_⟩
  have hi : i = 0 := by have := (List.getElem?_eq_some_iff.1 hx).1; simp at this; exact this
  subst hi
  simp at hx
  subst hx
  refine ⟨cs, fun j u hu => ?_, hr⟩
  rw [hb.cell]
  simpa using hu

theorem tablesNobody_walk (w : World) (v0 : Value) (x0 : Act_) (y0 : tAct.rd w w.heap.size v0.cells.toList x0) (s0 : ∃ cs, v0 = .agg cs) :
    Calls Try.prog 7 #[v0] w fun e w' => e = .returned (.bool true) ∧ Below w.heap.size w w' := by
  obtain ⟨cs, rfl⟩ := s0
  obtain ⟨kind, oth, to, at_, n, ref, ys⟩ := x0
  have y1 := y0
  obtain ⟨A, cl, e1, h1, h2, h3, _, bt, ba, bn, _⟩ := act_cells y0
  simp only at e1 h1 h3 bt ba bn
  have e2 : cs = #[.int .u8 kind, .bool oth, .int .u64 to, .int .u64 at_, .int .u64 n, .int .u64 ref, .slice A ys.length cl] := Array.toList_inj.1 (by simpa [Value.cells] using e1)
  subst e2
  have hact : ∀ W, Fr No w W → tAct.rd W w.heap.size [.int .u8 kind, .bool oth, .int .u64 to, .int .u64 at_, .int .u64 n, .int .u64 ref, .slice A ys.length cl] ⟨kind, oth, to, at_, n, ref, ys⟩ := by
    intro W hW
    rw [e1] at y1
    exact TyOk.keep _ _ _ _ _ y1 (fun p hp => hW.cell hp (fun x => x))
  suffices Calls Try.prog 7 #[.agg #[.int .u8 kind, .bool oth, .int .u64 to, .int .u64 at_, .int .u64 n, .int .u64 ref, .slice A ys.length cl]] w fun e w' => e = .returned (.bool true) ∧ Fr No w w' from this.mono fun e w' ⟨a, b⟩ => ⟨a, b.below⟩
  by_cases hb : 60 < ys.length
  · refine nobody_big kind to at_ n ref oth A cl ys.length w ?_
    intro W hW hs hB
    have := few_any (some ⟨w.heap.size + 1, 0, none⟩) [⟨kind, oth, to, at_, n, ref, ys⟩] 1 (w.heap.size + 2) W (one_els hB (by omega) (tAct_more (hact W hW) (by omega))) (by simp)
    rw [show fewB [⟨kind, oth, to, at_, n, ref, ys⟩] = false from by simp [fewB]; omega] at this
    exact this
  · have hfew : ∀ W B2 C2 c', tAct.els W B2 C2 [⟨kind, oth, to, at_, n, ref, ys⟩] → Calls Try.prog 20 #[.slice C2 1 c'] W fun e w' => e = .returned (.bool true) ∧ W = w' := by
      intro W B2 C2 c' hel
      have := few_any C2 [⟨kind, oth, to, at_, n, ref, ys⟩] c' B2 W hel (by simp)
      rw [show fewB [⟨kind, oth, to, at_, n, ref, ys⟩] = true from by simp [fewB]; omega] at this
      exact this
    have e1 : bits .and .u64 to 4294967295 = ((to % 4294967296).toNat : Int) := by rw [and32 to bt.1 bt.2]; omega
    have e2 : bits .and .u64 at_ 4294967295 = ((at_ % 4294967296).toNat : Int) := by rw [and32 at_ ba.1 ba.2]; omega
    have e3 : bits .and .u64 n 4294967295 = ((n % 4294967296).toNat : Int) := by rw [and32 n bn.1 bn.2]; omega
    have m1 : to % 4294967296 = ((to % 4294967296).toNat : Int) := by omega
    have m2 : at_ % 4294967296 = ((at_ % 4294967296).toNat : Int) := by omega
    have m3 : n % 4294967296 = ((n % 4294967296).toNat : Int) := by omega
    generalize (to % 4294967296).toNat = T at *
    generalize (at_ % 4294967296).toNat = U at *
    generalize (n % 4294967296).toNat = N at *
    by_cases cN : N = 0
    · by_cases cT : T = 0
      · by_cases cU : U = 0
        · exact nobody_b kind to at_ n ref oth ys A cl _ T U N w rfl (by omega) h1 h3 hfew hact bt.1 ba.1 bn.1 e1 e2 e3 m1 m2 m3 cN cT cU (by omega) (by omega)
        · by_cases cL : U ≤ ys.length
          · exact nobody_c kind to at_ n ref oth ys A cl _ T U N w rfl (by omega) h1 h3 hfew hact bt.1 ba.1 bn.1 e1 e2 e3 m1 m2 m3 cN cT cU cL (by omega)
          · exact nobody_d kind to at_ n ref oth ys A cl _ T U N w rfl (by omega) h1 h3 hfew hact bt.1 ba.1 bn.1 e1 e2 e3 m1 m2 m3 cN cT cU cL (by omega)
      · by_cases cU : U = 0
        · by_cases cL : T ≤ ys.length
          · exact nobody_f kind to at_ n ref oth ys A cl _ T U N w rfl (by omega) h1 h3 hfew hact bt.1 ba.1 bn.1 e1 e2 e3 m1 m2 m3 cN cT cU cL
          · exact nobody_g kind to at_ n ref oth ys A cl _ T U N w rfl (by omega) h1 h3 hfew hact bt.1 ba.1 bn.1 e1 e2 e3 m1 m2 m3 cN cT cU cL
        · exact nobody_e kind to at_ n ref oth ys A cl _ T U N w rfl (by omega) h1 h3 hfew hact bt.1 ba.1 bn.1 e1 e2 e3 m1 m2 m3 cN cT cU
    · exact nobody_a kind to at_ n ref oth ys A cl _ T U N w rfl (by omega) h1 h3 hfew hact bt.1 ba.1 bn.1 e1 e2 e3 m1 m2 m3 cN
end Go.Proofs.Ytndhbamfgihncaa
