/- Contract: copied. -/
import Derived.Test.YtfngopoaegofhaaSpA
import Derived.Test.YtfngopoaegofhaaMap
import Derived.Test.YtfngopoaegofhaaOrt
import Derived.Test.YtfngopoaegofhaaEq
import Derived.Test.YtfngopoaegofhaaAll
import Derived.WalkKit
import Derived.ProofKit
import Derived.Deep.QuietTactic
import Derived.BigQuiet
import Derived.Deep.RegionHeld3
import Derived.IntWalk
namespace Go.Proofs.Ytfngopoaegofhaa
open Go.RowKit

theorem rt_bool {a b : Bool} (h : a = b) : Ending.returned (.bool a) = .returned (.bool b) := by rw [h]
theorem rt_int {k : IntKind} {a b : Int} (h : a = b) : Ending.returned (.int k a) = .returned (.int k b) := by rw [h]
abbrev tI : Ty Int := Ty.int .i64
def Emp : Nat → Prop := fun _ => False
instance : TyFlat tLim := by unfold tLim tLim0; infer_instance
instance : TyFlat tTb := by unfold tTb tTb0; infer_instance
instance : TyFlat tGl := by unfold tGl tGl0; infer_instance
theorem elVals : ElemOk Try.prog 36 50 1 8 (.int .i64 0) := ElemOk.mk' Try.underlying36 (by kernel_rfl) rfl (by decide)
theorem elInts : ElemOk Try.prog 92 3 1 8 (.int .i64 0) := ElemOk.mk' Try.underlying92 (by kernel_rfl) rfl (by decide)
theorem elFns : ElemOk Try.prog 22 38 2 48 (.agg #[.slice none 0 0, .slice none 0 0]) := ElemOk.mk' Try.underlying22 (by kernel_rfl) rfl (by decide)
theorem elTbs : ElemOk Try.prog 25 60 4 32 (.agg #[.int .i64 0, .int .i64 0, .int .i64 0, .bool false]) := ElemOk.mk' Try.underlying25 (by kernel_rfl) rfl (by decide)
theorem elLims : ElemOk Try.prog 26 58 3 24 (.agg #[.int .i64 0, .int .i64 0, .bool false]) := ElemOk.mk' Try.underlying26 (by kernel_rfl) rfl (by decide)
theorem elGls : ElemOk Try.prog 93 62 2 16 (.agg #[.int .i64 0, .bool false]) := ElemOk.mk' Try.underlying93 (by kernel_rfl) rfl (by decide)

/-- A function type of two fresh lists. -/
structure FnNew (w : World) (base : Nat) (A1 : Option Addr) (c1 : Nat) (A2 : Option Addr) (c2 : Nat) (f : Fn) : Prop where
  p : tI.row w base Emp 50 (.slice A1 f.params.length c1) f.params
  r : tI.row w base Emp 50 (.slice A2 f.results.length c2) f.results
  ne : ∀ g, (Value.slice A1 f.params.length c1).ownBlock = some g → (Value.slice A2 f.results.length c2).ownBlock ≠ some g
def CopTo (f : Fn) (w : World) (e : Ending) (w' : World) : Prop :=
  ∃ (A1 : Option Addr) (c1 : Nat) (A2 : Option Addr) (c2 : Nat), e = .returned (.agg #[.slice A1 f.params.length c1, .slice A2 f.results.length c2]) ∧ FnNew w' w.heap.size A1 c1 A2 c2 f ∧ Fr No w w'

set_option maxHeartbeats 1600000 in
theorem copied_any (f : Fn) (A1 A2 : Option Addr) (c1 c2 : Nat) (S : Nat → Prop) (w : World) (hS : ∀ k, S k → k < w.heap.size) (h1 : tI.els w S A1 f.params) (h2 : tI.els w S A2 f.results) (l1 : f.params.length ≤ 140737488351232) (l2 : f.results.length ≤ 140737488351232) (b1 : f.params.length * 8 ≤ 140737488355328) (b2 : f.results.length * 8 ≤ 140737488355328) :
    Calls Try.prog 45 #[.agg #[.slice A1 f.params.length c1, .slice A2 f.results.length c2]] w (CopTo f w) := by
  have F0 := hid (((Fr.refl No w).alloc (.cells #[.slice A1 f.params.length c1, .slice A2 f.results.length c2] 38)).alloc (.cells #[.slice none 0 0, .slice none 0 0] 38))
  have G0 := hid ((Blk.new w 38 #[.slice A1 f.params.length c1, .slice A2 f.results.length c2]).alloc (.cells #[.slice none 0 0, .slice none 0 0] 38))
  have G1 := hid (Blk.new1 w (.cells #[.slice A1 f.params.length c1, .slice A2 f.results.length c2] 38) 38 #[.slice none 0 0, .slice none 0 0])
  have H1 := hid (els_flat (h1.fr F0.out (fun k hk => ⟨hS k hk, fun x => x⟩)) hS)
  have H2 := hid (els_flat (h2.fr F0.out (fun k hk => ⟨hS k hk, fun x => x⟩)) hS)
  have HB1 := hid b1
  have HB2 := hid b2
  have L1 := hid l1
  have L2 := hid l2
  clear h1 h2 b1 b2 l1 l2 hS
  go_enter Try.func45, Try.ntmps45
  go_wp2
  generalize (w.alloc (.cells #[.slice A1 f.params.length c1, .slice A2 f.results.length c2] 38)).alloc (.cells #[.slice none 0 0, .slice none 0 0] 38) = W at *
  have hW : w.heap.size + 1 < W.heap.size := G1.out.lt
  have HX : Hid (∀ X, Fr (One (w.heap.size + 1)) W X → X.cell? ⟨w.heap.size, 0, none⟩ = some (.slice A1 f.params.length c1) ∧ X.cell? ⟨w.heap.size, 1, none⟩ = some (.slice A2 f.results.length c2)) := fun X g => ⟨(G0.out.fr g (fun x => by simp [One] at x)).cell 0, (G0.out.fr g (fun x => by simp [One] at x)).cell 1⟩
  refine wp_region_ord (fun X => X.cell? ⟨w.heap.size, 0, none⟩ = some (.slice A1 f.params.length c1) ∧ X.cell? ⟨w.heap.size, 1, none⟩ = some (.slice A2 f.results.length c2)) [] [(0, true), (1, true), (3, true), (4, true), (2, false), (5, false), (6, true), (7, false)] (by kernel_rfl) (by kernel_rfl) (by kernel_rfl) rfl (HX.out _ (Fr.refl _ _).drew) ?_
  repeat (first
    | (refine wpO_skip rfl rfl ?_; simp only [List.getElem_toArray, List.getElem_cons_succ, List.getElem_cons_zero, Act.put, List.setIfInBounds_toArray, List.set_cons_zero, List.set_cons_succ])
    | (refine wpO_call rfl rfl ?_; simp only [List.getElem_toArray, List.getElem_cons_succ, List.getElem_cons_zero]; apply Exists.intro; refine ⟨fun X hX => ?_, ?_⟩
       · (have s0 := hX.1; have s1 := hX.2; go_simp; exact stillUpon_value)
       simp only [Act.put, List.setIfInBounds_toArray, List.set_cons_zero, List.set_cons_succ]))
  obtain ⟨css, hcss, hrd⟩ := H1.out
  obtain ⟨dss, hdss, hrd2⟩ := H2.out
  refine wpO_eff rfl rfl (fun K hK => ?_)
  simp only [List.getElem_toArray, List.getElem_cons_succ, List.getElem_cons_zero]
  refine opwp_appC (t := tI) (P := Try.prog) (base := w.heap.size) (S := Emp) (v := .slice none 0 0) (xs := []) (ys := f.params) elVals rfl rfl rfl (Ty.row.nil _ _ _ _) (hcss _ _) hrd.drew rfl (by have := L1.out; simp; omega) (by have := HB1.out; simp; omega) (fun _ h => h.elim) (by show w.heap.size ≤ W.heap.size; omega) ?_
  intro v1 w1 hr1 fr1 hv1
  have F1 := hid ((Fr.refl No W).drew.trans fr1 (fun _ _ h => by simp [Value.ownBlock] at h))
  have g1 : ∀ g, v1.ownBlock = some g → W.heap.size ≤ g ∧ g < w1.heap.size := fun g hg => by
    obtain ⟨_, cs, hb⟩ := hr1.own hg
    rcases hv1 with h | h
    · rw [h] at hg; simp [Value.ownBlock] at hg
    · rw [h] at hg; injection hg with hg; subst hg; exact ⟨Nat.le_refl _, hb.lt⟩
  refine hK _ _ (fun _ => HX.out _ (F1.out.mono (fun _ _ h => h.elim))) ?_
  clear hK K
  simp only [Act.put, List.setIfInBounds_toArray, List.set_cons_zero, List.set_cons_succ]
  refine wpO_eff rfl rfl (fun K hK => ?_)
  simp only [List.getElem_toArray, List.getElem_cons_succ, List.getElem_cons_zero]
  refine opwp_appC (t := tI) (P := Try.prog) (base := w.heap.size) (S := Emp) (v := .slice none 0 0) (xs := []) (ys := f.results) (B2 := w.heap.size) elVals rfl rfl rfl (Ty.row.nil _ _ _ _) (hdss _ _) (hrd2.fr F1.out (fun _ _ x => x)) rfl (by have := L2.out; simp; omega) (by have := HB2.out; simp; omega) (fun _ h => h.elim) (by have := F1.out.size; omega) ?_
  intro v2 w2 hr2 fr2 hv2
  have F2 := hid (F1.out.trans fr2 (fun _ _ h => by simp [Value.ownBlock] at h))
  have R1 := hid (hr1.fr fr2 (fun _ h => h.elim) (fun k hk h => by simp [Value.ownBlock] at h))
  have R2 := hid hr2
  have g2 : ∀ g, v2.ownBlock = some g → w1.heap.size ≤ g ∧ g < w2.heap.size := fun g hg => by
    obtain ⟨_, cs, hb⟩ := hr2.own hg
    rcases hv2 with h | h
    · rw [h] at hg; simp [Value.ownBlock] at hg
    · rw [h] at hg; injection hg with hg; subst hg; exact ⟨Nat.le_refl _, hb.lt⟩
  have HG1 := hid g1
  have HG2 := hid g2
  refine hK _ _ (fun _ => HX.out _ (F2.out.mono (fun _ _ h => h.elim))) ?_
  clear hK K hr1 fr1 hv1 hr2 fr2 hv2 g1 g2 hrd hrd2 hcss hdss
  simp only [Act.put, List.setIfInBounds_toArray, List.set_cons_zero, List.set_cons_succ]
  obtain ⟨B1, d1, rfl, _, _, _⟩ := R1.out.els (S' := fun _ => True) (fun _ _ => trivial) (fun _ _ => trivial)
  obtain ⟨B2, d2, rfl, _, _, _⟩ := R2.out.els (S' := fun _ => True) (fun _ _ => trivial) (fun _ _ => trivial)
  have GZ := hid (G1.out.fr F2.out (fun x => x))
  have u0 : w2.cell? ⟨w.heap.size + 1, 0, none⟩ = some (.slice none 0 0) := GZ.out.cell 0
  have u1 : w2.cell? ⟨w.heap.size + 1, 1, none⟩ = some (.slice none 0 0) := GZ.out.cell 1
  have u2 : w2.frozen? ⟨w.heap.size + 1, 0, none⟩ = false := GZ.out.frozen 0
  have u3 : w2.frozen? ⟨w.heap.size + 1, 1, none⟩ = false := GZ.out.frozen 1
  repeat (first
    | (refine wpO_skip rfl rfl ?_; simp only [List.getElem_toArray, List.getElem_cons_succ, List.getElem_cons_zero, Act.put, List.setIfInBounds_toArray, List.set_cons_zero, List.set_cons_succ])
    | (refine wpO_call rfl rfl ?_; simp only [List.getElem_toArray, List.getElem_cons_succ, List.getElem_cons_zero]; apply Exists.intro; refine ⟨fun X hX => ?_, ?_⟩
       · (have s0 := hX.1; have s1 := hX.2; go_simp; exact stillUpon_value)
       simp only [Act.put, List.setIfInBounds_toArray, List.set_cons_zero, List.set_cons_succ]))
  refine wpO_eff rfl rfl (fun K hK => ?_)
  simp only [List.getElem_toArray, List.getElem_cons_succ, List.getElem_cons_zero]
  go_simp
  have FZ := hid (((Fr.refl (One (w.heap.size + 1)) w2).setCell ⟨w.heap.size + 1, 0, none⟩ (.slice B1 f.params.length d1) (fun _ => rfl)).setCell ⟨w.heap.size + 1, 1, none⟩ (.slice B2 f.results.length d2) (fun _ => rfl))
  have GY := hid ((GZ.out.set_ 0 (.slice B1 f.params.length d1)).set_ 1 (.slice B2 f.results.length d2))
  generalize (w2.setCell ⟨w.heap.size + 1, 0, none⟩ (.slice B1 f.params.length d1)).setCell ⟨w.heap.size + 1, 1, none⟩ (.slice B2 f.results.length d2) = X at *
  refine hK _ _ (fun _ => HX.out _ ((F2.out.mono (M := One (w.heap.size + 1)) (fun _ _ h => h.elim)).trans FZ.out (fun _ _ h => h))) ?_
  clear hK K
  refine wpO_nil ?_
  have y0 : X.cell? ⟨w.heap.size + 1, 0, none⟩ = some (.slice B1 f.params.length d1) := GY.out.cell 0
  have y1 : X.cell? ⟨w.heap.size + 1, 1, none⟩ = some (.slice B2 f.results.length d2) := GY.out.cell 1
  clear u0 u1 u2 u3 GZ GY
  go_wp2
  refine bodyPost_ret (v := .agg #[.slice B1 f.params.length d1, .slice B2 f.results.length d2]) (by simp [results, Try.results45, go_sem, y0, y1]) rfl ⟨B1, d1, B2, d2, rfl, ⟨?_, ?_, ?_⟩, ?_⟩
  · exact R1.out.fr FZ.out (fun _ h => h.elim) (fun k hk h => by have := (HG1.out k hk).1; simp only [One] at h; omega)
  · exact R2.out.fr FZ.out (fun _ h => h.elim) (fun k hk h => by have := (HG2.out k hk).1; have := F1.out.size; simp only [One] at h; omega)
  · intro g h1 h2
    have := (HG1.out g h1).2
    have := (HG2.out g h2).1
    omega
  · exact F0.out.trans ((F2.out.mono (M := One (w.heap.size + 1)) (fun _ _ h => h.elim)).trans FZ.out (fun _ _ h => h)) (fun i hi h => by simp only [One] at h; omega)
end Go.Proofs.Ytfngopoaegofhaa
