/- Chapter 46: Critical. -/
import Derived.Test.YtiafkakkbbclhaaSlG
namespace Go.Proofs.Ytiafkakkbbclhaa
open Go.RowKit

theorem isReal_yes {n : Nat} {t : Int} (h0 : 0 ≤ t) (h1 : t < n) : isReal n t = true := isReal_iff.2 ⟨h0, h1⟩
theorem isReal_no0 {n : Nat} {t : Int} (h0 : ¬ 0 ≤ t) : isReal n t = false := by
  cases h : isReal n t with
  | false => rfl
  | true => exact absurd (isReal_iff.1 h).1 h0
theorem isReal_no1 {n : Nat} {t : Int} (h1 : ¬ t < n) : isReal n t = false := by
  cases h : isReal n t with
  | false => rfl
  | true => exact absurd (isReal_iff.1 h).2 h1
set_option maxRecDepth 100000 in
set_option maxHeartbeats 1600000 in
theorem edge_any (k m nb q qb qm c3 : Nat) (A3 : Option Addr) (es : List Ed) (S : Nat → Prop) (w : World) (y : w.cell? ⟨qb, 5, none⟩ = some (.slice A3 m c3)) (z : w.cell? ⟨qm, 0, none⟩ = some (.slice (some ⟨q, 0, none⟩) nb nb))
    (h : tEd.els w S A3 es) (hS : ∀ k, S k → k < w.heap.size) (hm : Hid (es.length = m)) (hk : k < m) (hlk : k < es.length) (hm2 : m ≤ 100000) :
    Calls Try.prog 17 #[.int .i64 k, .pointer (some ⟨qb, 0, none⟩), .pointer (some ⟨qm, 0, none⟩)] w fun e w' => e = .returned (.bool (isReal nb es[k].to)) ∧ Fr No w w' := by
  obtain ⟨b, o, A', c', rfl, hb, z0, _, hwf, _⟩ := Ed_at h k hlk
  have hbb := hS b hb
  have hqb := World.block_lt_of_cell? w _ y
  have hqm := World.block_lt_of_cell? w _ z
  have HX : Hid (∀ X, Fr No w X → X.cell? ⟨qb, 5, none⟩ = some (.slice (some ⟨b, o, none⟩) m c3) ∧ X.cell? ⟨qm, 0, none⟩ = some (.slice (some ⟨q, 0, none⟩) nb nb) ∧ X.cell? ⟨b, o + k * 2, none⟩ = some (.int .i64 es[k].to)) := hid fun X f =>
    ⟨(f.cell (p := ⟨qb, 5, none⟩) hqb (fun x => x)).trans y, (f.cell (p := ⟨qm, 0, none⟩) hqm (fun x => x)).trans z, (f.cell (p := ⟨b, o + k * 2, none⟩) hbb (fun x => x)).trans z0⟩
  have hwb := hid (wf_i64 hwf)
  generalize es[k].to = e at *
  clear y z h z0 hwf
  have i0 : (0 : Int) ≤ k := by omega
  have i1 : (k : Int) < m := by omega
  by_cases he0 : 0 ≤ e
  · have d0 : decide ((0 : Int) ≤ e) = true := decide_eq_true he0
    by_cases he1 : e < nb
    · have d1 : decide (e < (nb : Int)) = true := decide_eq_true he1
      rw [isReal_yes he0 he1]
      clear he0 he1
      go_enter Try.func17, Try.ntmps17
      go_wp2_with fail
      refine wp_region_ort (Fr No w) (.rd 0 (.rd 1 (.rd 2 (.rd 3 (.rd 4 (.rd 5 (.rd 6 (.rd 7 (.rd 8 (.rd 9 (.rd 10 (.rd 11 (.rd 12 (.rd 13 (.rd 14 (.rd 15 (.rd 16 (.rd 17 (.rd 18 (.rd 19 (.rd 20 .nil))))))))))))))))))))) (by kernel_rfl) (by kernel_rfl) (by kernel_rfl) rfl (Fr.refl _ w).drew ?_
      repeat (first
        | (refine wpT_skip rfl rfl ?_; simp only [List.getElem_toArray, List.getElem_cons_succ, List.getElem_cons_zero, Act.put, List.setIfInBounds_toArray, List.set_cons_zero, List.set_cons_succ])
        | (refine wpT_call rfl rfl ?_; simp only [List.getElem_toArray, List.getElem_cons_succ, List.getElem_cons_zero]; apply Exists.intro; refine ⟨fun X hX => ?_, ?_⟩
           · (obtain ⟨s0, s1, s2⟩ := HX.out X hX; go_simp; exact stillUpon_value)
           simp only [Act.put, List.setIfInBounds_toArray, List.set_cons_zero, List.set_cons_succ]))
      refine wpT_nil ?_
      go_wp2
      go_ret
      exact ⟨rfl, (Fr.refl No w).drew⟩
    · have d1 : decide (e < (nb : Int)) = false := decide_eq_false he1
      rw [isReal_no1 he1]
      clear he0 he1
      go_enter Try.func17, Try.ntmps17
      go_wp2_with fail
      refine wp_region_ort (Fr No w) (.rd 0 (.rd 1 (.rd 2 (.rd 3 (.rd 4 (.rd 5 (.rd 6 (.rd 7 (.rd 8 (.rd 9 (.rd 10 (.rd 11 (.rd 12 (.rd 13 (.rd 14 (.rd 15 (.rd 16 (.rd 17 (.rd 18 (.rd 19 (.rd 20 .nil))))))))))))))))))))) (by kernel_rfl) (by kernel_rfl) (by kernel_rfl) rfl (Fr.refl _ w).drew ?_
      repeat (first
        | (refine wpT_skip rfl rfl ?_; simp only [List.getElem_toArray, List.getElem_cons_succ, List.getElem_cons_zero, Act.put, List.setIfInBounds_toArray, List.set_cons_zero, List.set_cons_succ])
        | (refine wpT_call rfl rfl ?_; simp only [List.getElem_toArray, List.getElem_cons_succ, List.getElem_cons_zero]; apply Exists.intro; refine ⟨fun X hX => ?_, ?_⟩
           · (obtain ⟨s0, s1, s2⟩ := HX.out X hX; go_simp; exact stillUpon_value)
           simp only [Act.put, List.setIfInBounds_toArray, List.set_cons_zero, List.set_cons_succ]))
      refine wpT_nil ?_
      go_wp2
      go_ret
      exact ⟨rfl, (Fr.refl No w).drew⟩
  · have d0 : decide ((0 : Int) ≤ e) = false := decide_eq_false he0
    rw [isReal_no0 he0]
    clear he0
    go_enter Try.func17, Try.ntmps17
    go_wp2_with fail
    refine wp_region_ort (Fr No w) (.rd 0 (.rd 1 (.rd 2 (.rd 3 (.rd 4 (.rd 5 (.rd 6 (.rd 7 (.rd 8 (.rd 9 (.rd 10 (.rd 11 (.rd 12 (.rd 13 (.rd 14 (.rd 15 (.rd 16 (.rd 17 (.rd 18 (.rd 19 (.rd 20 .nil))))))))))))))))))))) (by kernel_rfl) (by kernel_rfl) (by kernel_rfl) rfl (Fr.refl _ w).drew ?_
    repeat (first
      | (refine wpT_skip rfl rfl ?_; simp only [List.getElem_toArray, List.getElem_cons_succ, List.getElem_cons_zero, Act.put, List.setIfInBounds_toArray, List.set_cons_zero, List.set_cons_succ])
      | (refine wpT_call rfl rfl ?_; simp only [List.getElem_toArray, List.getElem_cons_succ, List.getElem_cons_zero]; apply Exists.intro; refine ⟨fun X hX => ?_, ?_⟩
         · (obtain ⟨s0, s1, s2⟩ := HX.out X hX; go_simp; exact stillUpon_value)
         simp only [Act.put, List.setIfInBounds_toArray, List.set_cons_zero, List.set_cons_succ]))
    refine wpT_nil ?_
    go_wp2
    go_ret
    exact ⟨rfl, (Fr.refl No w).drew⟩
end Go.Proofs.Ytiafkakkbbclhaa
