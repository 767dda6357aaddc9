/- Chapter 28: New of the reference. -/
import Derived.Test.YtpmnijjfadhocaaMmU
namespace Go.Proofs.Ytpmnijjfadhocaa
open Go.RowKit

set_option maxHeartbeats 800000 in
theorem may_any (l : Lim) (w : World) : Calls Try.prog 25 #[.agg #[.int .i64 l.min, .int .i64 l.max, .bool l.has]] w fun e w' => e = .returned (.bool (validB l)) ∧ Fr No w w' := by
  have F0 := hid ((Fr.refl No w).alloc (.cells #[.int .i64 l.min, .int .i64 l.max, .bool l.has] 23))
  by_cases h1 : l.min < 0
  · skip
    go_enter Try.func25, Try.ntmps25
    go_wp2
    go_ret
    exact ⟨ret_bool (by unfold validB; rw [Bool.eq_iff_iff]; simp; omega), F0.out⟩
  · by_cases h2 : 256 < l.min
    · skip
      go_enter Try.func25, Try.ntmps25
      go_wp2
      go_ret
      exact ⟨ret_bool (by unfold validB; rw [Bool.eq_iff_iff]; simp; omega), F0.out⟩
    · cases hh : l.has with
      | true =>
        rw [hh] at F0
        by_cases h3 : l.min ≤ l.max
        · by_cases h4 : l.max ≤ 256
          · skip
            go_enter Try.func25, Try.ntmps25
            go_wp2
            go_ret
            exact ⟨ret_bool (by unfold validB; rw [Bool.eq_iff_iff]; simp [hh]; omega), F0.out⟩
          · skip
            go_enter Try.func25, Try.ntmps25
            go_wp2
            go_ret
            exact ⟨ret_bool (by unfold validB; rw [Bool.eq_iff_iff]; simp [hh]; omega), F0.out⟩
        · skip
          go_enter Try.func25, Try.ntmps25
          go_wp2
          go_ret
          exact ⟨ret_bool (by unfold validB; rw [Bool.eq_iff_iff]; simp [hh]; omega), F0.out⟩
      | false =>
        rw [hh] at F0
        by_cases h3 : l.max = 0
        · have h4 : (l.max == 0) = true := by simpa using h3
          rw [h3] at F0
          go_enter Try.func25, Try.ntmps25
          go_wp2
          go_ret
          exact ⟨ret_bool (by unfold validB; rw [Bool.eq_iff_iff]; simp [hh]; omega), F0.out⟩
        · have h4 : (l.max == 0) = false := by simpa using h3
          go_enter Try.func25, Try.ntmps25
          go_wp2
          go_ret
          exact ⟨ret_bool (by unfold validB; rw [Bool.eq_iff_iff]; simp [hh]; omega), F0.out⟩
def RnTo (l : Lim) (w : World) (e : Ending) (w' : World) : Prop :=
  if validB l = true then ∃ (A : Option Addr) (c : Nat), e = .returned (.tuple #[.agg #[.int .i64 l.min, .int .i64 l.max, .bool l.has, .slice A (l.min.toNat * 256) c], .bool true]) ∧ RmIn w' A c (List.replicate (l.min.toNat * 256) 0) ∧ (∀ q o, A = some ⟨q, o, none⟩ → w.heap.size ≤ q) ∧ Fr No w w'
  else e = .returned (.tuple #[.agg #[.int .i64 0, .int .i64 0, .bool false, .slice none 0 0], .bool false]) ∧ Fr No w w'
set_option maxRecDepth 100000 in
set_option maxHeartbeats 1600000 in
theorem rnew_any (l : Lim) (w : World) : Calls Try.prog 9 #[.agg #[.int .i64 l.min, .int .i64 l.max, .bool l.has]] w (RnTo l w) := by
  have F0 := hid (((Fr.refl No w).alloc (.cells #[.int .i64 l.min, .int .i64 l.max, .bool l.has] 23)).alloc (.cells #[.int .i64 0, .int .i64 0, .bool false, .slice none 0 0] 28))
  have G0 := hid ((Blk.new w 23 #[.int .i64 l.min, .int .i64 l.max, .bool l.has]).alloc (.cells #[.int .i64 0, .int .i64 0, .bool false, .slice none 0 0] 28))
  have GR := hid (Blk.new1 w (.cells #[.int .i64 l.min, .int .i64 l.max, .bool l.has] 23) 28 #[.int .i64 0, .int .i64 0, .bool false, .slice none 0 0])
  have HMY := hid (fun W => may_any l W)
  unfold RnTo
  generalize hv : validB l = vv at *
  cases vv with
  | true =>
    have hV := of_decide_eq_true hv
    obtain ⟨v1, v2, _, _⟩ := hV
    simp only [if_true]
    obtain ⟨mn, hmn⟩ : ∃ mn : Nat, l.min = mn := ⟨l.min.toNat, by omega⟩
    have hto : l.min.toNat = mn := by omega
    rw [hto]
    rw [hmn] at F0 G0 GR HMY v1 v2 ⊢
    clear hv
    have hmk : ∀ W, (Instr.makeSlice 26 (.int .i64 ((mn : Int) * 256)) (.int .i64 ((mn : Int) * 256))).run Try.prog W = .ok (.slice (some ⟨W.heap.size, 0, none⟩) (mn * 256) (mn * 256)) (W.alloc (.cells (Array.replicate (mn * 256) (.int .u8 0)) 5)) := fun W => by
      have h := run_mk elBs rfl W .i64 .i64 (mn * 256) (by omega) (by omega)
      rw [show ((mn * 256 : Nat) : Int) = (mn : Int) * 256 by omega] at h
      exact h
    have hw1 : IntKind.i64.wrap ((mn : Int) * 256) = (mn : Int) * 256 := by rw [IntKind.wrap_i64]; omega
    go_enter Try.func9, Try.ntmps9
    go_wp2_with fail
    generalize (w.alloc (.cells #[.int .i64 mn, .int .i64 l.max, .bool l.has] 23)).alloc (.cells #[.int .i64 0, .int .i64 0, .bool false, .slice none 0 0] 28) = W at *
    refine (HMY.out _).mono ?_
    rintro e w1 ⟨rfl, f⟩
    replace F0 := hid (F0.out.trans f (fun _ _ h => h))
    replace G0 := hid (G0.out.fr f (fun x => x))
    replace GR := hid (GR.out.fr f (fun x => x))
    clear f
    have hlt : w.heap.size + 1 < w1.heap.size := GR.out.lt
    have HX : Hid (∀ X, Fr (One (w.heap.size + 1)) w1 X → X.cell? ⟨w.heap.size, 0, none⟩ = some (.int .i64 mn) ∧ X.cell? ⟨w.heap.size, 1, none⟩ = some (.int .i64 l.max) ∧ X.cell? ⟨w.heap.size, 2, none⟩ = some (.bool l.has)) := fun X f => by
      have h := G0.out.fr f (fun x => by simp only [One] at x; omega)
      exact ⟨h.cell 0, h.cell 1, h.cell 2⟩
    go_wp2_with fail
    refine wp_region_ord (fun X => X.cell? ⟨w.heap.size, 0, none⟩ = some (.int .i64 mn) ∧ X.cell? ⟨w.heap.size, 1, none⟩ = some (.int .i64 l.max) ∧ X.cell? ⟨w.heap.size, 2, none⟩ = some (.bool l.has)) [] [(0, true), (1, true), (2, true), (3, true), (4, false), (5, true), (6, false), (7, true)] (by kernel_rfl) (by kernel_rfl) (by kernel_rfl) rfl (HX.out _ (Fr.refl _ _).drew) ?_
    repeat (first
      | (refine wpO_skip rfl rfl ?_; simp only [List.getElem_toArray, List.getElem_cons_succ, List.getElem_cons_zero, Act.put, List.setIfInBounds_toArray, List.set_cons_zero, List.set_cons_succ])
      | (refine wpO_call rfl rfl ?_; simp only [List.getElem_toArray, List.getElem_cons_succ, List.getElem_cons_zero]; apply Exists.intro; refine ⟨fun X hX => ?_, ?_⟩
         · (have s0 := hX.1; have s1 := hX.2.1; have s2 := hX.2.2; go_simp; exact stillUpon_value)
         simp only [Act.put, List.setIfInBounds_toArray, List.set_cons_zero, List.set_cons_succ]))
    refine wpO_eff rfl rfl (fun K hK => ?_)
    simp only [List.getElem_toArray, List.getElem_cons_succ, List.getElem_cons_zero]
    go_simp
    have FB := hid ((Fr.refl No w1).alloc (.cells (Array.replicate (mn * 256) (.int .u8 0)) 5)).drew
    have GB : Hid (Blk (w1.alloc (.cells (Array.replicate (mn * 256) (.int .u8 0)) 5)).drew w1.heap.size 5 (Ks .u8 (List.replicate (mn * 256) 0)).toArray) := by
      have := (Blk.new w1 5 (Array.replicate (mn * 256) (.int .u8 0))).drew
      have e : Array.replicate (mn * 256) (Value.int .u8 0) = (Ks .u8 (List.replicate (mn * 256) 0)).toArray := by simp [Ks]
      rw [← e]
      exact this
    clear hmk
    obtain ⟨qb, hqb⟩ : ∃ z, z = w1.heap.size := ⟨_, rfl⟩
    have HQB := hid hqb
    rw [← hqb] at GB ⊢
    clear hqb
    generalize (w1.alloc (.cells (Array.replicate (mn * 256) (.int .u8 0)) 5)).drew = W2 at *
    refine hK _ _ (fun _ => HX.out _ (FB.out.mono (fun _ _ h => h.elim))) ?_
    clear hK K
    repeat (first
      | (refine wpO_skip rfl rfl ?_; simp only [List.getElem_toArray, List.getElem_cons_succ, List.getElem_cons_zero, Act.put, List.setIfInBounds_toArray, List.set_cons_zero, List.set_cons_succ])
      | (refine wpO_call rfl rfl ?_; simp only [List.getElem_toArray, List.getElem_cons_succ, List.getElem_cons_zero]; apply Exists.intro; refine ⟨fun X hX => ?_, ?_⟩
         · (have s0 := hX.1; have s1 := hX.2.1; have s2 := hX.2.2; go_simp; exact stillUpon_value)
         simp only [Act.put, List.setIfInBounds_toArray, List.set_cons_zero, List.set_cons_succ]))
    replace GR := hid (GR.out.fr FB.out (fun x => x))
    have z0 := GR.out.cell 0
    have z1 := GR.out.cell 1
    have z2 := GR.out.cell 2
    have z3 := GR.out.cell 3
    have q0 := GR.out.frozen 0
    have q1 := GR.out.frozen 1
    have q2 := GR.out.frozen 2
    have q3 := GR.out.frozen 3
    have FZ := hid (((((Fr.refl (One (w.heap.size + 1)) W2).setCell ⟨w.heap.size + 1, 0, none⟩ (.int .i64 mn) (fun _ => rfl)).setCell ⟨w.heap.size + 1, 1, none⟩ (.int .i64 l.max) (fun _ => rfl)).setCell ⟨w.heap.size + 1, 2, none⟩ (.bool l.has) (fun _ => rfl)).setCell ⟨w.heap.size + 1, 3, none⟩ (.slice (some ⟨qb, 0, none⟩) (mn * 256) (mn * 256)) (fun _ => rfl))
    refine wpO_eff rfl rfl (fun K hK => ?_)
    simp only [List.getElem_toArray, List.getElem_cons_succ, List.getElem_cons_zero]
    go_simp
    refine hK _ _ (fun _ => HX.out _ ((FB.out.mono (fun _ _ h => h.elim)).trans FZ.out (fun _ _ h => h))) ?_
    clear hK K
    repeat (first
      | (refine wpO_skip rfl rfl ?_; simp only [List.getElem_toArray, List.getElem_cons_succ, List.getElem_cons_zero, Act.put, List.setIfInBounds_toArray, List.set_cons_zero, List.set_cons_succ])
      | (refine wpO_call rfl rfl ?_; simp only [List.getElem_toArray, List.getElem_cons_succ, List.getElem_cons_zero]; apply Exists.intro; refine ⟨fun X hX => ?_, ?_⟩
         · (have s0 := hX.1; have s1 := hX.2.1; have s2 := hX.2.2; go_simp; exact stillUpon_value)
         simp only [Act.put, List.setIfInBounds_toArray, List.set_cons_zero, List.set_cons_succ]))
    refine wpO_nil ?_
    go_wp2
    have FF := (F0.out.trans FB.out (fun _ _ h => h)).trans FZ.out (fun i hi h => by simp only [One] at h; omega)
    have hrow := row_bts (base := w1.heap.size) GB.out (by rw [HQB.out]; exact Nat.le_refl _) (zeros_bts _) (by simp [maxLen]; omega)
    have hRm := rmIn_of_row (hrow.fr FZ.out (fun _ h => h.elim) (fun k hk h => by have h1 := (hrow.own hk).1; simp only [One] at h; omega))
    simp only [List.length_replicate] at hRm
    exact bodyPost_ret (v := .tuple #[.agg #[.int .i64 mn, .int .i64 l.max, .bool l.has, .slice (some ⟨qb, 0, none⟩) (mn * 256) (mn * 256)], .bool true]) (by simp [results, Try.results9, go_sem, z0, z1, z2, z3]) rfl ⟨_, _, rfl, hRm, (fun q o e => by injection e with e; injection e with e _; rw [← e, HQB.out]; exact F0.out.size), FF⟩
  | false =>
    simp only [Bool.false_eq_true, if_false]
    clear hv
    go_enter Try.func9, Try.ntmps9
    go_wp2_with fail
    refine (HMY.out _).mono ?_
    rintro e w1 ⟨rfl, f⟩
    have F1 := hid (F0.out.trans f (fun _ _ h => h))
    have GR1 := hid (GR.out.fr f (fun x => x))
    have z0 := GR1.out.cell 0
    have z1 := GR1.out.cell 1
    have z2 := GR1.out.cell 2
    have z3 := GR1.out.cell 3
    have q0 := GR1.out.frozen 0
    have q1 := GR1.out.frozen 1
    have q2 := GR1.out.frozen 2
    have q3 := GR1.out.frozen 3
    clear f
    go_wp2
    have FZ := (((((Fr.refl (One (w.heap.size + 1)) w1).setCell ⟨w.heap.size + 1, 0, none⟩ (.int .i64 0) (fun _ => rfl)).setCell ⟨w.heap.size + 1, 1, none⟩ (.int .i64 0) (fun _ => rfl)).setCell ⟨w.heap.size + 1, 2, none⟩ (.bool false) (fun _ => rfl)).setCell ⟨w.heap.size + 1, 3, none⟩ (.slice none 0 0) (fun _ => rfl))
    exact bodyPost_ret (v := .tuple #[.agg #[.int .i64 0, .int .i64 0, .bool false, .slice none 0 0], .bool false]) (by simp [results, Try.results9, go_sem, z0, z1, z2, z3]) rfl ⟨rfl, F1.out.trans FZ (fun i hi h => by simp only [One] at h; omega)⟩
end Go.Proofs.Ytpmnijjfadhocaa
