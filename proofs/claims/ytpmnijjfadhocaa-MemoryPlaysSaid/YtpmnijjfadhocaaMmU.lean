/- Chapter 28: New. -/
import Derived.Test.YtpmnijjfadhocaaMmT
namespace Go.Proofs.Ytpmnijjfadhocaa
open Go.RowKit

def validB (l : Lim) : Bool := decide (0 ≤ l.min ∧ l.min ≤ 256 ∧ (l.has = true → l.min ≤ l.max ∧ l.max ≤ 256) ∧ (l.has = false → l.max = 0))
def NewTo (l : Lim) (w : World) (e : Ending) (w' : World) : Prop :=
  if validB l = true then ∃ p q c, e = .returned (.pointer (some ⟨p, 0, none⟩)) ∧ Mo w' p q c l (List.replicate (l.min.toNat * 256) 0) ∧ w.heap.size ≤ p ∧ w.heap.size ≤ q ∧ Fr No w w'
  else e = .returned (.pointer none) ∧ Fr No w w'
set_option maxRecDepth 100000 in
set_option maxHeartbeats 1600000 in
theorem new_any (l : Lim) (w : World) : Calls Try.prog 8 #[.agg #[.int .i64 l.min, .int .i64 l.max, .bool l.has]] w (NewTo l w) := by
  have F0 := hid ((Fr.refl No w).alloc (.cells #[.int .i64 l.min, .int .i64 l.max, .bool l.has] 23))
  have G0 := hid (Blk.new w 23 #[.int .i64 l.min, .int .i64 l.max, .bool l.has])
  cases hv : validB l with
  | true =>
    have hV := of_decide_eq_true hv
    obtain ⟨v1, v2, v3, v4⟩ := hV
    obtain ⟨mn, hmn⟩ : ∃ mn : Nat, l.min = mn := ⟨l.min.toNat, by omega⟩
    have hto : l.min.toNat = mn := by omega
    unfold NewTo
    rw [hv, hto]
    simp only [if_true]
    cases hh : l.has with
    | true =>
      have v3 := v3 hh
      rw [hh] at F0 G0
      rw [hmn] at F0 G0 v1 v2 v3 ⊢
      clear v4 hv
      generalize hmx : l.max = mx at *
      have hmk : ∀ W, (Instr.makeSlice 26 (.int .i64 ((mn : Int) * 256)) (.int .i64 ((mn : Int) * 256))).run Try.prog W = .ok (.slice (some ⟨W.heap.size, 0, none⟩) (mn * 256) (mn * 256)) (W.alloc (.cells (Array.replicate (mn * 256) (.int .u8 0)) 5)) := fun W => by
        have h := run_mk elBs rfl W .i64 .i64 (mn * 256) (by omega) (by omega)
        rw [show ((mn * 256 : Nat) : Int) = (mn : Int) * 256 by omega] at h
        exact h
      have hw1 : IntKind.i64.wrap ((mn : Int) * 256) = (mn : Int) * 256 := by rw [IntKind.wrap_i64]; omega
      go_enter Try.func8, Try.ntmps8
      go_wp2_with fail
      generalize w.alloc (.cells #[.int .i64 mn, .int .i64 mx, .bool true] 23) = W at *
      have HX : Hid (∀ X, Fr No W X → X.cell? ⟨w.heap.size, 0, none⟩ = some (.int .i64 mn) ∧ X.cell? ⟨w.heap.size, 1, none⟩ = some (.int .i64 mx) ∧ X.cell? ⟨w.heap.size, 2, none⟩ = some (.bool true)) := fun X f => ⟨(G0.out.fr f (fun x => x)).cell 0, (G0.out.fr f (fun x => x)).cell 1, (G0.out.fr f (fun x => x)).cell 2⟩
      refine wp_region_ord (fun X => X.cell? ⟨w.heap.size, 0, none⟩ = some (.int .i64 mn) ∧ X.cell? ⟨w.heap.size, 1, none⟩ = some (.int .i64 mx) ∧ X.cell? ⟨w.heap.size, 2, none⟩ = some (.bool true)) [] [(0, true), (1, true), (2, true), (3, true), (4, false), (5, true), (6, false), (7, true)] (by kernel_rfl) (by kernel_rfl) (by kernel_rfl) rfl (HX.out _ (Fr.refl _ _).drew) ?_
      repeat (first
        | (refine wpO_skip rfl rfl ?_; simp only [List.getElem_toArray, List.getElem_cons_succ, List.getElem_cons_zero, Act.put, List.setIfInBounds_toArray, List.set_cons_zero, List.set_cons_succ])
        | (refine wpO_call rfl rfl ?_; simp only [List.getElem_toArray, List.getElem_cons_succ, List.getElem_cons_zero]; apply Exists.intro; refine ⟨fun X hX => ?_, ?_⟩
           · (have s0 := hX.1; have s1 := hX.2.1; have s2 := hX.2.2; go_simp; exact stillUpon_value)
           simp only [Act.put, List.setIfInBounds_toArray, List.set_cons_zero, List.set_cons_succ]))
      refine wpO_eff rfl rfl (fun K hK => ?_)
      simp only [List.getElem_toArray, List.getElem_cons_succ, List.getElem_cons_zero]
      go_simp
      have FB := hid ((Fr.refl No W).alloc (.cells (Array.replicate (mn * 256) (.int .u8 0)) 5)).drew
      have GB : Hid (Own (W.alloc (.cells (Array.replicate (mn * 256) (.int .u8 0)) 5)).drew W.heap.size 5 (mn * 256) (List.replicate (mn * 256) (.int .u8 0))) := own_mk W 5 (.int .u8 0) (mn * 256) (by omega)
      have hWs := F0.out.size
      clear hmk
      obtain ⟨qb, hqb⟩ : ∃ z, z = W.heap.size := ⟨_, rfl⟩
      have HQB := hid hqb
      rw [← hqb] at GB ⊢
      clear hqb
      generalize (W.alloc (.cells (Array.replicate (mn * 256) (.int .u8 0)) 5)).drew = W2 at *
      refine hK _ _ (fun _ => HX.out _ FB.out) ?_
      clear hK K
      repeat (first
        | (refine wpO_skip rfl rfl ?_; simp only [List.getElem_toArray, List.getElem_cons_succ, List.getElem_cons_zero, Act.put, List.setIfInBounds_toArray, List.set_cons_zero, List.set_cons_succ])
        | (refine wpO_call rfl rfl ?_; simp only [List.getElem_toArray, List.getElem_cons_succ, List.getElem_cons_zero]; apply Exists.intro; refine ⟨fun X hX => ?_, ?_⟩
           · (have s0 := hX.1; have s1 := hX.2.1; have s2 := hX.2.2; go_simp; exact stillUpon_value)
           simp only [Act.put, List.setIfInBounds_toArray, List.set_cons_zero, List.set_cons_succ]))
      refine wpO_eff rfl rfl (fun K hK => ?_)
      simp only [List.getElem_toArray, List.getElem_cons_succ, List.getElem_cons_zero]
      go_simp
      refine hK _ _ (fun _ => HX.out _ (FB.out.alloc _)) ?_
      clear hK K
      repeat (first
        | (refine wpO_skip rfl rfl ?_; simp only [List.getElem_toArray, List.getElem_cons_succ, List.getElem_cons_zero, Act.put, List.setIfInBounds_toArray, List.set_cons_zero, List.set_cons_succ])
        | (refine wpO_call rfl rfl ?_; simp only [List.getElem_toArray, List.getElem_cons_succ, List.getElem_cons_zero]; apply Exists.intro; refine ⟨fun X hX => ?_, ?_⟩
           · (have s0 := hX.1; have s1 := hX.2.1; have s2 := hX.2.2; go_simp; exact stillUpon_value)
           simp only [Act.put, List.setIfInBounds_toArray, List.set_cons_zero, List.set_cons_succ]))
      refine wpO_nil ?_
      go_wp2
      go_ret
      have hM : Mo (W2.alloc (.cells #[.int .i64 mn, .int .i64 mx, .bool true, .slice (some ⟨qb, 0, none⟩) (mn * 256) (mn * 256)] 54)) W2.heap.size qb (mn * 256) l (List.replicate (mn * 256) 0) := by
        refine ⟨?_, ?_, zeros_bts _⟩
        · rw [hmn, hmx, hh]
          have := Blk.new W2 54 #[.int .i64 mn, .int .i64 mx, .bool true, .slice (some ⟨qb, 0, none⟩) (mn * 256) (mn * 256)]
          simpa using this
        · have := GB.out.fr ((Fr.refl No W2).alloc (.cells #[.int .i64 mn, .int .i64 mx, .bool true, .slice (some ⟨qb, 0, none⟩) (mn * 256) (mn * 256)] 54)) (fun x => x)
          rw [show Ks .u8 (List.replicate (mn * 256) 0) = List.replicate (mn * 256) (Value.int .u8 0) by simp [Ks]]
          exact this
      exact ⟨_, _, _, rfl, hM, Nat.le_trans hWs FB.out.size, by rw [HQB.out]; exact hWs, (F0.out.trans FB.out (fun _ _ h => h)).alloc _⟩
    | false =>
      have v4 := v4 hh
      rw [hh, v4] at F0 G0
      rw [hmn] at F0 G0 v1 v2 ⊢
      rw [v4]
      have hmx := v4
      clear v3 hv
      have hmk : ∀ W, (Instr.makeSlice 26 (.int .i64 ((mn : Int) * 256)) (.int .i64 ((mn : Int) * 256))).run Try.prog W = .ok (.slice (some ⟨W.heap.size, 0, none⟩) (mn * 256) (mn * 256)) (W.alloc (.cells (Array.replicate (mn * 256) (.int .u8 0)) 5)) := fun W => by
        have h := run_mk elBs rfl W .i64 .i64 (mn * 256) (by omega) (by omega)
        rw [show ((mn * 256 : Nat) : Int) = (mn : Int) * 256 by omega] at h
        exact h
      have hw1 : IntKind.i64.wrap ((mn : Int) * 256) = (mn : Int) * 256 := by rw [IntKind.wrap_i64]; omega
      go_enter Try.func8, Try.ntmps8
      go_wp2_with fail
      generalize w.alloc (.cells #[.int .i64 mn, .int .i64 0, .bool false] 23) = W at *
      have HX : Hid (∀ X, Fr No W X → X.cell? ⟨w.heap.size, 0, none⟩ = some (.int .i64 mn) ∧ X.cell? ⟨w.heap.size, 1, none⟩ = some (.int .i64 0) ∧ X.cell? ⟨w.heap.size, 2, none⟩ = some (.bool false)) := fun X f => ⟨(G0.out.fr f (fun x => x)).cell 0, (G0.out.fr f (fun x => x)).cell 1, (G0.out.fr f (fun x => x)).cell 2⟩
      refine wp_region_ord (fun X => X.cell? ⟨w.heap.size, 0, none⟩ = some (.int .i64 mn) ∧ X.cell? ⟨w.heap.size, 1, none⟩ = some (.int .i64 0) ∧ X.cell? ⟨w.heap.size, 2, none⟩ = some (.bool false)) [] [(0, true), (1, true), (2, true), (3, true), (4, false), (5, true), (6, false), (7, true)] (by kernel_rfl) (by kernel_rfl) (by kernel_rfl) rfl (HX.out _ (Fr.refl _ _).drew) ?_
      repeat (first
        | (refine wpO_skip rfl rfl ?_; simp only [List.getElem_toArray, List.getElem_cons_succ, List.getElem_cons_zero, Act.put, List.setIfInBounds_toArray, List.set_cons_zero, List.set_cons_succ])
        | (refine wpO_call rfl rfl ?_; simp only [List.getElem_toArray, List.getElem_cons_succ, List.getElem_cons_zero]; apply Exists.intro; refine ⟨fun X hX => ?_, ?_⟩
           · (have s0 := hX.1; have s1 := hX.2.1; have s2 := hX.2.2; go_simp; exact stillUpon_value)
           simp only [Act.put, List.setIfInBounds_toArray, List.set_cons_zero, List.set_cons_succ]))
      refine wpO_eff rfl rfl (fun K hK => ?_)
      simp only [List.getElem_toArray, List.getElem_cons_succ, List.getElem_cons_zero]
      go_simp
      have FB := hid ((Fr.refl No W).alloc (.cells (Array.replicate (mn * 256) (.int .u8 0)) 5)).drew
      have GB : Hid (Own (W.alloc (.cells (Array.replicate (mn * 256) (.int .u8 0)) 5)).drew W.heap.size 5 (mn * 256) (List.replicate (mn * 256) (.int .u8 0))) := own_mk W 5 (.int .u8 0) (mn * 256) (by omega)
      have hWs := F0.out.size
      clear hmk
      obtain ⟨qb, hqb⟩ : ∃ z, z = W.heap.size := ⟨_, rfl⟩
      have HQB := hid hqb
      rw [← hqb] at GB ⊢
      clear hqb
      generalize (W.alloc (.cells (Array.replicate (mn * 256) (.int .u8 0)) 5)).drew = W2 at *
      refine hK _ _ (fun _ => HX.out _ FB.out) ?_
      clear hK K
      repeat (first
        | (refine wpO_skip rfl rfl ?_; simp only [List.getElem_toArray, List.getElem_cons_succ, List.getElem_cons_zero, Act.put, List.setIfInBounds_toArray, List.set_cons_zero, List.set_cons_succ])
        | (refine wpO_call rfl rfl ?_; simp only [List.getElem_toArray, List.getElem_cons_succ, List.getElem_cons_zero]; apply Exists.intro; refine ⟨fun X hX => ?_, ?_⟩
           · (have s0 := hX.1; have s1 := hX.2.1; have s2 := hX.2.2; go_simp; exact stillUpon_value)
           simp only [Act.put, List.setIfInBounds_toArray, List.set_cons_zero, List.set_cons_succ]))
      refine wpO_eff rfl rfl (fun K hK => ?_)
      simp only [List.getElem_toArray, List.getElem_cons_succ, List.getElem_cons_zero]
      go_simp
      refine hK _ _ (fun _ => HX.out _ (FB.out.alloc _)) ?_
      clear hK K
      repeat (first
        | (refine wpO_skip rfl rfl ?_; simp only [List.getElem_toArray, List.getElem_cons_succ, List.getElem_cons_zero, Act.put, List.setIfInBounds_toArray, List.set_cons_zero, List.set_cons_succ])
        | (refine wpO_call rfl rfl ?_; simp only [List.getElem_toArray, List.getElem_cons_succ, List.getElem_cons_zero]; apply Exists.intro; refine ⟨fun X hX => ?_, ?_⟩
           · (have s0 := hX.1; have s1 := hX.2.1; have s2 := hX.2.2; go_simp; exact stillUpon_value)
           simp only [Act.put, List.setIfInBounds_toArray, List.set_cons_zero, List.set_cons_succ]))
      refine wpO_nil ?_
      go_wp2
      go_ret
      have hM : Mo (W2.alloc (.cells #[.int .i64 mn, .int .i64 0, .bool false, .slice (some ⟨qb, 0, none⟩) (mn * 256) (mn * 256)] 54)) W2.heap.size qb (mn * 256) l (List.replicate (mn * 256) 0) := by
        refine ⟨?_, ?_, zeros_bts _⟩
        · rw [hmn, hmx, hh]
          have := Blk.new W2 54 #[.int .i64 mn, .int .i64 0, .bool false, .slice (some ⟨qb, 0, none⟩) (mn * 256) (mn * 256)]
          simpa using this
        · have := GB.out.fr ((Fr.refl No W2).alloc (.cells #[.int .i64 mn, .int .i64 0, .bool false, .slice (some ⟨qb, 0, none⟩) (mn * 256) (mn * 256)] 54)) (fun x => x)
          rw [show Ks .u8 (List.replicate (mn * 256) 0) = List.replicate (mn * 256) (Value.int .u8 0) by simp [Ks]]
          exact this
      exact ⟨_, _, _, rfl, hM, Nat.le_trans hWs FB.out.size, by rw [HQB.out]; exact hWs, (F0.out.trans FB.out (fun _ _ h => h)).alloc _⟩
  | false =>
    have hV := of_decide_eq_false hv
    unfold NewTo
    rw [hv]
    simp only [Bool.false_eq_true, if_false]
    clear hv G0
    generalize l.min = mn at *
    generalize l.max = mx at *
    by_cases h1 : mn < 0
    · clear hV
      go_enter Try.func8, Try.ntmps8
      go_wp2
      go_ret
      exact ⟨rfl, F0.out⟩
    · by_cases h2 : 256 < mn
      · clear hV
        go_enter Try.func8, Try.ntmps8
        go_wp2
        go_ret
        exact ⟨rfl, F0.out⟩
      · cases hh : l.has with
        | true =>
          rw [hh] at F0
          by_cases h3 : mx < mn
          · clear hV
            go_enter Try.func8, Try.ntmps8
            go_wp2
            go_ret
            exact ⟨rfl, F0.out⟩
          · have h4 : 256 < mx := by
              by_cases h5 : 256 < mx
              · exact h5
              · exact absurd ⟨by omega, by omega, fun _ => ⟨by omega, by omega⟩, fun h => by rw [hh] at h; cases h⟩ hV
            clear hV
            go_enter Try.func8, Try.ntmps8
            go_wp2
            go_ret
            exact ⟨rfl, F0.out⟩
        | false =>
          rw [hh] at F0
          have h4 : ¬ mx = 0 := fun h5 => hV ⟨by omega, by omega, (fun h => by rw [hh] at h; cases h), (fun _ => h5)⟩
          have h6 : (mx == 0) = false := by simpa using h4
          have h7 : (mx != 0) = true := by simpa using h4
          clear hV
          go_enter Try.func8, Try.ntmps8
          go_wp2
          go_ret
          exact ⟨rfl, F0.out⟩
end Go.Proofs.Ytpmnijjfadhocaa
