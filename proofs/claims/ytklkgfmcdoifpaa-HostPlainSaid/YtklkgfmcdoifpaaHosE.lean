/- Contracts: value.Fit. -/
import Derived.Test.YtklkgfmcdoifpaaHosD
namespace Go.Proofs.Ytklkgfmcdoifpaa
open Go.RowKit

set_option maxHeartbeats 800000 in
theorem vfit_any (A A' : Option Addr) (vs : List Vl) (ts : List Int) (c c' B B' : Nat) (w : World) (hB : B ≤ w.heap.size) (hB' : B' ≤ w.heap.size) (ha : tVl.els w B A vs) (hb : (Ty.int .i64).els w B' A' ts) (h1 : vs.length ≤ 16777216) (h2 : ts.length ≤ 16777216) :
    Calls Try.prog 28 #[.slice A vs.length c, .slice A' ts.length c'] w fun e w' => e = .returned (.bool (fitB vs ts)) ∧ Fr No w w' := by
  by_cases hl : vs.length = ts.length
  · have e1 : (((vs.length : Nat) : Int) != ((ts.length : Nat) : Int)) = false := by simp [hl]
    have hL := hid hl
    have hl1 : vs.length ≤ ts.length := by omega
    clear hl
    go_enter Try.func28, Try.ntmps28
    go_wp2
    go_loopw [14] (fun i wr => ∃ k : Nat, k ≤ vs.length ∧ i = .int .i64 k ∧ Hid (Fr No w wr) ∧ Hid (allUp (fitAt vs ts) k = true)) (fun i _ => vs.length - (intOf i).toNat)
    case atStart => exact ⟨0, by omega, rfl, Fr.refl _ _, rfl⟩
    case round =>
      obtain ⟨k, hk, rfl, HF, HQ⟩ := hrel
      clear e1
      by_cases hlt : k < vs.length
      · obtain ⟨b, o, rfl, hbB, c1, c2, _⟩ := vl_at ha k hlt
        obtain ⟨b', o', rfl, hbB', c3, _⟩ := int_at hb k (by omega)
        have i0 : (0 : Int) ≤ k := by omega
        have i1 : (k : Int) < vs.length := by omega
        have i2 : (k : Int) < ts.length := by omega
        have HX : Hid (∀ X, Fr No w X → X.cell? ⟨b, o + k * 2, none⟩ = some (.int .i64 vs[k].t) ∧ X.cell? ⟨b, o + k * 2 + 1, none⟩ = some (.int .u64 vs[k].n) ∧ X.cell? ⟨b', o' + k, none⟩ = some (.int .i64 ts[k])) := fun X f =>
          ⟨(f.cell (p := ⟨b, _, none⟩) (Nat.lt_of_lt_of_le hbB hB) (fun x => x)).trans c1, (f.cell (p := ⟨b, _, none⟩) (Nat.lt_of_lt_of_le hbB hB) (fun x => x)).trans c2, (f.cell (p := ⟨b', _, none⟩) (Nat.lt_of_lt_of_le hbB' hB') (fun x => x)).trans c3⟩
        clear c1 c2 c3
        have HM : Hid (∀ r, (vlB vs[k] && decide (vs[k].t = ts[k])) = r → fitAt vs ts k = r) := fun r hr => fitAt_mk hlt (by omega) rfl rfl hr
        generalize vs[k] = x at *
        generalize ts[k] = t at *
        clear ha hb
        obtain ⟨s0, s1, s2⟩ := HX.out _ HF.out
        go_wp2
        clear s0 s1 s2
        have NB := hid (Blk.new wr 51 #[.int .i64 x.t, .int .u64 x.n])
        have HF1 := hid (HF.out.alloc (.cells #[.int .i64 x.t, .int .u64 x.n] 51))
        generalize wr.heap.size = g at *
        generalize wr.alloc (.cells #[.int .i64 x.t, .int .u64 x.n] 51) = W0 at *
        have HY : Hid (∀ X, Fr No W0 X → X.cell? ⟨g, 0, none⟩ = some (.int .i64 x.t) ∧ X.cell? ⟨g, 1, none⟩ = some (.int .u64 x.n) ∧ X.cell? ⟨b', o' + k, none⟩ = some (.int .i64 t)) := fun X f =>
          ⟨(NB.out.fr f (fun x => x)).cell 0, (NB.out.fr f (fun x => x)).cell 1, (HX.out X (HF1.out.trans f (fun _ _ h => h))).2.2⟩
        clear HX
        refine wp_region_ord (fun X => X.cell? ⟨g, 0, none⟩ = some (.int .i64 x.t) ∧ X.cell? ⟨g, 1, none⟩ = some (.int .u64 x.n) ∧ X.cell? ⟨b', o' + k, none⟩ = some (.int .i64 t)) [] [(0, true), (1, false), (2, true), (3, true), (4, true), (5, true), (6, true), (7, true), (8, true), (9, true), (10, true), (11, true), (12, true), (13, true)] (by kernel_rfl) (by kernel_rfl) (by kernel_rfl) rfl (HY.out _ (Fr.refl _ _).drew) ?_
        repeat (first
          | (refine wpO_skip rfl rfl ?_; simp only [List.getElem_toArray, List.getElem_cons_succ, List.getElem_cons_zero, Act.put, List.setIfInBounds_toArray, List.set_cons_zero, List.set_cons_succ])
          | (refine wpO_call rfl rfl ?_; simp only [List.getElem_toArray, List.getElem_cons_succ, List.getElem_cons_zero]; apply Exists.intro; refine ⟨fun X hX => ?_, ?_⟩
             · (obtain ⟨s0, s1, s2⟩ := hX; go_simp; exact stillUpon_value)
             simp only [Act.put, List.setIfInBounds_toArray, List.set_cons_zero, List.set_cons_succ]))
        refine wpO_eff rfl rfl (fun K hK => ?_)
        simp only [List.getElem_toArray, List.getElem_cons_succ, List.getElem_cons_zero]
        go_simp
        refine (vright_any x _).mono ?_
        cases hv : vlB x with
        | true =>
          rintro e w1 ⟨rfl, f1⟩
          have F1 := hid ((Fr.refl No W0).drew.trans f1 (fun _ _ h => h))
          clear f1
          refine hK _ _ (fun _ => HY.out _ F1.out) ?_
          clear hK K
          have HV := hid hv
          clear hv
          by_cases ht : x.t = t
          · subst ht
            repeat (first
              | (refine wpO_skip rfl rfl ?_; simp only [List.getElem_toArray, List.getElem_cons_succ, List.getElem_cons_zero, Act.put, List.setIfInBounds_toArray, List.set_cons_zero, List.set_cons_succ])
              | (refine wpO_call rfl rfl ?_; simp only [List.getElem_toArray, List.getElem_cons_succ, List.getElem_cons_zero]; apply Exists.intro; refine ⟨fun X hX => ?_, ?_⟩
                 · (obtain ⟨s0, s1, s2⟩ := hX; go_simp; exact stillUpon_value)
                 simp only [Act.put, List.setIfInBounds_toArray, List.set_cons_zero, List.set_cons_succ]))
            refine wpO_nil ?_
            go_wp2
            go_roundw
            case rel => exact ⟨k + 1, by omega, by go_num, HF1.out.trans F1.out (fun _ _ h => h), allUp_step HQ.out (HM.out _ (by rw [HV.out]; simp))⟩
            case measure => simp [intOf]; omega
          · have ht' : decide (x.t = t) = false := decide_eq_false ht
            repeat (first
              | (refine wpO_skip rfl rfl ?_; simp only [List.getElem_toArray, List.getElem_cons_succ, List.getElem_cons_zero, Act.put, List.setIfInBounds_toArray, List.set_cons_zero, List.set_cons_succ])
              | (refine wpO_call rfl rfl ?_; simp only [List.getElem_toArray, List.getElem_cons_succ, List.getElem_cons_zero]; apply Exists.intro; refine ⟨fun X hX => ?_, ?_⟩
                 · (obtain ⟨s0, s1, s2⟩ := hX; go_simp; exact stillUpon_value)
                 simp only [Act.put, List.setIfInBounds_toArray, List.set_cons_zero, List.set_cons_succ]))
            refine wpO_nil ?_
            go_wp2
            go_ret
            exact ⟨rt_bool (fit_no hlt (HM.out _ (by rw [HV.out]; simpa using ht))), HF1.out.trans F1.out (fun _ _ h => h)⟩
        | false =>
          rintro e w1 ⟨rfl, f1⟩
          have F1 := hid ((Fr.refl No W0).drew.trans f1 (fun _ _ h => h))
          clear f1
          refine hK _ _ (fun _ => HY.out _ F1.out) ?_
          clear hK K
          have HV := hid hv
          clear hv
          repeat (first
            | (refine wpO_skip rfl rfl ?_; simp only [List.getElem_toArray, List.getElem_cons_succ, List.getElem_cons_zero, Act.put, List.setIfInBounds_toArray, List.set_cons_zero, List.set_cons_succ])
            | (refine wpO_call rfl rfl ?_; simp only [List.getElem_toArray, List.getElem_cons_succ, List.getElem_cons_zero]; apply Exists.intro; refine ⟨fun X hX => ?_, ?_⟩
               · (obtain ⟨s0, s1, s2⟩ := hX; go_simp; exact stillUpon_value)
               simp only [Act.put, List.setIfInBounds_toArray, List.set_cons_zero, List.set_cons_succ]))
          refine wpO_nil ?_
          go_wp2
          go_ret
          exact ⟨rt_bool (fit_no hlt (HM.out _ (by rw [HV.out]; simp))), HF1.out.trans F1.out (fun _ _ h => h)⟩
      · go_wp2
        go_ret
        refine ⟨rt_bool ?_, HF.out⟩
        obtain rfl : k = vs.length := by omega
        exact fit_yes hL.out HQ.out
  · have e1 : (((vs.length : Nat) : Int) != ((ts.length : Nat) : Int)) = true := by simp; omega
    have hL := hid hl
    clear hl
    go_enter Try.func28, Try.ntmps28
    go_wp2
    go_ret
    exact ⟨rt_bool (fit_ne hL.out), Fr.refl _ _⟩
end Go.Proofs.Ytklkgfmcdoifpaa
