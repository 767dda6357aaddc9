/- Contracts: values that fit types. -/
import Derived.Test.YtklkgfmcdoifpaaHosC
import Derived.Test.YtklkgfmcdoifpaaAll
namespace Go.Proofs.Ytklkgfmcdoifpaa
open Go.RowKit

def fitAt (vs : List Vl) (ts : List Int) (i : Nat) : Bool :=
  match vs[i]?, ts[i]? with
  | some v, some t => vlB v && decide (v.t = t)
  | _, _ => false
def fitB (vs : List Vl) (ts : List Int) : Bool := decide (vs.length = ts.length) && allUp (fitAt vs ts) vs.length
theorem fitAt_get {vs : List Vl} {ts : List Int} {i : Nat} (h : i < vs.length) (h' : i < ts.length) : fitAt vs ts i = (vlB vs[i] && decide (vs[i].t = ts[i])) := by
  simp [fitAt, h, h']
theorem fit_ne {vs : List Vl} {ts : List Int} (h : ¬ vs.length = ts.length) : false = fitB vs ts := by simp [fitB, h]
theorem fit_no {vs : List Vl} {ts : List Int} {i : Nat} (h : i < vs.length) (hp : fitAt vs ts i = false) : false = fitB vs ts := by simp [fitB, allUp_stop h hp]
theorem fit_yes {vs : List Vl} {ts : List Int} (hl : vs.length = ts.length) (h : allUp (fitAt vs ts) vs.length = true) : true = fitB vs ts := by simp [fitB, hl]; rw [← hl, h]
theorem fitAt_mk {vs : List Vl} {ts : List Int} {i : Nat} {v : Vl} {t : Int} (h : i < vs.length) (h' : i < ts.length) (hv : vs[i] = v) (ht : ts[i] = t) {r : Bool} (hr : (vlB v && decide (v.t = t)) = r) : fitAt vs ts i = r := by
  rw [fitAt_get h h', hv, ht, hr]

set_option maxHeartbeats 800000 in
theorem r27fit_any (A A' : Option Addr) (vs : List Vl) (ts : List Int) (c c' B B' : Nat) (w : World) (hB : B ≤ w.heap.size) (hB' : B' ≤ w.heap.size) (ha : tVl.els w B A vs) (hb : (Ty.int .i64).els w B' A' ts) (h1 : vs.length ≤ 16777216) (h2 : ts.length ≤ 16777216) :
    Calls Try.prog 20 #[.slice A vs.length c, .slice A' ts.length c'] w fun e w' => e = .returned (.bool (fitB vs ts)) ∧ Fr No w w' := by
  by_cases hl : vs.length = ts.length
  · have e1 : (((vs.length : Nat) : Int) != ((ts.length : Nat) : Int)) = false := by simp [hl]
    have hL := hid hl
    have hl1 : vs.length ≤ ts.length := by omega
    clear hl
    go_enter Try.func20, Try.ntmps20
    go_wp2
    go_loopw [5] (fun i wr => ∃ k : Nat, k ≤ vs.length ∧ i = .int .i64 k ∧ Hid (Fr No w wr) ∧ Hid (allUp (fitAt vs ts) k = true)) (fun i _ => vs.length - (intOf i).toNat)
    case atStart => exact ⟨0, by omega, rfl, Fr.refl _ _, rfl⟩
    case round =>
      obtain ⟨k, hk, rfl, HF, HQ⟩ := hrel
      clear e1
      by_cases hlt : k < vs.length
      · obtain ⟨b, o, rfl, hbB, c1, c2, _⟩ := vl_at ha k hlt
        obtain ⟨b', o', rfl, hbB', c3, _⟩ := int_at hb k (by omega)
        have i0 : (0 : Int) ≤ k := by omega
        have i1 : (k : Int) < vs.length := by omega
        have i2 : (k : Int) < ts.length := by omega
        have HX : Hid (∀ X, Fr No w X → X.cell? ⟨b, o + k * 2, none⟩ = some (.int .i64 vs[k].t) ∧ X.cell? ⟨b, o + k * 2 + 1, none⟩ = some (.int .u64 vs[k].n) ∧ X.cell? ⟨b', o' + k, none⟩ = some (.int .i64 ts[k])) := fun X f =>
          ⟨(f.cell (p := ⟨b, _, none⟩) (Nat.lt_of_lt_of_le hbB hB) (fun x => x)).trans c1, (f.cell (p := ⟨b, _, none⟩) (Nat.lt_of_lt_of_le hbB hB) (fun x => x)).trans c2, (f.cell (p := ⟨b', _, none⟩) (Nat.lt_of_lt_of_le hbB' hB') (fun x => x)).trans c3⟩
        clear c1 c2 c3
        have HM : Hid (∀ r, (vlB vs[k] && decide (vs[k].t = ts[k])) = r → fitAt vs ts k = r) := fun r hr => fitAt_mk hlt (by omega) rfl rfl hr
        generalize vs[k] = x at *
        generalize ts[k] = t at *
        clear ha hb
        obtain ⟨s0, s1, s2⟩ := HX.out _ HF.out
        go_wp2
        refine wp_region_ord (fun X => X.cell? ⟨b, o + k * 2, none⟩ = some (.int .i64 x.t) ∧ X.cell? ⟨b, o + k * 2 + 1, none⟩ = some (.int .u64 x.n) ∧ X.cell? ⟨b', o' + k, none⟩ = some (.int .i64 t)) [] [(0, true), (1, true), (2, true), (3, true), (4, false), (5, true), (6, true), (7, true), (8, true), (9, true), (10, true), (11, true), (12, true), (13, true), (14, true), (15, true), (16, true), (17, true)] (by kernel_rfl) (by kernel_rfl) (by kernel_rfl) rfl (HX.out _ HF.out.drew) ?_
        clear s0 s1 s2
        repeat (first
          | (refine wpO_skip rfl rfl ?_; simp only [List.getElem_toArray, List.getElem_cons_succ, List.getElem_cons_zero, Act.put, List.setIfInBounds_toArray, List.set_cons_zero, List.set_cons_succ])
          | (refine wpO_call rfl rfl ?_; simp only [List.getElem_toArray, List.getElem_cons_succ, List.getElem_cons_zero]; apply Exists.intro; refine ⟨fun X hX => ?_, ?_⟩
             · (obtain ⟨s0, s1, s2⟩ := hX; go_simp; exact stillUpon_value)
             simp only [Act.put, List.setIfInBounds_toArray, List.set_cons_zero, List.set_cons_succ]))
        refine wpO_eff rfl rfl (fun K hK => ?_)
        simp only [List.getElem_toArray, List.getElem_cons_succ, List.getElem_cons_zero]
        go_simp
        refine (r27right_any x _).mono ?_
        cases hv : vlB x with
        | true =>
          rintro e w1 ⟨rfl, f1⟩
          have F1 := hid ((HF.out.drew).trans f1 (fun _ _ h => h))
          clear f1
          refine hK _ _ (fun _ => HX.out _ F1.out) ?_
          clear hK K
          have HV := hid hv
          clear hv
          by_cases ht : x.t = t
          · subst ht
            repeat (first
              | (refine wpO_skip rfl rfl ?_; simp only [List.getElem_toArray, List.getElem_cons_succ, List.getElem_cons_zero, Act.put, List.setIfInBounds_toArray, List.set_cons_zero, List.set_cons_succ])
              | (refine wpO_call rfl rfl ?_; simp only [List.getElem_toArray, List.getElem_cons_succ, List.getElem_cons_zero]; apply Exists.intro; refine ⟨fun X hX => ?_, ?_⟩
                 · (obtain ⟨s0, s1, s2⟩ := hX; go_simp; exact stillUpon_value)
                 simp only [Act.put, List.setIfInBounds_toArray, List.set_cons_zero, List.set_cons_succ]))
            refine wpO_nil ?_
            go_wp2
            go_roundw
            case rel => exact ⟨k + 1, by omega, by go_num, F1.out, allUp_step HQ.out (HM.out _ (by rw [HV.out]; simp))⟩
            case measure => simp [intOf]; omega
          · have ht' : decide (x.t = t) = false := decide_eq_false ht
            repeat (first
              | (refine wpO_skip rfl rfl ?_; simp only [List.getElem_toArray, List.getElem_cons_succ, List.getElem_cons_zero, Act.put, List.setIfInBounds_toArray, List.set_cons_zero, List.set_cons_succ])
              | (refine wpO_call rfl rfl ?_; simp only [List.getElem_toArray, List.getElem_cons_succ, List.getElem_cons_zero]; apply Exists.intro; refine ⟨fun X hX => ?_, ?_⟩
                 · (obtain ⟨s0, s1, s2⟩ := hX; go_simp; exact stillUpon_value)
                 simp only [Act.put, List.setIfInBounds_toArray, List.set_cons_zero, List.set_cons_succ]))
            refine wpO_nil ?_
            go_wp2
            go_ret
            exact ⟨rt_bool (fit_no hlt (HM.out _ (by rw [HV.out]; simpa using ht))), F1.out⟩
        | false =>
          rintro e w1 ⟨rfl, f1⟩
          have F1 := hid ((HF.out.drew).trans f1 (fun _ _ h => h))
          clear f1
          refine hK _ _ (fun _ => HX.out _ F1.out) ?_
          clear hK K
          have HV := hid hv
          clear hv
          repeat (first
            | (refine wpO_skip rfl rfl ?_; simp only [List.getElem_toArray, List.getElem_cons_succ, List.getElem_cons_zero, Act.put, List.setIfInBounds_toArray, List.set_cons_zero, List.set_cons_succ])
            | (refine wpO_call rfl rfl ?_; simp only [List.getElem_toArray, List.getElem_cons_succ, List.getElem_cons_zero]; apply Exists.intro; refine ⟨fun X hX => ?_, ?_⟩
               · (obtain ⟨s0, s1, s2⟩ := hX; go_simp; exact stillUpon_value)
               simp only [Act.put, List.setIfInBounds_toArray, List.set_cons_zero, List.set_cons_succ]))
          refine wpO_nil ?_
          go_wp2
          go_ret
          exact ⟨rt_bool (fit_no hlt (HM.out _ (by rw [HV.out]; simp))), F1.out⟩
      · go_wp2
        go_ret
        refine ⟨rt_bool ?_, HF.out⟩
        obtain rfl : k = vs.length := by omega
        exact fit_yes hL.out HQ.out
  · have e1 : (((vs.length : Nat) : Int) != ((ts.length : Nat) : Int)) = true := by simp; omega
    have hL := hid hl
    clear hl
    go_enter Try.func20, Try.ntmps20
    go_wp2
    go_ret
    exact ⟨rt_bool (fit_ne hL.out), Fr.refl _ _⟩
end Go.Proofs.Ytklkgfmcdoifpaa
