/- The reference's contracts: vals, Same. -/
import Derived.Test.YtfngopoaegofhaaSpM
namespace Go.Proofs.Ytfngopoaegofhaa
open Go.RowKit

theorem take_eq_succ {α : Type} {xs ys : List α} {k : Nat} (h1 : k < xs.length) (h2 : k < ys.length) (h : xs.take k = ys.take k) (he : xs[k] = ys[k]) : xs.take (k + 1) = ys.take (k + 1) := by
  rw [List.take_succ_eq_append_getElem h1, List.take_succ_eq_append_getElem h2, h, he]
set_option maxRecDepth 100000 in
set_option maxHeartbeats 1600000 in
theorem rVals_any (A A' : Option Addr) (xs ys : List Int) (c c' : Nat) (S S' : Nat → Prop) (w : World) (hS : ∀ k, S k → k < w.heap.size) (hS' : ∀ k, S' k → k < w.heap.size) (ha : tI.els w S A xs) (hb : tI.els w S' A' ys) (h1 : xs.length ≤ 140737488355328) (h2 : ys.length ≤ 140737488355328) :
    Calls Try.prog 53 #[.slice A xs.length c, .slice A' ys.length c'] w fun e w' => e = .returned (.bool (decide (xs = ys))) ∧ Fr No w w' := by
  generalize hP : decide (xs = ys) = P
  have HP := hid hP
  clear hP
  by_cases hl : xs.length = ys.length
  · have e1 : (((xs.length : Nat) : Int) == ((ys.length : Nat) : Int)) = true := by simp [hl]
    have hL := hid hl
    have hl1 : xs.length ≤ ys.length := by omega
    clear hl
    go_enter Try.func53, Try.ntmps53
    go_wp2
    clear e1
    go_loopw [5] (fun i wr => ∃ k : Nat, k ≤ xs.length ∧ i = .int .i64 k ∧ Hid (Fr No w wr) ∧ Hid (xs.take k = ys.take k)) (fun i _ => xs.length - (intOf i).toNat)
    case atStart => exact ⟨0, by omega, rfl, Fr.refl _ _, by simp [Hid]⟩
    case round =>
      obtain ⟨k, hk, rfl, HF, HQ⟩ := hrel
      by_cases hlt : k < xs.length
      · obtain ⟨b, o, rfl, hbS, c1, _⟩ := ints_at (ha.fr HF.out (fun k hk => ⟨hS k hk, fun x => x⟩)) k hlt
        obtain ⟨b', o', rfl, hbS', c3, _⟩ := ints_at (hb.fr HF.out (fun k hk => ⟨hS' k hk, fun x => x⟩)) k (by omega)
        have hbl := hS b hbS
        have hbl' := hS' b' hbS'
        have i0 : (0 : Int) ≤ k := by omega
        have i1 : (k : Int) < xs.length := by omega
        have i2 : (k : Int) < ys.length := by omega
        have HE := hid (take_eq_succ hlt (by omega) HQ.out)
        generalize hx : xs[k] = x at *
        generalize hy : ys[k] = y at *
        have HX := hid hx
        have HY := hid hy
        clear hx hy ha hb hS hS'
        cases hxy : (x == y) with
        | true =>
          have HXY := hid (eq_of_beq hxy)
          go_wp2
          refine wp_region_ord (fun X => X.cell? ⟨b, o + k, none⟩ = some (.int .i64 x) ∧ X.cell? ⟨b', o' + k, none⟩ = some (.int .i64 y)) [] [(0, true), (1, true), (2, true), (3, true), (4, true), (5, true), (6, true), (7, true), (8, true)] (by kernel_rfl) (by kernel_rfl) (by kernel_rfl) rfl ⟨c1, c3⟩ ?_
          repeat (first
            | (refine wpO_skip rfl rfl ?_; simp only [List.getElem_toArray, List.getElem_cons_succ, List.getElem_cons_zero, Act.put, List.setIfInBounds_toArray, List.set_cons_zero, List.set_cons_succ])
            | (refine wpO_call rfl rfl ?_; simp only [List.getElem_toArray, List.getElem_cons_succ, List.getElem_cons_zero]; apply Exists.intro; refine ⟨fun X hX => ?_, ?_⟩
               · (have s0 := hX.1; have s1 := hX.2; go_simp; exact stillUpon_value)
               simp only [Act.put, List.setIfInBounds_toArray, List.set_cons_zero, List.set_cons_succ]))
          refine wpO_nil ?_
          go_wp2
          go_roundw
          case rel => exact ⟨k + 1, by omega, by go_num, HF.out.drew, HE.out HXY.out⟩
          case measure => simp [intOf]; omega
        | false =>
          have HXY := hid (ne_of_beq_false hxy)
          go_wp2
          refine wp_region_ord (fun X => X.cell? ⟨b, o + k, none⟩ = some (.int .i64 x) ∧ X.cell? ⟨b', o' + k, none⟩ = some (.int .i64 y)) [] [(0, true), (1, true), (2, true), (3, true), (4, true), (5, true), (6, true), (7, true), (8, true)] (by kernel_rfl) (by kernel_rfl) (by kernel_rfl) rfl ⟨c1, c3⟩ ?_
          repeat (first
            | (refine wpO_skip rfl rfl ?_; simp only [List.getElem_toArray, List.getElem_cons_succ, List.getElem_cons_zero, Act.put, List.setIfInBounds_toArray, List.set_cons_zero, List.set_cons_succ])
            | (refine wpO_call rfl rfl ?_; simp only [List.getElem_toArray, List.getElem_cons_succ, List.getElem_cons_zero]; apply Exists.intro; refine ⟨fun X hX => ?_, ?_⟩
               · (have s0 := hX.1; have s1 := hX.2; go_simp; exact stillUpon_value)
               simp only [Act.put, List.setIfInBounds_toArray, List.set_cons_zero, List.set_cons_succ]))
          refine wpO_nil ?_
          go_wp2
          go_ret
          refine ⟨rt_bool ?_, HF.out.drew⟩
          rw [← HP.out]
          symm
          rw [decide_eq_false_iff_not]
          intro h
          apply HXY.out
          rw [← HX.out, ← HY.out]
          simp [h]
      · go_wp2
        go_ret
        refine ⟨rt_bool ?_, HF.out⟩
        rw [← HP.out]
        symm
        rw [decide_eq_true_eq]
        have h := HQ.out
        have h' := hL.out
        rwa [List.take_of_length_le (by omega), List.take_of_length_le (by omega)] at h
  · have e1 : (((xs.length : Nat) : Int) == ((ys.length : Nat) : Int)) = false := by simp; omega
    have hL := hid hl
    clear hl ha hb
    go_enter Try.func53, Try.ntmps53
    go_wp2
    go_ret
    refine ⟨rt_bool ?_, Fr.refl _ _⟩
    rw [← HP.out]
    symm
    rw [decide_eq_false_iff_not]
    intro h
    exact hL.out (by rw [h])

def sameB (f g : Fn) : Bool := decide (f.params = g.params) && decide (f.results = g.results)
set_option maxRecDepth 100000 in
set_option maxHeartbeats 1600000 in
theorem rSame_any (A1 A2 B1 B2 : Option Addr) (f g : Fn) (a1 a2 b1 b2 : Nat) (S S' : Nat → Prop) (w : World) (hS : ∀ k, S k → k < w.heap.size) (hS' : ∀ k, S' k → k < w.heap.size)
    (h1 : tI.els w S A1 f.params) (h2 : tI.els w S A2 f.results) (h3 : tI.els w S' B1 g.params) (h4 : tI.els w S' B2 g.results)
    (l1 : f.params.length ≤ 140737488355328) (l2 : f.results.length ≤ 140737488355328) (l3 : g.params.length ≤ 140737488355328) (l4 : g.results.length ≤ 140737488355328) :
    Calls Try.prog 21 #[.agg #[.slice A1 f.params.length a1, .slice A2 f.results.length a2], .agg #[.slice B1 g.params.length b1, .slice B2 g.results.length b2]] w fun e w' => e = .returned (.bool (sameB f g)) ∧ Fr No w w' := by
  have F0 := hid (((Fr.refl No w).alloc (.cells #[.slice A1 f.params.length a1, .slice A2 f.results.length a2] 38)).alloc (.cells #[.slice B1 g.params.length b1, .slice B2 g.results.length b2] 38))
  have G0 := hid ((Blk.new w 38 #[.slice A1 f.params.length a1, .slice A2 f.results.length a2]).alloc (.cells #[.slice B1 g.params.length b1, .slice B2 g.results.length b2] 38))
  have G1 := hid (Blk.new (w.alloc (.cells #[.slice A1 f.params.length a1, .slice A2 f.results.length a2] 38)) 38 #[.slice B1 g.params.length b1, .slice B2 g.results.length b2])
  have hsz : (w.alloc (.cells #[.slice A1 f.params.length a1, .slice A2 f.results.length a2] 38)).heap.size = w.heap.size + 1 := by simp
  rw [hsz] at G1
  have HV1 := hid (fun W (F : Fr No w W) => rVals_any A1 B1 f.params g.params a1 b1 S S' W (fun k hk => Nat.lt_of_lt_of_le (hS k hk) F.size) (fun k hk => Nat.lt_of_lt_of_le (hS' k hk) F.size) (h1.fr F (fun k hk => ⟨hS k hk, fun x => x⟩)) (h3.fr F (fun k hk => ⟨hS' k hk, fun x => x⟩)) l1 l3)
  have HV2 := hid (fun W (F : Fr No w W) => rVals_any A2 B2 f.results g.results a2 b2 S S' W (fun k hk => Nat.lt_of_lt_of_le (hS k hk) F.size) (fun k hk => Nat.lt_of_lt_of_le (hS' k hk) F.size) (h2.fr F (fun k hk => ⟨hS k hk, fun x => x⟩)) (h4.fr F (fun k hk => ⟨hS' k hk, fun x => x⟩)) l2 l4)
  unfold sameB
  generalize decide (f.params = g.params) = p at *
  generalize decide (f.results = g.results) = q at *
  clear h1 h2 h3 h4 hsz hS hS'
  go_enter Try.func21, Try.ntmps21
  go_wp2_with fail
  generalize (w.alloc (.cells #[.slice A1 f.params.length a1, .slice A2 f.results.length a2] 38)).alloc (.cells #[.slice B1 g.params.length b1, .slice B2 g.results.length b2] 38) = W0 at *
  refine (HV1.out _ F0.out).mono ?_
  rintro e w1 ⟨rfl, f1⟩
  have F1 := hid (F0.out.trans f1 (fun _ _ h => h))
  have y0 : w1.cell? ⟨w.heap.size, 1, none⟩ = some (.slice A2 f.results.length a2) := (G0.out.fr f1 (fun x => x)).cell 1
  have y1 : w1.cell? ⟨w.heap.size + 1, 1, none⟩ = some (.slice B2 g.results.length b2) := (G1.out.fr f1 (fun x => x)).cell 1
  clear f1
  cases p with
  | false =>
    go_wp2
    go_ret
    exact ⟨rfl, F1.out⟩
  | true =>
    go_wp2_with fail
    refine (HV2.out _ F1.out).mono ?_
    rintro e w2 ⟨rfl, f2⟩
    have F2 := hid (F1.out.trans f2 (fun _ _ h => h))
    clear f2 y0 y1
    go_wp2
    go_ret
    exact ⟨rt_bool (by simp), F2.out⟩
end Go.Proofs.Ytfngopoaegofhaa
