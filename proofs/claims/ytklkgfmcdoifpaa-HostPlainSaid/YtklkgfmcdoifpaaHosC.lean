/- Contracts: function types, lists of values. -/
import Derived.Test.YtklkgfmcdoifpaaHosB
import Derived.Test.YtklkgfmcdoifpaaOrt
import Derived.Test.YtklkgfmcdoifpaaEq
namespace Go.Proofs.Ytklkgfmcdoifpaa
open Go.RowKit

set_option maxHeartbeats 400000 in
theorem tright_any (f : Fn) (A1 A2 : Option Addr) (c1 c2 B : Nat) (w : World) (hB : B ≤ w.heap.size) (h1 : (Ty.int .i64).els w B A1 f.params) (h2 : (Ty.int .i64).els w B A2 f.results) (l1 : f.params.length ≤ 50) (l2 : f.results.length ≤ 50) :
    Calls Try.prog 22 #[.agg #[.slice A1 f.params.length c1, .slice A2 f.results.length c2]] w fun e w' => e = .returned (.bool (fnB f)) ∧ Fr No w w' := by
  have F := hid ((Fr.refl No w).alloc (.cells #[.slice A1 f.params.length c1, .slice A2 f.results.length c2] 24))
  have H1 := hid (h1.fr hB F.out (fun _ _ x => x))
  have H2 := hid (h2.fr hB F.out (fun _ _ x => x))
  cases hp : valsB f.params with
  | true =>
    go_enter Try.func22, Try.ntmps22
    go_wp2_with fail
    refine (all_any _ _ _ _ _ H1.out (by omega)).mono ?_
    rintro e w' ⟨rfl, rfl⟩
    rw [hp]
    go_wp2_with fail
    refine (all_any _ _ _ _ _ H2.out (by omega)).mono ?_
    rintro e w' ⟨rfl, rfl⟩
    go_wp2
    go_ret
    exact ⟨rt_bool (by simp [fnB, hp]), F.out⟩
  | false =>
    go_enter Try.func22, Try.ntmps22
    go_wp2_with fail
    refine (all_any _ _ _ _ _ H1.out (by omega)).mono ?_
    rintro e w' ⟨rfl, rfl⟩
    rw [hp]
    go_wp2
    go_ret
    exact ⟨rt_bool (by simp [fnB, hp]), F.out⟩
set_option maxHeartbeats 400000 in
theorem r6right_any (f : Fn) (A1 A2 : Option Addr) (c1 c2 B : Nat) (w : World) (hB : B ≤ w.heap.size) (h1 : (Ty.int .i64).els w B A1 f.params) (h2 : (Ty.int .i64).els w B A2 f.results) (l1 : f.params.length ≤ 50) (l2 : f.results.length ≤ 50) :
    Calls Try.prog 25 #[.agg #[.slice A1 f.params.length c1, .slice A2 f.results.length c2]] w fun e w' => e = .returned (.bool (fnB f)) ∧ Fr No w w' := by
  have F := hid ((Fr.refl No w).alloc (.cells #[.slice A1 f.params.length c1, .slice A2 f.results.length c2] 24))
  have H1 := hid (h1.fr hB F.out (fun _ _ x => x))
  have H2 := hid (h2.fr hB F.out (fun _ _ x => x))
  cases hp : valsB f.params with
  | true =>
    go_enter Try.func25, Try.ntmps25
    go_wp2_with fail
    refine (r6vals_any _ _ _ _ _ H1.out (by omega)).mono ?_
    rintro e w' ⟨rfl, rfl⟩
    rw [hp]
    go_wp2_with fail
    refine (r6vals_any _ _ _ _ _ H2.out (by omega)).mono ?_
    rintro e w' ⟨rfl, rfl⟩
    go_wp2
    go_ret
    exact ⟨rt_bool (by simp [fnB, hp]), F.out⟩
  | false =>
    go_enter Try.func25, Try.ntmps25
    go_wp2_with fail
    refine (r6vals_any _ _ _ _ _ H1.out (by omega)).mono ?_
    rintro e w' ⟨rfl, rfl⟩
    rw [hp]
    go_wp2
    go_ret
    exact ⟨rt_bool (by simp [fnB, hp]), F.out⟩

theorem run_eq_vl (a b c d : Int) (w : World) : (Op.equalIn 10000 51 (.agg #[.int .i64 a, .int .u64 b]) (.agg #[.int .i64 c, .int .u64 d])).run Try.prog w = .ok (a == c && (b == d && true)) w :=
  eq_st (by kernel_rfl) (by kernel_rfl) (eqf_cons (by decide) (run_part1 (isAgg_int Try.underlying48) rfl) (run_part1 (isAgg_int Try.underlying48) rfl) (run_equalIn_int w 9998 _ _ _ _ _ Try.underlying48)
    (eqf_cons (by decide) (run_part1 (isAgg_int Try.underlying49) rfl) (run_part1 (isAgg_int Try.underlying49) rfl) (run_equalIn_int w 9998 _ _ _ _ _ Try.underlying49) eqf_nil))
/-- x ≠ y as the program has it. -/
def vneq (x y : Vl) : Bool := !decide (x = y)
theorem ifs_vneq {α : Type} (x y : Vl) (f : Bool → α) : (if x.t = y.t then if x.n = y.n then f false else f true else f true) = f (vneq x y) := by
  obtain ⟨a, b⟩ := x
  obtain ⟨c, d⟩ := y
  by_cases h : a = c <;> by_cases h' : b = d <;> simp [vneq, h, h']
theorem neq_yes {x y : Vl} (h : x = y) : vneq x y = false := by simp [vneq, h]
theorem neq_no {x y : Vl} (h : ¬ x = y) : vneq x y = true := by simp [vneq, h]
theorem take_eq_succ {α : Type} {xs ys : List α} {k : Nat} (h1 : k < xs.length) (h2 : k < ys.length) (h : xs.take k = ys.take k) (he : xs[k] = ys[k]) : xs.take (k + 1) = ys.take (k + 1) := by
  rw [List.take_succ_eq_append_getElem h1, List.take_succ_eq_append_getElem h2, h, he]
theorem vl_ext {a b : Vl} (h1 : a.t = b.t) (h2 : a.n = b.n) : a = b := by cases a; cases b; simp_all
set_option maxHeartbeats 800000 in
theorem r27same_any (A A' : Option Addr) (xs ys : List Vl) (c c' B B' : Nat) (w : World) (ha : tVl.els w B A xs) (hb : tVl.els w B' A' ys) (h1 : xs.length ≤ 16777216) (h2 : ys.length ≤ 16777216) :
    Calls Try.prog 17 #[.slice A xs.length c, .slice A' ys.length c'] w fun e w' => e = .returned (.bool (decide (xs = ys))) ∧ ∃ n, w' = w.drewN n := by
  by_cases hl : xs.length = ys.length
  · have e1 : (((xs.length : Nat) : Int) != ((ys.length : Nat) : Int)) = false := by simp [hl]
    have hL := hid hl
    have hl1 : xs.length ≤ ys.length := by omega
    clear hl
    go_enter Try.func17, Try.ntmps17
    go_wp2
    go_loopw [5] (fun i wr => ∃ k m : Nat, k ≤ xs.length ∧ i = .int .i64 k ∧ wr = w.drewN m ∧ xs.take k = ys.take k) (fun i _ => xs.length - (intOf i).toNat)
    case atStart => exact ⟨0, 0, by omega, rfl, rfl, by simp⟩
    case round =>
      obtain ⟨k, m, hk, rfl, rfl, hq⟩ := hrel
      have HQ := hid hq
      clear hq e1
      by_cases hlt : k < xs.length
      · obtain ⟨b, o, rfl, _, c1, c2, _⟩ := vl_at ha k hlt
        obtain ⟨b', o', rfl, _, c3, c4, _⟩ := vl_at hb k (by omega)
        have i0 : (0 : Int) ≤ k := by omega
        have i1 : (k : Int) < xs.length := by omega
        have i2 : (k : Int) < ys.length := by omega
        generalize hx : xs[k] = x at *
        generalize hy : ys[k] = y at *
        have HX := hid hx
        have HY := hid hy
        clear hx hy ha hb
        go_wp2
        refine wp_region_ord (fun X => X.cell? ⟨b, o + k * 2, none⟩ = some (.int .i64 x.t) ∧ X.cell? ⟨b, o + k * 2 + 1, none⟩ = some (.int .u64 x.n) ∧ X.cell? ⟨b', o' + k * 2, none⟩ = some (.int .i64 y.t) ∧ X.cell? ⟨b', o' + k * 2 + 1, none⟩ = some (.int .u64 y.n)) [] [(0, true), (1, true), (2, true), (3, true), (4, true), (5, true), (6, true), (7, true), (8, true)] (by kernel_rfl) (by kernel_rfl) (by kernel_rfl) rfl ⟨c1, c2, c3, c4⟩ ?_
        repeat (first
          | (refine wpO_skip rfl rfl ?_; simp only [List.getElem_toArray, List.getElem_cons_succ, List.getElem_cons_zero, Act.put, List.setIfInBounds_toArray, List.set_cons_zero, List.set_cons_succ])
          | (refine wpO_call rfl rfl ?_; simp only [List.getElem_toArray, List.getElem_cons_succ, List.getElem_cons_zero]; apply Exists.intro; refine ⟨fun X hX => ?_, ?_⟩
             · (obtain ⟨s0, s1, s2, s3⟩ := hX; go_simp; exact stillUpon_value)
             simp only [Act.put, List.setIfInBounds_toArray, List.set_cons_zero, List.set_cons_succ]))
        refine wpO_call rfl rfl ?_
        simp only [List.getElem_toArray, List.getElem_cons_succ, List.getElem_cons_zero]
        apply Exists.intro
        refine ⟨fun X hX => ?_, ?_⟩
        · (obtain ⟨s0, s1, s2, s3⟩ := hX; go_simp; rw [ifs_vneq x y (fun r => Result.ok (Next.value (Value.bool r)) X)]; exact stillUpon_value)
        simp only [Act.put, List.setIfInBounds_toArray, List.set_cons_zero, List.set_cons_succ]
        refine wpO_nil ?_
        by_cases hxy : x = y
        · rw [neq_yes hxy]
          have HXY := hid hxy
          clear hxy
          go_wp2
          refine ⟨⟨k + 1, m + 1, by omega, by go_num, rfl, take_eq_succ hlt (by omega) HQ.out (by rw [HX.out, HY.out, HXY.out])⟩, by simp [intOf]; omega⟩
        · rw [neq_no hxy]
          have HXY := hid hxy
          clear hxy
          go_wp2
          go_ret
          refine ⟨rt_bool ?_, m + 1, rfl⟩
          symm
          rw [decide_eq_false_iff_not]
          intro h
          apply HXY.out
          rw [← HX.out, ← HY.out]
          simp [h]
      · go_wp2
        go_ret
        refine ⟨rt_bool ?_, _, rfl⟩
        symm
        rw [decide_eq_true_eq]
        have h := HQ.out
        have h' := hL.out
        rwa [List.take_of_length_le (by omega), List.take_of_length_le (by omega)] at h
  · have e1 : (((xs.length : Nat) : Int) != ((ys.length : Nat) : Int)) = true := by simp; omega
    have hL := hid hl
    clear hl
    go_enter Try.func17, Try.ntmps17
    go_wp2
    go_ret
    refine ⟨rt_bool ?_, 0, rfl⟩
    symm
    rw [decide_eq_false_iff_not]
    rintro rfl
    exact hL.out rfl
end Go.Proofs.Ytklkgfmcdoifpaa
