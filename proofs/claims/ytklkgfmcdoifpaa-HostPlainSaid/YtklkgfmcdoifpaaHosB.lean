/- Contracts: value types, function types, values. -/
import Derived.Test.YtklkgfmcdoifpaaHosA
import Derived.WalkKit
import Derived.ProofKit
import Derived.Deep.QuietTactic
import Derived.BigQuiet
import Derived.Deep.RegionHeld3
namespace Go.Proofs.Ytklkgfmcdoifpaa
open Go.RowKit

theorem rt_bool {a b : Bool} (h : a = b) : Ending.returned (.bool a) = .returned (.bool b) := by rw [h]

def isVal (t : Int) : Bool := decide (1 ≤ t ∧ t ≤ 4)
def valsB (l : List Int) : Bool := decide (l.length ≤ 8) && l.all isVal
def fnB (f : Fn) : Bool := valsB f.params && valsB f.results
def vlB (v : Vl) : Bool := isVal v.t && (decide (v.t ≠ 1) || decide (v.n < 4294967296))

set_option maxHeartbeats 400000 in
theorem num_any (t : Int) (w : World) : Calls Try.prog 37 #[.int .i64 t] w fun e w' => e = .returned (.bool (t == 1 || t == 2)) ∧ w = w' := by
  go_enter Try.func37, Try.ntmps37
  go_wp2
  all_goals
    go_ret
    refine ⟨rt_bool ?_, rfl⟩
    simp_all
set_option maxHeartbeats 400000 in
theorem ref_any (t : Int) (w : World) : Calls Try.prog 38 #[.int .i64 t] w fun e w' => e = .returned (.bool (t == 3 || t == 4)) ∧ w = w' := by
  go_enter Try.func38, Try.ntmps38
  go_wp2
  all_goals
    go_ret
    refine ⟨rt_bool ?_, rfl⟩
    simp_all
set_option maxHeartbeats 400000 in
theorem val_any (t : Int) (w : World) : Calls Try.prog 31 #[.int .i64 t] w fun e w' => e = .returned (.bool (isVal t)) ∧ w = w' := by
  go_enter Try.func31, Try.ntmps31
  go_wp2_with (first
    | (go_at_call 37; refine (num_any _ _).mono ?_; rintro e w' ⟨rfl, rfl⟩)
    | (go_at_call 38; refine (ref_any _ _).mono ?_; rintro e w' ⟨rfl, rfl⟩))
  all_goals
    go_ret
    refine ⟨rt_bool ?_, rfl⟩
    rw [Bool.eq_iff_iff]
    simp_all [isVal] <;> omega
set_option maxHeartbeats 400000 in
theorem r6val_any (t : Int) (w : World) : Calls Try.prog 40 #[.int .i64 t] w fun e w' => e = .returned (.bool (isVal t)) ∧ w = w' := by
  go_enter Try.func40, Try.ntmps40
  go_wp2
  all_goals
    go_ret
    refine ⟨rt_bool ?_, rfl⟩
    simp_all [isVal]
    try omega
set_option maxHeartbeats 400000 in
theorem r27t_any (t : Int) (w : World) : Calls Try.prog 36 #[.int .i64 t] w fun e w' => e = .returned (.bool (isVal t)) ∧ w = w' := by
  go_enter Try.func36, Try.ntmps36
  go_wp2
  all_goals
    go_ret
    refine ⟨rt_bool ?_, rfl⟩
    simp_all [isVal]
    try omega
set_option maxHeartbeats 400000 in
theorem vright_any (v : Vl) (w : World) : Calls Try.prog 35 #[.agg #[.int .i64 v.t, .int .u64 v.n]] w fun e w' => e = .returned (.bool (vlB v)) ∧ Fr No w w' := by
  go_enter Try.func35, Try.ntmps35
  go_wp2_with (first
    | (go_at_call 31; refine (val_any _ _).mono ?_; rintro e w' ⟨rfl, rfl⟩))
  all_goals
    go_ret
    refine ⟨rt_bool ?_, (Fr.refl No w).alloc _⟩
    simp_all [vlB]
set_option maxHeartbeats 400000 in
theorem r27right_any (v : Vl) (w : World) : Calls Try.prog 29 #[.agg #[.int .i64 v.t, .int .u64 v.n]] w fun e w' => e = .returned (.bool (vlB v)) ∧ Fr No w w' := by
  go_enter Try.func29, Try.ntmps29
  go_wp2_with (first
    | (go_at_call 36; refine (r27t_any _ _).mono ?_; rintro e w' ⟨rfl, rfl⟩))
  all_goals
    go_ret
    refine ⟨rt_bool ?_, (Fr.refl No w).alloc _⟩
    simp_all [vlB]

theorem all_step {l : List Int} {k : Nat} (hk : k < l.length) (h : (l.take k).all isVal = true) (hv : isVal l[k] = true) : (l.take (k + 1)).all isVal = true := by
  rw [List.take_succ_eq_append_getElem hk, List.all_append, h]; simp [hv]
theorem all_stop {l : List Int} {k : Nat} (hk : k < l.length) (hv : isVal l[k] = false) : l.all isVal = false := by
  rw [← Bool.not_eq_true]; intro h
  have := List.all_eq_true.1 h l[k] (List.getElem_mem hk)
  rw [hv] at this; cases this

set_option maxHeartbeats 800000 in
theorem r6vals_any (A : Option Addr) (l : List Int) (c B : Nat) (w : World) (hr : (Ty.int .i64).els w B A l) (hl : l.length ≤ 50) :
    Calls Try.prog 33 #[.slice A l.length c] w fun e w' => e = .returned (.bool (valsB l)) ∧ w = w' := by
  go_enter Try.func33, Try.ntmps33
  go_wp2
  go_loop [3] (fun i => ∃ k : Nat, k ≤ l.length ∧ i = .int .i64 k ∧ Hid ((l.take k).all isVal = true)) (fun i => l.length - (intOf i).toNat)
  case atStart => exact ⟨0, by omega, rfl, by simp [Hid]⟩
  case round =>
    obtain ⟨k, hk, rfl, HA⟩ := hrel
    by_cases hlt : k < l.length
    · obtain ⟨b, o, rfl, _, hc, _⟩ := int_at hr k hlt
      cases hv : isVal l[k] with
      | true =>
        have HV := hid hv
        go_wp2_with (first
          | (go_at_call 40; refine (r6val_any _ _).mono ?_; rintro e w' ⟨rfl, rfl⟩))
        go_round
        case rel => exact ⟨k + 1, by omega, by go_num, all_step hlt HA.out HV.out⟩
        case measure => simp [intOf]; omega
      | false =>
        have HV := hid hv
        go_wp2_with (first
          | (go_at_call 40; refine (r6val_any _ _).mono ?_; rintro e w' ⟨rfl, rfl⟩))
        go_ret
        refine ⟨rt_bool ?_, rfl⟩
        simp [valsB, all_stop hlt HV.out]
    · go_wp2
      all_goals
        go_ret
        refine ⟨rt_bool ?_, rfl⟩
        have h := HA.out
        rw [List.take_of_length_le (by omega)] at h
        rw [valsB, h]
        simp
        try omega

set_option maxHeartbeats 800000 in
theorem all_any (A : Option Addr) (l : List Int) (c B : Nat) (w : World) (hr : (Ty.int .i64).els w B A l) (hl : l.length ≤ 50) :
    Calls Try.prog 30 #[.slice A l.length c, .func (.func 31) #[] #[]] w fun e w' => e = .returned (.bool (valsB l)) ∧ w = w' := by
  by_cases h8 : 8 < l.length
  · go_enter Try.func30, Try.ntmps30
    go_wp2
    go_ret
    refine ⟨rt_bool ?_, rfl⟩
    simp [valsB]; omega
  · go_enter Try.func30, Try.ntmps30
    go_wp2
    go_loop [12] (fun i => ∃ k : Nat, k ≤ l.length ∧ i = .int .i64 k ∧ Hid ((l.take k).all isVal = true)) (fun i => l.length - (intOf i).toNat)
    case atStart => exact ⟨0, by omega, rfl, by simp [Hid]⟩
    case round =>
      obtain ⟨k, hk, rfl, HA⟩ := hrel
      by_cases hlt : k < l.length
      · obtain ⟨b, o, rfl, _, hc, _⟩ := int_at hr k hlt
        cases hv : isVal l[k] with
        | true =>
          have HV := hid hv
          go_wp2_with (first
            | (go_at_call 31; refine (val_any _ _).mono ?_; rintro e w' ⟨rfl, rfl⟩))
          go_round
          case rel => exact ⟨k + 1, by omega, by go_num, all_step hlt HA.out HV.out⟩
          case measure => simp [intOf]; omega
        | false =>
          have HV := hid hv
          go_wp2_with (first
            | (go_at_call 31; refine (val_any _ _).mono ?_; rintro e w' ⟨rfl, rfl⟩))
          go_ret
          refine ⟨rt_bool ?_, rfl⟩
          simp [valsB, all_stop hlt HV.out]
      · go_wp2
        go_ret
        refine ⟨rt_bool ?_, rfl⟩
        have h := HA.out
        rw [List.take_of_length_le (by omega)] at h
        rw [valsB, h]
        simp
        try omega
end Go.Proofs.Ytklkgfmcdoifpaa
