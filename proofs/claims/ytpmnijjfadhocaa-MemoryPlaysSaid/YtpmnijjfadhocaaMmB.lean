/- Chapter 28: the small functions. -/
import Derived.Test.YtpmnijjfadhocaaMmA
import Derived.Test.YtpmnijjfadhocaaInts
import Derived.Test.YtpmnijjfadhocaaOrt
import Derived.Test.YtpmnijjfadhocaaAll
import Derived.ProofKit
import Derived.IntWalk
import Derived.Laws.Bits64b
import Derived.BigQuiet
namespace Go.Proofs.Ytpmnijjfadhocaa
open Go.RowKit

theorem and_low (x : Int) (hx : 0 ≤ x ∧ x < 18446744073709551616) : bits .and .u64 x 4294967295 = x % 4294967296 := by
  obtain ⟨n, rfl⟩ : ∃ n : Nat, x = n := ⟨x.toNat, by omega⟩
  have h := bits_and_u64_nat n 4294967295 (by omega) (by omega)
  have e : n &&& 4294967295 = n % 4294967296 := Nat.and_two_pow_sub_one_eq_mod n 32
  rw [e] at h
  simpa using h
theorem low_any (x : Int) (w : World) (hx : 0 ≤ x ∧ x < 18446744073709551616) : Calls Try.prog 27 #[.int .u64 x] w fun e w' => e = .returned (.int .u64 (x % 4294967296)) ∧ w = w' := by
  go_enter Try.func27, Try.ntmps27
  go_wp2
  go_ret
  exact ⟨ret_int (and_low x hx), rfl⟩
theorem rlow_any (x : Int) (w : World) (hx : 0 ≤ x ∧ x < 18446744073709551616) : Calls Try.prog 38 #[.int .u64 x] w fun e w' => e = .returned (.int .i64 (x % 4294967296)) ∧ w = w' := by
  go_enter Try.func38, Try.ntmps38
  go_wp2
  go_ret
  exact ⟨ret_int (by rw [and_low x hx]; simp only [wrap64]; omega), rfl⟩
theorem word_any (x : Int) (w : World) (hx : 0 ≤ x ∧ x < 18446744073709551616) : Calls Try.prog 42 #[.int .u64 x] w fun e w' => e = .returned (.int .u64 (x % 4294967296)) ∧ w = w' := by
  go_enter Try.func42, Try.ntmps42
  go_wp2
  go_ret
  exact ⟨ret_int (by go_num), rfl⟩
def fits (size a n : Int) : Bool := decide (a ≤ size ∧ n ≤ size - a)
theorem there_any (s : Nat) (a n : Int) (w : World) (hs : s ≤ 1000000000000) (ha : 0 ≤ a ∧ a < 18446744073709551616) (hn : 0 ≤ n ∧ n < 18446744073709551616) : Calls Try.prog 30 #[.int .i64 s, .int .u64 a, .int .u64 n] w fun e w' => e = .returned (.bool (fits s a n)) ∧ w = w' := by
  by_cases h1 : a ≤ s
  · by_cases h2 : n ≤ s - a
    · go_enter Try.func30, Try.ntmps30
      go_wp2
      go_ret
      exact ⟨ret_bool (by rw [fits, Bool.eq_iff_iff]; simp; omega), rfl⟩
    · go_enter Try.func30, Try.ntmps30
      go_wp2
      go_ret
      exact ⟨ret_bool (by rw [fits, Bool.eq_iff_iff]; simp; omega), rfl⟩
  · go_enter Try.func30, Try.ntmps30
    go_wp2
    go_ret
    exact ⟨ret_bool (by rw [fits, Bool.eq_iff_iff]; simp; omega), rfl⟩
theorem room_any (s a n : Int) (w : World) (hs : 0 ≤ s ∧ s ≤ 1000000000000) (ha : -9223372036854775808 ≤ a ∧ a ≤ 9223372036854775807) (hn : -9223372036854775808 ≤ n ∧ n ≤ 9223372036854775807) : Calls Try.prog 45 #[.int .i64 s, .int .i64 a, .int .i64 n] w fun e w' => e = .returned (.bool (decide (0 ≤ a ∧ 0 ≤ n) && fits s a n)) ∧ w = w' := by
  by_cases h0 : 0 ≤ a
  · by_cases h00 : 0 ≤ n
    · by_cases h1 : a ≤ s
      · by_cases h2 : n ≤ s - a
        · go_enter Try.func45, Try.ntmps45
          go_wp2
          go_ret
          exact ⟨ret_bool (by rw [fits, Bool.eq_iff_iff]; simp; omega), rfl⟩
        · go_enter Try.func45, Try.ntmps45
          go_wp2
          go_ret
          exact ⟨ret_bool (by rw [fits, Bool.eq_iff_iff]; simp; omega), rfl⟩
      · go_enter Try.func45, Try.ntmps45
        go_wp2
        go_ret
        exact ⟨ret_bool (by rw [fits, Bool.eq_iff_iff]; simp; omega), rfl⟩
    · go_enter Try.func45, Try.ntmps45
      go_wp2
      go_ret
      exact ⟨ret_bool (by rw [fits, Bool.eq_iff_iff]; simp; omega), rfl⟩
  · go_enter Try.func45, Try.ntmps45
    go_wp2
    go_ret
    exact ⟨ret_bool (by rw [fits, Bool.eq_iff_iff]; simp; omega), rfl⟩
/-- How many bytes a load reads, a store writes. -/
def wid (op : Int) : Nat := if op = 44 ∨ op = 45 ∨ op = 48 ∨ op = 49 then 1 else if op = 46 ∨ op = 47 ∨ op = 50 ∨ op = 51 then 2 else if op = 40 ∨ op = 52 ∨ op = 53 then 4 else if op = 41 then 8 else 0
def wst (op : Int) : Nat := if op = 58 ∨ op = 60 then 1 else if op = 59 ∨ op = 61 then 2 else if op = 54 ∨ op = 62 then 4 else if op = 55 then 8 else 0
theorem reads_any (op : Int) (w : World) : Calls Try.prog 41 #[.int .i64 op] w fun e w' => e = .returned (.int .i64 (wid op)) ∧ w = w' := by
  go_enter Try.func41, Try.ntmps41
  go_wp2
  all_goals
    go_ret
    refine ⟨ret_int ?_, rfl⟩
    first | (subst_vars; rfl) | (simp_all [wid]) | (unfold wid; rw [if_neg (by omega), if_neg (by omega), if_neg (by omega), if_neg (by omega)]; rfl)
theorem writes_any (op : Int) (w : World) : Calls Try.prog 40 #[.int .i64 op] w fun e w' => e = .returned (.int .i64 (wst op)) ∧ w = w' := by
  go_enter Try.func40, Try.ntmps40
  go_wp2
  all_goals
    go_ret
    refine ⟨ret_int ?_, rfl⟩
    first | (subst_vars; rfl) | (simp_all [wst]) | (unfold wst; rw [if_neg (by omega), if_neg (by omega), if_neg (by omega), if_neg (by omega)]; rfl)
def wall (op : Int) : Nat := if wid op = 0 then wst op else wid op
set_option maxHeartbeats 400000 in
theorem width4_any (op : Int) (w : World) : Calls Try.prog 46 #[.int .i64 op] w fun e w' => e = .returned (.int .i64 (wall op)) ∧ w = w' := by
  go_enter Try.func46, Try.ntmps46
  go_wp2
  all_goals
    go_ret
    refine ⟨ret_int ?_, rfl⟩
    first | (subst_vars; rfl) | (simp_all [wall, wid, wst]) | trace_state
theorem cut_any (x : Int) (k : Nat) (w : World) (hx : 0 ≤ x ∧ x < 18446744073709551616) (hk : k = 8 ∨ k = 16 ∨ k = 32) : Calls Try.prog 47 #[.int .u64 x, .int .i64 k] w fun e w' => e = .returned (.int .u64 (x % (2 ^ k : Int))) ∧ w = w' := by
  rcases hk with rfl | rfl | rfl
  all_goals
    go_enter Try.func47, Try.ntmps47
    go_wp2
    go_ret
    exact ⟨ret_int (by omega), rfl⟩
def sgn (k : Nat) (x : Int) : Int := if x % (2 ^ k : Int) < (2 ^ (k - 1) : Int) then x % (2 ^ k : Int) else x % (2 ^ k : Int) - (2 ^ k : Int)
theorem signed_any (x : Int) (k : Nat) (w : World) (hx : 0 ≤ x ∧ x < 18446744073709551616) (hk : k = 8 ∨ k = 16 ∨ k = 32) : Calls Try.prog 48 #[.int .u64 x, .int .i64 k] w fun e w' => e = .returned (.int .i64 (sgn k x)) ∧ Fr No w w' := by
  have hc := hid (cut_any x k w hx hk)
  rcases hk with rfl | rfl | rfl
  all_goals
    go_enter Try.func48, Try.ntmps48
    go_wp2_with fail
    refine hc.out.mono ?_
    rintro e w' ⟨rfl, rfl⟩
    go_wp2
    · go_ret
      exact ⟨ret_int (by rename_i h; have h := eq_of_beq h; simp only [sgn, Nat.reduceSub, Int.reducePow]; rw [if_pos (by omega)]), Fr.refl _ _⟩
    · have h := ne_of_beq_false ‹(_ == _) = false›
      go_quiet (fail)
      go_wp2
      go_ret
      exact ⟨ret_int (by simp only [sgn, Nat.reduceSub, Int.reducePow, wrap64, IntKind.wrap, IntKind.signed, IntKind.bits]; rw [if_neg (by omega)]; simp; omega), (Fr.refl _ _).drewN _⟩
end Go.Proofs.Ytpmnijjfadhocaa
