/- Contracts of the reference's checks of types. -/
import Derived.Test.YtndhbamfgihncaaTabA
namespace Go.Proofs.Ytndhbamfgihncaa
open Go.RowKit

set_option maxHeartbeats 400000 in
theorem r6ref_any (e : Int) (w : World) :
    Calls Try.prog 30 #[.int .i64 e] w fun e' w' => e' = .returned (.bool (refB e)) ∧ w = w' := by
  go_enter Try.func30, Try.ntmps30
  go_wp2
  all_goals go_ret
  all_goals simp_all [refB]
set_option maxHeartbeats 400000 in
theorem r6lim_any (mn mx : Int) (h : Bool) (most : Int) (w : World) :
    Calls Try.prog 31 #[.agg #[.int .i64 mn, .int .i64 mx, .bool h], .int .i64 most] w fun e' w' => e' = .returned (.bool (limB mn mx h most)) ∧ Below w.heap.size w w' := by
  go_enter Try.func31, Try.ntmps31
  go_wp2
  all_goals go_ret
  all_goals (refine ⟨ret_bool ?_, (Below.refl _ _).alloc (Nat.le_refl _) _⟩)
  all_goals (first | (simp [limB, *] <;> omega) | (cases h <;> simp_all [limB] <;> omega))
set_option maxHeartbeats 400000 in
theorem r6table_any (e mn mx : Int) (h : Bool) (w : World) :
    Calls Try.prog 15 #[.agg #[.int .i64 e, .int .i64 mn, .int .i64 mx, .bool h]] w fun e' w' => e' = .returned (.bool (tabB e mn mx h)) ∧ Below w.heap.size w w' := by
  cases hr : refB e
  all_goals
    go_enter Try.func15, Try.ntmps15
    go_wp2_with (first
     | (go_at_call 30; refine (r6ref_any _ _).mono ?_; rintro e w' ⟨rfl, rfl⟩)
     | (go_at_call 31; refine (r6lim_any _ _ _ _ _).mono ?_; rintro e w' ⟨rfl, hb⟩))
    go_ret
  · exact ⟨ret_bool (by simp [tabB, hr]), (Below.refl _ _).alloc (Nat.le_refl _) _⟩
  · exact ⟨ret_bool (by simp [tabB, hr]), ((Below.refl _ _).alloc (Nat.le_refl _) _).trans (hb.mono (by simp))⟩
end Go.Proofs.Ytndhbamfgihncaa
