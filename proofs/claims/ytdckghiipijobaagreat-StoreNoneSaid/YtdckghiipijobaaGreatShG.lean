/- Contracts: names, Right. -/
import Derived.Test.YtdckghiipijobaaGreatGh
import Derived.Test.YtdckghiipijobaaGreatUtC
namespace Go.Proofs.YtdckghiipijobaaGreat
open Go.RowKit

def nameB (s : ByteArray) : Bool := decide (s.size ≤ 64) && (runes s.data.toList).isSome

set_option maxHeartbeats 400000 in
theorem r3valid_any (s : ByteArray) (w : World) (hs : s.size ≤ 1048576) :
    Calls Tryz.prog 189 #[.string s] w fun e w' => e = .returned (.bool (runes s.data.toList).isSome) ∧ Fr No w w' := by
  go_enter Tryz.func189, Tryz.ntmps189
  go_wp2_with (go_at_call 203; refine (rrunes_any _ _ (by omega)).mono ?_; rintro e w' ⟨A, c, rfl, hr, hf⟩)
  go_ret
  exact ⟨rfl, hf⟩
set_option maxHeartbeats 400000 in
theorem name_any (s : ByteArray) (w : World) (hs : s.size ≤ maxLen) :
    Calls Tryz.prog 113 #[.string s] w fun e w' => e = .returned (.bool (nameB s)) ∧ Fr No w w' := by
  by_cases h : s.size ≤ 64
  · go_enter Tryz.func113, Tryz.ntmps113
    go_wp2_with (go_at_call 187; refine (valid_any _ _ (by omega)).mono ?_; rintro e w' ⟨rfl, hf⟩)
    go_ret
    exact ⟨rt_bool (by simp [nameB, h]), hf⟩
  · have h' : 64 < s.size := by omega
    unfold maxLen at hs
    go_enter Tryz.func113, Tryz.ntmps113
    go_wp2
    go_ret
    exact ⟨rt_bool (by simp [nameB]; omega), Fr.refl _ _⟩
set_option maxHeartbeats 400000 in
theorem rname_any (s : ByteArray) (w : World) (hs : s.size ≤ 1048576) :
    Calls Tryz.prog 117 #[.string s] w fun e w' => e = .returned (.bool (nameB s)) ∧ Fr No w w' := by
  cases hr : (runes s.data.toList).isSome
  all_goals
    have HV := hid hr
    clear hr
    go_enter Tryz.func117, Tryz.ntmps117
    go_wp2_with (go_at_call 189; refine (r3valid_any _ _ hs).mono ?_; rintro e w' ⟨rfl, hf⟩; rw [HV.out])
    go_ret
    exact ⟨rt_bool (by rw [Bool.eq_iff_iff]; first | (simp [nameB, HV.out]; done) | (simp [nameB, HV.out]; omega)), hf⟩

end Go.Proofs.YtdckghiipijobaaGreat
