/- Contracts: names, Right. -/
import Derived.Test.YtdckghiipijobaaGh
import Derived.Test.YtdckghiipijobaaUtC
namespace Go.Proofs.Ytdckghiipijobaa
open Go.RowKit

def nameB (s : ByteArray) : Bool := decide (s.size ≤ 64) && (runes s.data.toList).isSome

set_option maxHeartbeats 400000 in
theorem name_any (s : ByteArray) (w : World) (hs : s.size ≤ maxLen) :
    Calls Try.prog 54 #[.string s] w fun e w' => e = .returned (.bool (nameB s)) ∧ Fr No w w' := by
  by_cases h : s.size ≤ 64
  · go_enter Try.func54, Try.ntmps54
    go_wp2_with (go_at_call 67; refine (valid_any _ _ (by omega)).mono ?_; rintro e w' ⟨rfl, hf⟩)
    go_ret
    exact ⟨rt_bool (by simp [nameB, h]), hf⟩
  · have h' : 64 < s.size := by omega
    unfold maxLen at hs
    go_enter Try.func54, Try.ntmps54
    go_wp2
    go_ret
    exact ⟨rt_bool (by simp [nameB]; omega), Fr.refl _ _⟩
end Go.Proofs.Ytdckghiipijobaa
