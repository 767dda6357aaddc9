/- Contracts: Same of equal acts; the example. -/
import Derived.Test.YtklkgfmcdoifpaaHosM
namespace Go.Proofs.Ytklkgfmcdoifpaa
open Go.RowKit

set_option maxHeartbeats 1600000 in
theorem same_yes (kind mem at_ byte : Int) (vals : List Vl) (A A' : Option Addr) (c c' B B' : Nat) (w : World) (hB : B ≤ w.heap.size) (hB' : B' ≤ w.heap.size) (ha : tVl.els w B A vals) (hb : tVl.els w B' A' vals) (l1 : vals.length ≤ 500) :
    Calls Try.prog 16 #[.agg #[.int .i64 kind, .slice A vals.length c, .int .i64 mem, .int .i64 at_, .int .u8 byte], .agg #[.int .i64 kind, .slice A' vals.length c', .int .i64 mem, .int .i64 at_, .int .u8 byte]] w fun e w' => e = .returned (.bool true) ∧ Fr No w w' := by
  have F := hid (((Fr.refl No w).alloc (.cells #[.int .i64 kind, .slice A vals.length c, .int .i64 mem, .int .i64 at_, .int .u8 byte] 32)).alloc (.cells #[.int .i64 kind, .slice A' vals.length c', .int .i64 mem, .int .i64 at_, .int .u8 byte] 32))
  have H1 := hid (ha.fr hB F.out (fun _ _ x => x))
  have H2 := hid (hb.fr hB' F.out (fun _ _ x => x))
  have L := hid (show vals.length ≤ 16777216 by omega)
  clear ha hb
  go_enter Try.func16, Try.ntmps16
  go_wp2_with (go_at_call 17; refine (r27same_any _ _ vals vals _ _ _ _ _ H1.out H2.out L.out L.out).mono ?_; rintro e w1 ⟨rfl, nq, rfl⟩)
  go_ret
  exact ⟨rt_bool (by simp), F.out.drewN nq⟩

def fiveH : Ho := ⟨⟨#[109]⟩, ⟨#[110]⟩, ⟨[], [1]⟩, [⟨0, [⟨1, 5⟩], 0, 0, 0⟩, ⟨1, [], 0, 0, 0⟩]⟩
theorem fiveH_ok : hoB fiveH = true := by rfl
end Go.Proofs.Ytklkgfmcdoifpaa
