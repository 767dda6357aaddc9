/- Contracts: the reference's Act; Act without acts. -/
import Derived.Test.YtdckghiipijobaaShJ
namespace Go.Proofs.Ytdckghiipijobaa
open Go.RowKit

set_option maxHeartbeats 800000 in
theorem act_none (h : Ho) (A1 A2 A3 : Option Addr) (c1 c2 c3 : Nat) (n : Int) (w : World) (hn : n < 0 ∨ h.acts.length = 0) :
    Calls Try.prog 39 #[.agg #[.string h.mod, .string h.name, .slice A1 h.ty.params.length c1, .slice A2 h.ty.results.length c2, .slice A3 h.acts.length c3], .int .i64 n] w (ActNo w) := by
  by_cases h0 : n < 0
  · go_enter Try.func39, Try.ntmps39
    go_wp2
    refine bodyPost_ret (v := .tuple #[.agg #[.int .i64 0, .slice none 0 0, .int .i64 0, .int .i64 0, .int .u8 0], .bool false]) (by simp [results, Try.results39, go_sem]) rfl ⟨rfl, ?_⟩
    exact ((Fr.refl No w).alloc _).alloc _
  · have h1 : h.acts.length = 0 := by omega
    have e0 : (((h.acts.length : Nat) : Int) == 0) = true := by simp [h1]
    clear hn h1
    go_enter Try.func39, Try.ntmps39
    go_wp2
    refine bodyPost_ret (v := .tuple #[.agg #[.int .i64 0, .slice none 0 0, .int .i64 0, .int .i64 0, .int .u8 0], .bool false]) (by simp [results, Try.results39, go_sem]) rfl ⟨rfl, ?_⟩
    exact ((Fr.refl No w).alloc _).alloc _

end Go.Proofs.Ytdckghiipijobaa
