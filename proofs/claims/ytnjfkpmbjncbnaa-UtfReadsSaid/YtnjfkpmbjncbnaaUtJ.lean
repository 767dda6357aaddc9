/- The walks of UtfReads, UtfPuts, UtfCuts. -/
import Derived.Test.YtnjfkpmbjncbnaaUtI
import Derived.Test.YtnjfkpmbjncbnaaTy
namespace Go.Proofs.Ytnjfkpmbjncbnaa
open Go.RowKit

theorem optlen {s : List UInt8} : ((runes s).getD []).length ≤ s.length := by
  cases h : runes s with
  | none => simp
  | some l => simpa using runes_len h

set_option maxHeartbeats 1600000 in
theorem reads_any (s : ByteArray) (w : World) (hs : s.size ≤ maxLen) : Calls Try.prog 3 #[.string s] w fun e w' => e = .returned (.bool true) ∧ Fr No w w' := by
  unfold maxLen at hs
  by_cases h : s.size ≤ 2000
  · have hL : Hid (((runes s.data.toList).getD []).length ≤ 2000) := by have := optlen (s := s.data.toList); simp at this; unfold Hid; omega
    have hi : Hid ((((runes s.data.toList).isSome == (runes s.data.toList).isSome) : Bool) = true) := by simp [Hid]
    generalize hR : runes s.data.toList = R at hL hi
    have HR := hid hR
    clear hR
    go_enter Try.func3, Try.ntmps3
    go_wp2_with fail
    refine (runes_any _ _ (by omega)).mono ?_
    rw [HR.out]
    rintro e w1 ⟨A1, c1, rfl, r1, f1⟩
    have R1 := hid r1
    clear r1
    go_wp2_with fail
    refine (rrunes_any _ _ (by omega)).mono ?_
    rw [HR.out]
    rintro e w2 ⟨A2, c2, rfl, r2, f2⟩
    have R2 := hid r2
    clear r2
    go_wp2_with fail
    refine (rsame_any _ _ (R.getD []) (R.getD []) _ _ _ _ _ _ _ rfl rfl (R1.out.frNo f2) R2.out (Nat.le_trans hL.out (by omega)) (Nat.le_trans hL.out (by omega))).mono ?_
    rintro e w3 ⟨rfl, n3, rfl⟩
    simp only [decide_true]
    go_wp2_with fail
    refine (valid_any _ _ (by omega)).mono ?_
    rw [HR.out]
    rintro e w4 ⟨rfl, f4⟩
    go_wp2_with fail
    refine (count_any _ _ (by omega)).mono ?_
    rintro e w5 ⟨rfl, f5⟩
    go_wp2_with fail
    refine (rcount_any _ _ (by omega)).mono ?_
    rintro e w6 ⟨rfl, rfl⟩
    go_wp2_with fail
    refine (alive_any _).mono ?_
    rintro e w7 ⟨rfl, f7⟩
    go_wp2_with fail
    go_ret
    exact ⟨rfl, ((((f1.trans f2 (fun _ _ h => h)).drewN n3).trans f4 (fun _ _ h => h)).trans f5 (fun _ _ h => h)).trans f7 (fun _ _ h => h)⟩
  · go_enter Try.func3, Try.ntmps3
    go_wp2_with fail
    refine (alive_any _).mono ?_
    rintro e w7 ⟨rfl, f7⟩
    go_wp2_with fail
    go_ret
    exact ⟨rfl, f7⟩

theorem utfReads_walk (w : World) (v0 : Value) (x0 : ByteArray) (y0 : Ty.str.rd w w.heap.size v0.cells.toList x0) (s0 : ∃ s, v0 = .string s) :
    Calls Try.prog 3 #[v0] w fun e w' => e = .returned (.bool true) ∧ Below w.heap.size w w' := by
  obtain ⟨s, rfl⟩ := s0
  obtain ⟨e, h⟩ := y0
  have : s = x0 := by simpa [Value.cells] using e
  subst this
  exact (reads_any s w h).mono fun e w' ⟨h1, h2⟩ => ⟨h1, h2.below⟩
end Go.Proofs.Ytnjfkpmbjncbnaa
