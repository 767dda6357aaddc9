/- Contracts of the functions of chapter 03, part 2. -/
import Derived.Test.YtnjfkpmbjncbnaaUtA
import Derived.Test.YtnjfkpmbjncbnaaStr
namespace Go.Proofs.Ytnjfkpmbjncbnaa
open Go.RowKit

set_option maxHeartbeats 400000 in
theorem wide_any (s : ByteArray) (i : Nat) (w : World) (hs : s.size ≤ 1048576) (hi : i < s.size) :
    Calls Try.prog 21 #[.string s, .int .i64 i] w fun e w' => e = .returned (.int .i64 (wid (s.data.toList.drop i))) ∧ w = w' := by
  have hm : Hid (max (decI (s.data.toList.drop i)).2 1 = wid (s.data.toList.drop i)) := by
    unfold Hid decI wid
    cases hd : dec (s.data.toList.drop i) with
    | none => rfl
    | some p => obtain ⟨h1, _⟩ := dec_bd hd; simp only; omega
  go_enter Try.func21, Try.ntmps21
  go_wp2_with (go_at_call 20; refine (rune1_any _ _ _ (by omega) (by omega)).mono ?_; rintro e w' ⟨rfl, rfl⟩)
  all_goals
    go_ret
    refine ⟨ret_int ?_, rfl⟩
    have := hm.out
    omega

set_option maxHeartbeats 400000 in
theorem rcount_any (s : ByteArray) (w : World) (hs : s.size ≤ 1048576) :
    Calls Try.prog 14 #[.string s] w fun e w' => e = .returned (.int .i64 (count s.data.toList)) ∧ w = w' := by
  go_enter Try.func14, Try.ntmps14
  go_wp2
  go_loop [3, 4] (fun k i => ∃ i' k' : Nat, i' ≤ s.size ∧ k' ≤ i' ∧ i = .int .i64 i' ∧ k = .int .i64 k' ∧ Hid (count s.data.toList = k' + count (s.data.toList.drop i'))) (fun _ i => s.size - (intOf i).toNat)
  case atStart => exact ⟨0, 0, by omega, by omega, rfl, rfl, by simp [Hid]⟩
  case round =>
    obtain ⟨i, k, hi, hk, rfl, rfl, HC⟩ := hrel
    by_cases hlt : i < s.size
    · have hne : s.data.toList.drop i ≠ [] := by simp; omega
      have hw := wid_bd _ hne
      have hl : (s.data.toList.drop i).length = s.size - i := by simp
      have HE := hid (count_eq hne)
      rw [hl] at hw
      clear hne hl
      obtain ⟨w1, w2, w3⟩ := hw
      have HS : Hid ((s.data.toList.drop i).drop (wid (s.data.toList.drop i)) = s.data.toList.drop (i + wid (s.data.toList.drop i))) := by rw [Hid, List.drop_drop]
      go_wp2_with (go_at_call 21; refine (wide_any _ _ _ (by omega) (by omega)).mono ?_; rintro e w' ⟨rfl, rfl⟩)
      go_round
      case rel => exact ⟨i + wid (s.data.toList.drop i), k + 1, by omega, by omega, by go_num, by go_num, by rw [Hid, HC.out, HE.out, HS.out]; omega⟩
      case measure => simp [intOf]; omega
    · obtain rfl : i = s.size := by omega
      go_wp2
      go_ret
      refine ⟨ret_int ?_, rfl⟩
      rw [HC.out, List.drop_of_length_le (by simp), count_nil]
      rfl

set_option maxHeartbeats 400000 in
theorem count_any (s : ByteArray) (w : World) (hs : s.size ≤ 1048576) :
    Calls Try.prog 13 #[.string s] w fun e w' => e = .returned (.int .i64 (count s.data.toList)) ∧ Fr No w w' := by
  go_enter Try.func13, Try.ntmps13
  go_wp2
  go_loopw [3] (fun k wr => ∃ i' k' : Nat, i' ≤ s.size ∧ k' ≤ i' ∧ It wr w.heap.size s i' ∧ Fr No w wr ∧ k = .int .i64 k' ∧ Hid (count s.data.toList = k' + count (s.data.toList.drop i'))) (fun _ wr => s.size - wr.iterPos w.heap.size)
  case atStart => exact ⟨0, 0, by omega, by omega, It.new w s, (Fr.refl No w).iter s 0, rfl, by simp [Hid]⟩
  case round =>
    obtain ⟨i, k, hi, hk, hit, hf, rfl, HC⟩ := hrel
    by_cases hlt : i < s.size
    · have hne : s.data.toList.drop i ≠ [] := by simp; omega
      have hw := wid_bd _ hne
      have hl : (s.data.toList.drop i).length = s.size - i := by simp
      have HE := hid (count_eq hne)
      rw [hl] at hw
      clear hne hl
      obtain ⟨w1, w2, w3⟩ := hw
      have HS : Hid ((s.data.toList.drop i).drop (wid (s.data.toList.drop i)) = s.data.toList.drop (i + wid (s.data.toList.drop i))) := by rw [Hid, List.drop_drop]
      have hn := fun ty => run_next_it (P := Try.prog) hit ty hlt
      have HW := hid (decode_wid s i hlt)
      have HI := hid hit
      clear hit
      go_wp2
      go_roundw
      case rel => exact ⟨i + (Utf8.decode s i).2, k + 1, by rw [HW.out]; omega, by rw [HW.out]; omega, HI.out.step _, hf.stepIt _ _ _ (fun h => by omega), by go_num, by rw [Hid, HC.out, HE.out, HS.out, HW.out]; omega⟩
      case measure => rw [(HI.out.step _).pos_, HI.out.pos_, HW.out]; omega
    · have hn := fun ty => run_next_it_end (P := Try.prog) hit ty hlt
      obtain rfl : i = s.size := by omega
      clear hit
      go_wp2
      go_ret
      refine ⟨ret_int ?_, hf⟩
      rw [HC.out, List.drop_of_length_le (by simp), count_nil]
      rfl
end Go.Proofs.Ytnjfkpmbjncbnaa
