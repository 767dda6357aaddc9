/- Contracts of the functions of chapter 03, part 7: Cut. -/
import Derived.Test.YtnjfkpmbjncbnaaUtF
namespace Go.Proofs.Ytnjfkpmbjncbnaa
open Go.RowKit

def cutS (s : ByteArray) (m : Int) : ByteArray := s.extract 0 (cutN s.data.toList m)
theorem cutS_data (s : ByteArray) (m : Int) : (cutS s m).data.toList = s.data.toList.take (cutN s.data.toList m) := by
  rw [cutS, Lib.extract_data]; simp
theorem cutS_all (s : ByteArray) (m : Int) (h : (s.size : Int) ≤ m) : cutS s m = s := by
  have e : cutN s.data.toList m = s.data.toList.length := cut_all _ _ _ (Nat.le_refl _) (by simpa using h)
  have : (cutS s m).data.toList = s.data.toList := by rw [cutS_data, e, List.take_length]
  rw [← Lib.mk_data (cutS s m), this, Lib.mk_data]
theorem cut_stop {l : List UInt8} {m : Int} (h : m < wid l) : cutN l m = 0 := by
  by_cases h0 : l = []
  · subst h0; rfl
  · rw [cutN_eq m h0, if_neg (by omega)]
theorem cut_go {l : List UInt8} {m : Int} (h0 : l ≠ []) (h : (wid l : Int) ≤ m) : cutN l m = wid l + cutN (l.drop (wid l)) (m - wid l) := by
  rw [cutN_eq m h0, if_pos h]
theorem ret_cut {s : ByteArray} {m : Int} {k : Nat} (h : cutN s.data.toList m = k) : Ending.returned (.string (s.extract 0 k)) = .returned (.string (cutS s m)) := by rw [cutS, h]

def CutRel (s : ByteArray) (m : Int) (w : World) (ev : Value) (wr : World) : Prop :=
  ∃ pos e : Nat, It wr w.heap.size s pos ∧ Fr No w wr ∧ ev = .int .i64 e ∧ pos ≤ s.size ∧ ((pos = 0 ∧ e = 0) ∨ (e < s.size ∧ (e : Int) ≤ m ∧ pos = e + wid (s.data.toList.drop e) ∧ cutN s.data.toList m = e + cutN (s.data.toList.drop e) (m - e)))

theorem CutRel.step {s : ByteArray} {m : Int} {w wr : World} {e pos : Nat} (h : (pos = 0 ∧ e = 0) ∨ (e < s.size ∧ (e : Int) ≤ m ∧ pos = e + wid (s.data.toList.drop e) ∧ cutN s.data.toList m = e + cutN (s.data.toList.drop e) (m - e)))
    (hlt : pos < s.size) (hm : (pos : Int) ≤ m) (hi : It wr w.heap.size s pos) (hf : Fr No w wr) : CutRel s m w (.int .i64 pos) (stepIt wr w.heap.size s (pos + (Utf8.decode s pos).2)) ∧ s.size - (stepIt wr w.heap.size s (pos + (Utf8.decode s pos).2)).iterPos w.heap.size < s.size - wr.iterPos w.heap.size := by
  have hne : s.data.toList.drop pos ≠ [] := by simp; omega
  obtain ⟨w1, w2, _⟩ := wid_bd _ hne
  simp at w2
  have hw := decode_wid s pos hlt
  rw [hw]
  refine ⟨⟨pos + wid (s.data.toList.drop pos), pos, hi.step _, hf.stepIt _ _ _ (fun h => by omega), rfl, by omega, .inr ⟨hlt, hm, rfl, ?_⟩⟩, ?_⟩
  · rcases h with ⟨rfl, rfl⟩ | ⟨h1, h2, h3, h4⟩
    · simp
    · have hne' : s.data.toList.drop e ≠ [] := by simp; omega
      rw [h4, cut_go hne' (by omega), List.drop_drop, ← h3]
      have : m - (e : Int) - (wid (s.data.toList.drop e) : Int) = m - (pos : Int) := by omega
      rw [this]; omega
  · rw [(hi.step _).pos_, hi.pos_]; omega
theorem CutRel.end_ {s : ByteArray} {m : Int} {e pos : Nat} (h : (pos = 0 ∧ e = 0) ∨ (e < s.size ∧ (e : Int) ≤ m ∧ pos = e + wid (s.data.toList.drop e) ∧ cutN s.data.toList m = e + cutN (s.data.toList.drop e) (m - e)))
    (hm : m < (pos : Int)) (hp : pos ≤ s.size) : cutN s.data.toList m = e := by
  rcases h with ⟨rfl, rfl⟩ | ⟨h1, h2, h3, h4⟩
  · exact cut_stop (by omega)
  · rw [h4, cut_stop (by omega)]; omega

set_option maxHeartbeats 800000 in
theorem cut_any (s : ByteArray) (m : Int) (w : World) (hs : s.size ≤ 1048576) :
    Calls Try.prog 17 #[.string s, .int .i64 m] w fun e w' => e = .returned (.string (cutS s m)) ∧ Fr No w w' := by
  by_cases hc : (s.size : Int) ≤ m
  · have HC := hid (cutS_all s m hc)
    go_enter Try.func17, Try.ntmps17
    go_wp2
    go_ret
    exact ⟨by rw [HC.out]; rfl, Fr.refl _ _⟩
  · go_enter Try.func17, Try.ntmps17
    go_wp2
    go_loopw [5] (CutRel s m w) (fun _ wr => s.size - wr.iterPos w.heap.size)
    case atStart => exact ⟨0, 0, It.new w s, (Fr.refl No w).iter s 0, rfl, by omega, .inl ⟨rfl, rfl⟩⟩
    case round =>
      obtain ⟨i, e, hit, hf, rfl, hi, hrel⟩ := hrel
      have HR := hid hrel
      have he : e ≤ s.size := by rcases hrel with ⟨_, rfl⟩ | ⟨h, _⟩ <;> omega
      have HI := hid hit
      clear hrel
      by_cases hlt : i < s.size
      · have hn := fun ty => run_next_it (P := Try.prog) hit ty hlt
        clear hit
        by_cases hm : (i : Int) ≤ m
        · go_wp2
          exact CutRel.step HR.out hlt hm HI.out hf
        · go_wp2
          go_ret
          exact ⟨ret_cut (CutRel.end_ HR.out (by omega) hi), hf.stepIt _ _ _ (fun h => by omega)⟩
      · have hn := fun ty => run_next_it_end (P := Try.prog) hit ty hlt
        clear hit
        go_wp2
        go_ret
        exact ⟨ret_cut (CutRel.end_ HR.out (by omega) hi), hf⟩

set_option maxHeartbeats 800000 in
theorem rcut_any (s : ByteArray) (m : Int) (w : World) (hs : s.size ≤ 1048576) (h0 : -9223372036854775808 ≤ m) (h1 : m ≤ 9223372036854775807) :
    Calls Try.prog 18 #[.string s, .int .i64 m] w fun e w' => e = .returned (.string (cutS s m)) ∧ w = w' := by
  go_enter Try.func18, Try.ntmps18
  go_wp2
  go_loop [5] (fun iv => ∃ i : Nat, iv = .int .i64 i ∧ i ≤ s.size ∧ (i = 0 ∨ (i : Int) ≤ m) ∧ Hid (cutN s.data.toList m = i + cutN (s.data.toList.drop i) (m - i))) (fun iv => s.size - (intOf iv).toNat)
  case atStart => exact ⟨0, rfl, by omega, .inl rfl, by simp [Hid]⟩
  case round =>
    obtain ⟨i, rfl, hi, hz, HC⟩ := hrel
    have hz' : -9223372036854775808 ≤ m - i := by omega
    clear hz
    by_cases hlt : i < s.size
    · have hne : Hid (s.data.toList.drop i ≠ []) := by unfold Hid; simp; omega
      have hw := wid_bd _ hne.out
      rw [show (s.data.toList.drop i).length = s.size - i from by simp] at hw
      obtain ⟨w1, w2, w3⟩ := hw
      by_cases hm : (wid (s.data.toList.drop i) : Int) ≤ m - i
      · have HG := hid (cut_go hne.out hm)
        go_wp2_with (go_at_call 21; refine (wide_any _ _ _ (by omega) (by omega)).mono ?_; rintro e w' ⟨rfl, rfl⟩)
        go_round
        case rel =>
          refine ⟨i + wid (s.data.toList.drop i), by go_num, by omega, by omega, ?_⟩
          rw [Hid, HC.out, HG.out, List.drop_drop]
          have : m - (i : Int) - (wid (s.data.toList.drop i) : Int) = m - ((i + wid (s.data.toList.drop i) : Nat) : Int) := by omega
          rw [this]; omega
        case measure => simp [intOf]; omega
      · have HG : Hid (cutN s.data.toList m = i) := by rw [Hid, HC.out, cut_stop (by omega)]; omega
        go_wp2_with (go_at_call 21; refine (wide_any _ _ _ (by omega) (by omega)).mono ?_; rintro e w' ⟨rfl, rfl⟩)
        go_ret
        exact ⟨ret_cut HG.out, rfl⟩
    · have HG : Hid (cutN s.data.toList m = i) := by
        rw [Hid, HC.out, List.drop_of_length_le (by simp; omega), cutN_nil]; omega
      go_wp2
      go_ret
      exact ⟨ret_cut HG.out, rfl⟩
end Go.Proofs.Ytnjfkpmbjncbnaa
