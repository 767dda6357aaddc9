/- The walks of UtfBack. -/
import Derived.Test.YtnjfkpmbjncbnaaUtK
namespace Go.Proofs.Ytnjfkpmbjncbnaa
open Go.RowKit

set_option maxHeartbeats 1600000 in
theorem back_00 (A : Option Addr) (xs : List Int) (n c : Nat) (s : ByteArray) (w : World) (HN : Hid (xs.length = n)) (hn : n ≤ 1000) (HR : Hid (Rd w w.heap.size A (Ks .i32 xs))) (hs : s.size ≤ 2000) (HP : Hid (putL xs = none)) (HS : Hid (runes s.data.toList = none)) :
    Calls Try.prog 6 #[.slice A n c, .string s] w fun e w' => e = .returned (.bool true) ∧ Fr No w w' := by
  go_enter Try.func6, Try.ntmps6
  go_wp2_with fail
  refine (put_any _ xs _ _ _ _ HN.out HR.out (by omega)).mono ?_
  rw [HP.out]
  rintro e w1 ⟨rfl, f1⟩
  have F : Fr No w w1 := f1
  go_wp2_with fail
  refine (runes_any s _ (by omega)).mono ?_
  rw [HS.out]
  rintro e w6 ⟨A6, c6, rfl, r6, f6⟩
  clear r6
  simp only [Option.getD_none, Option.isSome_none, List.length_nil]
  go_wp2_with fail
  refine (alive_any _).mono ?_
  rintro e w8 ⟨rfl, f8⟩
  go_wp2_with fail
  go_ret
  exact ⟨rfl, (F.trans f6 (fun _ _ h => h)).trans f8 (fun _ _ h => h)⟩

set_option maxHeartbeats 1600000 in
theorem back_01 (A : Option Addr) (xs : List Int) (n c : Nat) (s : ByteArray) (w : World) (HN : Hid (xs.length = n)) (hn : n ≤ 1000) (HR : Hid (Rd w w.heap.size A (Ks .i32 xs))) (hs : s.size ≤ 2000) (HP : Hid (putL xs = none)) (rs : List Int) (hrs : rs.length ≤ 2000) (HS : Hid (runes s.data.toList = some rs)) (HQ : Hid (putL rs = some s.data.toList)) :
    Calls Try.prog 6 #[.slice A n c, .string s] w fun e w' => e = .returned (.bool true) ∧ Fr No w w' := by
  go_enter Try.func6, Try.ntmps6
  go_wp2_with fail
  refine (put_any _ xs _ _ _ _ HN.out HR.out (by omega)).mono ?_
  rw [HP.out]
  rintro e w1 ⟨rfl, f1⟩
  have F : Fr No w w1 := f1
  go_wp2_with fail
  refine (runes_any s _ (by omega)).mono ?_
  rw [HS.out]
  rintro e w6 ⟨A6, c6, rfl, r6, f6⟩
  have R6 := hid r6
  clear r6
  simp only [Option.getD_some, Option.isSome_some]
  go_wp2_with fail
  refine (put_any _ rs _ _ _ _ rfl R6.out (by omega)).mono ?_
  rw [HQ.out]
  rintro e w7 ⟨rfl, f7⟩
  simp only [Option.getD_some, Option.isSome_some, Lib.mk_data]
  go_wp2_with fail
  refine (alive_any _).mono ?_
  rintro e w8 ⟨rfl, f8⟩
  go_wp2_with fail
  go_ret
  exact ⟨rfl, ((F.trans f6 (fun _ _ h => h)).trans f7 (fun _ _ h => h)).trans f8 (fun _ _ h => h)⟩

set_option maxHeartbeats 1600000 in
theorem back_10 (A : Option Addr) (xs : List Int) (n c : Nat) (s : ByteArray) (w : World) (HN : Hid (xs.length = n)) (hn : n ≤ 1000) (HR : Hid (Rd w w.heap.size A (Ks .i32 xs))) (hs : s.size ≤ 2000) (t : ByteArray) (ht : t.size ≤ 4000) (HP : Hid (putL xs = some t.data.toList)) (HT : Hid (runes t.data.toList = some xs)) (HK : Hid (count t.data.toList = n)) (HS : Hid (runes s.data.toList = none)) :
    Calls Try.prog 6 #[.slice A n c, .string s] w fun e w' => e = .returned (.bool true) ∧ Fr No w w' := by
  go_enter Try.func6, Try.ntmps6
  go_wp2_with fail
  refine (put_any _ xs _ _ _ _ HN.out HR.out (by omega)).mono ?_
  rw [HP.out]
  rintro e w1 ⟨rfl, f1⟩
  simp only [Option.getD_some, Option.isSome_some, Lib.mk_data]
  go_wp2_with fail
  refine (runes_any t _ (by omega)).mono ?_
  rw [HT.out]
  rintro e w2 ⟨A2, c2, rfl, r2, f2⟩
  have R2 := hid r2
  clear r2
  simp only [Option.getD_some, Option.isSome_some, HN.out]
  go_wp2_with fail
  refine (rsame_any _ _ xs xs _ _ _ _ _ _ _ HN.out HN.out R2.out ((HR.out.frNo f1).frNo f2) (by omega) (by omega)).mono ?_
  rintro e w3 ⟨rfl, n3, rfl⟩
  simp only [decide_true]
  go_wp2_with fail
  refine (count_any t _ (by omega)).mono ?_
  rw [HK.out]
  rintro e w4 ⟨rfl, f4⟩
  go_wp2_with fail
  refine (al_valid t true _ (by omega) (by rw [HT.out]; rfl)).mono ?_
  rintro e w5 ⟨rfl, f5⟩
  have F : Fr No w w5 := (((f1.trans f2 (fun _ _ h => h)).drewN n3).trans f4 (fun _ _ h => h)).trans f5 (fun _ _ h => h)
  go_wp2_with fail
  refine (runes_any s _ (by omega)).mono ?_
  rw [HS.out]
  rintro e w6 ⟨A6, c6, rfl, r6, f6⟩
  clear r6
  simp only [Option.getD_none, Option.isSome_none, List.length_nil]
  go_wp2_with fail
  refine (alive_any _).mono ?_
  rintro e w8 ⟨rfl, f8⟩
  go_wp2_with fail
  go_ret
  exact ⟨rfl, (F.trans f6 (fun _ _ h => h)).trans f8 (fun _ _ h => h)⟩

set_option maxHeartbeats 1600000 in
theorem back_11 (A : Option Addr) (xs : List Int) (n c : Nat) (s : ByteArray) (w : World) (HN : Hid (xs.length = n)) (hn : n ≤ 1000) (HR : Hid (Rd w w.heap.size A (Ks .i32 xs))) (hs : s.size ≤ 2000) (t : ByteArray) (ht : t.size ≤ 4000) (HP : Hid (putL xs = some t.data.toList)) (HT : Hid (runes t.data.toList = some xs)) (HK : Hid (count t.data.toList = n)) (rs : List Int) (hrs : rs.length ≤ 2000) (HS : Hid (runes s.data.toList = some rs)) (HQ : Hid (putL rs = some s.data.toList)) :
    Calls Try.prog 6 #[.slice A n c, .string s] w fun e w' => e = .returned (.bool true) ∧ Fr No w w' := by
  go_enter Try.func6, Try.ntmps6
  go_wp2_with fail
  refine (put_any _ xs _ _ _ _ HN.out HR.out (by omega)).mono ?_
  rw [HP.out]
  rintro e w1 ⟨rfl, f1⟩
  simp only [Option.getD_some, Option.isSome_some, Lib.mk_data]
  go_wp2_with fail
  refine (runes_any t _ (by omega)).mono ?_
  rw [HT.out]
  rintro e w2 ⟨A2, c2, rfl, r2, f2⟩
  have R2 := hid r2
  clear r2
  simp only [Option.getD_some, Option.isSome_some, HN.out]
  go_wp2_with fail
  refine (rsame_any _ _ xs xs _ _ _ _ _ _ _ HN.out HN.out R2.out ((HR.out.frNo f1).frNo f2) (by omega) (by omega)).mono ?_
  rintro e w3 ⟨rfl, n3, rfl⟩
  simp only [decide_true]
  go_wp2_with fail
  refine (count_any t _ (by omega)).mono ?_
  rw [HK.out]
  rintro e w4 ⟨rfl, f4⟩
  go_wp2_with fail
  refine (al_valid t true _ (by omega) (by rw [HT.out]; rfl)).mono ?_
  rintro e w5 ⟨rfl, f5⟩
  have F : Fr No w w5 := (((f1.trans f2 (fun _ _ h => h)).drewN n3).trans f4 (fun _ _ h => h)).trans f5 (fun _ _ h => h)
  go_wp2_with fail
  refine (runes_any s _ (by omega)).mono ?_
  rw [HS.out]
  rintro e w6 ⟨A6, c6, rfl, r6, f6⟩
  have R6 := hid r6
  clear r6
  simp only [Option.getD_some, Option.isSome_some]
  go_wp2_with fail
  refine (put_any _ rs _ _ _ _ rfl R6.out (by omega)).mono ?_
  rw [HQ.out]
  rintro e w7 ⟨rfl, f7⟩
  simp only [Option.getD_some, Option.isSome_some, Lib.mk_data]
  go_wp2_with fail
  refine (alive_any _).mono ?_
  rintro e w8 ⟨rfl, f8⟩
  go_wp2_with fail
  go_ret
  exact ⟨rfl, ((F.trans f6 (fun _ _ h => h)).trans f7 (fun _ _ h => h)).trans f8 (fun _ _ h => h)⟩

set_option maxHeartbeats 1600000 in
theorem back_big (A : Option Addr) (n c : Nat) (s : ByteArray) (w : World) (hn : n ≤ maxLen) (hs : s.size ≤ maxLen) (h : ¬ (n ≤ 1000 ∧ s.size ≤ 2000)) :
    Calls Try.prog 6 #[.slice A n c, .string s] w fun e w' => e = .returned (.bool true) ∧ Fr No w w' := by
  unfold maxLen at hn hs
  by_cases h1 : n ≤ 1000
  · have h2 : ¬ s.size ≤ 2000 := fun x => h ⟨h1, x⟩
    clear h
    go_enter Try.func6, Try.ntmps6
    go_wp2_with fail
    refine (alive_any _).mono ?_
    rintro e w7 ⟨rfl, f7⟩
    go_wp2_with fail
    go_ret
    exact ⟨rfl, f7⟩
  · clear h
    go_enter Try.func6, Try.ntmps6
    go_wp2_with fail
    refine (alive_any _).mono ?_
    rintro e w7 ⟨rfl, f7⟩
    go_wp2_with fail
    go_ret
    exact ⟨rfl, f7⟩

theorem size_mk (bs : List UInt8) : (⟨bs.toArray⟩ : ByteArray).size = bs.length := by rw [Lib.size_eq]
theorem back_any (A : Option Addr) (xs : List Int) (c : Nat) (s : ByteArray) (w : World) (hn : xs.length ≤ maxLen) (hr : Rd w w.heap.size A (Ks .i32 xs)) (hs : s.size ≤ maxLen) :
    Calls Try.prog 6 #[.slice A xs.length c, .string s] w fun e w' => e = .returned (.bool true) ∧ Fr No w w' := by
  by_cases h : xs.length ≤ 1000 ∧ s.size ≤ 2000
  · obtain ⟨h1, h2⟩ := h
    have hrs : ∀ rs, runes s.data.toList = some rs → rs.length ≤ 2000 ∧ putL rs = some s.data.toList := fun rs h => by
      have e := put_runes _ _ _ (Nat.le_refl _) h
      have e2 := e.2.1
      simp at e2
      exact ⟨by omega, e.1⟩
    cases hp : putL xs with
    | none =>
      cases hq : runes s.data.toList with
      | none => exact back_00 A xs _ c s w rfl h1 hr h2 hp hq
      | some rs => exact back_01 A xs _ c s w rfl h1 hr h2 hp rs (hrs rs hq).1 hq (hrs rs hq).2
    | some bs =>
      have hl := put_len _ _ hp
      obtain ⟨e1, e2⟩ := runes_put _ _ hp
      cases hq : runes s.data.toList with
      | none => exact back_10 A xs _ c s w rfl h1 hr h2 ⟨bs.toArray⟩ (by rw [size_mk]; omega) hp e1 e2 hq
      | some rs => exact back_11 A xs _ c s w rfl h1 hr h2 ⟨bs.toArray⟩ (by rw [size_mk]; omega) hp e1 e2 rs (hrs rs hq).1 hq (hrs rs hq).2
  · exact back_big A _ c s w hn hs h
theorem utfBack_walk (w : World) (v0 v1 : Value) (x0 : List Int) (x1 : ByteArray) (y0 : (Ty.int .i32).slice.rd w w.heap.size v0.cells.toList x0) (y1 : Ty.str.rd w w.heap.size v1.cells.toList x1) (s0 : ∃ a l c, v0 = .slice a l c) (s1 : ∃ s, v1 = .string s) :
    Calls Try.prog 6 #[v0, v1] w fun e w' => e = .returned (.bool true) ∧ Below w.heap.size w w' := by
  obtain ⟨A, c, rfl, h1, h2, h3⟩ := ints_of y0 s0
  obtain ⟨rfl, h⟩ := str_of y1 s1
  exact (back_any A x0 c x1 w h1 h2 h).mono fun e w' ⟨h1, h2⟩ => ⟨h1, h2.below⟩
end Go.Proofs.Ytnjfkpmbjncbnaa
