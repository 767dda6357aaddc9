/- Contracts of the functions of chapter 03, part 1: the reference's decoding. -/
import Derived.Test.YtdckghiipijobaaGreatInts
import Derived.Test.YtdckghiipijobaaGreatUtg
namespace Go.Proofs.YtdckghiipijobaaGreat
open Go.RowKit

theorem isR_int (n : Int) : okI n = decide ((0 ≤ n ∧ n < 55296) ∨ (57343 < n ∧ n ≤ 1114111)) := by
  simp only [okI, isR]; rw [Bool.eq_iff_iff]; simp; omega

set_option maxHeartbeats 400000 in
theorem is_any (n : Int) (w : World) :
    Calls Tryz.prog 212 #[.int .i64 n] w fun e w' => e = .returned (.bool (okI n)) ∧ w = w' := by
  go_enter Tryz.func212, Tryz.ntmps212
  go_wp2
  all_goals
    go_ret
    refine ⟨ret_bool ?_, rfl⟩
    rw [isR_int, Bool.eq_iff_iff]
    simp <;> omega

theorem get_toList (s : ByteArray) (i : Nat) (h : i < s.size) : s.data.toList[i]? = some s[i] := by
  rw [Array.getElem?_toList]; exact Array.getElem?_eq_getElem h
theorem drop_cons (s : ByteArray) (i : Nat) (h : i < s.size) : s.data.toList.drop i = s[i] :: s.data.toList.drop (i + 1) := by
  have hl : i < s.data.toList.length := by simpa using h
  rw [List.drop_eq_getElem_cons hl]
  rfl
theorem conts_stop : ∀ (k j : Nat) (l : List UInt8) (x : Nat), j < k → (∀ c, l[j]? = some c → cb c = false) → conts k l x = none
  | 0, j, l, x, h, _ => by omega
  | k + 1, j, [], x, h, hc => rfl
  | k + 1, 0, c :: l, x, h, hc => by simp [conts, hc c rfl]
  | k + 1, j + 1, c :: l, x, h, hc => by
    simp only [conts]
    split
    · exact conts_stop k j l _ (by omega) (fun c' h' => hc c' (by simpa using h'))
    · rfl
/-- The rounds of the loop: what is left to read. -/
theorem conts_step (s : ByteArray) (i k : Nat) (x : Nat) (h : i < s.size) (hc : cb s[i] = true) : conts (k + 1) (s.data.toList.drop i) x = conts k (s.data.toList.drop (i + 1)) (x * 64 + (s[i].toNat - 128)) := by
  rw [drop_cons s i h]; simp [conts, hc]
theorem conts_bad (s : ByteArray) (i k : Nat) (x : Nat) (h : i < s.size) (hc : cb s[i] = false) : conts (k + 1) (s.data.toList.drop i) x = none := by
  rw [drop_cons s i h]; simp [conts, hc]

/-- The reference's answer: the rune and its length, or 0 and 0. -/
def decI (l : List UInt8) : Int × Int := match dec l with | some (c, n) => ((c : Int), (n : Int)) | none => (0, 0)

def Rune1To (l : List UInt8) (w : World) (e : Ending) (w' : World) : Prop := e = .returned (.tuple #[.int .i64 (decI l).1, .int .i64 (decI l).2]) ∧ w = w'









set_option maxHeartbeats 1600000 in
set_option maxRecDepth 100000 in
theorem rune1_2 (s : ByteArray) (i : Nat) (w : World) (hs : s.size ≤ 1048576) (hi : i < s.size) (g0 : 192 ≤ s[i].toNat) (g1 : s[i].toNat < 224) (hn : i + 2 ≤ s.size) :
    Calls Tryz.prog 210 #[.string s, .int .i64 i] w (Rune1To (s.data.toList.drop i) w) := by
  have hd : Hid (dec (s.data.toList.drop i) = match conts 1 (s.data.toList.drop (i + 1)) (s[i].toNat - 192) with
      | none => none
      | some x => if x < 128 ∨ isR x = false then none else some (x, 2)) := by
    unfold Hid
    rw [drop_cons s i hi]
    simp only [dec]
    have e1 : headN s[i].toNat = 2 := by unfold headN; rw [if_pos (by omega)]
    have e2 : headX s[i].toNat = s[i].toNat - 192 := by unfold headX; rw [if_pos (by omega)]
    have e3 : headL s[i].toNat = 128 := by unfold headL; rw [if_pos (by omega)]
    rw [e1, e2, e3, if_neg (by omega), if_neg (by simp; omega)]
    rfl
  have z0 : decide ((s[i].toNat : Int) < 128) = false := by simp; omega
  go_enter Tryz.func210, Tryz.ntmps210
  go_wp2_with fail
  clear z0
  go_loop [9, 10] (fun x k => ∃ k' x' : Nat, 1 ≤ k' ∧ k' ≤ 2 ∧ k = .int .i64 k' ∧ x = .int .i64 x' ∧ (k' = 1 → x' < 32) ∧ (k' = 2 → x' < 2048) ∧ (k' = 3 → x' < 131072) ∧ (k' = 4 → x' < 8388608) ∧ Hid (conts 1 (s.data.toList.drop (i + 1)) (s[i].toNat - 192) = conts (2 - k') (s.data.toList.drop (i + k')) x')) (fun _ k => 2 - (intOf k).toNat)
  case atStart => exact ⟨1, s[i].toNat - 192, by omega, by omega, rfl, by go_num, by omega, by omega, by omega, by omega, rfl⟩
  case round =>
    obtain ⟨k, x, hk1, hk2, rfl, rfl, b1, b2, b3, b4, HC⟩ := hrel
    by_cases hlt : k < 2
    · have hb := s[i + k].toNat_lt
      have i0 : (0 : Int) ≤ (i : Int) + k := by omega
      have i1 : (i : Int) + k < s.size := by omega
      by_cases hc : 128 ≤ s[i + k].toNat ∧ s[i + k].toNat < 192
      · have hcb : Hid (cb s[i + k] = true) := by simpa [cb, Hid] using hc
        obtain ⟨c0, c1⟩ := hc
        go_wp2_with fail
        go_round
        case rel =>
          refine ⟨_, _, .int .i64 ((x * 64 + (s[i + k].toNat - 128) : Nat) : Int), .int .i64 ((k + 1 : Nat) : Int), ⟨k + 1, by omega, by omega, rfl, x * 64 + (s[i + k].toNat - 128), rfl, by omega, by omega, by omega, by omega, ?_⟩, rfl, rfl, by go_num, by go_num⟩
          have := conts_step s (i + k) (2 - (k + 1)) x (by omega) hcb.out
          rw [show 2 - (k + 1) + 1 = 2 - k by omega] at this
          rw [Hid, HC.out, this, Nat.add_assoc]
        case measure => simp [intOf]; omega
      · have hcb : Hid (cb s[i + k] = false) := by unfold Hid; simp [cb]; omega
        have HD : Hid (dec (s.data.toList.drop i) = none) := by
          have := conts_bad s (i + k) (2 - (k + 1)) x (by omega) hcb.out
          rw [show 2 - (k + 1) + 1 = 2 - k by omega] at this
          rw [Hid, hd.out, HC.out, this]
        clear hd HC
        rcases (by omega : s[i + k].toNat < 128 ∨ 192 ≤ s[i + k].toNat) with hq | hq
        all_goals
          go_wp2_with fail
          go_ret2
          refine ⟨?_, rfl⟩
          unfold decI
          rw [HD.out]
          rfl
    · obtain rfl : k = 2 := by omega
      clear b1 b2 b3 b4
      have HD : Hid (dec (s.data.toList.drop i) = if x < 128 ∨ isR x = false then none else some (x, 2)) := by
        rw [Hid, hd.out, HC.out]
        simp only [Nat.sub_self, conts]
      clear hd HC
      have hok : Hid (okI (x : Int) = isR x) := by simp [okI, Hid]
      by_cases hx : x < 128
      · go_wp2_with (go_at_call 212; refine (is_any _ _).mono ?_; rintro e w' ⟨rfl, rfl⟩)
        go_ret2
        refine ⟨?_, rfl⟩
        unfold decI
        rw [HD.out, if_pos (.inl hx)]
        rfl
      · have HX := hid hx
        have hxi : decide ((x : Int) < 128) = false := by simp; omega
        clear hx
        cases hr : isR x with
        | false =>
          have hq : okI (x : Int) = false := hok.out.trans hr
          have HR := hid hr
          clear hr
          go_wp2_with (go_at_call 212; refine (is_any _ _).mono ?_; rintro e w' ⟨rfl, rfl⟩)
          go_ret2
          refine ⟨?_, rfl⟩
          unfold decI
          rw [HD.out, if_pos (.inr HR.out)]
          rfl
        | true =>
          have hq : okI (x : Int) = true := hok.out.trans hr
          have HR := hid hr
          clear hr
          go_wp2_with (go_at_call 212; refine (is_any _ _).mono ?_; rintro e w' ⟨rfl, rfl⟩)
          go_ret2
          refine ⟨?_, rfl⟩
          unfold decI
          rw [HD.out, if_neg (by rw [HR.out]; have := HX.out; simp; omega)]
          rfl

set_option maxHeartbeats 1600000 in
set_option maxRecDepth 100000 in
theorem rune1_3 (s : ByteArray) (i : Nat) (w : World) (hs : s.size ≤ 1048576) (hi : i < s.size) (g0 : 224 ≤ s[i].toNat) (g1 : s[i].toNat < 240) (hn : i + 3 ≤ s.size) :
    Calls Tryz.prog 210 #[.string s, .int .i64 i] w (Rune1To (s.data.toList.drop i) w) := by
  have hd : Hid (dec (s.data.toList.drop i) = match conts 2 (s.data.toList.drop (i + 1)) (s[i].toNat - 224) with
      | none => none
      | some x => if x < 2048 ∨ isR x = false then none else some (x, 3)) := by
    unfold Hid
    rw [drop_cons s i hi]
    simp only [dec]
    have e1 : headN s[i].toNat = 3 := by unfold headN; rw [if_neg (by omega), if_pos (by omega)]
    have e2 : headX s[i].toNat = s[i].toNat - 224 := by unfold headX; rw [if_neg (by omega), if_pos (by omega)]
    have e3 : headL s[i].toNat = 2048 := by unfold headL; rw [if_neg (by omega), if_pos (by omega)]
    rw [e1, e2, e3, if_neg (by omega), if_neg (by simp; omega)]
    rfl
  have z0 : decide ((s[i].toNat : Int) < 128) = false := by simp; omega
  go_enter Tryz.func210, Tryz.ntmps210
  go_wp2_with fail
  clear z0
  go_loop [9, 10] (fun x k => ∃ k' x' : Nat, 1 ≤ k' ∧ k' ≤ 3 ∧ k = .int .i64 k' ∧ x = .int .i64 x' ∧ (k' = 1 → x' < 32) ∧ (k' = 2 → x' < 2048) ∧ (k' = 3 → x' < 131072) ∧ (k' = 4 → x' < 8388608) ∧ Hid (conts 2 (s.data.toList.drop (i + 1)) (s[i].toNat - 224) = conts (3 - k') (s.data.toList.drop (i + k')) x')) (fun _ k => 3 - (intOf k).toNat)
  case atStart => exact ⟨1, s[i].toNat - 224, by omega, by omega, rfl, by go_num, by omega, by omega, by omega, by omega, rfl⟩
  case round =>
    obtain ⟨k, x, hk1, hk2, rfl, rfl, b1, b2, b3, b4, HC⟩ := hrel
    by_cases hlt : k < 3
    · have hb := s[i + k].toNat_lt
      have i0 : (0 : Int) ≤ (i : Int) + k := by omega
      have i1 : (i : Int) + k < s.size := by omega
      by_cases hc : 128 ≤ s[i + k].toNat ∧ s[i + k].toNat < 192
      · have hcb : Hid (cb s[i + k] = true) := by simpa [cb, Hid] using hc
        obtain ⟨c0, c1⟩ := hc
        go_wp2_with fail
        go_round
        case rel =>
          refine ⟨_, _, .int .i64 ((x * 64 + (s[i + k].toNat - 128) : Nat) : Int), .int .i64 ((k + 1 : Nat) : Int), ⟨k + 1, by omega, by omega, rfl, x * 64 + (s[i + k].toNat - 128), rfl, by omega, by omega, by omega, by omega, ?_⟩, rfl, rfl, by go_num, by go_num⟩
          have := conts_step s (i + k) (3 - (k + 1)) x (by omega) hcb.out
          rw [show 3 - (k + 1) + 1 = 3 - k by omega] at this
          rw [Hid, HC.out, this, Nat.add_assoc]
        case measure => simp [intOf]; omega
      · have hcb : Hid (cb s[i + k] = false) := by unfold Hid; simp [cb]; omega
        have HD : Hid (dec (s.data.toList.drop i) = none) := by
          have := conts_bad s (i + k) (3 - (k + 1)) x (by omega) hcb.out
          rw [show 3 - (k + 1) + 1 = 3 - k by omega] at this
          rw [Hid, hd.out, HC.out, this]
        clear hd HC
        rcases (by omega : s[i + k].toNat < 128 ∨ 192 ≤ s[i + k].toNat) with hq | hq
        all_goals
          go_wp2_with fail
          go_ret2
          refine ⟨?_, rfl⟩
          unfold decI
          rw [HD.out]
          rfl
    · obtain rfl : k = 3 := by omega
      clear b1 b2 b3 b4
      have HD : Hid (dec (s.data.toList.drop i) = if x < 2048 ∨ isR x = false then none else some (x, 3)) := by
        rw [Hid, hd.out, HC.out]
        simp only [Nat.sub_self, conts]
      clear hd HC
      have hok : Hid (okI (x : Int) = isR x) := by simp [okI, Hid]
      by_cases hx : x < 2048
      · go_wp2_with (go_at_call 212; refine (is_any _ _).mono ?_; rintro e w' ⟨rfl, rfl⟩)
        go_ret2
        refine ⟨?_, rfl⟩
        unfold decI
        rw [HD.out, if_pos (.inl hx)]
        rfl
      · have HX := hid hx
        have hxi : decide ((x : Int) < 2048) = false := by simp; omega
        clear hx
        cases hr : isR x with
        | false =>
          have hq : okI (x : Int) = false := hok.out.trans hr
          have HR := hid hr
          clear hr
          go_wp2_with (go_at_call 212; refine (is_any _ _).mono ?_; rintro e w' ⟨rfl, rfl⟩)
          go_ret2
          refine ⟨?_, rfl⟩
          unfold decI
          rw [HD.out, if_pos (.inr HR.out)]
          rfl
        | true =>
          have hq : okI (x : Int) = true := hok.out.trans hr
          have HR := hid hr
          clear hr
          go_wp2_with (go_at_call 212; refine (is_any _ _).mono ?_; rintro e w' ⟨rfl, rfl⟩)
          go_ret2
          refine ⟨?_, rfl⟩
          unfold decI
          rw [HD.out, if_neg (by rw [HR.out]; have := HX.out; simp; omega)]
          rfl

set_option maxHeartbeats 1600000 in
set_option maxRecDepth 100000 in
theorem rune1_4 (s : ByteArray) (i : Nat) (w : World) (hs : s.size ≤ 1048576) (hi : i < s.size) (g0 : 240 ≤ s[i].toNat) (g1 : s[i].toNat < 248) (hn : i + 4 ≤ s.size) :
    Calls Tryz.prog 210 #[.string s, .int .i64 i] w (Rune1To (s.data.toList.drop i) w) := by
  have hd : Hid (dec (s.data.toList.drop i) = match conts 3 (s.data.toList.drop (i + 1)) (s[i].toNat - 240) with
      | none => none
      | some x => if x < 65536 ∨ isR x = false then none else some (x, 4)) := by
    unfold Hid
    rw [drop_cons s i hi]
    simp only [dec]
    have e1 : headN s[i].toNat = 4 := by unfold headN; rw [if_neg (by omega), if_neg (by omega), if_pos (by omega)]
    have e2 : headX s[i].toNat = s[i].toNat - 240 := by unfold headX; rw [if_neg (by omega), if_neg (by omega), if_pos (by omega)]
    have e3 : headL s[i].toNat = 65536 := by unfold headL; rw [if_neg (by omega), if_neg (by omega), if_pos (by omega)]
    rw [e1, e2, e3, if_neg (by omega), if_neg (by simp; omega)]
    rfl
  have z0 : decide ((s[i].toNat : Int) < 128) = false := by simp; omega
  go_enter Tryz.func210, Tryz.ntmps210
  go_wp2_with fail
  clear z0
  go_loop [9, 10] (fun x k => ∃ k' x' : Nat, 1 ≤ k' ∧ k' ≤ 4 ∧ k = .int .i64 k' ∧ x = .int .i64 x' ∧ (k' = 1 → x' < 32) ∧ (k' = 2 → x' < 2048) ∧ (k' = 3 → x' < 131072) ∧ (k' = 4 → x' < 8388608) ∧ Hid (conts 3 (s.data.toList.drop (i + 1)) (s[i].toNat - 240) = conts (4 - k') (s.data.toList.drop (i + k')) x')) (fun _ k => 4 - (intOf k).toNat)
  case atStart => exact ⟨1, s[i].toNat - 240, by omega, by omega, rfl, by go_num, by omega, by omega, by omega, by omega, rfl⟩
  case round =>
    obtain ⟨k, x, hk1, hk2, rfl, rfl, b1, b2, b3, b4, HC⟩ := hrel
    by_cases hlt : k < 4
    · have hb := s[i + k].toNat_lt
      have i0 : (0 : Int) ≤ (i : Int) + k := by omega
      have i1 : (i : Int) + k < s.size := by omega
      by_cases hc : 128 ≤ s[i + k].toNat ∧ s[i + k].toNat < 192
      · have hcb : Hid (cb s[i + k] = true) := by simpa [cb, Hid] using hc
        obtain ⟨c0, c1⟩ := hc
        go_wp2_with fail
        go_round
        case rel =>
          refine ⟨_, _, .int .i64 ((x * 64 + (s[i + k].toNat - 128) : Nat) : Int), .int .i64 ((k + 1 : Nat) : Int), ⟨k + 1, by omega, by omega, rfl, x * 64 + (s[i + k].toNat - 128), rfl, by omega, by omega, by omega, by omega, ?_⟩, rfl, rfl, by go_num, by go_num⟩
          have := conts_step s (i + k) (4 - (k + 1)) x (by omega) hcb.out
          rw [show 4 - (k + 1) + 1 = 4 - k by omega] at this
          rw [Hid, HC.out, this, Nat.add_assoc]
        case measure => simp [intOf]; omega
      · have hcb : Hid (cb s[i + k] = false) := by unfold Hid; simp [cb]; omega
        have HD : Hid (dec (s.data.toList.drop i) = none) := by
          have := conts_bad s (i + k) (4 - (k + 1)) x (by omega) hcb.out
          rw [show 4 - (k + 1) + 1 = 4 - k by omega] at this
          rw [Hid, hd.out, HC.out, this]
        clear hd HC
        rcases (by omega : s[i + k].toNat < 128 ∨ 192 ≤ s[i + k].toNat) with hq | hq
        all_goals
          go_wp2_with fail
          go_ret2
          refine ⟨?_, rfl⟩
          unfold decI
          rw [HD.out]
          rfl
    · obtain rfl : k = 4 := by omega
      clear b1 b2 b3 b4
      have HD : Hid (dec (s.data.toList.drop i) = if x < 65536 ∨ isR x = false then none else some (x, 4)) := by
        rw [Hid, hd.out, HC.out]
        simp only [Nat.sub_self, conts]
      clear hd HC
      have hok : Hid (okI (x : Int) = isR x) := by simp [okI, Hid]
      by_cases hx : x < 65536
      · go_wp2_with (go_at_call 212; refine (is_any _ _).mono ?_; rintro e w' ⟨rfl, rfl⟩)
        go_ret2
        refine ⟨?_, rfl⟩
        unfold decI
        rw [HD.out, if_pos (.inl hx)]
        rfl
      · have HX := hid hx
        have hxi : decide ((x : Int) < 65536) = false := by simp; omega
        clear hx
        cases hr : isR x with
        | false =>
          have hq : okI (x : Int) = false := hok.out.trans hr
          have HR := hid hr
          clear hr
          go_wp2_with (go_at_call 212; refine (is_any _ _).mono ?_; rintro e w' ⟨rfl, rfl⟩)
          go_ret2
          refine ⟨?_, rfl⟩
          unfold decI
          rw [HD.out, if_pos (.inr HR.out)]
          rfl
        | true =>
          have hq : okI (x : Int) = true := hok.out.trans hr
          have HR := hid hr
          clear hr
          go_wp2_with (go_at_call 212; refine (is_any _ _).mono ?_; rintro e w' ⟨rfl, rfl⟩)
          go_ret2
          refine ⟨?_, rfl⟩
          unfold decI
          rw [HD.out, if_neg (by rw [HR.out]; have := HX.out; simp; omega)]
          rfl

set_option maxHeartbeats 1600000 in
set_option maxRecDepth 100000 in
theorem rune1_no (s : ByteArray) (i : Nat) (w : World) (hs : s.size ≤ 1048576) (hi : i < s.size) (g0 : 128 ≤ s[i].toNat) (hn : headN s[i].toNat = 0 ∨ s.size < i + headN s[i].toNat) :
    Calls Tryz.prog 210 #[.string s, .int .i64 i] w (Rune1To (s.data.toList.drop i) w) := by
  have hb := s[i].toNat_lt
  have hd : Hid (decI (s.data.toList.drop i) = (0, 0)) := by
    unfold Hid decI
    rw [drop_cons s i hi]
    simp only [dec]
    rw [if_neg (by omega), if_pos (by simp; omega)]
  unfold headN at hn
  go_enter Tryz.func210, Tryz.ntmps210
  go_wp2_with fail
  all_goals first
    | (exfalso; split at hn <;> (try split at hn) <;> (try split at hn) <;> omega)
    | (go_ret2
       refine ⟨?_, rfl⟩
       rw [hd.out]
       rfl)

set_option maxHeartbeats 1600000 in
set_option maxRecDepth 100000 in
theorem rune1_1 (s : ByteArray) (i : Nat) (w : World) (_hs : s.size ≤ 1048576) (hi : i < s.size) (g0 : s[i].toNat < 128) :
    Calls Tryz.prog 210 #[.string s, .int .i64 i] w (Rune1To (s.data.toList.drop i) w) := by
  have hd : Hid (decI (s.data.toList.drop i) = ((s[i].toNat : Int), 1)) := by
    unfold Hid decI
    rw [drop_cons s i hi]
    simp only [dec]
    rw [if_pos g0]
    rfl
  go_enter Tryz.func210, Tryz.ntmps210
  go_wp2_with fail
  go_ret2
  refine ⟨?_, rfl⟩
  rw [hd.out]
  rfl

theorem rune1_any (s : ByteArray) (i : Nat) (w : World) (hs : s.size ≤ 1048576) (hi : i < s.size) :
    Calls Tryz.prog 210 #[.string s, .int .i64 i] w (Rune1To (s.data.toList.drop i) w) := by
  by_cases h1 : s[i].toNat < 128
  · exact rune1_1 s i w hs hi h1
  · by_cases hn : headN s[i].toNat = 0 ∨ s.size < i + headN s[i].toNat
    · exact rune1_no s i w hs hi (by omega) hn
    · by_cases h2 : 192 ≤ s[i].toNat ∧ s[i].toNat < 224
      · exact rune1_2 s i w hs hi h2.1 h2.2 (by simp [headN, h2] at hn; omega)
      · by_cases h3 : 224 ≤ s[i].toNat ∧ s[i].toNat < 240
        · exact rune1_3 s i w hs hi h3.1 h3.2 (by simp [headN, h2, h3] at hn; omega)
        · by_cases h4 : 240 ≤ s[i].toNat ∧ s[i].toNat < 248
          · exact rune1_4 s i w hs hi h4.1 h4.2 (by simp [headN, h2, h3, h4] at hn; omega)
          · simp [headN, h2, h3, h4] at hn

end Go.Proofs.YtdckghiipijobaaGreat
