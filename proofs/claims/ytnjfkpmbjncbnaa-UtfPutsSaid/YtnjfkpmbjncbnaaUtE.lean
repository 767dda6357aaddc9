/- Contracts of the functions of chapter 03, part 5: AppendRune, Put. -/
import Derived.Test.YtnjfkpmbjncbnaaUtD
namespace Go.Proofs.Ytnjfkpmbjncbnaa
open Go.RowKit
/-- What AppendRune hands back: the row, grown. -/
def AppTo (base n : Nat) (v : Value) (xs : List Value) (l : List UInt8) (w : World) (e : Ending) (w' : World) : Prop :=
  ∃ v', e = .returned v' ∧ w'.ownsRow base 5 1 v' (n + l.length) (xs ++ Ks .u8 (Bs l)) ∧ Fr (fun k => some k = v.ownBlock) w w'

set_option maxHeartbeats 400000 in
theorem arn_1 (x base n : Nat) (v : Value) (xs : List Value) (w : World) (h1 : x < 2048) (g1 : 128 ≤ x) (ho : w.ownsRow base 5 1 v n xs) (hn : n ≤ 1048576) (hb : base ≤ w.heap.size) :
    Calls Try.prog 27 #[v, .int .i32 x] w (AppTo base n v xs (enc x) w) := by
  have HE := hid (enc_1 h1 g1)
  have HO := hid ho
  have f0 : decide ((x : Int) ≤ 2047) = true := by simp; omega
  have c0 : (x : Int) / 64 ≤ 31 := by omega
  have b1 : (x : Int) ≤ 2147483647 := by omega
  clear ho h1 g1
  go_enter Try.func27, Try.ntmps27
  go_wp2_with (at_builtin; refine wpList_appR u8s rfl rfl rfl rfl (HO.out.alloc _) (rd_lit w _ _) rfl (fun u hu => one_Ks .u8 [_, _] u hu) (by omega) (by omega) (by simp; omega) ?_; intro v2 w2 ho2 hf2 hq2)
  go_ret
  obtain ⟨e1, e2⟩ := HE.out
  refine ⟨v2, rfl, ?_, ((Fr.refl _ w).alloc _).trans hf2 (fun _ _ h => h)⟩
  rw [e1, e2]
  exact ho2


set_option maxHeartbeats 400000 in
theorem arn_2a (x base n : Nat) (v : Value) (xs : List Value) (w : World) (h2 : x < 65536) (g2 : 2048 ≤ x) (j0 : x < 55296) (ho : w.ownsRow base 5 1 v n xs) (hn : n ≤ 1048576) (hb : base ≤ w.heap.size) :
    Calls Try.prog 27 #[v, .int .i32 x] w (AppTo base n v xs (enc x) w) := by
  have HE := hid (enc_2 h2 g2)
  have HO := hid ho
  have f0 : decide ((x : Int) ≤ 2047) = false := by simp; omega
  have f1 : decide ((x : Int) < 55296) = true := by simp; omega
  have c0 : (x : Int) / 4096 ≤ 15 := by omega
  have b1 : (x : Int) ≤ 2147483647 := by omega
  clear ho h2 g2 j0
  go_enter Try.func27, Try.ntmps27
  go_wp2_with (at_builtin; refine wpList_appR u8s rfl rfl rfl rfl (HO.out.alloc _) (rd_lit w _ _) rfl (fun u hu => one_Ks .u8 [_, _, _] u hu) (by omega) (by omega) (by simp; omega) ?_; intro v2 w2 ho2 hf2 hq2)
  go_ret
  obtain ⟨e1, e2⟩ := HE.out
  refine ⟨v2, rfl, ?_, ((Fr.refl _ w).alloc _).trans hf2 (fun _ _ h => h)⟩
  rw [e1, e2]
  exact ho2


set_option maxHeartbeats 400000 in
theorem arn_2b (x base n : Nat) (v : Value) (xs : List Value) (w : World) (h2 : x < 65536) (g2 : 2048 ≤ x) (j0 : 57344 ≤ x) (ho : w.ownsRow base 5 1 v n xs) (hn : n ≤ 1048576) (hb : base ≤ w.heap.size) :
    Calls Try.prog 27 #[v, .int .i32 x] w (AppTo base n v xs (enc x) w) := by
  have HE := hid (enc_2 h2 g2)
  have HO := hid ho
  have f0 : decide ((x : Int) ≤ 2047) = false := by simp; omega
  have f1 : decide ((x : Int) < 55296) = false := by simp; omega
  have f2 : decide (57343 < (x : Int)) = true := by simp; omega
  have f3 : decide ((x : Int) ≤ 65535) = true := by simp; omega
  have c0 : (x : Int) / 4096 ≤ 15 := by omega
  have b1 : (x : Int) ≤ 2147483647 := by omega
  clear ho h2 g2 j0
  go_enter Try.func27, Try.ntmps27
  go_wp2_with (at_builtin; refine wpList_appR u8s rfl rfl rfl rfl (HO.out.alloc _) (rd_lit w _ _) rfl (fun u hu => one_Ks .u8 [_, _, _] u hu) (by omega) (by omega) (by simp; omega) ?_; intro v2 w2 ho2 hf2 hq2)
  go_ret
  obtain ⟨e1, e2⟩ := HE.out
  refine ⟨v2, rfl, ?_, ((Fr.refl _ w).alloc _).trans hf2 (fun _ _ h => h)⟩
  rw [e1, e2]
  exact ho2


set_option maxHeartbeats 400000 in
theorem arn_3 (x base n : Nat) (v : Value) (xs : List Value) (w : World) (h3 : x ≤ 1114111) (g3 : 65536 ≤ x) (ho : w.ownsRow base 5 1 v n xs) (hn : n ≤ 1048576) (hb : base ≤ w.heap.size) :
    Calls Try.prog 27 #[v, .int .i32 x] w (AppTo base n v xs (enc x) w) := by
  have HE := hid (enc_3 h3 g3)
  have HO := hid ho
  have f0 : decide ((x : Int) ≤ 2047) = false := by simp; omega
  have f1 : decide ((x : Int) < 55296) = false := by simp; omega
  have f2 : decide (57343 < (x : Int)) = true := by simp; omega
  have f3 : decide ((x : Int) ≤ 65535) = false := by simp; omega
  have f4 : decide (65535 < (x : Int)) = true := by simp; omega
  have f5 : decide ((x : Int) ≤ 1114111) = true := by simp; omega
  have c0 : (x : Int) / 262144 ≤ 4 := by omega
  have b1 : (x : Int) ≤ 2147483647 := by omega
  clear ho h3 g3
  go_enter Try.func27, Try.ntmps27
  go_wp2_with (at_builtin; refine wpList_appR u8s rfl rfl rfl rfl (HO.out.alloc _) (rd_lit w _ _) rfl (fun u hu => one_Ks .u8 [_, _, _, _] u hu) (by omega) (by omega) (by simp; omega) ?_; intro v2 w2 ho2 hf2 hq2)
  go_ret
  obtain ⟨e1, e2⟩ := HE.out
  refine ⟨v2, rfl, ?_, ((Fr.refl _ w).alloc _).trans hf2 (fun _ _ h => h)⟩
  rw [e1, e2]
  exact ho2

theorem arn_any (x base n : Nat) (v : Value) (xs : List Value) (w : World) (hx : isR x = true) (g : 128 ≤ x) (ho : w.ownsRow base 5 1 v n xs) (hn : n ≤ 1048576) (hb : base ≤ w.heap.size) :
    Calls Try.prog 27 #[v, .int .i32 x] w (AppTo base n v xs (enc x) w) := by
  have h3 := isR_lt hx
  have hx : x < 55296 ∨ (57343 < x ∧ x ≤ 1114111) := by simpa [isR] using hx
  by_cases h1 : x < 2048
  · exact arn_1 x base n v xs w h1 (by omega) ho hn hb
  · by_cases h2 : x < 65536
    · by_cases h2a : x < 55296
      · exact arn_2a x base n v xs w h2 (by omega) h2a ho hn hb
      · exact arn_2b x base n v xs w h2 (by omega) (by omega) ho hn hb
    · exact arn_3 x base n v xs w h3 (by omega) ho hn hb

set_option maxHeartbeats 400000 in
theorem ar_any (x base n : Nat) (v : Value) (xs : List Value) (w : World) (hx : isR x = true) (ho : w.ownsRow base 5 1 v n xs) (hn : n ≤ 1048576) (hb : base ≤ w.heap.size) :
    Calls Try.prog 23 #[v, .int .i32 x] w (AppTo base n v xs (enc x) w) := by
  have h3 := isR_lt hx
  have b1 : (x : Int) ≤ 2147483647 := by omega
  by_cases h : x < 128
  · have HE := hid (enc_0 h)
    have HO := hid ho
    have f0 : decide ((x : Int) ≤ 127) = true := by simp; omega
    have c0 : (x : Int) ≤ 127 := by omega
    clear ho h h3 hx
    go_enter Try.func23, Try.ntmps23
    go_wp2_with (at_builtin; refine wpList_appR u8s rfl rfl rfl rfl (HO.out.alloc _) (rd_lit w _ _) rfl (fun u hu => one_Ks .u8 [_] u hu) (by omega) (by omega) (by simp; omega) ?_; intro v2 w2 ho2 hf2 hq2)
    go_ret
    obtain ⟨e1, e2⟩ := HE.out
    refine ⟨v2, rfl, ?_, ((Fr.refl _ w).alloc _).trans hf2 (fun _ _ h => h)⟩
    rw [e1, e2]
    exact ho2
  · have f0 : decide ((x : Int) ≤ 127) = false := by simp; omega
    have HC := hid (arn_any x base n v xs w hx (by omega) ho hn hb)
    clear ho h h3 hx
    go_enter Try.func23, Try.ntmps23
    go_wp2_with (go_at_call 27; refine HC.out.mono ?_; rintro e w' ⟨v', rfl, h1, h2⟩)
    go_ret
    exact ⟨v', rfl, h1, h2⟩
end Go.Proofs.Ytnjfkpmbjncbnaa
