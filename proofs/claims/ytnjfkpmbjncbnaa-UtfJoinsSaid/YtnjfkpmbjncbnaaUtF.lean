/- Contracts of the functions of chapter 03, part 6: Put and Cut. -/
import Derived.Test.YtnjfkpmbjncbnaaUtE
namespace Go.Proofs.Ytnjfkpmbjncbnaa
open Go.RowKit

def PutTo (o : Option (List UInt8)) (w : World) (e : Ending) (w' : World) : Prop :=
  e = .returned (.tuple #[.string ⟨(o.getD []).toArray⟩, .bool o.isSome]) ∧ Fr No w w'

theorem drop_getElem {α : Type} {xs : List α} {i : Nat} (h : i < xs.length) : xs.drop i = xs[i] :: xs.drop (i + 1) := List.drop_eq_getElem_cons h
theorem put_step {xs : List Int} {i x : Nat} (h : i < xs.length) (hx : xs[i] = (x : Int)) (hr : isR x = true) : putL (xs.drop i) = (putL (xs.drop (i + 1))).map (enc x ++ ·) := by
  rw [drop_getElem h, hx]
  simp [putL, okI, hr]
theorem put_stop {xs : List Int} {i : Nat} (h : i < xs.length) (hx : okI xs[i] = false) : putL (xs.drop i) = none := by
  rw [drop_getElem h]
  simp [putL, hx]
theorem okI_nat {c : Int} (h : okI c = true) : ∃ x : Nat, c = x ∧ isR x = true := by
  simp [okI] at h
  exact ⟨c.toNat, by omega, h.2⟩

theorem row_bytes {w : World} {base n : Nat} {e : TypeId} {v : Value} {acc l : List UInt8} (h : w.ownsRow base e 1 v (acc.length + n) (Ks .u8 (Bs acc) ++ Ks .u8 (Bs l))) (hn : n = l.length) : w.ownsRow base e 1 v (acc ++ l).length (Ks .u8 (Bs (acc ++ l))) := by
  subst hn
  rw [Bs_append, Ks_append, List.length_append]; exact h

set_option maxHeartbeats 800000 in
theorem put_any (A : Option Addr) (xs : List Int) (n c B : Nat) (w : World) (hn : xs.length = n) (hr : Rd w B A (Ks .i32 xs)) (hl : n ≤ 100000) :
    Calls Try.prog 15 #[.slice A n c] w (PutTo (putL xs) w) := by
  have HN := hid hn
  have HR := hid hr
  clear hn hr
  go_enter Try.func15, Try.ntmps15
  go_wp2
  go_loopw [4, 9] (fun v iv wr => ∃ (i : Nat) (acc : List UInt8), iv = .int .i64 i ∧ i ≤ n ∧ acc.length ≤ 4 * i ∧ Fr No w wr ∧ wr.ownsRow w.heap.size 5 1 v acc.length (Ks .u8 (Bs acc)) ∧ Hid (putL xs = (putL (xs.drop i)).map (acc ++ ·))) (fun _ iv _ => n - (intOf iv).toNat)
  case atStart => exact ⟨0, [], rfl, by omega, by simp, Fr.refl No w, World.ownsRow_nil _ _ _ _, by simp [Hid]⟩
  case round =>
    obtain ⟨i, acc, rfl, hi, hk, hf, ho, HC⟩ := hrel
    have hsz := hf.size
    by_cases hlt : i < n
    · have hlt' : Hid (i < xs.length) := by rw [Hid, HN.out]; exact hlt
      obtain ⟨b, o, rfl, _, hc⟩ := Ks_rd (HR.out.frNo hf) i hlt'.out
      have i0 : (0 : Int) ≤ i := by omega
      have O1 := hid ho
      clear ho
      generalize hx : xs[i]'(hlt'.out) = x at hc
      cases hok : okI x with
      | false =>
        have HD : Hid (putL (xs.drop i) = none) := put_stop hlt'.out (by rw [hx]; exact hok)
        clear hx
        go_wp2_with (go_at_call 22; refine (validRune_any _ _).mono ?_; rintro e w' ⟨rfl, rfl⟩)
        go_ret2
        have e : putL xs = none := by rw [HC.out, HD.out]; rfl
        rw [e]
        exact ⟨rfl, hf⟩
      | true =>
        obtain ⟨y, rfl, hy⟩ := okI_nat hok
        have HD := hid (put_step hlt'.out hx hy)
        have HL := enc_len y
        have HA := hid (ar_any y w.heap.size _ _ _ wr hy O1.out (by omega) hsz)
        clear hx
        go_wp2_with (first
          | (go_at_call 22; refine (validRune_any _ _).mono ?_; rintro e w' ⟨rfl, rfl⟩)
          | (go_at_call 23; refine HA.out.mono ?_; rintro e w2 ⟨v2, rfl, ho2, hf2⟩))
        go_roundw
        case rel =>
          refine ⟨i + 1, acc ++ enc y, by go_num, by omega, by simp; omega, hf.trans hf2 (fun k hk h => by have := (O1.out.lt k h.symm).1; omega), row_bytes ho2 rfl, ?_⟩
          rw [Hid, HC.out, HD.out, Option.map_map]
          congr 1
          funext x
          simp
        case measure => simp [intOf]; omega
    · obtain rfl : i = n := by omega
      obtain ⟨A', c', hv, hc, hr, _⟩ := row_form ho
      rw [len_Ks, len_Bs] at hv
      subst hv
      have hcv := conv_bytes 41 9 5 c' Try.underlying41 Try.underlying5 Try.underlying9 hr
      clear ho hr
      go_wp2
      go_ret2
      have e : putL xs = some acc := by rw [HC.out, List.drop_of_length_le (by rw [HN.out]; omega)]; simp [putL]
      rw [e]
      exact ⟨rfl, hf⟩

set_option maxHeartbeats 800000 in
theorem rput_any (A : Option Addr) (xs : List Int) (n c B : Nat) (w : World) (hn : xs.length = n) (hr : Rd w B A (Ks .i32 xs)) (hl : n ≤ 100000) (hwf : Hid (∀ x ∈ xs, -2147483648 ≤ x ∧ x ≤ 2147483647)) :
    Calls Try.prog 16 #[.slice A n c] w (PutTo (putL xs) w) := by
  have HN := hid hn
  have HR := hid hr
  clear hn hr
  go_enter Try.func16, Try.ntmps16
  go_wp2
  go_loopw [4, 5] (fun v iv wr => ∃ (i : Nat) (acc : List UInt8), iv = .int .i64 i ∧ i ≤ n ∧ acc.length ≤ 4 * i ∧ Fr No w wr ∧ wr.ownsRow w.heap.size 5 1 v acc.length (Ks .u8 (Bs acc)) ∧ Hid (putL xs = (putL (xs.drop i)).map (acc ++ ·))) (fun _ iv _ => n - (intOf iv).toNat)
  case atStart => exact ⟨0, [], rfl, by omega, by simp, Fr.refl No w, World.ownsRow_nil _ _ _ _, by simp [Hid]⟩
  case round =>
    obtain ⟨i, acc, rfl, hi, hk, hf, ho, HC⟩ := hrel
    have hsz := hf.size
    by_cases hlt : i < n
    · have hlt' : Hid (i < xs.length) := by rw [Hid, HN.out]; exact hlt
      obtain ⟨b, o, rfl, _, hc⟩ := Ks_rd (HR.out.frNo hf) i hlt'.out
      have i0 : (0 : Int) ≤ i := by omega
      have O1 := hid ho
      clear ho
      have hq := hwf.out _ (List.getElem_mem hlt'.out)
      generalize hx : xs[i]'(hlt'.out) = x at hc hq
      obtain ⟨q0, q1⟩ := hq
      cases hok : okI x with
      | false =>
        have HD : Hid (putL (xs.drop i) = none) := put_stop hlt'.out (by rw [hx]; exact hok)
        clear hx
        go_wp2_with (go_at_call 24; refine (is_any _ _).mono ?_; rintro e w' ⟨rfl, rfl⟩)
        go_ret2
        have e : putL xs = none := by rw [HC.out, HD.out]; rfl
        rw [e]
        exact ⟨rfl, hf⟩
      | true =>
        obtain ⟨y, rfl, hy⟩ := okI_nat hok
        have HD := hid (put_step hlt'.out hx hy)
        have HL := enc_len y
        have HY := hid (isR_lt hy)
        clear hx
        go_wp2_with (first
          | (go_at_call 24; refine (is_any _ _).mono ?_; rintro e w' ⟨rfl, rfl⟩)
          | (go_at_call 25; refine (rbytes_any _ _ HY.out).mono ?_; rintro e w2 ⟨A2, c2, rfl, hr2, hf2⟩)
          | (at_builtin; refine wpList_appR u8s rfl rfl rfl rfl (row_fr O1.out hf2 (fun _ _ h => h)) hr2 (by simp) (one_Ks _ _) (by omega) (by omega) (by have := hf2.size; omega) ?_; intro v3 w3 ho3 hf3 hq3))
        go_roundw
        case rel =>
          have hf3 : Fr (fun k => some k = u4.ownBlock) w2 w3 := hf3
          refine ⟨i + 1, acc ++ enc y, by go_num, by omega, by simp; omega, (hf.trans hf2 (fun _ _ h => h)).trans hf3 (fun k hk h => by have := (O1.out.lt k h.symm).1; omega), row_bytes ho3 rfl, ?_⟩
          rw [Hid, HC.out, HD.out, Option.map_map]
          congr 1
          funext x
          simp
        case measure => simp [intOf]; omega
    · obtain rfl : i = n := by omega
      obtain ⟨A', c', hv, hc, hr, _⟩ := row_form ho
      rw [len_Ks, len_Bs] at hv
      subst hv
      have hcv := conv_bytes 41 9 5 c' Try.underlying41 Try.underlying5 Try.underlying9 hr
      clear ho hr
      go_wp2
      go_ret2
      have e : putL xs = some acc := by rw [HC.out, List.drop_of_length_le (by rw [HN.out]; omega)]; simp [putL]
      rw [e]
      exact ⟨rfl, hf⟩
end Go.Proofs.Ytnjfkpmbjncbnaa
