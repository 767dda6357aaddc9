/- Plain facts on UTF-8: encoding and decoding are inverse, cutting keeps validity. No condition. -/
import Derived.Test.YthggdemiddjlgaaUtf
namespace Go.Proofs.Ythggdemiddjlgaa

def enc (x : Nat) : List UInt8 :=
  if x < 128 then [UInt8.ofNat x]
  else if x < 2048 then [UInt8.ofNat (192 + x / 64), UInt8.ofNat (128 + x % 64)]
  else if x < 65536 then [UInt8.ofNat (224 + x / 4096), UInt8.ofNat (128 + x / 64 % 64), UInt8.ofNat (128 + x % 64)]
  else [UInt8.ofNat (240 + x / 262144), UInt8.ofNat (128 + x / 4096 % 64), UInt8.ofNat (128 + x / 64 % 64), UInt8.ofNat (128 + x % 64)]
def okI (c : Int) : Bool := decide (0 ≤ c) && isR c.toNat
def putL : List Int → Option (List UInt8)
  | [] => some []
  | c :: l => if okI c then (putL l).map (enc c.toNat ++ ·) else none

theorem enc_len (x : Nat) : 1 ≤ (enc x).length ∧ (enc x).length ≤ 4 := by unfold enc; split <;> (try split) <;> (try split) <;> simp

theorem ofNat_toNat {n : Nat} (h : n < 256) : (UInt8.ofNat n).toNat = n := by simp; omega

theorem cb_ofNat (y : Nat) : cb (UInt8.ofNat (128 + y % 64)) = true ∧ (UInt8.ofNat (128 + y % 64)).toNat - 128 = y % 64 := by
  rw [cb, ofNat_toNat (by omega)]
  exact ⟨by simp; omega, by omega⟩

theorem isR_lt {x : Nat} (h : isR x = true) : x ≤ 1114111 := by simp [isR] at h; omega

theorem dec_enc (x : Nat) (r : List UInt8) (h : isR x = true) : dec (enc x ++ r) = some (x, (enc x).length) := by
  have hx := isR_lt h
  unfold enc
  split
  · simp only [List.cons_append, List.nil_append, dec]
    rw [ofNat_toNat (by omega), if_pos (by assumption)]; rfl
  · split
    · obtain ⟨k1, k2⟩ := cb_ofNat x
      simp only [List.cons_append, List.nil_append, dec]
      rw [ofNat_toNat (by omega), if_neg (by omega)]
      have e1 : headN (192 + x / 64) = 2 := by unfold headN; rw [if_pos (by omega)]
      have e2 : headX (192 + x / 64) = x / 64 := by unfold headX; rw [if_pos (by omega)]; omega
      have e3 : headL (192 + x / 64) = 128 := by unfold headL; rw [if_pos (by omega)]
      rw [e1, e2, e3, if_neg (by simp)]
      simp only [conts, k1, k2, if_true]
      have e4 : x / 64 * 64 + x % 64 = x := by omega
      rw [e4, if_neg (by simp [h]; omega)]
      rfl
    · split
      · obtain ⟨k1, k2⟩ := cb_ofNat x
        obtain ⟨j1, j2⟩ := cb_ofNat (x / 64)
        simp only [List.cons_append, List.nil_append, dec]
        rw [ofNat_toNat (by omega), if_neg (by omega)]
        have e1 : headN (224 + x / 4096) = 3 := by unfold headN; rw [if_neg (by omega), if_pos (by omega)]
        have e2 : headX (224 + x / 4096) = x / 4096 := by unfold headX; rw [if_neg (by omega), if_pos (by omega)]; omega
        have e3 : headL (224 + x / 4096) = 2048 := by unfold headL; rw [if_neg (by omega), if_pos (by omega)]
        rw [e1, e2, e3, if_neg (by simp)]
        simp only [conts, k1, k2, j1, j2, if_true]
        have e4 : (x / 4096 * 64 + x / 64 % 64) * 64 + x % 64 = x := by omega
        rw [e4, if_neg (by simp [h]; omega)]
        rfl
      · obtain ⟨k1, k2⟩ := cb_ofNat x
        obtain ⟨j1, j2⟩ := cb_ofNat (x / 64)
        obtain ⟨i1, i2⟩ := cb_ofNat (x / 4096)
        simp only [List.cons_append, List.nil_append, dec]
        rw [ofNat_toNat (by omega), if_neg (by omega)]
        have e1 : headN (240 + x / 262144) = 4 := by unfold headN; rw [if_neg (by omega), if_neg (by omega), if_pos (by omega)]
        have e2 : headX (240 + x / 262144) = x / 262144 := by unfold headX; rw [if_neg (by omega), if_neg (by omega), if_pos (by omega)]; omega
        have e3 : headL (240 + x / 262144) = 65536 := by unfold headL; rw [if_neg (by omega), if_neg (by omega), if_pos (by omega)]
        rw [e1, e2, e3, if_neg (by simp)]
        simp only [conts, k1, k2, j1, j2, i1, i2, if_true]
        have e4 : ((x / 262144 * 64 + x / 4096 % 64) * 64 + x / 64 % 64) * 64 + x % 64 = x := by omega
        rw [e4, if_neg (by simp [h]; omega)]
        rfl

theorem toNat_eq {b : UInt8} {n : Nat} (h : b.toNat = n) : UInt8.ofNat n = b := by subst h; simp

theorem enc_dec {l : List UInt8} {x n : Nat} (h : dec l = some (x, n)) : enc x = l.take n := by
  cases l with
  | nil => simp [dec] at h
  | cons b r =>
    have hb := b.toNat_lt
    simp only [dec] at h
    split at h
    · rename_i h0
      simp at h; obtain ⟨rfl, rfl⟩ := h
      rw [enc, if_pos h0]; simp
    · split at h
      · cases h
      · rename_i h1 h2
        split at h
        · cases h
        · rename_i y hy
          split at h
          · cases h
          · rename_i h3
            simp at h; obtain ⟨rfl, rfl⟩ := h
            by_cases c2 : 192 ≤ b.toNat ∧ b.toNat < 224
            · have e1 : headN b.toNat = 2 := by unfold headN; rw [if_pos c2]
              have e2 : headX b.toNat = b.toNat - 192 := by unfold headX; rw [if_pos c2]
              have e3 : headL b.toNat = 128 := by unfold headL; rw [if_pos c2]
              rw [e1, e2] at hy
              rw [e3] at h3
              rw [e1] at h2 ⊢
              match r with
              | [] => simp at h2
              | c1 :: r =>
                simp only [conts] at hy
                split at hy
                · rename_i k1
                  have k1 : 128 ≤ c1.toNat ∧ c1.toNat < 192 := by simpa [cb] using k1
                  simp at hy h3
                  rw [enc, if_neg (by omega), if_pos (by omega)]
                  simp only [List.take_succ_cons, List.take_zero, List.cons.injEq, and_true]
                  exact ⟨toNat_eq (by omega), toNat_eq (by omega)⟩
                · cases hy
            · by_cases c3 : 224 ≤ b.toNat ∧ b.toNat < 240
              · have e1 : headN b.toNat = 3 := by unfold headN; rw [if_neg c2, if_pos c3]
                have e2 : headX b.toNat = b.toNat - 224 := by unfold headX; rw [if_neg c2, if_pos c3]
                have e3 : headL b.toNat = 2048 := by unfold headL; rw [if_neg c2, if_pos c3]
                rw [e1, e2] at hy
                rw [e3] at h3
                rw [e1] at h2 ⊢
                match r with
                | [] => simp at h2
                | [c1] => simp at h2
                | c1 :: c2 :: r =>
                  simp only [conts] at hy
                  split at hy
                  · rename_i k1
                    have k1 : 128 ≤ c1.toNat ∧ c1.toNat < 192 := by simpa [cb] using k1
                    split at hy
                    · rename_i k2
                      have k2 : 128 ≤ c2.toNat ∧ c2.toNat < 192 := by simpa [cb] using k2
                      simp at hy h3
                      rw [enc, if_neg (by omega), if_neg (by omega), if_pos (by omega)]
                      simp only [List.take_succ_cons, List.take_zero, List.cons.injEq, and_true]
                      exact ⟨toNat_eq (by omega), toNat_eq (by omega), toNat_eq (by omega)⟩
                    · cases hy
                  · cases hy
              · by_cases c4 : 240 ≤ b.toNat ∧ b.toNat < 248
                · have e1 : headN b.toNat = 4 := by unfold headN; rw [if_neg c2, if_neg c3, if_pos c4]
                  have e2 : headX b.toNat = b.toNat - 240 := by unfold headX; rw [if_neg c2, if_neg c3, if_pos c4]
                  have e3 : headL b.toNat = 65536 := by unfold headL; rw [if_neg c2, if_neg c3, if_pos c4]
                  rw [e1, e2] at hy
                  rw [e3] at h3
                  rw [e1] at h2 ⊢
                  match r with
                  | [] => simp at h2
                  | [c1] => simp at h2
                  | [c1, c2] => simp at h2
                  | c1 :: c2 :: c3 :: r =>
                    simp only [conts] at hy
                    split at hy
                    · rename_i k1
                      have k1 : 128 ≤ c1.toNat ∧ c1.toNat < 192 := by simpa [cb] using k1
                      split at hy
                      · rename_i k2
                        have k2 : 128 ≤ c2.toNat ∧ c2.toNat < 192 := by simpa [cb] using k2
                        split at hy
                        · rename_i k3
                          have k3 : 128 ≤ c3.toNat ∧ c3.toNat < 192 := by simpa [cb] using k3
                          simp at hy h3
                          rw [enc, if_neg (by omega), if_neg (by omega), if_neg (by omega)]
                          simp only [List.take_succ_cons, List.take_zero, List.cons.injEq, and_true]
                          exact ⟨toNat_eq (by omega), toNat_eq (by omega), toNat_eq (by omega), toNat_eq (by omega)⟩
                        · cases hy
                      · cases hy
                    · cases hy
                · have e1 : headN b.toNat = 0 := by unfold headN; rw [if_neg c2, if_neg c3, if_neg c4]
                  exact absurd (.inl e1) h2

/-- The rune at the head, taken off and put before other bytes. -/
theorem dec_take {l m : List UInt8} {x n : Nat} (h : dec l = some (x, n)) : dec (l.take n ++ m) = some (x, n) := by
  obtain ⟨h1, h2, _, h4⟩ := dec_bd h
  have := dec_enc x m h4
  rw [enc_dec h] at this
  rw [this]; simp; omega
theorem dec_append {l : List UInt8} (m : List UInt8) {x n : Nat} (h : dec l = some (x, n)) : dec (l ++ m) = some (x, n) := by
  have := dec_take (m := l.drop n ++ m) h
  rwa [← List.append_assoc, List.take_append_drop] at this
theorem dec_some_ne {l : List UInt8} {p : Nat × Nat} (h : dec l = some p) : l ≠ [] := by rintro rfl; cases h
theorem wid_some {l : List UInt8} {x n : Nat} (h : dec l = some (x, n)) : wid l = n := by unfold wid; rw [h]

theorem runes_append : ∀ (f : Nat) (a b : List UInt8) (x y : List Int), a.length ≤ f → runes a = some x → runes b = some y →
    runes (a ++ b) = some (x ++ y) ∧ count (a ++ b) = count a + count b
  | 0, a, b, x, y, h, ha, hb => by
    have : a = [] := List.eq_nil_of_length_eq_zero (by omega)
    subst this
    rw [runes_nil] at ha; cases ha
    simpa [count_nil] using hb
  | f + 1, a, b, x, y, h, ha, hb => by
    by_cases h0 : a = []
    · subst h0
      rw [runes_nil] at ha; cases ha
      simpa [count_nil] using hb
    · rw [runes_eq h0] at ha
      cases hd : dec a with
      | none => rw [hd] at ha; cases ha
      | some p =>
        obtain ⟨c, n⟩ := p
        rw [hd] at ha
        obtain ⟨h1, h2, _⟩ := dec_bd hd
        simp only at ha
        cases hr : runes (a.drop n) with
        | none => rw [hr] at ha; cases ha
        | some z =>
          rw [hr] at ha
          simp at ha
          subst ha
          have hne : a ++ b ≠ [] := by simp [h0]
          have ih := runes_append f (a.drop n) b z y (by simp; omega) hr hb
          have hd2 := dec_append b hd
          have e : (a ++ b).drop n = a.drop n ++ b := by rw [List.drop_append_of_le_length h2]
          rw [runes_eq hne, hd2]
          simp only
          rw [e, ih.1, count_eq hne, wid_some hd2, e, ih.2, count_eq h0, wid_some hd]
          exact ⟨by simp, by omega⟩

theorem runes_enc (c : Nat) (h : isR c = true) : runes (enc c) = some [(c : Int)] ∧ count (enc c) = 1 := by
  have hd := dec_enc c [] h
  rw [List.append_nil] at hd
  have hne := dec_some_ne hd
  rw [runes_eq hne, hd, count_eq hne, wid_some hd]
  simp [runes_nil, count_nil]

theorem runes_put : ∀ (l : List Int) (bs : List UInt8), putL l = some bs → runes bs = some l ∧ count bs = l.length
  | [], bs, h => by simp [putL] at h; subst h; exact ⟨rfl, rfl⟩
  | c :: l, bs, h => by
    simp only [putL] at h
    split at h
    · rename_i hc
      simp [okI] at hc
      cases hp : putL l with
      | none => rw [hp] at h; cases h
      | some z =>
        rw [hp] at h
        simp at h
        subst h
        obtain ⟨h1, h2⟩ := runes_put l z hp
        obtain ⟨e1, e2⟩ := runes_enc c.toNat hc.2
        obtain ⟨r1, r2⟩ := runes_append _ (enc c.toNat) z _ _ (Nat.le_refl _) e1 h1
        rw [r1, r2, e2, h2]
        refine ⟨?_, by simp; omega⟩
        simp
        omega
    · cases h

theorem put_runes : ∀ (f : Nat) (s : List UInt8) (l : List Int), s.length ≤ f → runes s = some l → putL l = some s ∧ l.length ≤ s.length ∧ ∀ c ∈ l, 0 ≤ c ∧ c ≤ 1114111
  | 0, s, l, h, hr => by
    have : s = [] := List.eq_nil_of_length_eq_zero (by omega)
    subst this
    rw [runes_nil] at hr; cases hr; exact ⟨rfl, by simp, by simp⟩
  | f + 1, s, l, h, hr => by
    by_cases h0 : s = []
    · subst h0
      rw [runes_nil] at hr; cases hr; exact ⟨rfl, by simp, by simp⟩
    · rw [runes_eq h0] at hr
      cases hd : dec s with
      | none => rw [hd] at hr; cases hr
      | some p =>
        obtain ⟨c, n⟩ := p
        rw [hd] at hr
        obtain ⟨h1, h2, _, h4⟩ := dec_bd hd
        simp only at hr
        cases hz : runes (s.drop n) with
        | none => rw [hz] at hr; cases hr
        | some z =>
          rw [hz] at hr
          simp at hr
          subst hr
          obtain ⟨ih1, ih2, ih3⟩ := put_runes f (s.drop n) z (by simp; omega) hz
          have := isR_lt h4
          refine ⟨?_, by simp at *; omega, ?_⟩
          · simp only [putL]
            rw [if_pos (by simp [okI, h4]), ih1]
            simp [enc_dec hd]
          · intro c' hc'
            cases hc' with
            | head => omega
            | tail _ hm => exact ih3 c' hm

theorem cut_valid : ∀ (f : Nat) (s : List UInt8) (m : Int), s.length ≤ f → runes s ≠ none → runes (s.take (cutN s m)) ≠ none
  | 0, s, m, h, _ => by
    have : s = [] := List.eq_nil_of_length_eq_zero (by omega)
    subst this
    simp [runes_nil]
  | f + 1, s, m, h, hr => by
    by_cases h0 : s = []
    · subst h0; simp [runes_nil]
    · rw [cutN_eq m h0]
      split
      · rw [runes_eq h0] at hr
        cases hd : dec s with
        | none => rw [hd] at hr; exact absurd rfl hr
        | some p =>
          obtain ⟨c, n⟩ := p
          rw [hd] at hr
          obtain ⟨h1, h2, _, h4⟩ := dec_bd hd
          rw [wid_some hd]
          simp only at hr
          cases hz : runes (s.drop n) with
          | none => rw [hz] at hr; exact absurd rfl hr
          | some z =>
            have ih := cut_valid f (s.drop n) (m - n) (by simp; omega) (by rw [hz]; simp)
            have e : s.take (n + cutN (s.drop n) (m - n)) = s.take n ++ (s.drop n).take (cutN (s.drop n) (m - n)) := by
              rw [List.take_add]
            have hd2 := dec_take (m := (s.drop n).take (cutN (s.drop n) (m - n))) hd
            rw [e, runes_eq (dec_some_ne hd2), hd2]
            simp only
            rw [List.drop_left' (by simp; omega)]
            cases hq : runes ((s.drop n).take (cutN (s.drop n) (m - n))) with
            | none => exact absurd hq ih
            | some q => simp
      · simp [runes_nil]
theorem put_inj {l m : List Int} {a : List UInt8} (h1 : putL l = some a) (h2 : putL m = some a) : l = m := by
  have := (runes_put l a h1).1
  rw [(runes_put m a h2).1] at this
  exact (Option.some.inj this).symm
theorem put_len : ∀ (l : List Int) (bs : List UInt8), putL l = some bs → bs.length ≤ 4 * l.length
  | [], bs, h => by simp [putL] at h; subst h; simp
  | c :: l, bs, h => by
    simp only [putL] at h
    split at h
    · cases hp : putL l with
      | none => rw [hp] at h; cases h
      | some z =>
        rw [hp] at h
        simp at h
        subst h
        have := put_len l z hp
        have := enc_len c.toNat
        simp; omega
    · cases h
theorem runes_len {s : List UInt8} {l : List Int} (h : runes s = some l) : l.length ≤ s.length := (put_runes _ s l (Nat.le_refl _) h).2.1
theorem runes_count {s : List UInt8} {l : List Int} (h : runes s = some l) : count s = l.length := (runes_put l s (put_runes _ s l (Nat.le_refl _) h).1).2
theorem count_le : ∀ (f : Nat) (s : List UInt8), s.length ≤ f → count s ≤ s.length
  | 0, s, h => by
    have : s = [] := List.eq_nil_of_length_eq_zero (by omega)
    subst this; simp [count_nil]
  | f + 1, s, h => by
    by_cases h0 : s = []
    · subst h0; simp [count_nil]
    · have := wid_bd s h0
      rw [count_eq h0]
      have := count_le f (s.drop (wid s)) (by simp; omega)
      simp at this; omega
end Go.Proofs.Ythggdemiddjlgaa
