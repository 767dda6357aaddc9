/- Plain facts on UTF-8 over lists of bytes. No condition. -/
import GoSem.Core.Utf8
namespace Go.Proofs.Ythggdemiddjlgaa

def cb (b : UInt8) : Bool := decide (128 ≤ b.toNat ∧ b.toNat < 192)
def isR (n : Nat) : Bool := decide (n < 55296 ∨ (57343 < n ∧ n ≤ 1114111))
/-- How many bytes the rune has, its least value, the bits of its first byte. -/
def headN (b : Nat) : Nat := if 192 ≤ b ∧ b < 224 then 2 else if 224 ≤ b ∧ b < 240 then 3 else if 240 ≤ b ∧ b < 248 then 4 else 0
def headL (b : Nat) : Nat := if 192 ≤ b ∧ b < 224 then 128 else if 224 ≤ b ∧ b < 240 then 2048 else if 240 ≤ b ∧ b < 248 then 65536 else 0
def headX (b : Nat) : Nat := if 192 ≤ b ∧ b < 224 then b - 192 else if 224 ≤ b ∧ b < 240 then b - 224 else if 240 ≤ b ∧ b < 248 then b - 240 else 0
def conts : Nat → List UInt8 → Nat → Option Nat
  | 0, _, x => some x
  | _ + 1, [], _ => none
  | k + 1, c :: r, x => if cb c then conts k r (x * 64 + (c.toNat - 128)) else none
/-- The rune at the head of a list of bytes, and its length. -/
def dec : List UInt8 → Option (Nat × Nat)
  | [] => none
  | b :: r =>
    if b.toNat < 128 then some (b.toNat, 1)
    else if headN b.toNat = 0 ∨ r.length + 1 < headN b.toNat then none
    else match conts (headN b.toNat - 1) r (headX b.toNat) with
      | none => none
      | some x => if x < headL b.toNat ∨ isR x = false then none else some (x, headN b.toNat)
def wid (l : List UInt8) : Nat := match dec l with | some (_, n) => n | none => 1

theorem getB (s : ByteArray) (i : Nat) : s.get! i = s.data.toList.getD i 0 := by
  show s.data[i]! = _
  rw [Array.getElem!_eq_getD, Array.getD_eq_getD_getElem?, List.getD_eq_getElem?_getD, Array.getElem?_toList]
  rfl

theorem dec_bd {l : List UInt8} {c n : Nat} (h : dec l = some (c, n)) : 1 ≤ n ∧ n ≤ l.length ∧ n ≤ 4 ∧ isR c = true := by
  cases l with
  | nil => simp [dec] at h
  | cons b r =>
    simp only [dec] at h
    split at h
    · simp at h; obtain ⟨rfl, rfl⟩ := h; refine ⟨by omega, by simp, by omega, ?_⟩; simp [isR]; omega
    · split at h
      · cases h
      · rename_i h1 h2
        split at h
        · cases h
        · split at h
          · cases h
          · rename_i h3
            simp at h; obtain ⟨rfl, rfl⟩ := h
            have : headN b.toNat ≤ 4 := by unfold headN; split <;> (try split) <;> (try split) <;> omega
            refine ⟨by omega, by simp; omega, this, ?_⟩
            exact Bool.not_eq_false _ |>.mp fun hh => h3 (.inr hh)
theorem wid_bd (l : List UInt8) (h : l ≠ []) : 1 ≤ wid l ∧ wid l ≤ l.length ∧ wid l ≤ 4 := by
  unfold wid
  cases hd : dec l with
  | none => have := List.length_pos_iff.2 h; exact ⟨by simp, by simp; omega, by simp⟩
  | some p => obtain ⟨h1, h2, h3, _⟩ := dec_bd hd; exact ⟨h1, h2, h3⟩

theorem div_cb (b : UInt8) : (b.toNat / 64 == 2) = cb b := by
  have := b.toNat_lt
  simp only [cb]
  rw [Bool.eq_iff_iff]; simp; omega

theorem fin_eq (y n L : Nat) (p : Prop) [Decidable p] (hp : p ↔ L ≤ y ∧ isR y = true) : (if p then (y, n) else (65533, 1)) = (if y < L ∨ isR y = false then none else some (y, n)).getD (65533, 1) := by
  by_cases h : p
  · have := hp.1 h
    rw [if_pos h, if_neg (by intro h'; rcases h' with h' | h'; omega; simp [this.2] at h')]; rfl
  · rw [if_neg h, if_pos]; rfl
    by_cases h1 : L ≤ y
    · right; cases h2 : isR y with
      | false => rfl
      | true => exact absurd (hp.2 ⟨h1, h2⟩) h
    · left; omega
theorem valid_isR (y : Nat) : Utf8.valid (y : Int) = isR y := by
  simp only [isR, Utf8.valid]; rw [Bool.eq_iff_iff]; simp; omega

theorem decode_dec (s : ByteArray) (i : Nat) (hi : i < s.size) : Utf8.decode s i = (dec (s.data.toList.drop i)).getD (65533, 1) := by
  have hz : s.data.toList.length = s.size := by simp
  obtain ⟨l, hl⟩ : ∃ l, s.data.toList.drop i = l := ⟨_, rfl⟩
  have hlen : l.length = s.size - i := by rw [← hl]; simp
  have hg : ∀ k, s.get! (i + k) = l.getD k 0 := fun k => by
    rw [getB, ← hl]; simp [List.getD_eq_getElem?_getD, List.getElem?_drop]
  have hc : ∀ k, decide (i + k < s.size) = decide (k < l.length) := fun k => by rw [hlen]; simp; omega
  rw [hl]
  unfold Utf8.decode
  simp only [hg, hc, div_cb]
  clear hg hc hl hz
  match l, hlen with
  | [], h => simp at h; omega
  | b :: r, _ =>
    have hb := b.toNat_lt
    simp only [List.getD_cons_zero]
    by_cases h0 : b.toNat < 128
    · simp [dec, h0]
    · have e6 : (b.toNat / 32 == 6) = decide (192 ≤ b.toNat ∧ b.toNat < 224) := by rw [Bool.eq_iff_iff]; simp; omega
      have e14 : (b.toNat / 16 == 14) = decide (224 ≤ b.toNat ∧ b.toNat < 240) := by rw [Bool.eq_iff_iff]; simp; omega
      have e30 : (b.toNat / 8 == 30) = decide (240 ≤ b.toNat ∧ b.toNat < 248) := by rw [Bool.eq_iff_iff]; simp; omega
      rw [e6, e14, e30]
      by_cases h2 : 192 ≤ b.toNat ∧ b.toNat < 224
      · have h3 : ¬ (224 ≤ b.toNat ∧ b.toNat < 240) := by omega
        have h4 : ¬ (240 ≤ b.toNat ∧ b.toNat < 248) := by omega
        match r with
        | [] => simp [dec, h0, h2, h3, h4, headN, Utf8.runeError]
        | c1 :: r =>
          by_cases k1 : cb c1
          · have k1' : 128 ≤ c1.toNat ∧ c1.toNat < 192 := by simpa [cb] using k1
            have e1 : b.toNat % 32 * 64 + c1.toNat % 64 = (b.toNat - 192) * 64 + (c1.toNat - 128) := by omega
            have e2 : isR ((b.toNat - 192) * 64 + (c1.toNat - 128)) = true := by simp [isR]; omega
            simp only [List.getD_cons_zero, List.getD_cons_succ, e1, valid_isR]
            simp [dec, h0, h2, headN, headX, headL, conts, k1, Utf8.runeError]
            generalize (b.toNat - 192) * 64 + (c1.toNat - 128) = y at e2
            rw [if_neg (show ¬ r.length + 1 + 1 < 2 by omega)]
            exact fin_eq y 2 128 (128 ≤ y) (by simp [e2])
          · simp [dec, h0, h2, h3, h4, headN, headX, headL, conts, k1, Utf8.runeError]
      · by_cases h3 : 224 ≤ b.toNat ∧ b.toNat < 240
        · have h4 : ¬ (240 ≤ b.toNat ∧ b.toNat < 248) := by omega
          match r with
          | [] => simp [dec, h0, h2, h3, h4, headN, Utf8.runeError]
          | [c1] => simp [dec, h0, h2, h3, h4, headN, Utf8.runeError]
          | c1 :: c2 :: r =>
            by_cases k1 : cb c1
            · by_cases k2 : cb c2
              · have k1' : 128 ≤ c1.toNat ∧ c1.toNat < 192 := by simpa [cb] using k1
                have k2' : 128 ≤ c2.toNat ∧ c2.toNat < 192 := by simpa [cb] using k2
                have e1 : b.toNat % 16 * 4096 + c1.toNat % 64 * 64 + c2.toNat % 64 = ((b.toNat - 224) * 64 + (c1.toNat - 128)) * 64 + (c2.toNat - 128) := by omega
                simp only [List.getD_cons_zero, List.getD_cons_succ, e1, valid_isR]
                simp [dec, h0, h2, h3, headN, headX, headL, conts, k1, k2, Utf8.runeError, valid_isR]
                generalize ((b.toNat - 224) * 64 + (c1.toNat - 128)) * 64 + (c2.toNat - 128) = y
                rw [if_neg (show ¬ r.length + 1 + 1 + 1 < 3 by omega)]
                generalize hL : 2048 = L
                exact fin_eq y 3 L _ Iff.rfl
              · simp [dec, h0, h2, h3, h4, headN, headX, headL, conts, k1, k2, Utf8.runeError]
            · simp [dec, h0, h2, h3, h4, headN, headX, headL, conts, k1, Utf8.runeError]
        · by_cases h4 : 240 ≤ b.toNat ∧ b.toNat < 248
          · match r with
            | [] => simp [dec, h0, h2, h3, h4, headN, Utf8.runeError]
            | [c1] => simp [dec, h0, h2, h3, h4, headN, Utf8.runeError]
            | [c1, c2] => simp [dec, h0, h2, h3, h4, headN, Utf8.runeError]
            | c1 :: c2 :: c3 :: r =>
              by_cases k1 : cb c1
              · by_cases k2 : cb c2
                · by_cases k3 : cb c3
                  · have k1' : 128 ≤ c1.toNat ∧ c1.toNat < 192 := by simpa [cb] using k1
                    have k2' : 128 ≤ c2.toNat ∧ c2.toNat < 192 := by simpa [cb] using k2
                    have k3' : 128 ≤ c3.toNat ∧ c3.toNat < 192 := by simpa [cb] using k3
                    have e1 : b.toNat % 8 * 262144 + c1.toNat % 64 * 4096 + c2.toNat % 64 * 64 + c3.toNat % 64 = (((b.toNat - 240) * 64 + (c1.toNat - 128)) * 64 + (c2.toNat - 128)) * 64 + (c3.toNat - 128) := by omega
                    simp only [List.getD_cons_zero, List.getD_cons_succ, e1, valid_isR]
                    simp [dec, h0, h2, h3, h4, headN, headX, headL, conts, k1, k2, k3, Utf8.runeError, valid_isR]
                    generalize (((b.toNat - 240) * 64 + (c1.toNat - 128)) * 64 + (c2.toNat - 128)) * 64 + (c3.toNat - 128) = y
                    rw [if_neg (show ¬ r.length + 1 + 1 + 1 + 1 < 4 by omega)]
                    generalize hL : 65536 = L
                    exact fin_eq y 4 L _ Iff.rfl
                  · simp [dec, h0, h2, h3, h4, headN, headX, headL, conts, k1, k2, k3, Utf8.runeError]
                · simp [dec, h0, h2, h3, h4, headN, headX, headL, conts, k1, k2, Utf8.runeError]
              · simp [dec, h0, h2, h3, h4, headN, headX, headL, conts, k1, Utf8.runeError]
          · simp [dec, h0, h2, h3, h4, headN, Utf8.runeError]

theorem decode_wid (s : ByteArray) (i : Nat) (hi : i < s.size) : (Utf8.decode s i).2 = wid (s.data.toList.drop i) := by
  rw [decode_dec s i hi]
  unfold wid
  cases dec (s.data.toList.drop i) <;> rfl

/-- The runes of a list of bytes; f: fuel. -/
def runesF : Nat → List UInt8 → Option (List Int)
  | 0, _ => some []
  | f + 1, l => match l with
    | [] => some []
    | _ :: _ => match dec l with
      | none => none
      | some (c, n) => (runesF f (l.drop n)).map ((c : Int) :: ·)
def runes (l : List UInt8) : Option (List Int) := runesF l.length l
theorem runesF_ge : ∀ (f g : Nat) (l : List UInt8), l.length ≤ f → l.length ≤ g → runesF f l = runesF g l
  | 0, 0, _, _, _ => rfl
  | 0, g + 1, l, h, _ => by
    have : l = [] := List.eq_nil_of_length_eq_zero (by omega)
    subst this; rfl
  | f + 1, 0, l, _, h => by
    have : l = [] := List.eq_nil_of_length_eq_zero (by omega)
    subst this; rfl
  | f + 1, g + 1, l, hf, hg => by
    cases l with
    | nil => rfl
    | cons b r =>
      simp only [runesF]
      cases hd : dec (b :: r) with
      | none => rfl
      | some p =>
        obtain ⟨c, n⟩ := p
        obtain ⟨h1, h2, _⟩ := dec_bd hd
        simp only
        rw [runesF_ge f g _ (by simp at *; omega) (by simp at *; omega)]
theorem runes_nil : runes [] = some [] := rfl
theorem runes_eq {l : List UInt8} (h : l ≠ []) : runes l = match dec l with | none => none | some (c, n) => (runes (l.drop n)).map ((c : Int) :: ·) := by
  cases l with
  | nil => exact absurd rfl h
  | cons b r =>
    unfold runes
    simp only [List.length_cons, runesF]
    cases hd : dec (b :: r) with
    | none => rfl
    | some p =>
      obtain ⟨c, n⟩ := p
      obtain ⟨h1, h2, _⟩ := dec_bd hd
      simp only
      rw [runesF_ge r.length _ _ (by simp at *; omega) (Nat.le_refl _)]

def countF : Nat → List UInt8 → Nat
  | 0, _ => 0
  | f + 1, l => match l with
    | [] => 0
    | _ :: _ => 1 + countF f (l.drop (wid l))
def count (l : List UInt8) : Nat := countF l.length l
theorem countF_ge : ∀ (f g : Nat) (l : List UInt8), l.length ≤ f → l.length ≤ g → countF f l = countF g l
  | 0, 0, _, _, _ => rfl
  | 0, g + 1, l, h, _ => by
    have : l = [] := List.eq_nil_of_length_eq_zero (by omega)
    subst this; rfl
  | f + 1, 0, l, _, h => by
    have : l = [] := List.eq_nil_of_length_eq_zero (by omega)
    subst this; rfl
  | f + 1, g + 1, l, hf, hg => by
    cases l with
    | nil => rfl
    | cons b r =>
      simp only [countF]
      have := wid_bd (b :: r) (by simp)
      rw [countF_ge f g _ (by simp at *; omega) (by simp at *; omega)]
theorem count_nil : count [] = 0 := rfl
theorem count_eq {l : List UInt8} (h : l ≠ []) : count l = 1 + count (l.drop (wid l)) := by
  cases l with
  | nil => exact absurd rfl h
  | cons b r =>
    unfold count
    simp only [List.length_cons, countF]
    have := wid_bd (b :: r) (by simp)
    rw [countF_ge r.length _ _ (by simp at *; omega) (Nat.le_refl _)]

def cutF : Nat → List UInt8 → Int → Nat
  | 0, _, _ => 0
  | f + 1, l, m => match l with
    | [] => 0
    | _ :: _ => if (wid l : Int) ≤ m then wid l + cutF f (l.drop (wid l)) (m - wid l) else 0
def cutN (l : List UInt8) (m : Int) : Nat := cutF l.length l m
theorem cutF_ge : ∀ (f g : Nat) (l : List UInt8) (m : Int), l.length ≤ f → l.length ≤ g → cutF f l m = cutF g l m
  | 0, 0, _, _, _, _ => rfl
  | 0, g + 1, l, _, h, _ => by
    have : l = [] := List.eq_nil_of_length_eq_zero (by omega)
    subst this; rfl
  | f + 1, 0, l, _, _, h => by
    have : l = [] := List.eq_nil_of_length_eq_zero (by omega)
    subst this; rfl
  | f + 1, g + 1, l, m, hf, hg => by
    cases l with
    | nil => rfl
    | cons b r =>
      simp only [cutF]
      have := wid_bd (b :: r) (by simp)
      rw [cutF_ge f g _ _ (by simp at *; omega) (by simp at *; omega)]
theorem cutN_nil (m : Int) : cutN [] m = 0 := rfl
theorem cutN_eq {l : List UInt8} (m : Int) (h : l ≠ []) : cutN l m = if (wid l : Int) ≤ m then wid l + cutN (l.drop (wid l)) (m - wid l) else 0 := by
  cases l with
  | nil => exact absurd rfl h
  | cons b r =>
    unfold cutN
    simp only [List.length_cons, cutF]
    have := wid_bd (b :: r) (by simp)
    rw [cutF_ge r.length _ _ _ (by simp at *; omega) (Nat.le_refl _)]
theorem cut_le : ∀ (f : Nat) (l : List UInt8) (m : Int), l.length ≤ f → cutN l m ≤ l.length ∧ ((cutN l m : Int) ≤ m ∨ cutN l m = 0)
  | 0, l, m, h => by
    have : l = [] := List.eq_nil_of_length_eq_zero (by omega)
    subst this; exact ⟨by simp [cutN_nil], .inr rfl⟩
  | f + 1, l, m, h => by
    by_cases h0 : l = []
    · subst h0; exact ⟨by simp [cutN_nil], .inr rfl⟩
    · have hw := wid_bd l h0
      rw [cutN_eq m h0]
      split
      · have ih := cut_le f (l.drop (wid l)) (m - wid l) (by simp; omega)
        simp at ih
        exact ⟨by omega, by omega⟩
      · exact ⟨by omega, .inr rfl⟩
theorem cut_all : ∀ (f : Nat) (l : List UInt8) (m : Int), l.length ≤ f → (l.length : Int) ≤ m → cutN l m = l.length
  | 0, l, m, h, _ => by
    have : l = [] := List.eq_nil_of_length_eq_zero (by omega)
    subst this; rfl
  | f + 1, l, m, h, hm => by
    by_cases h0 : l = []
    · subst h0; rfl
    · have hw := wid_bd l h0
      rw [cutN_eq m h0, if_pos (by omega), cut_all f (l.drop (wid l)) (m - wid l) (by simp; omega) (by simp; omega)]
      simp; omega
end Go.Proofs.Ythggdemiddjlgaa
