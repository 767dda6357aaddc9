/- Chapter 46: plain law: critical edges of lists of targets. -/
import Derived.Test.YtiafkakkbbclhaaSlA
namespace Go.Proofs.Ytiafkakkbbclhaa

def isReal (n : Nat) (t : Int) : Bool := decide (0 ≤ t) && decide (t < n)
def cntT (T : List (List Int)) (t : Int) : Nat := (T.map fun l => l.count t).sum
def outsR (n : Nat) (l : List Int) : Nat := l.countP (isReal n)
def pk (T : List (List Int)) (l : List Int) (j : Nat) : Bool := isReal T.length (l.getD j 0) && decide (2 ≤ cntT T (l.getD j 0))
def rowC (T : List (List Int)) (b : Nat) (l : List Int) (k : Nat) : List (Nat × Nat) := ((List.range k).filter (pk T l)).map fun j => (b, j)
def rowD (T : List (List Int)) (b k : Nat) : List (Nat × Nat) := if 2 ≤ outsR T.length (T.getD b []) then rowC T b (T.getD b []) k else []
def critR (T : List (List Int)) : Nat → List (Nat × Nat)
  | 0 => []
  | b + 1 => critR T b ++ rowD T b (T.getD b []).length
def crit (T : List (List Int)) : List (Nat × Nat) := critR T T.length
theorem rowC_succ (T : List (List Int)) (b : Nat) (l : List Int) (k : Nat) : rowC T b l (k + 1) = rowC T b l k ++ if pk T l k then [(b, k)] else [] := by
  unfold rowC
  rw [List.range_succ, List.filter_append, List.map_append]
  congr 1
  by_cases h : pk T l k <;> simp [h]
theorem rowD_succ (T : List (List Int)) (b k : Nat) : rowD T b (k + 1) = rowD T b k ++ if 2 ≤ outsR T.length (T.getD b []) ∧ pk T (T.getD b []) k = true then [(b, k)] else [] := by
  unfold rowD
  by_cases h : 2 ≤ outsR T.length (T.getD b [])
  · rw [if_pos h, if_pos h, rowC_succ]
    by_cases hp : pk T (T.getD b []) k = true
    · rw [if_pos hp, if_pos ⟨h, hp⟩]
    · rw [if_neg hp, if_neg (fun k => hp k.2)]
  · rw [if_neg h, if_neg h, if_neg (fun k => h k.1)]; rfl
theorem rowC_mem {T : List (List Int)} {b : Nat} {l : List Int} {k : Nat} {p : Nat × Nat} : p ∈ rowC T b l k ↔ p.1 = b ∧ p.2 < k ∧ pk T l p.2 = true := by
  unfold rowC
  rw [List.mem_map]
  constructor
  · rintro ⟨j, hj, rfl⟩
    rw [List.mem_filter, List.mem_range] at hj
    exact ⟨rfl, hj.1, hj.2⟩
  · rintro ⟨h1, h2, h3⟩
    exact ⟨p.2, by rw [List.mem_filter, List.mem_range]; exact ⟨h2, h3⟩, by rw [← h1]⟩
theorem rowD_mem {T : List (List Int)} {b k : Nat} {p : Nat × Nat} : p ∈ rowD T b k ↔ p.1 = b ∧ p.2 < k ∧ 2 ≤ outsR T.length (T.getD p.1 []) ∧ pk T (T.getD p.1 []) p.2 = true := by
  unfold rowD
  split
  · rename_i h
    rw [rowC_mem]
    constructor
    · rintro ⟨h1, h2, h3⟩; subst h1; exact ⟨rfl, h2, h, h3⟩
    · rintro ⟨h1, h2, _, h3⟩; subst h1; exact ⟨rfl, h2, h3⟩
  · rename_i h
    constructor
    · intro h; simp at h
    · rintro ⟨h1, h2, h3, _⟩; subst h1; exact absurd h3 h
theorem critR_mem {T : List (List Int)} {b : Nat} {p : Nat × Nat} : p ∈ critR T b ↔ p.1 < b ∧ p.2 < (T.getD p.1 []).length ∧ 2 ≤ outsR T.length (T.getD p.1 []) ∧ pk T (T.getD p.1 []) p.2 = true := by
  induction b with
  | zero => simp [critR]
  | succ b ih =>
    rw [critR, List.mem_append, ih, rowD_mem]
    constructor
    · rintro (⟨h1, h2⟩ | ⟨h1, h2, h3⟩)
      · exact ⟨by omega, h2⟩
      · subst h1; exact ⟨by omega, h2, h3⟩
    · rintro ⟨h1, h2, h3⟩
      by_cases h : p.1 = b
      · subst h; exact .inr ⟨rfl, h2, h3⟩
      · exact .inl ⟨by omega, h2, h3⟩
theorem rowC_nodup (T : List (List Int)) (b : Nat) (l : List Int) (k : Nat) : (rowC T b l k).Nodup := by
  induction k with
  | zero => simp [rowC]
  | succ k ih =>
    rw [rowC_succ, List.nodup_append]
    refine ⟨ih, by split <;> simp, fun p hp q hq => ?_⟩
    have h1 := (rowC_mem.1 hp).2.1
    split at hq
    · simp at hq; subst hq; intro h; subst h; simp at h1
    · simp at hq
theorem critR_nodup (T : List (List Int)) (b : Nat) : (critR T b).Nodup := by
  induction b with
  | zero => simp [critR]
  | succ b ih =>
    rw [critR, List.nodup_append]
    refine ⟨ih, by unfold rowD; split; exact rowC_nodup ..; simp, fun p hp q hq => ?_⟩
    have h1 := (critR_mem.1 hp).1
    have h2 := (rowD_mem.1 hq).1
    intro h; subst h; omega
theorem critR_len (T : List (List Int)) : ∀ b : Nat, (critR T b).length ≤ ((T.take b).map List.length).sum := by
  intro b
  induction b with
  | zero => simp [critR]
  | succ b ih =>
    have h : (rowD T b (T.getD b []).length).length ≤ (T.getD b []).length := by
      unfold rowD; split
      · unfold rowC; rw [List.length_map]; exact Nat.le_trans (List.length_filter_le ..) (by simp)
      · simp
    rw [critR, List.length_append]
    by_cases hb : b < T.length
    · have e : T.getD b [] = T[b] := by rw [List.getD_eq_getElem?_getD, List.getElem?_eq_getElem hb]; rfl
      rw [e] at h ⊢
      rw [List.take_succ_eq_append_getElem hb, List.map_append, List.sum_append, List.map_cons, List.map_nil, List.sum_cons, List.sum_nil]
      omega
    · have e : T.getD b [] = [] := by rw [List.getD_eq_getElem?_getD, List.getElem?_eq_none (by omega)]; rfl
      rw [e] at h ⊢
      rw [List.take_of_length_le (by omega : T.length ≤ b)] at ih
      rw [List.take_of_length_le (by omega)]
      simp only [List.length_nil] at h ⊢
      omega

/-- The counts. -/
theorem cntT_append (T U : List (List Int)) (t : Int) : cntT (T ++ U) t = cntT T t + cntT U t := by simp [cntT]
theorem count_set_ (l : List Int) (k : Nat) (x t : Int) (hk : k < l.length) : (l.set k x).count t + (if l[k] = t then 1 else 0) = l.count t + (if x = t then 1 else 0) := by
  induction l generalizing k with
  | nil => simp at hk
  | cons a l ih =>
    cases k with
    | zero => simp only [List.set_cons_zero, List.count_cons, List.getElem_cons_zero, beq_iff_eq]; omega
    | succ k =>
      have := ih k (by simpa using hk)
      simp only [List.set_cons_succ, List.count_cons, List.getElem_cons_succ] at *
      omega
theorem cntT_set (T : List (List Int)) (b : Nat) (l : List Int) (t : Int) (hb : b < T.length) : cntT (T.set b l) t + T[b].count t = cntT T t + l.count t := by
  induction T generalizing b with
  | nil => simp at hb
  | cons a T ih =>
    cases b with
    | zero => simp [cntT]; omega
    | succ b =>
      have := ih b (by simpa using hb)
      simp only [cntT, List.set_cons_succ, List.map_cons, List.sum_cons, List.getElem_cons_succ] at *
      omega
/-- One step of the split: an edge is redirected to a new block. -/
def stepT (T : List (List Int)) (x : Int) (p : Nat × Nat) : List (List Int) := T.set p.1 ((T.getD p.1 []).set p.2 x) ++ [[(T.getD p.1 []).getD p.2 0]]
theorem stepT_cnt (T : List (List Int)) (x : Int) (p : Nat × Nat) (t : Int) (h1 : p.1 < T.length) (h2 : p.2 < (T.getD p.1 []).length) : cntT (stepT T x p) t = cntT T t + if x = t then 1 else 0 := by
  have e1 : T.getD p.1 [] = T[p.1] := by rw [List.getD_eq_getElem?_getD, List.getElem?_eq_getElem h1]; rfl
  rw [stepT, cntT_append, e1]
  rw [e1] at h2
  have a := cntT_set T p.1 (T[p.1].set p.2 x) t h1
  have b := count_set_ T[p.1] p.2 x t h2
  have e2 : T[p.1].getD p.2 0 = T[p.1][p.2] := by rw [List.getD_eq_getElem?_getD, List.getElem?_eq_getElem h2]; rfl
  have c : cntT [[T[p.1].getD p.2 0]] t = if T[p.1][p.2] = t then 1 else 0 := by
    rw [e2]
    simp only [cntT, List.map_cons, List.map_nil, List.sum_cons, List.sum_nil, List.count_cons, List.count_nil, beq_iff_eq]
    omega
  rw [c]
  omega
theorem countP_set_ (q : Int → Bool) (l : List Int) (k : Nat) (x : Int) (hk : k < l.length) (h : q x = q l[k]) : (l.set k x).countP q = l.countP q := by
  induction l generalizing k with
  | nil => simp at hk
  | cons a l ih =>
    cases k with
    | zero => simp only [List.getElem_cons_zero] at h; simp only [List.set_cons_zero, List.countP_cons, h]
    | succ k =>
      have := ih k (by simpa using hk) (by simpa using h)
      simp only [List.set_cons_succ, List.countP_cons, this]
end Go.Proofs.Ytiafkakkbbclhaa
