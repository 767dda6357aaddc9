/- Plain lemmas on lists. -/
import Derived.Laws.CopyOwn
namespace Go.Proofs.Ythggdemiddjlgaa

theorem splice_get? {α : Type} (xs cs : List α) (off : Nat) (h : off + cs.length ≤ xs.length) (i : Nat) :
    (splice xs off cs)[i]? = if i < off then xs[i]? else if i < off + cs.length then cs[i - off]? else xs[i]? := by
  unfold splice
  by_cases h1 : i < off
  · rw [if_pos h1, List.getElem?_append_left (by simp; omega), List.getElem?_take, if_pos h1]
  · rw [if_neg h1, List.getElem?_append_right (by simp; omega)]
    have e1 : (xs.take off).length = off := by simp; omega
    rw [e1]
    by_cases h2 : i < off + cs.length
    · rw [if_pos h2, List.getElem?_append_left (by omega)]
    · rw [if_neg h2, List.getElem?_append_right (by omega), List.getElem?_drop]
      congr 1; omega

theorem splice_set {α : Type} (xs cs : List α) (off : Nat) (x : α) (h : off + cs.length < xs.length) :
    (splice xs off cs).set (off + cs.length) x = splice xs off (cs ++ [x]) := by
  apply List.ext_getElem?
  intro i
  rw [List.getElem?_set, splice_get? _ _ _ (by omega), splice_get? _ _ _ (by simp; omega), length_splice _ _ _ (by omega)]
  simp only [List.length_append, List.length_cons, List.length_nil]
  by_cases h1 : i < off
  · rw [if_neg (by omega), if_pos h1, if_pos h1]
  · by_cases h2 : i < off + cs.length
    · rw [if_neg (by omega), if_neg h1, if_pos h2, if_neg h1, if_pos (by omega), List.getElem?_append_left (by omega)]
    · by_cases h3 : off + cs.length = i
      · subst h3
        rw [if_pos rfl, if_pos h, if_neg h1, if_pos (by omega), List.getElem?_append_right (by omega)]
        simp
      · rw [if_neg h3, if_neg h1, if_neg h2, if_neg h1, if_neg (by omega)]
theorem splice_take_set (ys : List Int) (T U N k : Nat) (f1 : T + N ≤ ys.length) (f2 : U + N ≤ ys.length) (hk : k < N) :
    (splice ys T ((ys.drop U).take k)).set (T + k) (ys[U + k]'(by omega)) = splice ys T ((ys.drop U).take (k + 1)) := by
  have hl : ((ys.drop U).take k).length = k := by simp; omega
  have := splice_set ys ((ys.drop U).take k) T (ys[U + k]'(by omega)) (by rw [hl]; omega)
  rw [hl] at this
  rw [this]
  congr 1
  rw [List.take_succ_eq_append_getElem (by simp; omega)]
  simp
theorem splice_nil {α : Type} (xs : List α) (off : Nat) : splice xs off [] = xs := by simp [splice]
end Go.Proofs.Ythggdemiddjlgaa
