/- Rows of which each element rests on a set of its own; one cell written anew. No condition. -/
import Derived.Test.YthggdemiddjlgaaStF
namespace Go.Proofs.Ythggdemiddjlgaa
open Go.RowKit

def CssF {α : Type} (t : Ty α) (w : World) (S : Nat → Nat → Prop) (css : List (List Value)) (xs : List α) : Prop :=
  css.length = xs.length ∧ ∀ (i : Nat) (c : List Value) (x : α), css[i]? = some c → xs[i]? = some x → t.rd w (S i) c x
theorem flat_set1 {sz : Nat} : ∀ (css : List (List Value)) (i m : Nat) (d : List Value) (u : Value), (∀ c ∈ css, c.length = sz) → css[i]? = some d → m < sz → css.flatten.set (i * sz + m) u = (css.set i (d.set m u)).flatten
  | [], i, m, d, u, _, h, _ => by simp at h
  | c :: css, 0, m, d, u, hl, h, hm => by
    simp only [List.getElem?_cons_zero, Option.some.injEq] at h
    subst h
    have := hl c (by simp)
    rw [List.set_cons_zero, List.flatten_cons, List.flatten_cons, Nat.zero_mul, Nat.zero_add, List.set_append_left _ _ (by omega)]
  | c :: css, i + 1, m, d, u, hl, h, hm => by
    simp only [List.getElem?_cons_succ] at h
    have hc := hl c (by simp)
    rw [List.set_cons_succ, List.flatten_cons, List.flatten_cons, List.set_append_right _ _ (by rw [Nat.add_mul]; omega), show (i + 1) * sz + m - c.length = i * sz + m by rw [Nat.add_mul]; omega,
      flat_set1 css i m d u (fun c hc => hl c (by simp [hc])) h hm]

section
variable {w : World} {base n c g sz : Nat} {e : TypeId} {css : List (List Value)} {i : Nat} {d : List Value}
theorem own_get (h : w.ownsRow base e sz (.slice (some ⟨g, 0, none⟩) n c) n css.flatten) (hl : ∀ c ∈ css, c.length = sz) (hd : css[i]? = some d) {j : Nat} {u : Value} (hu : d[j]? = some u) : w.cell? ⟨g, i * sz + j, none⟩ = some u := by
  have hf := flat_get hl hd hu
  rcases h.2 with ⟨hv, _⟩ | ⟨g', cap, cur, hv, hb, hg, k1, k2, k3, k4⟩
  · cases hv
  · injection hv with e1 e2 e3
    injection e1 with e1
    injection e1 with e1 _ _
    subst e1
    rw [Blk.cell (t := e) (cs := cur) hg, ← Array.getElem?_toList]
    rw [← k4, List.getElem?_take] at hf
    split at hf
    · exact hf
    · cases hf
theorem own_frozen (h : w.ownsRow base e sz (.slice (some ⟨g, 0, none⟩) n c) n css.flatten) (k : Nat) : w.frozen? ⟨g, k, none⟩ = false := by
  rcases h.2 with ⟨hv, _⟩ | ⟨g', cap, cur, hv, hb, hg, k1, k2, k3, k4⟩
  · cases hv
  · injection hv with e1 e2 e3
    injection e1 with e1
    injection e1 with e1 _ _
    subst e1
    exact Blk.frozen (t := e) (cs := cur) hg k
theorem own_set (h : w.ownsRow base e sz (.slice (some ⟨g, 0, none⟩) n c) n css.flatten) (hl : ∀ c ∈ css, c.length = sz) (hd : css[i]? = some d) {m : Nat} (hm : m < sz) (u : Value) :
    (w.setCell ⟨g, i * sz + m, none⟩ u).ownsRow base e sz (.slice (some ⟨g, 0, none⟩) n c) n (css.set i (d.set m u)).flatten := by
  have hfl := flat_set1 css i m d u hl hd hm
  rw [← hfl]
  refine ⟨by rw [List.length_set]; exact h.1, ?_⟩
  rcases h.2 with ⟨hv, _⟩ | ⟨g', cap, cur, hv, hb, hg, k1, k2, k3, k4⟩
  · cases hv
  · injection hv with e1 e2 e3
    injection e1 with e1
    injection e1 with e1 _ _
    subst e1 e3
    refine .inr ⟨g, c, cur.setIfInBounds (i * sz + m) u, rfl, hb, Blk.set_ (t := e) (cs := cur) hg _ _, k1, k2, by simpa using k3, ?_⟩
    rw [Array.toList_setIfInBounds, List.take_set, k4]
theorem own_fr {w' : World} {M : Nat → Prop} {xs : List Value} (h : w.ownsRow base e sz (.slice (some ⟨g, 0, none⟩) n c) n xs) (f : Fr M w w') (hg : ¬ M g) : w'.ownsRow base e sz (.slice (some ⟨g, 0, none⟩) n c) n xs := by
  refine ⟨h.1, ?_⟩
  rcases h.2 with ⟨hv, _⟩ | ⟨g', cap, cur, hv, hb, hg', k⟩
  · cases hv
  · have hv0 := hv
    injection hv with e1 e2 e3
    injection e1 with e1
    injection e1 with e1 _ _
    subst e1
    exact .inr ⟨g, cap, cur, hv0, hb, Blk.fr (t := e) (cs := cur) hg' f hg, k⟩
theorem own_blk {xs : List Value} (h : w.ownsRow base e sz (.slice (some ⟨g, 0, none⟩) n c) n xs) : base ≤ g ∧ g < w.heap.size := by
  rcases h.2 with ⟨hv, _⟩ | ⟨g', cap, cur, hv, hb, hg', k⟩
  · cases hv
  · injection hv with e1 e2 e3
    injection e1 with e1
    injection e1 with e1 _ _
    subst e1
    exact ⟨hb, Blk.lt (t := e) (cs := cur) hg'⟩
end
section
variable {α : Type} {t : Ty α} {w w' : World} {S S' : Nat → Nat → Prop} {css : List (List Value)} {xs : List α}
theorem CssF.of {T : Nat → Prop} (h : Css t w T css xs) : CssF t w (fun _ => T) css xs := h
theorem CssF.toCss [hm : TyMore t] {T : Nat → Prop} (h : CssF t w S css xs) (hT : ∀ i k, i < xs.length → S i k → T k) : Css t w T css xs :=
  ⟨h.1, fun i c x e1 e2 => hm.more _ _ _ _ _ (h.2 i c x e1 e2) (fun k hk => hT i k (List.getElem?_eq_some_iff.1 e2).1 hk)⟩
theorem CssF.lens [hok : TyOk t] (h : CssF t w S css xs) : ∀ c ∈ css, c.length = t.size := by
  intro c hc
  obtain ⟨i, hi, rfl⟩ := List.getElem_of_mem hc
  exact hok.len _ _ _ _ (h.2 i _ _ (List.getElem?_eq_getElem hi) (List.getElem?_eq_getElem (by rw [← h.1]; exact hi)))
theorem CssF.keep [hok : TyOk t] [hm : TyMore t] (h : CssF t w S css xs) (hk : ∀ i p, i < xs.length → S i p.block → w'.cell? p = w.cell? p) (hS : ∀ i k, i < xs.length → S i k → S' i k) : CssF t w' S' css xs :=
  ⟨h.1, fun i c x e1 e2 => by
    have hi := (List.getElem?_eq_some_iff.1 e2).1
    exact hm.more _ _ _ _ _ (hok.keep _ w' _ _ _ (h.2 i c x e1 e2) (fun p hp => hk i p hi hp)) (fun k hk => hS i k hi hk)⟩
theorem CssF.upd [hok : TyOk t] [hm : TyMore t] (h : CssF t w S css xs) {i : Nat} {x : α} {d : List Value} (hx : xs[i]? = some x) (hr : t.rd w' (S' i) d x) (hk : ∀ j p, j < xs.length → j ≠ i → S j p.block → w'.cell? p = w.cell? p) (hS : ∀ j k, j < xs.length → j ≠ i → S j k → S' j k) :
    CssF t w' S' (css.set i d) xs := by
  refine ⟨by rw [List.length_set]; exact h.1, fun j c y e1 e2 => ?_⟩
  have hj := (List.getElem?_eq_some_iff.1 e2).1
  by_cases hij : i = j
  · subst hij
    rw [hx] at e2
    rw [List.getElem?_set_self (by rw [h.1]; exact hj)] at e1
    simp only [Option.some.injEq] at e1 e2
    subst e1 e2
    exact hr
  · rw [List.getElem?_set_ne hij] at e1
    exact hm.more _ _ _ _ _ (hok.keep _ w' _ _ _ (h.2 j c y e1 e2) (fun p hp => hk j p hj (fun e => hij e.symm) hp)) (fun k hk => hS j k hj (fun e => hij e.symm) hk)
end
end Go.Proofs.Ythggdemiddjlgaa
