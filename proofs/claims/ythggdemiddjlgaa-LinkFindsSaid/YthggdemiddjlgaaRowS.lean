/- One element of an owned row of typed elements written anew. No condition. -/
import Derived.Test.YthggdemiddjlgaaSels
namespace Go.Proofs.Ythggdemiddjlgaa
open Go.RowKit

def setA (cur : Array Value) (o : Nat) : List Value → Array Value
  | [] => cur
  | v :: vs => setA (cur.setIfInBounds o v) (o + 1) vs
def setL (l : List Value) (o : Nat) : List Value → List Value
  | [] => l
  | v :: vs => setL (l.set o v) (o + 1) vs
theorem setA_list : ∀ (vs : List Value) (cur : Array Value) (o : Nat), (setA cur o vs).toList = setL cur.toList o vs
  | [], _, _ => rfl
  | v :: vs, cur, o => by rw [setA, setA_list vs, setL, Array.toList_setIfInBounds]
theorem setA_size : ∀ (vs : List Value) (cur : Array Value) (o : Nat), (setA cur o vs).size = cur.size
  | [], _, _ => rfl
  | v :: vs, cur, o => by rw [setA, setA_size vs]; simp
theorem setL_take : ∀ (vs : List Value) (l : List Value) (o n : Nat), (setL l o vs).take n = setL (l.take n) o vs
  | [], _, _, _ => rfl
  | v :: vs, l, o, n => by rw [setL, setL_take vs, setL, List.take_set]
theorem setL_cons (u : Value) : ∀ (vs : List Value) (l : List Value) (o : Nat), setL (u :: l) (o + 1) vs = u :: setL l o vs
  | [], _, _ => rfl
  | v :: vs, l, o => by rw [setL, List.set_cons_succ, setL_cons u vs, setL]
theorem setL_skip (m : List Value) : ∀ (vs : List Value) (l : List Value) (o : Nat), setL (m ++ l) (m.length + o) vs = m ++ setL l o vs := by
  induction m with
  | nil => intro vs l o; simp
  | cons u m ih =>
    intro vs l o
    rw [List.cons_append, List.length_cons, show m.length + 1 + o = (m.length + o) + 1 by omega, setL_cons, ih]; rfl
theorem setL_all : ∀ (vs c l : List Value), c.length = vs.length → setL (c ++ l) 0 vs = vs ++ l
  | [], c, l, h => by rw [List.eq_nil_of_length_eq_zero h]; rfl
  | v :: vs, [], l, h => by simp at h
  | v :: vs, u :: c, l, h => by
    rw [setL, List.cons_append, List.set_cons_zero, setL_cons, setL_all vs c l (by simpa using h)]; rfl
theorem setL_flat {m : Nat} (ds : List Value) (hd : ds.length = m) : ∀ (css : List (List Value)) (i : Nat), (∀ c ∈ css, c.length = m) → i < css.length → setL css.flatten (i * m) ds = (css.set i ds).flatten
  | [], i, _, h => by simp at h
  | c :: css, 0, hc, _ => by
    rw [List.flatten_cons, Nat.zero_mul, setL_all ds c _ (by rw [hc c (by simp), hd])]; rfl
  | c :: css, i + 1, hc, h => by
    have e : (i + 1) * m = c.length + i * m := by rw [hc c (by simp), Nat.add_mul]; omega
    rw [List.flatten_cons, e, setL_skip, setL_flat ds hd css i (fun d hd => hc d (by simp [hd])) (by simpa using h)]
    rfl
section
variable {α : Type} {t : Ty α}
theorem Css.set {w : World} {S : Nat → Prop} {css : List (List Value)} {xs : List α} (h : Css t w S css xs) {ds : List Value} {x : α} (i : Nat) (hr : t.rd w S ds x) : Css t w S (css.set i ds) (xs.set i x) := by
  refine ⟨by simp [h.1], fun j c y e1 e2 => ?_⟩
  rw [List.getElem?_set] at e1 e2
  by_cases hij : i = j
  · subst hij
    rw [if_pos rfl] at e1 e2
    split at e1
    · split at e2
      · simp only [Option.some.injEq] at e1 e2; subst e1; subst e2; exact hr
      · cases e2
    · cases e1
  · rw [if_neg hij] at e1 e2
    exact h.2 j c y e1 e2
theorem Ty.row.set [hok : TyOk t] {w w' : World} {base : Nat} {S : Nat → Prop} {e : TypeId} {g n c : Nat} {xs : List α} {ds : List Value} {x : α} (h : t.row w base S e (.slice (some ⟨g, 0, none⟩) n c) xs) (i : Nat) (hi : i < xs.length) (hr : t.rd w' S ds x)
    (hk : ∀ p : Addr, S p.block → w'.cell? p = w.cell? p) (hw : ∀ cur, Blk w g e cur → Blk w' g e (setA cur (i * t.size) ds)) : t.row w' base S e (.slice (some ⟨g, 0, none⟩) n c) (xs.set i x) := by
  obtain ⟨css, h1, h2⟩ := h
  have hl := h1.len
  have hlc := h1.1
  have hlens := h1.lens
  refine ⟨css.set i ds, (h1.keep hk).set i hr, ?_⟩
  have hfl : (css.set i ds).flatten = setL css.flatten (i * t.size) ds := (setL_flat ds (hok.len _ _ _ _ hr) css i hlens (by omega)).symm
  have hlen : (css.set i ds).flatten.length = xs.length * t.size := by
    have := ((h1.keep hk).set i hr).len
    rwa [List.length_set] at this
  rcases h2.2 with ⟨hv, _⟩ | ⟨g', cap, cur, hv, hb, hg, k1, k2, k3, k4⟩
  · cases hv
  · injection hv with e1 e2 e3
    injection e1 with e1
    injection e1 with e1 _ _
    subst e1 e2 e3
    refine ⟨by rw [List.length_set]; exact hlen, .inr ⟨g, c, setA cur (i * t.size) ds, by rw [List.length_set], hb, hw cur hg, by rw [List.length_set]; exact k1, k2, by rw [setA_size]; exact k3, ?_⟩⟩
    rw [setA_list, List.length_set, setL_take, k4, hfl]
end
end Go.Proofs.Ythggdemiddjlgaa
