/- Slices of typed elements as rows of cells, set-based; append of typed elements. No condition. -/
import Derived.Test.YthggdemiddjlgaaTsM
import Derived.Test.YthggdemiddjlgaaApp
namespace Go.Proofs.Ythggdemiddjlgaa
open Go.RowKit

class TyOne {α : Type} (t : Ty α) : Prop where
  one : ∀ w S cs x, t.rd w S cs x → ∀ u ∈ cs, u.oneCell' = true
instance (k : IntKind) : TyOne (Ty.int k) := ⟨fun _ _ _ _ h u hu => by rw [h.1] at hu; simp at hu; subst hu; rfl⟩
instance : TyOne Ty.bool := ⟨fun _ _ _ _ h u hu => by rw [show _ = _ from h] at hu; simp at hu; subst hu; rfl⟩
instance : TyOne Ty.str := ⟨fun _ _ _ _ h u hu => by rw [h.1] at hu; simp at hu; subst hu; rfl⟩
instance : TyOne Ty.unit := ⟨fun _ _ _ _ h u hu => by rw [show _ = _ from h] at hu; simp at hu⟩
instance {α β : Type} (s : Ty α) (t : Ty β) [hs : TyOne s] [ht : TyOne t] : TyOne (s.pair t) :=
  ⟨fun _ _ _ _ ⟨c1, c2, e, h1, h2⟩ u hu => by
    rw [e, List.mem_append] at hu
    rcases hu with hu | hu
    · exact hs.one _ _ _ _ h1 u hu
    · exact ht.one _ _ _ _ h2 u hu⟩
instance {α β : Type} (t : Ty β) (g : α → β) [ht : TyOne t] : TyOne (t.iso g) := ⟨fun w S cs x h => ht.one w S cs (g x) h⟩
instance {α : Type} (t : Ty α) : TyOne t.slice := ⟨fun _ _ _ _ ⟨A, c, e, _⟩ u hu => by rw [e] at hu; simp at hu; subst hu; rfl⟩

/-- A slice of which only the length is read. -/
def Ty.slen : Ty Nat := ⟨1, fun _ _ cs n => ∃ A c, cs = [.slice A n c] ∧ n ≤ c ∧ c ≤ maxLen, fun m n => n ≤ m, 24, fun m n => n ≤ m⟩
instance : TyOk Ty.slen := ⟨fun _ _ _ _ ⟨A, c, e, _⟩ => by rw [e]; rfl, fun _ _ _ _ _ h _ => h⟩
instance : TyMore Ty.slen := ⟨fun _ _ _ _ _ h _ => h⟩
instance : TyOne Ty.slen := ⟨fun _ _ _ _ ⟨A, c, e, _⟩ u hu => by rw [e] at hu; simp at hu; subst hu; rfl⟩
theorem opens_slen {P : Program} {t e : TypeId} (hu : P.underlying t = some (.slice e)) (hby : decide (0 < P.bytesOf e) = true := by kernel_rfl) : Opens P t Ty.slen := by
  have hby' : 0 < P.bytesOf e := of_decide_eq_true hby
  intro H enc w fuel cs x h
  rcases DataW.trod_slice hu h with ⟨h1, h2⟩ | ⟨a, len, cap, elems, rest, n, _, hcs, hx, _, hlc, hcm, hel, _, _, _⟩
  · exact ⟨0, ⟨none, 0, h1, by simp, by simp [maxLen]⟩, fun m _ => Nat.zero_le m, fun m _ => Nat.zero_le m⟩
  · refine ⟨len, ⟨some a, cap, hcs, hlc, hcm⟩, fun m hm => ?_, fun m hm => ?_⟩
    · subst hx
      simp only [Rows.uptoBulk] at hm
      show len ≤ m
      have := bulk_len (elems.map (·.1))
      simp at this
      omega
    · subst hx
      simp only [DataW.weights, hu] at hm
      have hl := hm _ (List.mem_cons_self ..)
      simp only [List.length_map] at hl
      have := Nat.le_mul_of_pos_right (elems.length + rest.length) hby'
      show len ≤ m
      omega

/-- The cells of the elements, one list for each. -/
def Css {α : Type} (t : Ty α) (w : World) (S : Nat → Prop) (css : List (List Value)) (xs : List α) : Prop :=
  css.length = xs.length ∧ ∀ (i : Nat) (c : List Value) (x : α), css[i]? = some c → xs[i]? = some x → t.rd w S c x

section
variable {α : Type} {t : Ty α}
theorem Css.nil {w : World} {S : Nat → Prop} : Css t w S [] [] := ⟨rfl, fun i c x h => by simp at h⟩
theorem Css.append {w : World} {S : Nat → Prop} {css dss : List (List Value)} {xs ys : List α} (h : Css t w S css xs) (k : Css t w S dss ys) : Css t w S (css ++ dss) (xs ++ ys) := by
  refine ⟨by simp [h.1, k.1], fun i c x e1 e2 => ?_⟩
  by_cases hi : i < css.length
  · rw [List.getElem?_append_left hi] at e1
    rw [List.getElem?_append_left (by rw [← h.1]; exact hi)] at e2
    exact h.2 i c x e1 e2
  · rw [List.getElem?_append_right (by omega)] at e1
    rw [List.getElem?_append_right (by rw [← h.1]; omega)] at e2
    exact k.2 _ c x e1 (by rw [h.1]; exact e2)
theorem Css.one {w : World} {S : Nat → Prop} {c : List Value} {x : α} (h : t.rd w S c x) : Css t w S [c] [x] := by
  refine ⟨rfl, fun i c' x' e1 e2 => ?_⟩
  cases i with
  | zero => simp at e1 e2; subst e1; subst e2; exact h
  | succ i => simp at e1
theorem Css.two {w : World} {S : Nat → Prop} {c c' : List Value} {x x' : α} (h : t.rd w S c x) (h' : t.rd w S c' x') : Css t w S [c, c'] [x, x'] := Css.append (css := [c]) (dss := [c']) (xs := [x]) (ys := [x']) (Css.one h) (Css.one h')
theorem Css.more [hm : TyMore t] {w : World} {S S' : Nat → Prop} {css : List (List Value)} {xs : List α} (h : Css t w S css xs) (hS : ∀ k, S k → S' k) : Css t w S' css xs := ⟨h.1, fun i c x e1 e2 => hm.more _ _ _ _ _ (h.2 i c x e1 e2) hS⟩
theorem Css.ones [ho : TyOne t] {w : World} {S : Nat → Prop} {css : List (List Value)} {xs : List α} (h : Css t w S css xs) : ∀ u ∈ css.flatten, u.oneCell' = true := by
  intro u hu
  obtain ⟨c, hc, huc⟩ := List.mem_flatten.1 hu
  obtain ⟨i, hi, rfl⟩ := List.getElem_of_mem hc
  exact ho.one _ _ _ _ (h.2 i _ _ (List.getElem?_eq_getElem hi) (List.getElem?_eq_getElem (by rw [← h.1]; exact hi))) u huc
theorem flat_get {m : Nat} : ∀ {css : List (List Value)} (_ : ∀ c ∈ css, c.length = m) {i j : Nat} {c : List Value} {u : Value}, css[i]? = some c → c[j]? = some u → css.flatten[i * m + j]? = some u
  | [], _, i, j, c, u, h, _ => by simp at h
  | d :: css, hl, i, j, c, u, h, hu => by
    have hd := hl d (by simp)
    cases i with
    | zero =>
      simp at h
      subst h
      rw [List.flatten_cons, Nat.zero_mul, Nat.zero_add, List.getElem?_append_left (List.getElem?_eq_some_iff.1 hu).1]
      exact hu
    | succ i =>
      simp at h
      rw [List.flatten_cons, List.getElem?_append_right (by rw [Nat.add_mul]; omega), show (i + 1) * m + j - d.length = i * m + j by rw [Nat.add_mul]; omega]
      exact flat_get (fun c hc => hl c (by simp [hc])) h hu
/-- A row of typed elements of the caller's own (nil or not) from block 'base' on; what the elements refer to lies in S. -/
def Ty.row (t : Ty α) (w : World) (base : Nat) (S : Nat → Prop) (e : TypeId) (v : Value) (xs : List α) : Prop :=
  ∃ css, Css t w S css xs ∧ w.ownsRow base e t.size v xs.length css.flatten
theorem Ty.row.nil (w : World) (base : Nat) (S : Nat → Prop) (e : TypeId) : t.row w base S e (.slice none 0 0) [] := ⟨[], Css.nil, by simpa using World.ownsRow_nil w base e t.size⟩
theorem Ty.row.more [hm : TyMore t] {w : World} {base base' : Nat} {S S' : Nat → Prop} {e : TypeId} {v : Value} {xs : List α} (h : t.row w base S e v xs) (hb : base' ≤ base) (hS : ∀ k, S k → S' k) : t.row w base' S' e v xs := by
  obtain ⟨css, h1, h2⟩ := h
  refine ⟨css, h1.more hS, h2.1, ?_⟩
  rcases h2.2 with h0 | ⟨g, cap, cur, rfl, hg, k⟩
  · exact .inl h0
  · exact .inr ⟨g, cap, cur, rfl, Nat.le_trans hb hg, k⟩
/-- The block of the row. -/
theorem Ty.row.own {w : World} {base : Nat} {S : Nat → Prop} {e : TypeId} {v : Value} {xs : List α} (h : t.row w base S e v xs) {g : Nat} (hv : v.ownBlock = some g) : base ≤ g ∧ ∃ cs, Blk w g e cs := by
  obtain ⟨css, _, h2⟩ := h
  rcases h2.2 with ⟨rfl, _⟩ | ⟨g', cap, cur, rfl, hb, hg, _⟩
  · cases hv
  · simp only [Value.ownBlock, Option.some.injEq] at hv
    subst hv
    exact ⟨hb, cur, hg⟩
end

section
variable {α : Type} {t : Ty α} [hok : TyOk t]
theorem Css.len {w : World} {S : Nat → Prop} : ∀ {css : List (List Value)} {xs : List α}, Css t w S css xs → css.flatten.length = xs.length * t.size
  | [], [], _ => by simp
  | [], _ :: _, h => by have := h.1; simp at this
  | _ :: _, [], h => by have := h.1; simp at this
  | c :: css, x :: xs, h => by
    have h1 := hok.len _ _ _ _ (h.2 0 c x rfl rfl)
    have h2 := Css.len (css := css) (xs := xs) ⟨by have := h.1; simpa using this, fun i c' x' e1 e2 => h.2 (i + 1) c' x' (by simpa using e1) (by simpa using e2)⟩
    simp only [List.flatten_cons, List.length_append, List.length_cons, h1, h2, Nat.add_mul]
    omega
theorem Css.keep {w w' : World} {S : Nat → Prop} {css : List (List Value)} {xs : List α} (h : Css t w S css xs) (hk : ∀ p : Addr, S p.block → w'.cell? p = w.cell? p) : Css t w' S css xs :=
  ⟨h.1, fun i c x e1 e2 => hok.keep _ _ _ _ _ (h.2 i c x e1 e2) hk⟩
theorem Css.fr {w w' : World} {S : Nat → Prop} {M : Nat → Prop} {css : List (List Value)} {xs : List α} (h : Css t w S css xs) (f : Fr M w w') (hM : ∀ k, S k → k < w.heap.size ∧ ¬ M k) : Css t w' S css xs :=
  h.keep fun _ hp => f.cell (hM _ hp).1 (hM _ hp).2
theorem Css.lens {w : World} {S : Nat → Prop} {css : List (List Value)} {xs : List α} (h : Css t w S css xs) : ∀ c ∈ css, c.length = t.size := by
  intro c hc
  obtain ⟨i, hi, rfl⟩ := List.getElem_of_mem hc
  exact hok.len _ _ _ _ (h.2 i _ _ (List.getElem?_eq_getElem hi) (List.getElem?_eq_getElem (by rw [← h.1]; exact hi)))

/-- What a slice reads as, as a row of cells. -/
theorem els_css {w : World} {S : Nat → Prop} {A : Option Addr} {xs : List α} (h : t.els w S A xs) : ∃ css, Css t w S css xs ∧ (xs = [] ∨ ∃ b o, A = some ⟨b, o, none⟩ ∧ S b ∧ ∀ k u, css.flatten[k]? = some u → w.cell? ⟨b, o + k, none⟩ = some u) := by
  rcases h with rfl | ⟨b, o, e, hb, h⟩
  · exact ⟨[], Css.nil, .inl rfl⟩
  · obtain ⟨css, hl, hc⟩ := exists_list (fun (i : Nat) (c : List Value) => ∀ x, xs[i]? = some x → (∀ (j : Nat) (u : Value), c[j]? = some u → w.cell? ⟨b, o + (i * t.size + j), none⟩ = some u) ∧ t.rd w S c x) (List.range xs.length)
      (fun i hi => by
        obtain ⟨ds, h1, h2⟩ := h i _ (List.getElem?_eq_getElem (List.mem_range.1 hi))
        exact ⟨ds, fun x hx => by rw [List.getElem?_eq_getElem (List.mem_range.1 hi)] at hx; injection hx with hx; subst hx; exact ⟨h1, h2⟩⟩)
    simp only [List.length_range] at hl
    have hcss : Css t w S css xs := ⟨hl, fun i c x e1 e2 => (hc i i c (by rw [List.getElem?_range]; have := (List.getElem?_eq_some_iff.1 e2).1; exact this) e1 x e2).2⟩
    refine ⟨css, hcss, .inr ⟨b, o, e, hb, fun k u hu => ?_⟩⟩
    have hk : k < xs.length * t.size := by rw [← hcss.len]; exact (List.getElem?_eq_some_iff.1 hu).1
    have hs : 0 < t.size := by
      rcases Nat.eq_zero_or_pos t.size with h0 | h0
      · rw [h0] at hk; simp at hk
      · exact h0
    have hi : k / t.size < xs.length := Nat.div_lt_of_lt_mul (by rwa [Nat.mul_comm] at hk)
    have hcl := hcss.lens _ (List.getElem_mem (n := k / t.size) (by omega : k / t.size < css.length))
    have hj : k % t.size < (css[k / t.size]'(by omega)).length := by rw [hcl]; exact Nat.mod_lt _ hs
    have e1 := flat_get hcss.lens (List.getElem?_eq_getElem (by omega : k / t.size < css.length)) (List.getElem?_eq_getElem hj)
    have e2 : k / t.size * t.size + k % t.size = k := by rw [Nat.mul_comm]; exact Nat.div_add_mod k t.size
    rw [e2, hu] at e1
    have := (hc (k / t.size) (k / t.size) _ (List.getElem?_range hi) (List.getElem?_eq_getElem (by omega : k / t.size < css.length)) _ (List.getElem?_eq_getElem hi)).1 _ _ (List.getElem?_eq_getElem hj)
    rw [e2] at this
    rw [this, e1]
theorem els_rd {w : World} {S : Nat → Prop} {A : Option Addr} {xs : List α} {B : Nat} (h : t.els w S A xs) (hS : ∀ k, S k → k < B) : ∃ css, Css t w S css xs ∧ Rd w B A css.flatten := by
  obtain ⟨css, h1, h2⟩ := els_css h
  refine ⟨css, h1, ?_⟩
  rcases h2 with rfl | ⟨b, o, e, hb, h⟩
  · have := h1.len
    exact .inl (List.eq_nil_of_length_eq_zero (by simpa using this))
  · exact .inr ⟨b, o, e, hS _ hb, h⟩
theorem css_els {w : World} {S S' : Nat → Prop} {q : Nat} {css : List (List Value)} {xs : List α} (h : Css t w S css xs) (hm : TyMore t) (hB : ∀ k, S k → S' k) (hq : S' q) (o : Nat) (hc : ∀ (k : Nat) (u : Value), css.flatten[k]? = some u → w.cell? ⟨q, o + k, none⟩ = some u) : t.els w S' (some ⟨q, o, none⟩) xs := by
  refine .inr ⟨q, o, rfl, hq, fun i x hx => ?_⟩
  have hi : i < css.length := by rw [h.1]; exact (List.getElem?_eq_some_iff.1 hx).1
  exact ⟨css[i], fun j u hu => hc _ u (flat_get h.lens (List.getElem?_eq_getElem hi) hu), hm.more _ _ _ _ _ (h.2 i _ x (List.getElem?_eq_getElem hi) hx) hB⟩

theorem Ty.row.els [hm : TyMore t] {w : World} {base : Nat} {S S' : Nat → Prop} {e : TypeId} {v : Value} {xs : List α} (h : t.row w base S e v xs) (hS : ∀ k, S k → S' k) (hv : ∀ g, v.ownBlock = some g → S' g) : ∃ A c, v = .slice A xs.length c ∧ xs.length ≤ c ∧ c ≤ maxLen ∧ t.els w S' A xs := by
  obtain ⟨css, h1, h2⟩ := h
  have hl := h1.len
  rcases h2.2 with ⟨rfl, h0⟩ | ⟨g, cap, cur, rfl, hb, hg, k1, k2, k3, k4⟩
  · have hx : xs = [] := List.eq_nil_of_length_eq_zero h0
    subst hx
    exact ⟨none, 0, rfl, by simp, by simp [maxLen], .inl rfl⟩
  · refine ⟨some ⟨g, 0, none⟩, cap, rfl, k1, k2, css_els h1 hm hS (hv g rfl) 0 fun k u hu => ?_⟩
    rw [Nat.zero_add, Blk.cell (t := e) (cs := cur) hg k]
    rw [← k4, List.getElem?_take] at hu
    split at hu
    · simpa using hu
    · cases hu
theorem Ty.row.els' [hm : TyMore t] {w : World} {base : Nat} {S S' : Nat → Prop} {e : TypeId} {A : Option Addr} {n c : Nat} {xs : List α} (h : t.row w base S e (.slice A n c) xs) (hS : ∀ k, S k → S' k) (hv : ∀ g, (Value.slice A n c).ownBlock = some g → S' g) : t.els w S' A xs := by
  obtain ⟨A', c', hv, _, _, k⟩ := h.els hS hv
  injection hv with h1 _ _
  subst h1
  exact k
theorem Ty.row.fr {w w' : World} {M : Nat → Prop} {base : Nat} {S : Nat → Prop} {e : TypeId} {v : Value} {xs : List α} (h : t.row w base S e v xs) (f : Fr M w w') (hM : ∀ k, S k → k < w.heap.size ∧ ¬ M k) (hv : ∀ k, v.ownBlock = some k → ¬ M k) : t.row w' base S e v xs := by
  obtain ⟨css, h1, h2⟩ := h
  refine ⟨css, h1.fr f hM, h2.1, ?_⟩
  rcases h2.2 with h0 | ⟨g, cap, cur, rfl, hb, hg, k⟩
  · exact .inl h0
  · exact .inr ⟨g, cap, cur, rfl, hb, Blk.fr (t := e) (cs := cur) hg f (hv g rfl), k⟩
theorem Ty.row.rd {w : World} {base : Nat} {S : Nat → Prop} {e : TypeId} {A : Option Addr} {n c : Nat} {xs : List α} (h : t.row w base S e (.slice A n c) xs) : ∃ css, Css t w S css xs ∧ Rd w w.heap.size A css.flatten := by
  obtain ⟨css, h1, h2⟩ := h
  refine ⟨css, h1, ?_⟩
  have hl := h1.len
  rcases h2.2 with ⟨hv, h0⟩ | ⟨g, cap, cur, hv, hb, hg, k1, k2, k3, k4⟩
  · have hx : xs = [] := List.eq_nil_of_length_eq_zero h0
    subst hx
    exact .inl (List.eq_nil_of_length_eq_zero (by simpa using hl))
  · injection hv with e1 _ _
    subst e1
    refine .inr ⟨g, 0, rfl, Blk.lt (t := e) (cs := cur) hg, fun k u hu => ?_⟩
    rw [Nat.zero_add, Blk.cell (t := e) (cs := cur) hg k]
    rw [← k4, List.getElem?_take] at hu
    split at hu
    · simpa using hu
    · cases hu
/-- A slice literal as a row. -/
theorem Ty.row.lit {w : World} {base q : Nat} {S : Nat → Prop} {e : TypeId} {css : List (List Value)} {xs : List α} (hb : Blk w q e css.flatten.toArray) (hq : base ≤ q) (h : Css t w S css xs) (hm : xs.length ≤ maxLen) : t.row w base S e (.slice (some ⟨q, 0, none⟩) xs.length xs.length) xs :=
  ⟨css, h, h.len, .inr ⟨q, xs.length, css.flatten.toArray, rfl, hq, hb, Nat.le_refl _, hm, by simp [h.len], by rw [← h.len, List.take_of_length_le (by simp)]⟩⟩

/-- append(v, ys...), typed, the source a row of cells. -/
theorem run_appC [TyOne t] {P : Program} {ts e : TypeId} {bytes : Nat} {z : Value} {base B2 : Nat} {S : Nat → Prop} {A : Option Addr} (E : ElemOk P ts e t.size bytes z) (w : World) (ty : TypeId) {v : Value} (m c : Nat) {xs ys : List α} {dss : List (List Value)} (hown : t.row w base S e v xs)
    (k1 : Css t w S dss ys) (k2 : Rd w B2 A dss.flatten) (hl : ys.length = m) (h63 : (xs.length + m) ≤ maxLen) (hbytes : (xs.length + m) * bytes ≤ 140737488355328) (hS : ∀ k, S k → k < w.heap.size ∧ ¬ some k = v.ownBlock) (hbase : base ≤ w.heap.size) :
    ∃ v' w', (Builtin.append_ #[ts, ts] ty #[v, .slice A m c]).run P w = .ok v' w' ∧ t.row w' base S e v' (xs ++ ys) ∧ Fr (fun k => some k = v.ownBlock) w w' ∧
      (v' = .slice none 0 0 ↔ v = .slice none 0 0 ∧ m = 0) ∧ (v'.ownBlock = v.ownBlock ∨ v'.ownBlock = some w.heap.size) := by
  obtain ⟨css, h1, h2⟩ := hown
  subst hl
  obtain ⟨v', w', hrun, r1, r2, r3, r4⟩ := run_app E w ty c h2 k2 (by rw [k1.len]) k1.ones h63 hbytes hbase
  refine ⟨v', w', hrun, ⟨css ++ dss, Css.append (h1.fr r2 hS) (k1.fr r2 hS), ?_⟩, r2, r3, r4⟩
  rw [List.flatten_append, List.length_append]; exact r1
end

section
variable {α : Type} {t : Ty α} [hok : TyOk t] [hone : TyOne t]
variable {P : Program} {ts e : TypeId} {bytes : Nat} {z : Value} {base : Nat} {S : Nat → Prop} {A : Option Addr}
variable {ops : Array Oper} {rest : List Oper} {o : Oper} {a : Act} {Q : Exit → Act → World → Prop} {w : World}
/-- x = append(y, z...), typed, the source a row of cells. -/
theorem wpList_appC {m cs B2 : Nat} {s x : Operand} {v : Value} {xs ys : List α} {dss : List (List Value)} (E : ElemOk P ts e t.size bytes z) (hgd : o.guard = none)
    (ho : o.op = .call { callee := .builtin .append, args := #[s, x], argTypes := #[ts, ts] })
    (hs : a.eval s = v) (hx : a.eval x = .slice A m cs) (hown : t.row w base S e v xs) (k1 : Css t w S dss ys) (k2 : Rd w B2 A dss.flatten) (hl : ys.length = m)
    (h63 : xs.length + m ≤ 140737488355328) (hbytes : (xs.length + m) * bytes ≤ 140737488355328) (hS : ∀ k, S k → k < w.heap.size ∧ ¬ some k = v.ownBlock) (hbase : base ≤ w.heap.size)
    (h : ∀ v' w', t.row w' base S e v' (xs ++ ys) → Fr (fun k => some k = v.ownBlock) w w' → (v'.ownBlock = v.ownBlock ∨ v'.ownBlock = some w.heap.size) → wpList P ops Q rest (a.put o.dst v') w') :
    wpList P ops Q (o :: rest) a w := by
  refine wpList_plain hgd fun K hK => ?_
  obtain ⟨v', w', hrun, h2, h3, h4, h5⟩ := run_appC E w o.type m cs hown k1 k2 hl (by simp only [maxLen]; omega) hbytes hS hbase
  unfold Oper.wp execOp
  simp only [ho, resolve, invoke, builtin, Sem.run_bind, Sem.run_pure, Result.andThen_ok, List.map_toArray, List.map_cons, List.map_nil, hs, hx, hrun]
  exact hK _ _ (h v' w' h2 h3 h5)
/-- append, typed, in a drawn region. -/
theorem opwp_appC {K : Act → World → Prop} {m cs B2 : Nat} {s x : Operand} {v : Value} {xs ys : List α} {dss : List (List Value)} (E : ElemOk P ts e t.size bytes z)
    (ho : o.op = .call { callee := .builtin .append, args := #[s, x], argTypes := #[ts, ts] })
    (hs : a.eval s = v) (hx : a.eval x = .slice A m cs) (hown : t.row w base S e v xs) (k1 : Css t w S dss ys) (k2 : Rd w B2 A dss.flatten) (hl : ys.length = m)
    (h63 : xs.length + m ≤ 140737488355328) (hbytes : (xs.length + m) * bytes ≤ 140737488355328) (hS : ∀ k, S k → k < w.heap.size ∧ ¬ some k = v.ownBlock) (hbase : base ≤ w.heap.size)
    (h : ∀ v' w', t.row w' base S e v' (xs ++ ys) → Fr (fun k => some k = v.ownBlock) w w' → (v'.ownBlock = v.ownBlock ∨ v'.ownBlock = some w.heap.size) → K (a.put o.dst v') w') : o.wp P a w K Q := by
  obtain ⟨v', w', hrun, h2, h3, h4, h5⟩ := run_appC E w o.type m cs hown k1 k2 hl (by simp only [maxLen]; omega) hbytes hS hbase
  unfold Oper.wp execOp
  simp only [ho, resolve, invoke, builtin, Sem.run_bind, Sem.run_pure, Result.andThen_ok, List.map_toArray, List.map_cons, List.map_nil, hs, hx, hrun]
  exact h v' w' h2 h3 h5
end

/-- Types whose reading rests on no memory. -/
class TyFlat {α : Type} (t : Ty α) : Prop where
  flat : ∀ w w' S S' cs x, t.rd w S cs x → t.rd w' S' cs x
instance (k : IntKind) : TyFlat (Ty.int k) := ⟨fun _ _ _ _ _ _ h => h⟩
instance : TyFlat Ty.bool := ⟨fun _ _ _ _ _ _ h => h⟩
instance : TyFlat Ty.str := ⟨fun _ _ _ _ _ _ h => h⟩
instance {α β : Type} (s : Ty α) (t : Ty β) [hs : TyFlat s] [ht : TyFlat t] : TyFlat (s.pair t) :=
  ⟨fun _ _ _ _ _ _ ⟨c1, c2, e, h1, h2⟩ => ⟨c1, c2, e, hs.flat _ _ _ _ _ _ h1, ht.flat _ _ _ _ _ _ h2⟩⟩
instance {α β : Type} (t : Ty β) (g : α → β) [ht : TyFlat t] : TyFlat (t.iso g) := ⟨fun w w' S S' cs x h => ht.flat w w' S S' cs (g x) h⟩
theorem Css.flat {α : Type} {t : Ty α} [hf : TyFlat t] {w : World} {S : Nat → Prop} {css : List (List Value)} {xs : List α} (h : Css t w S css xs) (w' : World) (S' : Nat → Prop) : Css t w' S' css xs :=
  ⟨h.1, fun i c x e1 e2 => hf.flat _ _ _ _ _ _ (h.2 i c x e1 e2)⟩
theorem els_flat {α : Type} {t : Ty α} [TyOk t] [hf : TyFlat t] {w : World} {S : Nat → Prop} {A : Option Addr} {xs : List α} {B : Nat} (h : t.els w S A xs) (hS : ∀ k, S k → k < B) : ∃ css, (∀ w' S', Css t w' S' css xs) ∧ Rd w B A css.flatten := by
  obtain ⟨css, h1, h2⟩ := els_rd h hS
  exact ⟨css, fun w' S' => h1.flat w' S', h2⟩
end Go.Proofs.Ythggdemiddjlgaa
