/- Slices of typed elements as rows of cells; append of typed elements. No condition. -/
import Derived.Test.YtklkgfmcdoifpaaTyM
import Derived.Test.YtklkgfmcdoifpaaApp
namespace Go.Proofs.Ytklkgfmcdoifpaa
open Go.RowKit

class TyOne {α : Type} (t : Ty α) : Prop where
  one : ∀ w B cs x, t.rd w B cs x → ∀ u ∈ cs, u.oneCell' = true
instance (k : IntKind) : TyOne (Ty.int k) := ⟨fun _ _ _ _ h u hu => by rw [h.1] at hu; simp at hu; subst hu; rfl⟩
instance : TyOne Ty.bool := ⟨fun _ _ _ _ h u hu => by rw [show _ = _ from h] at hu; simp at hu; subst hu; rfl⟩
instance : TyOne Ty.str := ⟨fun _ _ _ _ h u hu => by rw [h.1] at hu; simp at hu; subst hu; rfl⟩
instance : TyOne Ty.unit := ⟨fun _ _ _ _ h u hu => by rw [show _ = _ from h] at hu; simp at hu⟩
instance {α β : Type} (s : Ty α) (t : Ty β) [hs : TyOne s] [ht : TyOne t] : TyOne (s.pair t) :=
  ⟨fun w B cs x ⟨c1, c2, e, h1, h2⟩ u hu => by
    rw [e, List.mem_append] at hu
    rcases hu with hu | hu
    · exact hs.one _ _ _ _ h1 u hu
    · exact ht.one _ _ _ _ h2 u hu⟩
instance {α β : Type} (t : Ty β) (g : α → β) [ht : TyOne t] : TyOne (t.iso g) := ⟨fun w B cs x h => ht.one w B cs (g x) h⟩
instance {α : Type} (t : Ty α) : TyOne t.slice := ⟨fun w B cs xs ⟨A, c, e, _⟩ u hu => by rw [e] at hu; simp at hu; subst hu; rfl⟩

/-- The cells of the elements, one list for each. -/
def Css {α : Type} (t : Ty α) (w : World) (B : Nat) (css : List (List Value)) (xs : List α) : Prop :=
  css.length = xs.length ∧ ∀ (i : Nat) (c : List Value) (x : α), css[i]? = some c → xs[i]? = some x → t.rd w B c x

section
variable {α : Type} {t : Ty α}
theorem Css.nil {w : World} {B : Nat} : Css t w B [] [] := ⟨rfl, fun i c x h => by simp at h⟩
theorem Css.append {w : World} {B : Nat} {css dss : List (List Value)} {xs ys : List α} (h : Css t w B css xs) (k : Css t w B dss ys) : Css t w B (css ++ dss) (xs ++ ys) := by
  refine ⟨by simp [h.1, k.1], fun i c x e1 e2 => ?_⟩
  by_cases hi : i < css.length
  · rw [List.getElem?_append_left hi] at e1
    rw [List.getElem?_append_left (by rw [← h.1]; exact hi)] at e2
    exact h.2 i c x e1 e2
  · rw [List.getElem?_append_right (by omega)] at e1
    rw [List.getElem?_append_right (by rw [← h.1]; omega)] at e2
    exact k.2 _ c x e1 (by rw [h.1]; exact e2)
theorem Css.one {w : World} {B : Nat} {c : List Value} {x : α} (h : t.rd w B c x) : Css t w B [c] [x] := by
  refine ⟨rfl, fun i c' x' e1 e2 => ?_⟩
  cases i with
  | zero => simp at e1 e2; subst e1; subst e2; exact h
  | succ i => simp at e1
theorem Css.ones [ho : TyOne t] {w : World} {B : Nat} {css : List (List Value)} {xs : List α} (h : Css t w B css xs) : ∀ u ∈ css.flatten, u.oneCell' = true := by
  intro u hu
  obtain ⟨c, hc, huc⟩ := List.mem_flatten.1 hu
  obtain ⟨i, hi, rfl⟩ := List.getElem_of_mem hc
  exact ho.one _ _ _ _ (h.2 i _ _ (List.getElem?_eq_getElem hi) (List.getElem?_eq_getElem (by rw [← h.1]; exact hi))) u huc

/-- A row of typed elements of the caller's own (nil or not) from block 'base' on; what the elements refer to lies below block B. -/
def Ty.row (t : Ty α) (w : World) (base B : Nat) (e : TypeId) (v : Value) (xs : List α) : Prop :=
  ∃ css, Css t w B css xs ∧ w.ownsRow base e t.size v xs.length css.flatten
theorem Ty.row.nil (w : World) (base B : Nat) (e : TypeId) : t.row w base B e (.slice none 0 0) [] := ⟨[], Css.nil, by simpa using World.ownsRow_nil w base e t.size⟩
end

section
variable {α : Type} {t : Ty α} [hok : TyOk t]
theorem Css.len {w : World} {B : Nat} : ∀ {css : List (List Value)} {xs : List α}, Css t w B css xs → css.flatten.length = xs.length * t.size
  | [], [], _ => by simp
  | [], _ :: _, h => by have := h.1; simp at this
  | _ :: _, [], h => by have := h.1; simp at this
  | c :: css, x :: xs, h => by
    have h1 := hok.len _ _ _ _ (h.2 0 c x rfl rfl)
    have h2 := Css.len (css := css) (xs := xs) ⟨by have := h.1; simpa using this, fun i c' x' e1 e2 => h.2 (i + 1) c' x' (by simpa using e1) (by simpa using e2)⟩
    simp only [List.flatten_cons, List.length_append, List.length_cons, h1, h2, Nat.add_mul]
    omega
theorem Css.keep {w w' : World} {B : Nat} {css : List (List Value)} {xs : List α} (h : Css t w B css xs) (hk : ∀ p : Addr, p.block < B → w'.cell? p = w.cell? p) : Css t w' B css xs :=
  ⟨h.1, fun i c x e1 e2 => hok.keep _ _ _ _ _ (h.2 i c x e1 e2) hk⟩
theorem Css.fr {w w' : World} {B : Nat} {M : Nat → Prop} {css : List (List Value)} {xs : List α} (h : Css t w B css xs) (hB : B ≤ w.heap.size) (f : Fr M w w') (hM : ∀ k, k < B → ¬ M k) : Css t w' B css xs :=
  h.keep fun _ hp => f.cell (Nat.lt_of_lt_of_le hp hB) (hM _ hp)
theorem flat_get {m : Nat} : ∀ {css : List (List Value)} (_ : ∀ c ∈ css, c.length = m) {i j : Nat} {c : List Value} {u : Value}, css[i]? = some c → c[j]? = some u → css.flatten[i * m + j]? = some u
  | [], _, i, j, c, u, h, _ => by simp at h
  | d :: css, hl, i, j, c, u, h, hu => by
    have hd := hl d (by simp)
    cases i with
    | zero =>
      simp at h
      subst h
      rw [List.flatten_cons, Nat.zero_mul, Nat.zero_add, List.getElem?_append_left (List.getElem?_eq_some_iff.1 hu).1]
      exact hu
    | succ i =>
      simp at h
      rw [List.flatten_cons, List.getElem?_append_right (by rw [Nat.add_mul]; omega), show (i + 1) * m + j - d.length = i * m + j by rw [Nat.add_mul]; omega]
      exact flat_get (fun c hc => hl c (by simp [hc])) h hu
theorem Css.lens {w : World} {B : Nat} {css : List (List Value)} {xs : List α} (h : Css t w B css xs) : ∀ c ∈ css, c.length = t.size := by
  intro c hc
  obtain ⟨i, hi, rfl⟩ := List.getElem_of_mem hc
  exact hok.len _ _ _ _ (h.2 i _ _ (List.getElem?_eq_getElem hi) (List.getElem?_eq_getElem (by rw [← h.1]; exact hi)))

theorem unflat {m : Nat} (hm : 0 < m) : ∀ (n : Nat) (l : List Value), l.length = n * m → ∃ css : List (List Value), css.length = n ∧ css.flatten = l ∧ ∀ c ∈ css, c.length = m
  | 0, l, h => ⟨[], rfl, by simp at h; simp [h], by simp⟩
  | n + 1, l, h => by
    obtain ⟨css, h1, h2, h3⟩ := unflat hm n (l.drop m) (by rw [List.length_drop, h, Nat.add_mul]; omega)
    refine ⟨l.take m :: css, by simp [h1], by simp [h2], fun c hc => ?_⟩
    cases hc with
    | head => rw [List.length_take, h, Nat.add_mul]; omega
    | tail _ hc => exact h3 c hc

/-- What a slice reads as, as a row of cells. -/
theorem els_css {w : World} {B : Nat} {A : Option Addr} {xs : List α} (h : t.els w B A xs) : ∃ css, Css t w B css xs ∧ Rd w B A css.flatten := by
  rcases h with rfl | ⟨b, o, e, hb, h⟩
  · exact ⟨[], Css.nil, .inl rfl⟩
  · obtain ⟨css, hl, hc⟩ := exists_list (fun (i : Nat) (c : List Value) => ∀ x, xs[i]? = some x → (∀ (j : Nat) (u : Value), c[j]? = some u → w.cell? ⟨b, o + (i * t.size + j), none⟩ = some u) ∧ t.rd w B c x) (List.range xs.length)
      (fun i hi => by
        obtain ⟨ds, h1, h2⟩ := h i _ (List.getElem?_eq_getElem (List.mem_range.1 hi))
        exact ⟨ds, fun x hx => by rw [List.getElem?_eq_getElem (List.mem_range.1 hi)] at hx; injection hx with hx; subst hx; exact ⟨h1, h2⟩⟩)
    simp only [List.length_range] at hl
    have hcss : Css t w B css xs := ⟨hl, fun i c x e1 e2 => (hc i i c (by rw [List.getElem?_range]; have := (List.getElem?_eq_some_iff.1 e2).1; exact this) e1 x e2).2⟩
    refine ⟨css, hcss, .inr ⟨b, o, e, hb, fun k u hu => ?_⟩⟩
    have hk : k < xs.length * t.size := by rw [← hcss.len]; exact (List.getElem?_eq_some_iff.1 hu).1
    have hs : 0 < t.size := by
      rcases Nat.eq_zero_or_pos t.size with h0 | h0
      · rw [h0] at hk; simp at hk
      · exact h0
    have hi : k / t.size < xs.length := Nat.div_lt_of_lt_mul (by rwa [Nat.mul_comm] at hk)
    have hcl := hcss.lens _ (List.getElem_mem (n := k / t.size) (by omega : k / t.size < css.length))
    have hj : k % t.size < (css[k / t.size]'(by omega)).length := by rw [hcl]; exact Nat.mod_lt _ hs
    have e1 := flat_get hcss.lens (List.getElem?_eq_getElem (by omega : k / t.size < css.length)) (List.getElem?_eq_getElem hj)
    have e2 : k / t.size * t.size + k % t.size = k := by rw [Nat.mul_comm]; exact Nat.div_add_mod k t.size
    rw [e2, hu] at e1
    have := (hc (k / t.size) (k / t.size) _ (List.getElem?_range hi) (List.getElem?_eq_getElem (by omega : k / t.size < css.length)) _ (List.getElem?_eq_getElem hi)).1 _ _ (List.getElem?_eq_getElem hj)
    rw [e2] at this
    rw [this, e1]

theorem css_els {w : World} {B B' : Nat} {q : Nat} {css : List (List Value)} {xs : List α} (h : Css t w B css xs) (hm : TyMore t) (hB : B ≤ B') (hq : q < B') (o : Nat) (hc : ∀ (k : Nat) (u : Value), css.flatten[k]? = some u → w.cell? ⟨q, o + k, none⟩ = some u) : t.els w B' (some ⟨q, o, none⟩) xs := by
  refine .inr ⟨q, o, rfl, hq, fun i x hx => ?_⟩
  have hi : i < css.length := by rw [h.1]; exact (List.getElem?_eq_some_iff.1 hx).1
  exact ⟨css[i], fun j u hu => hc _ u (flat_get h.lens (List.getElem?_eq_getElem hi) hu), hm.more _ _ _ _ _ (h.2 i _ x (List.getElem?_eq_getElem hi) hx) hB⟩

theorem Ty.row.els [hm : TyMore t] {w : World} {base B : Nat} {e : TypeId} {v : Value} {xs : List α} (h : t.row w base B e v xs) (hB : B ≤ w.heap.size) : ∃ A c, v = .slice A xs.length c ∧ xs.length ≤ c ∧ c ≤ maxLen ∧ t.els w w.heap.size A xs ∧ (A = none ∨ ∃ q, A = some ⟨q, 0, none⟩ ∧ base ≤ q ∧ q < w.heap.size) := by
  obtain ⟨css, h1, h2⟩ := h
  have hl := h1.len
  rcases h2.2 with ⟨rfl, h0⟩ | ⟨g, cap, cur, rfl, hb, hg, k1, k2, k3, k4⟩
  · have hx : xs = [] := List.eq_nil_of_length_eq_zero h0
    subst hx
    exact ⟨none, 0, rfl, by simp, by simp [maxLen], .inl rfl, .inl rfl⟩
  · have hgl : g < w.heap.size := Blk.lt (t := e) (cs := cur) hg
    refine ⟨some ⟨g, 0, none⟩, cap, rfl, k1, k2, ?_, .inr ⟨g, rfl, hb, hgl⟩⟩
    refine css_els h1 hm hB hgl 0 fun k u hu => ?_
    rw [Nat.zero_add, Blk.cell (t := e) (cs := cur) hg k]
    rw [← k4, List.getElem?_take] at hu
    split at hu
    · simpa using hu
    · cases hu
theorem Ty.row.els' [hm : TyMore t] {w : World} {base B : Nat} {e : TypeId} {A : Option Addr} {n c : Nat} {xs : List α} (h : t.row w base B e (.slice A n c) xs) (hB : B ≤ w.heap.size) : t.els w w.heap.size A xs := by
  obtain ⟨A', c', hv, _, _, k, _⟩ := h.els hB
  injection hv with h1 _ _
  subst h1
  exact k
theorem Ty.row.fr {w w' : World} {M : Nat → Prop} {base B : Nat} {e : TypeId} {v : Value} {xs : List α} (h : t.row w base B e v xs) (hB : B ≤ w.heap.size) (f : Fr M w w') (hM : ∀ k, k < B → ¬ M k) (hv : ∀ k, v.ownBlock = some k → ¬ M k) : t.row w' base B e v xs := by
  obtain ⟨css, h1, h2⟩ := h
  refine ⟨css, h1.fr hB f hM, h2.1, ?_⟩
  rcases h2.2 with h0 | ⟨g, cap, cur, rfl, hb, hg, k⟩
  · exact .inl h0
  · exact .inr ⟨g, cap, cur, rfl, hb, Blk.fr (t := e) (cs := cur) hg f (hv g rfl), k⟩

/-- append(v, ys...), typed. -/
theorem run_appE [TyOne t] {P : Program} {ts e : TypeId} {bytes : Nat} {z : Value} {base B B2 : Nat} {A : Option Addr} (E : ElemOk P ts e t.size bytes z) (w : World) (ty : TypeId) {v : Value} (m c : Nat) {xs ys : List α} (hown : t.row w base B e v xs)
    (hr : t.els w B2 A ys) (hB2 : B2 ≤ B) (hm : TyMore t) (hl : ys.length = m) (h63 : (xs.length + m) ≤ maxLen) (hbytes : (xs.length + m) * bytes ≤ 140737488355328) (hBb : B ≤ base) (hbase : base ≤ w.heap.size) :
    ∃ v' w', (Builtin.append_ #[ts, ts] ty #[v, .slice A m c]).run P w = .ok v' w' ∧ t.row w' base B e v' (xs ++ ys) ∧ Fr (fun k => some k = v.ownBlock) w w' ∧
      (v' = .slice none 0 0 ↔ v = .slice none 0 0 ∧ m = 0) ∧ (v'.ownBlock = v.ownBlock ∨ v'.ownBlock = some w.heap.size) := by
  obtain ⟨css, h1, h2⟩ := hown
  obtain ⟨dss, k1, k2⟩ := els_css hr
  subst hl
  obtain ⟨v', w', hrun, r1, r2, r3, r4⟩ := run_app E w ty c h2 k2 (by rw [k1.len]) k1.ones h63 hbytes hbase
  have hM : ∀ k, k < B → ¬ some k = v.ownBlock := by
    intro k hk he
    rcases h2.2 with ⟨rfl, _⟩ | ⟨g, cap, cur, rfl, hb, _⟩
    · cases he
    · simp only [Value.ownBlock, Option.some.injEq] at he
      omega
  refine ⟨v', w', hrun, ⟨css ++ dss, Css.append (h1.fr (Nat.le_trans hBb hbase) r2 hM) ?_, ?_⟩, r2, r3, r4⟩
  · exact ⟨k1.1, fun i c x e1 e2 => hok.keep _ _ _ _ _ (hm.more _ _ _ _ _ (k1.2 i c x e1 e2) hB2) (fun p hp => r2.cell (Nat.lt_of_lt_of_le hp (Nat.le_trans hBb hbase)) (hM _ hp))⟩
  · rw [List.flatten_append, List.length_append]; exact r1
end

section
variable {α : Type} {t : Ty α} [hok : TyOk t] [hone : TyOne t] [hmore : TyMore t]
variable {P : Program} {ts e : TypeId} {bytes : Nat} {z : Value} {B base B2 : Nat} {A : Option Addr}
variable {ops : Array Oper} {rest : List Oper} {o : Oper} {a : Act} {Q : Exit → Act → World → Prop} {w : World}
/-- x = append(x, ys...), typed, x nil or a row of the caller's own. -/
theorem wpList_appE {m cs : Nat} {s x : Operand} {v : Value} {xs ys : List α} (E : ElemOk P ts e t.size bytes z) (hgd : o.guard = none)
    (ho : o.op = .call { callee := .builtin .append, args := #[s, x], argTypes := #[ts, ts] })
    (hs : a.eval s = v) (hx : a.eval x = .slice A m cs) (hown : t.row w base B e v xs) (hr : t.els w B2 A ys) (hB2 : B2 ≤ B) (hl : ys.length = m)
    (h63 : xs.length + m ≤ 140737488355328) (hbytes : (xs.length + m) * bytes ≤ 140737488355328) (hBb : B ≤ base) (hbase : base ≤ w.heap.size)
    (h : ∀ v' w', t.row w' base B e v' (xs ++ ys) → Fr (fun k => some k = v.ownBlock) w w' → (v'.ownBlock = v.ownBlock ∨ v'.ownBlock = some w.heap.size) → wpList P ops Q rest (a.put o.dst v') w') :
    wpList P ops Q (o :: rest) a w := by
  refine wpList_plain hgd fun K hK => ?_
  obtain ⟨v', w', hrun, h2, h3, h4, h5⟩ := run_appE E w o.type m cs hown hr hB2 hmore hl (by simp only [maxLen]; omega) hbytes hBb hbase
  unfold Oper.wp execOp
  simp only [ho, resolve, invoke, builtin, Sem.run_bind, Sem.run_pure, Result.andThen_ok, List.map_toArray, List.map_cons, List.map_nil, hs, hx, hrun]
  exact hK _ _ (h v' w' h2 h3 h5)
end
end Go.Proofs.Ytklkgfmcdoifpaa
