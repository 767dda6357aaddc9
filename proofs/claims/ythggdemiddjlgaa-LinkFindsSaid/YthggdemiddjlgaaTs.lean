/- Types of data, set-based: what the cells of a value read as; S: the blocks that the reading rests on. No condition. -/
import Derived.Test.YthggdemiddjlgaaRows
import Derived.Test.YthggdemiddjlgaaRow
import Derived.ChangeArms
import Derived.Carry
import Derived.KernelRfl
import Derived.SizedLaws
namespace Go.Proofs.Ythggdemiddjlgaa
open Go.RowKit

/-- size: how many cells; rd w S cs x: the cells cs read as x, memory in the blocks of S; le m x: no list or text in x is longer than m; bytes: a lower bound of its size in Go; lw m x: as le, and no list in x has more than m bytes. -/
structure Ty (α : Type) where
  size : Nat
  rd : World → (Nat → Prop) → List Value → α → Prop
  le : Nat → α → Prop
  bytes : Nat
  lw : Nat → α → Prop

def Ty.int (k : IntKind) : Ty Int := ⟨1, fun _ _ cs n => cs = [.int k n] ∧ (Lit.int k n).wf = true, fun _ _ => True, k.bits / 8, fun _ _ => True⟩
def Ty.bool : Ty Bool := ⟨1, fun _ _ cs b => cs = [.bool b], fun _ _ => True, 1, fun _ _ => True⟩
def Ty.str : Ty ByteArray := ⟨1, fun _ _ cs s => cs = [.string s] ∧ s.size ≤ maxLen, fun m s => s.size ≤ m, 16, fun m s => s.size ≤ m⟩
def Ty.unit : Ty Unit := ⟨0, fun _ _ cs _ => cs = [], fun _ _ => True, 0, fun _ _ => True⟩
def Ty.pair {α β : Type} (s : Ty α) (t : Ty β) : Ty (α × β) :=
  ⟨s.size + t.size, fun w S cs x => ∃ c1 c2, cs = c1 ++ c2 ∧ s.rd w S c1 x.1 ∧ t.rd w S c2 x.2, fun m x => s.le m x.1 ∧ t.le m x.2, s.bytes + t.bytes, fun m x => s.lw m x.1 ∧ t.lw m x.2⟩
def Ty.iso {α β : Type} (t : Ty β) (g : α → β) : Ty α := ⟨t.size, fun w S cs x => t.rd w S cs (g x), fun m x => t.le m (g x), t.bytes, fun m x => t.lw m (g x)⟩
/-- The elements of a slice with the address A. -/
def Ty.els {α : Type} (t : Ty α) (w : World) (S : Nat → Prop) (A : Option Addr) (xs : List α) : Prop :=
  xs = [] ∨ ∃ b o, A = some ⟨b, o, none⟩ ∧ S b ∧ ∀ (i : Nat) (x : α), xs[i]? = some x →
    ∃ ds, (∀ (j : Nat) (u : Value), ds[j]? = some u → w.cell? ⟨b, o + (i * t.size + j), none⟩ = some u) ∧ t.rd w S ds x
def Ty.slice {α : Type} (t : Ty α) : Ty (List α) :=
  ⟨1, fun w S cs xs => ∃ A c, cs = [.slice A xs.length c] ∧ xs.length ≤ c ∧ c ≤ maxLen ∧ t.els w S A xs, fun m xs => xs.length ≤ m ∧ ∀ x ∈ xs, t.le m x, 24, fun m xs => xs.length ≤ m ∧ xs.length * t.bytes ≤ m ∧ ∀ x ∈ xs, t.lw m x⟩

class TyOk {α : Type} (t : Ty α) : Prop where
  len : ∀ w S cs x, t.rd w S cs x → cs.length = t.size
  keep : ∀ w w' S cs x, t.rd w S cs x → (∀ p : Addr, S p.block → w'.cell? p = w.cell? p) → t.rd w' S cs x

instance (k : IntKind) : TyOk (Ty.int k) := ⟨fun _ _ _ _ h => by rw [h.1]; rfl, fun _ _ _ _ _ h _ => h⟩
instance : TyOk Ty.bool := ⟨fun _ _ _ _ h => by rw [show _ = _ from h]; rfl, fun _ _ _ _ _ h _ => h⟩
instance : TyOk Ty.str := ⟨fun _ _ _ _ h => by rw [h.1]; rfl, fun _ _ _ _ _ h _ => h⟩
instance : TyOk Ty.unit := ⟨fun _ _ _ _ h => by rw [show _ = _ from h]; rfl, fun _ _ _ _ _ h _ => h⟩
instance {α β : Type} (s : Ty α) (t : Ty β) [hs : TyOk s] [ht : TyOk t] : TyOk (s.pair t) :=
  ⟨fun w S cs x ⟨c1, c2, e, h1, h2⟩ => by rw [e, List.length_append, hs.len _ _ _ _ h1, ht.len _ _ _ _ h2]; rfl,
   fun w w' S cs x ⟨c1, c2, e, h1, h2⟩ hk => ⟨c1, c2, e, hs.keep _ _ _ _ _ h1 hk, ht.keep _ _ _ _ _ h2 hk⟩⟩
instance {α β : Type} (t : Ty β) (g : α → β) [ht : TyOk t] : TyOk (t.iso g) :=
  ⟨fun w S cs x h => ht.len w S cs (g x) h, fun w w' S cs x h hk => ht.keep w w' S cs (g x) h hk⟩
theorem Ty.els.keep {α : Type} {t : Ty α} [ht : TyOk t] {w w' : World} {S : Nat → Prop} {A : Option Addr} {xs : List α} (h : t.els w S A xs) (hk : ∀ p : Addr, S p.block → w'.cell? p = w.cell? p) : t.els w' S A xs := by
  rcases h with h | ⟨b, o, e, hb, h⟩
  · exact .inl h
  · refine .inr ⟨b, o, e, hb, fun i x hx => ?_⟩
    obtain ⟨ds, h1, h2⟩ := h i x hx
    exact ⟨ds, fun j u hu => (hk _ hb).trans (h1 j u hu), ht.keep _ _ _ _ _ h2 hk⟩
instance {α : Type} (t : Ty α) [ht : TyOk t] : TyOk t.slice :=
  ⟨fun w S cs xs ⟨A, c, e, _⟩ => by rw [e]; rfl, fun w w' S cs xs ⟨A, c, e, h1, h2, h3⟩ hk => ⟨A, c, e, h1, h2, h3.keep hk⟩⟩

theorem Ty.els.fr {α : Type} {t : Ty α} [TyOk t] {w w' : World} {S : Nat → Prop} {A : Option Addr} {xs : List α} {M : Nat → Prop} (h : t.els w S A xs) (f : Fr M w w') (hM : ∀ k, S k → k < w.heap.size ∧ ¬ M k) : t.els w' S A xs :=
  h.keep fun _ hp => f.cell (hM _ hp).1 (hM _ hp).2
theorem Ty.els.at_ {α : Type} {t : Ty α} {w : World} {S : Nat → Prop} {A : Option Addr} {xs : List α} (h : t.els w S A xs) (i : Nat) (hi : i < xs.length) :
    ∃ b o ds, A = some ⟨b, o, none⟩ ∧ S b ∧ (∀ (j : Nat) (u : Value), ds[j]? = some u → w.cell? ⟨b, o + (i * t.size + j), none⟩ = some u) ∧ t.rd w S ds xs[i] := by
  rcases h with h | ⟨b, o, e, hb, h⟩
  · subst h; simp at hi
  · obtain ⟨ds, h1, h2⟩ := h i _ (List.getElem?_eq_getElem hi)
    exact ⟨b, o, ds, e, hb, h1, h2⟩
/-- Whatever reads as a datum of the type t reads as a value of ty. -/
def Opens {α : Type} (P : Program) (t : TypeId) (ty : Ty α) : Prop :=
  ∀ (H : Type) (enc : TypeId × Value → H) (w : World) (fuel : Nat) (cs : List Value) (x : DataW H × List MemPlace), DataW.trod enc P w 0 (fun _ => true) true fuel t cs = some x →
    ∃ y, ty.rd w (· < w.heap.size) cs y ∧ (∀ m, Rows.uptoBulk x.1 ≤ m → ty.le m y) ∧ ∀ m, (∀ n ∈ x.1.weights P t, n ≤ m) → ty.lw m y

theorem opens_int {P : Program} {t : TypeId} {k : IntKind} (hu : P.underlying t = some (.int k)) : Opens P t (Ty.int k) := by
  intro H enc w fuel cs x h
  obtain ⟨n, h1, _, h3⟩ := DataW.trod_int hu h
  exact ⟨n, ⟨h1, h3⟩, fun _ _ => trivial, fun _ _ => trivial⟩
theorem opens_bool {P : Program} {t : TypeId} (hu : P.underlying t = some .bool) : Opens P t Ty.bool := by
  intro H enc w fuel cs x h
  obtain ⟨b, h1, _⟩ := DataW.trod_bool hu h
  exact ⟨b, h1, fun _ _ => trivial, fun _ _ => trivial⟩
theorem opens_str {P : Program} {t : TypeId} (hu : P.underlying t = some .string) : Opens P t Ty.str := by
  intro H enc w fuel cs x h
  obtain ⟨s, h1, h2, h3⟩ := DataW.trod_string hu h
  refine ⟨s, ⟨h1, h3⟩, fun m hm => ?_, fun m hm => ?_⟩
  · subst h2
    simp only [Rows.uptoBulk, Array.length_toList] at hm
    show s.size ≤ m
    have : s.data.size = s.size := rfl
    omega
  · subst h2
    have := hm s.data.toList.length (by simp [DataW.weights])
    show s.size ≤ m
    have : s.data.size = s.size := rfl
    simp at *
    omega
theorem opens_iso {α β : Type} {P : Program} {t : TypeId} {ty : Ty β} (g : α → β) (f : β → α) (hgf : ∀ y, g (f y) = y) (h : Opens P t ty) : Opens P t (ty.iso g) := by
  intro H enc w fuel cs x hx
  obtain ⟨y, h1, h2, h3⟩ := h H enc w fuel cs x hx
  exact ⟨f y, by show ty.rd _ _ _ (g (f y)); rw [hgf]; exact h1, fun m hm => by show ty.le m (g (f y)); rw [hgf]; exact h2 m hm, fun m hm => by show ty.lw m (g (f y)); rw [hgf]; exact h3 m hm⟩

theorem bulk_mem {H : Type} {d : DataW H} : ∀ {l : List (DataW H)}, d ∈ l → Rows.uptoBulk d ≤ Rows.uptoBulkAll l
  | [], h => by cases h
  | e :: l, h => by
    simp only [Rows.uptoBulkAll]
    cases h with
    | head => omega
    | tail _ h => have := bulk_mem h; omega
theorem bulk_pos {H : Type} (d : DataW H) : 1 ≤ Rows.uptoBulk d := by
  cases d with
  | lit l => cases l <;> simp [Rows.uptoBulk]
  | _ => simp [Rows.uptoBulk]
theorem bulk_len {H : Type} : ∀ (l : List (DataW H)), l.length ≤ Rows.uptoBulkAll l
  | [] => by simp
  | e :: l => by simp only [Rows.uptoBulkAll, List.length_cons]; have := bulk_len l; have := bulk_pos e; omega

theorem weights_all {H : Type} {P : Program} {e : TypeId} {d : DataW H} {n : Nat} (hn : n ∈ d.weights P e) : ∀ {l : List (DataW H)}, d ∈ l → n ∈ DataW.weightsAll P e l
  | [], h => by cases h
  | c :: l, h => by
    simp only [DataW.weightsAll, List.mem_append]
    cases h with
    | head => exact .inl hn
    | tail _ h => exact .inr (weights_all hn h)

theorem exists_list {α β : Type} (R : β → α → Prop) : ∀ (l : List β), (∀ b ∈ l, ∃ a, R b a) → ∃ ys : List α, ys.length = l.length ∧ ∀ (i : Nat) (b : β) (a : α), l[i]? = some b → ys[i]? = some a → R b a
  | [], _ => ⟨[], rfl, by simp⟩
  | b :: l, h => by
    obtain ⟨a, ha⟩ := h b (by simp)
    obtain ⟨ys, h1, h2⟩ := exists_list R l (fun b hb => h b (by simp [hb]))
    refine ⟨a :: ys, by simp [h1], fun i b' a' e1 e2 => ?_⟩
    cases i with
    | zero => simp at e1 e2; subst e1; subst e2; exact ha
    | succ i => simp at e1 e2; exact h2 i b' a' e1 e2

theorem add_spot {w : World} {ad : Addr} {n : Nat} {u : Value} (h : w.cell? (ad.add n) = some u) : n = 0 → ad.spot = none := by
  intro h0
  subst h0
  simpa [Addr.add] using World.cell?_spot h

theorem opens_slice {α : Type} {P : Program} {t e : TypeId} {ty : Ty α} (hu : P.underlying t = some (.slice e)) (hsz : P.cellsOf e = ty.size) (hpos : 0 < ty.size) (ho : Opens P e ty) (hby : decide (0 < P.bytesOf e) = true := by kernel_rfl) (hbw : decide (ty.bytes ≤ P.bytesOf e) = true := by kernel_rfl) : Opens P t ty.slice := by
  have hby' : 0 < P.bytesOf e := of_decide_eq_true hby
  intro H enc w fuel cs x h
  rcases DataW.trod_slice hu h with ⟨h1, h2⟩ | ⟨a, len, cap, elems, rest, n, _, hcs, hx, _, hlc, hcm, hel, hcells, _, _⟩
  · exact ⟨[], ⟨none, 0, h1, by simp, by simp [maxLen], .inl rfl⟩, fun m _ => ⟨by simp, by simp⟩, fun m _ => ⟨by simp, by simp, by simp⟩⟩
  · rw [hsz] at hcells
    have hget : ∀ i, i < len → ∃ (y : α) (ds : List Value) (el : DataW H × List MemPlace), elems[i]? = some el ∧ w.cells? 0 (a.add (i * ty.size)) ty.size = some ds ∧ ty.rd w (· < w.heap.size) ds y ∧ (∀ m, Rows.uptoBulk el.1 ≤ m → ty.le m y) ∧ ∀ m, (∀ n ∈ el.1.weights P e, n ≤ m) → ty.lw m y := by
      intro i hi
      have hc := hcells i hi
      have hsome : elems[i]? = some (elems[i]'(by omega)) := List.getElem?_eq_getElem (by omega)
      rw [hsome, Option.bind_eq_some_iff] at hc
      obtain ⟨ds, h1, h2⟩ := hc
      obtain ⟨y, h3, h4, h5⟩ := ho H enc w n ds _ h2
      exact ⟨y, ds, _, hsome, h1, h3, h4, h5⟩
    obtain ⟨ys, hyl, hys⟩ := exists_list (fun (i : Nat) (y : α) => ∃ (ds : List Value) (el : DataW H × List MemPlace), elems[i]? = some el ∧ w.cells? 0 (a.add (i * ty.size)) ty.size = some ds ∧ ty.rd w (· < w.heap.size) ds y ∧ (∀ m, Rows.uptoBulk el.1 ≤ m → ty.le m y) ∧ ∀ m, (∀ n ∈ el.1.weights P e, n ≤ m) → ty.lw m y) (List.range len)
      (fun i hi => hget i (by simpa using hi))
    simp only [List.length_range] at hyl
    refine ⟨ys, ⟨some a, cap, by rw [hcs, hyl], by omega, hcm, ?_⟩, fun m hm => ?_, fun m hm => ?_⟩
    · by_cases h0 : len = 0
      · left; exact List.eq_nil_of_length_eq_zero (by omega)
      · right
        obtain ⟨y0, ds0, el0, _, hd0, _, _, _⟩ := hget 0 (by omega)
        obtain ⟨_, hl0, hc0⟩ := World.cells?_some hd0
        have hz := hc0 0 (by omega)
        rw [List.getElem?_eq_getElem (by omega)] at hz
        simp only [Nat.zero_mul] at hz
        have hz' : w.cell? a = some ds0[0] := by simpa [Addr.add] using hz
        obtain ⟨b, o, sp⟩ := a
        have hsp : sp = none := World.cell?_spot hz'
        subst hsp
        refine ⟨b, o, rfl, World.block_lt_of_cell? w _ hz', fun i y hy => ?_⟩
        have hi : i < len := by have := (List.getElem?_eq_some_iff.1 hy).1; omega
        obtain ⟨ds, el, _, hd, hr, _, _⟩ := hys i i y (by simp [hi]) hy
        obtain ⟨_, hl, hc⟩ := World.cells?_some hd
        refine ⟨ds, fun j u hu => ?_, hr⟩
        have hj : j < ty.size := by have := (List.getElem?_eq_some_iff.1 hu).1; omega
        have := hc j hj
        rw [hu, add_lit'', add_lit''] at this
        rw [← this, Nat.add_assoc]
    · subst hx
      simp only [Rows.uptoBulk] at hm
      refine ⟨by have := bulk_len (elems.map (·.1)); simp at this; omega, fun y hy => ?_⟩
      obtain ⟨i, hi, rfl⟩ := List.getElem_of_mem hy
      obtain ⟨ds, el, he, _, _, hle, _⟩ := hys i i _ (List.getElem?_range (by omega)) (List.getElem?_eq_getElem hi)
      refine hle m ?_
      have hmem : el ∈ elems := List.mem_of_getElem? he
      have := bulk_mem (List.mem_map_of_mem (f := (·.1)) hmem)
      omega
    · subst hx
      simp only [DataW.weights, hu] at hm
      have hl := hm _ (List.mem_cons_self ..)
      simp only [List.length_map] at hl
      refine ⟨?_, ?_, fun y hy => ?_⟩
      · have := Nat.le_mul_of_pos_right (elems.length + rest.length) hby'
        omega
      · exact Nat.le_trans (Nat.mul_le_mul (by omega) (of_decide_eq_true hbw)) hl
      · obtain ⟨i, hi, rfl⟩ := List.getElem_of_mem hy
        obtain ⟨ds, el, he, _, _, _, hle⟩ := hys i i _ (List.getElem?_range (by omega)) (List.getElem?_eq_getElem hi)
        refine hle m fun n hn => hm n (List.mem_cons_of_mem _ (List.mem_append.2 (.inl ?_)))
        exact weights_all hn (List.mem_map_of_mem (f := (·.1)) (List.mem_of_getElem? he))
where add_lit'' (b o j : Nat) : (⟨b, o, none⟩ : Addr).add j = ⟨b, o + j, none⟩ := by unfold Addr.add; split <;> simp_all

/-- The fields of a struct from cell 'off' on. -/
inductive Flds (P : Program) : {α : Type} → List Field → Nat → Ty α → Prop
  | nil {off : Nat} : Flds P [] off Ty.unit
  | one {α : Type} {f : Field} {off : Nat} {ty : Ty α} (h1 : f.offset = off) (h2 : P.cellsOf f.type = ty.size) (h3 : Opens P f.type ty) : Flds P [f] off ty
  | cons {α β : Type} {f : Field} {fs : List Field} {off : Nat} {ty : Ty α} {tys : Ty β} (h1 : f.offset = off) (h2 : P.cellsOf f.type = ty.size) (h3 : Opens P f.type ty) (h4 : Flds P fs (off + ty.size) tys) :
      Flds P (f :: fs) off (ty.pair tys)

theorem flds_open {α : Type} {P : Program} {fs : List Field} {off : Nat} {ty : Ty α} (hf : Flds P fs off ty) : ∀ (H : Type) (enc : TypeId × Value → H) (w : World) (n : Nat) (cs : List Value) (xs : List (DataW H × List MemPlace)),
    cs.length = off + ty.size → xs.length = fs.length →
    (∀ (i : Nat) (f : Field), fs[i]? = some f → DataW.trod enc P w 0 (fun _ => true) true n f.type ((cs.drop f.offset).take (P.cellsOf f.type)) = xs[i]?) →
    ∃ y, ty.rd w (· < w.heap.size) (cs.drop off) y ∧ (∀ m, Rows.uptoBulkAll (xs.map (·.1)) ≤ m → ty.le m y) ∧ ∀ m, (∀ n ∈ DataW.weightsEach P (fs.map (·.type)) (xs.map (·.1)), n ≤ m) → ty.lw m y := by
  induction hf with
  | nil =>
    intro H enc w n cs xs hl _ _
    refine ⟨(), ?_, fun _ _ => trivial, fun _ _ => trivial⟩
    show List.drop _ cs = []
    rw [List.drop_eq_nil_iff]
    simp [Ty.unit] at hl
    omega
  | one h1 h2 h3 =>
    rename_i f off ty
    intro H enc w n cs xs hl hx h
    obtain ⟨x, rfl⟩ : ∃ x, xs = [x] := by
      match xs, hx with
      | [x], _ => exact ⟨x, rfl⟩
    have := h 0 f rfl
    rw [h1, h2] at this
    simp only [List.getElem?_cons_zero] at this
    obtain ⟨y, r1, r2, r3⟩ := h3 H enc w n _ _ this
    rw [List.take_of_length_le (by simp; omega)] at r1
    exact ⟨y, r1, fun m hm => r2 m (by simp only [List.map_cons, List.map_nil, Rows.uptoBulkAll] at hm; omega), fun m hm => r3 m fun n hn => hm n (by simp only [List.map_cons, List.map_nil, DataW.weightsEach, List.append_nil]; exact hn)⟩
  | cons h1 h2 h3 h4 ih =>
    rename_i f fs off ty tys
    intro H enc w n cs xs hl hx h
    obtain ⟨x, xs', rfl⟩ : ∃ x xs', xs = x :: xs' := by
      match xs, hx with
      | x :: xs', _ => exact ⟨x, xs', rfl⟩
    have h0 := h 0 f rfl
    rw [h1, h2] at h0
    simp only [List.getElem?_cons_zero] at h0
    obtain ⟨y, r1, r2, r3⟩ := h3 H enc w n _ _ h0
    have hl' : cs.length = off + ty.size + tys.size := by rw [hl]; show off + (ty.size + tys.size) = _; omega
    obtain ⟨z, s1, s2, s3⟩ := ih H enc w n cs xs' hl' (by simpa using hx) (fun i g hg => by
      have := h (i + 1) g (by simpa using hg)
      simpa using this)
    refine ⟨(y, z), ⟨(cs.drop off).take ty.size, cs.drop (off + ty.size), ?_, r1, s1⟩, fun m hm => ?_, fun m hm => ?_⟩
    · rw [← List.drop_drop, List.take_append_drop]
    · simp only [List.map_cons, Rows.uptoBulkAll] at hm
      exact ⟨r2 m (by omega), s2 m (by omega)⟩
    · simp only [List.map_cons, DataW.weightsEach, List.mem_append] at hm
      exact ⟨r3 m fun n hn => hm n (.inl hn), s3 m fun n hn => hm n (.inr hn)⟩

theorem opens_struct {α : Type} {P : Program} {t : TypeId} {fs : List Field} {ty : Ty α} (hu : P.underlying t = some (.struct fs.toArray)) (hsz : P.cellsOf t = ty.size) (hf : Flds P fs 0 ty) : Opens P t ty := by
  intro H enc w fuel cs x h
  obtain ⟨xs, n, _, hx, hl, hxl, hc⟩ := DataW.trod_struct hu h
  obtain ⟨y, h1, h2, h3⟩ := flds_open hf H enc w n cs xs (by omega) (by simpa using hxl) (fun i f hf' => hc i f (by simpa using hf'))
  refine ⟨y, by simpa using h1, fun m hm => h2 m ?_, fun m hm => h3 m fun n hn => hm n ?_⟩
  · subst hx
    simp only [Rows.uptoBulk] at hm
    omega
  · subst hx
    simpa only [DataW.weights, hu] using hn
end Go.Proofs.Ythggdemiddjlgaa
