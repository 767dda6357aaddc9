/- The program's store in memory. No condition. -/
import Derived.Test.YthggdemiddjlgaaGb
import Derived.Test.YthggdemiddjlgaaRowS
namespace Go.Proofs.Ythggdemiddjlgaa
open Go.RowKit

/-- What nobody writes any more: the blocks that are there and not reserved. -/
def Sd (w : World) (R : Nat → Prop) (k : Nat) : Prop := k < w.heap.size ∧ ¬ R k
theorem Sd.up {w w' : World} {R R' : Nat → Prop} (hs : w.heap.size ≤ w'.heap.size) (hR : ∀ k, k < w.heap.size → R' k → R k) {k : Nat} (h : Sd w R k) : Sd w' R' k :=
  ⟨Nat.lt_of_lt_of_le h.1 hs, fun r => h.2 (hR k h.1 r)⟩
theorem row_keep {α : Type} {t : Ty α} [TyOk t] [TyMore t] {w w' : World} {R R' M : Nat → Prop} {e : TypeId} {v : Value} {xs : List α} (h : t.row w 0 (Sd w R) e v xs) (f : Fr M w w') (hM : ∀ k, k < w.heap.size → M k → R k)
    (hv : ∀ k, v.ownBlock = some k → ¬ M k) (hR : ∀ k, k < w.heap.size → R' k → R k) : t.row w' 0 (Sd w' R') e v xs :=
  (h.fr f (fun k hk => ⟨hk.1, fun m => hk.2 (hM k hk.1 m)⟩) hv).more (Nat.le_refl _) (fun _ hk => hk.up f.size hR)
theorem els_keep {α : Type} {t : Ty α} [TyOk t] [TyMore t] {w w' : World} {R R' M : Nat → Prop} {A : Option Addr} {xs : List α} (h : t.els w (Sd w R) A xs) (f : Fr M w w') (hM : ∀ k, k < w.heap.size → M k → R k)
    (hR : ∀ k, k < w.heap.size → R' k → R k) : t.els w' (Sd w' R') A xs :=
  (h.fr f (fun k hk => ⟨hk.1, fun m => hk.2 (hM k hk.1 m)⟩)).more (fun _ hk => hk.up f.size hR)
theorem rd_keep {α : Type} {t : Ty α} [ho : TyOk t] [hm : TyMore t] {w w' : World} {R R' M : Nat → Prop} {cs : List Value} {x : α} (h : t.rd w (Sd w R) cs x) (f : Fr M w w') (hM : ∀ k, k < w.heap.size → M k → R k)
    (hR : ∀ k, k < w.heap.size → R' k → R k) : t.rd w' (Sd w' R') cs x :=
  hm.more _ _ _ _ _ (ho.keep _ w' _ _ _ h (fun p hp => f.cell hp.1 (fun m => hp.2 (hM _ hp.1 m)))) (fun _ hk => hk.up f.size hR)

/-- Where the store lies: its own block, the slices of its ten rows, the blocks of its tables and memories (object, entries, capacity). -/
structure Pl where
  P : Nat
  ho : Value
  co : Value
  ca : Value
  fu : Value
  ta : Value
  me : Value
  gl : Value
  el : Value
  da : Value
  is : Value
  tp : List (Nat × Nat × Nat)
  mp : List (Nat × Nat × Nat)
def Pl.vs (V : Pl) : List Value := [V.ho, V.co, V.ca, V.fu, V.ta, V.me, V.gl, V.el, V.da, V.is]
def Pl.own (V : Pl) (k : Nat) : Prop := k = V.P ∨ (∃ v ∈ V.vs, v.ownBlock = some k) ∨ (∃ t ∈ V.tp, k = t.1 ∨ k = t.2.1) ∨ (∃ t ∈ V.mp, k = t.1 ∨ k = t.2.1)

structure StIn (w : World) (R : Nat → Prop) (V : Pl) (x : Rx) : Prop where
  blk : Blk w V.P 93 #[V.ho, V.co, V.ca, V.fu, V.ta, V.me, V.gl, V.el, V.da, V.is]
  ho : tHo.row w 0 (Sd w R) 99 V.ho x.hosts
  co : tI.row w 0 (Sd w R) 3 V.co x.counts
  ca : tCa.row w 0 (Sd w R) 215 V.ca x.calls
  fu : tFi.row w 0 (Sd w R) 134 V.fu x.funcs
  ta : tPt.row w 0 (Sd w R) 138 V.ta (V.tp.map (·.1))
  me : tPt.row w 0 (Sd w R) 107 V.me (V.mp.map (·.1))
  gl : tRg.row w 0 (Sd w R) 106 V.gl x.globs
  el : tRs.row w 0 (Sd w R) 217 V.el x.elems
  da : tRb.row w 0 (Sd w R) 219 V.da x.datas
  is : tRi.row w 0 (Sd w R) 223 V.is x.insts
  tl : V.tp.length = x.tabs.length
  tat : ∀ (i : Nat) (z : Nat × Nat × Nat) (t : Rt), V.tp[i]? = some z → x.tabs[i]? = some t → TabAt w z.1 z.2.1 z.2.2 t.t.elem t.t.lim.min t.t.lim.max t.t.lim.has t.l
  tne : ∀ (i j : Nat) (a b : Nat × Nat × Nat), V.tp[i]? = some a → V.tp[j]? = some b → i ≠ j → a.1 ≠ b.1 ∧ a.2.1 ≠ b.2.1
  ml : V.mp.length = x.mems.length
  mat : ∀ (i : Nat) (z : Nat × Nat × Nat) (t : Rm), V.mp[i]? = some z → x.mems[i]? = some t → Mo w z.1 z.2.1 z.2.2 t.lim t.b
  mne : ∀ (i j : Nat) (a b : Nat × Nat × Nat), V.mp[i]? = some a → V.mp[j]? = some b → i ≠ j → a.1 ≠ b.1 ∧ a.2.1 ≠ b.2.1
  own : ∀ k, V.own k → R k
  low : ∀ k, R k → k < w.heap.size

def Bt (w : World) (k : Nat) (t : TypeId) : Prop := ∃ cs, Blk w k t cs
theorem Bt.ne {w : World} {a b : Nat} {t u : TypeId} (h : Bt w a t) (k : Bt w b u) (hne : t ≠ u) : a ≠ b := by
  obtain ⟨_, h⟩ := h
  obtain ⟨_, k⟩ := k
  exact h.ne_ k hne
theorem row_bk {α : Type} {t : Ty α} {w : World} {base : Nat} {S : Nat → Prop} {e : TypeId} {v : Value} {xs : List α} (h : t.row w base S e v xs) {k : Nat} (hv : v.ownBlock = some k) : Bt w k e := (h.own hv).2
theorem Own.bk {w : World} {q c : Nat} {e : TypeId} {xs : List Value} (h : Own w q e c xs) : Bt w q e := by obtain ⟨cur, hb, _⟩ := h.cur; exact ⟨cur, hb⟩
theorem mem_get {α β : Type} {l : List α} {m : List β} (h : l.length = m.length) {a : α} (ha : a ∈ l) : ∃ (i : Nat) (b : β), l[i]? = some a ∧ m[i]? = some b := by
  obtain ⟨i, hi, rfl⟩ := List.getElem_of_mem ha
  exact ⟨i, m[i]'(by omega), List.getElem?_eq_getElem hi, List.getElem?_eq_getElem (by omega)⟩
theorem get_pair {α β : Type} {l : List α} {m : List β} (h : l.length = m.length) {i : Nat} {b : β} (hb : m[i]? = some b) : ∃ a, l[i]? = some a := by
  have hi := (List.getElem?_eq_some_iff.1 hb).1
  exact ⟨l[i]'(by omega), List.getElem?_eq_getElem (by omega)⟩

section
variable {M : Nat → Prop} {w w' : World} {R R' : Nat → Prop} {V : Pl} {x : Rx}
theorem StIn.tbk (h : StIn w R V x) {z : Nat × Nat × Nat} (hz : z ∈ V.tp) : Bt w z.1 182 ∧ Bt w z.2.1 38 := by
  obtain ⟨i, t, h1, h2⟩ := mem_get h.tl hz
  have := h.tat i z t h1 h2
  exact ⟨⟨_, this.blk⟩, this.own.bk⟩
theorem StIn.mbk (h : StIn w R V x) {z : Nat × Nat × Nat} (hz : z ∈ V.mp) : Bt w z.1 127 ∧ Bt w z.2.1 5 := by
  obtain ⟨i, t, h1, h2⟩ := mem_get h.ml hz
  have := h.mat i z t h1 h2
  exact ⟨⟨_, this.hp⟩, this.own.bk⟩
/-- The types of the blocks that a store owns. -/
theorem StIn.kinds (h : StIn w R V x) {k : Nat} (hk : V.own k) : k = V.P ∧ Bt w k 93 ∨ V.ho.ownBlock = some k ∧ Bt w k 99 ∨ V.co.ownBlock = some k ∧ Bt w k 3 ∨ V.ca.ownBlock = some k ∧ Bt w k 215 ∨ V.fu.ownBlock = some k ∧ Bt w k 134 ∨ V.ta.ownBlock = some k ∧ Bt w k 138 ∨ V.me.ownBlock = some k ∧ Bt w k 107 ∨ V.gl.ownBlock = some k ∧ Bt w k 106 ∨ V.el.ownBlock = some k ∧ Bt w k 217 ∨ V.da.ownBlock = some k ∧ Bt w k 219 ∨ V.is.ownBlock = some k ∧ Bt w k 223 ∨ (∃ z ∈ V.tp, k = z.1 ∧ Bt w k 182 ∨ k = z.2.1 ∧ Bt w k 38) ∨ (∃ z ∈ V.mp, k = z.1 ∧ Bt w k 127 ∨ k = z.2.1 ∧ Bt w k 5) := by
  rcases hk with rfl | ⟨v, hv, hk⟩ | ⟨z, hz, hk⟩ | ⟨z, hz, hk⟩
  · exact .inl ⟨rfl, _, h.blk⟩
  · simp only [Pl.vs, List.mem_cons, List.not_mem_nil, or_false] at hv
    rcases hv with rfl | rfl | rfl | rfl | rfl | rfl | rfl | rfl | rfl | rfl
    · exact .inr (.inl ⟨hk, row_bk h.ho hk⟩)
    · exact .inr (.inr (.inl ⟨hk, row_bk h.co hk⟩))
    · exact .inr (.inr (.inr (.inl ⟨hk, row_bk h.ca hk⟩)))
    · exact .inr (.inr (.inr (.inr (.inl ⟨hk, row_bk h.fu hk⟩))))
    · exact .inr (.inr (.inr (.inr (.inr (.inl ⟨hk, row_bk h.ta hk⟩)))))
    · exact .inr (.inr (.inr (.inr (.inr (.inr (.inl ⟨hk, row_bk h.me hk⟩))))))
    · exact .inr (.inr (.inr (.inr (.inr (.inr (.inr (.inl ⟨hk, row_bk h.gl hk⟩)))))))
    · exact .inr (.inr (.inr (.inr (.inr (.inr (.inr (.inr (.inl ⟨hk, row_bk h.el hk⟩))))))))
    · exact .inr (.inr (.inr (.inr (.inr (.inr (.inr (.inr (.inr (.inl ⟨hk, row_bk h.da hk⟩)))))))))
    · exact .inr (.inr (.inr (.inr (.inr (.inr (.inr (.inr (.inr (.inr (.inl ⟨hk, row_bk h.is hk⟩))))))))))
  · obtain ⟨h1, h2⟩ := h.tbk hz
    refine .inr (.inr (.inr (.inr (.inr (.inr (.inr (.inr (.inr (.inr (.inr (.inl ⟨z, hz, ?_⟩)))))))))))
    rcases hk with rfl | rfl
    · exact .inl ⟨rfl, h1⟩
    · exact .inr ⟨rfl, h2⟩
  · obtain ⟨h1, h2⟩ := h.mbk hz
    refine .inr (.inr (.inr (.inr (.inr (.inr (.inr (.inr (.inr (.inr (.inr (.inr (⟨z, hz, ?_⟩))))))))))))
    rcases hk with rfl | rfl
    · exact .inl ⟨rfl, h1⟩
    · exact .inr ⟨rfl, h2⟩
theorem StIn.lt (h : StIn w R V x) {k : Nat} (hk : V.own k) : k < w.heap.size := by
  have := h.kinds hk
  rcases this with ⟨_, _, h⟩ | ⟨_, _, h⟩ | ⟨_, _, h⟩ | ⟨_, _, h⟩ | ⟨_, _, h⟩ | ⟨_, _, h⟩ | ⟨_, _, h⟩ | ⟨_, _, h⟩ | ⟨_, _, h⟩ | ⟨_, _, h⟩ | ⟨_, _, h⟩ | ⟨z, hz, ⟨_, _, h⟩ | ⟨_, _, h⟩⟩ | ⟨z, hz, ⟨_, _, h⟩ | ⟨_, _, h⟩⟩ <;> exact h.lt

theorem Pl.oP (V : Pl) : V.own V.P := .inl rfl
theorem Pl.o_ho {V : Pl} {k : Nat} (h : V.ho.ownBlock = some k) : V.own k := .inr (.inl ⟨V.ho, by simp [Pl.vs], h⟩)
theorem Pl.o_co {V : Pl} {k : Nat} (h : V.co.ownBlock = some k) : V.own k := .inr (.inl ⟨V.co, by simp [Pl.vs], h⟩)
theorem Pl.o_ca {V : Pl} {k : Nat} (h : V.ca.ownBlock = some k) : V.own k := .inr (.inl ⟨V.ca, by simp [Pl.vs], h⟩)
theorem Pl.o_fu {V : Pl} {k : Nat} (h : V.fu.ownBlock = some k) : V.own k := .inr (.inl ⟨V.fu, by simp [Pl.vs], h⟩)
theorem Pl.o_ta {V : Pl} {k : Nat} (h : V.ta.ownBlock = some k) : V.own k := .inr (.inl ⟨V.ta, by simp [Pl.vs], h⟩)
theorem Pl.o_me {V : Pl} {k : Nat} (h : V.me.ownBlock = some k) : V.own k := .inr (.inl ⟨V.me, by simp [Pl.vs], h⟩)
theorem Pl.o_gl {V : Pl} {k : Nat} (h : V.gl.ownBlock = some k) : V.own k := .inr (.inl ⟨V.gl, by simp [Pl.vs], h⟩)
theorem Pl.o_el {V : Pl} {k : Nat} (h : V.el.ownBlock = some k) : V.own k := .inr (.inl ⟨V.el, by simp [Pl.vs], h⟩)
theorem Pl.o_da {V : Pl} {k : Nat} (h : V.da.ownBlock = some k) : V.own k := .inr (.inl ⟨V.da, by simp [Pl.vs], h⟩)
theorem Pl.o_is {V : Pl} {k : Nat} (h : V.is.ownBlock = some k) : V.own k := .inr (.inl ⟨V.is, by simp [Pl.vs], h⟩)
theorem Pl.o_tp {V : Pl} {z : Nat × Nat × Nat} (h : z ∈ V.tp) : V.own z.1 ∧ V.own z.2.1 := ⟨.inr (.inr (.inl ⟨z, h, .inl rfl⟩)), .inr (.inr (.inl ⟨z, h, .inr rfl⟩))⟩
theorem Pl.o_mp {V : Pl} {z : Nat × Nat × Nat} (h : z ∈ V.mp) : V.own z.1 ∧ V.own z.2.1 := ⟨.inr (.inr (.inr ⟨z, h, .inl rfl⟩)), .inr (.inr (.inr ⟨z, h, .inr rfl⟩))⟩
theorem StIn.fr (h : StIn w R V x) (f : Fr M w w') (hM : ∀ k, k < w.heap.size → M k → R k ∧ ¬ V.own k) (hR : ∀ k, k < w.heap.size → R' k → R k) (hR2 : ∀ k, R k → R' k) (hR3 : ∀ k, R' k → k < w'.heap.size) : StIn w' R' V x where
  blk := h.blk.fr f (fun m => (hM _ h.blk.lt m).2 V.oP)
  ho := row_keep h.ho f (fun k hk m => (hM k hk m).1) (fun k hk m => (hM k (h.lt (Pl.o_ho hk)) m).2 (Pl.o_ho hk)) hR
  co := row_keep h.co f (fun k hk m => (hM k hk m).1) (fun k hk m => (hM k (h.lt (Pl.o_co hk)) m).2 (Pl.o_co hk)) hR
  ca := row_keep h.ca f (fun k hk m => (hM k hk m).1) (fun k hk m => (hM k (h.lt (Pl.o_ca hk)) m).2 (Pl.o_ca hk)) hR
  fu := row_keep h.fu f (fun k hk m => (hM k hk m).1) (fun k hk m => (hM k (h.lt (Pl.o_fu hk)) m).2 (Pl.o_fu hk)) hR
  ta := row_keep h.ta f (fun k hk m => (hM k hk m).1) (fun k hk m => (hM k (h.lt (Pl.o_ta hk)) m).2 (Pl.o_ta hk)) hR
  me := row_keep h.me f (fun k hk m => (hM k hk m).1) (fun k hk m => (hM k (h.lt (Pl.o_me hk)) m).2 (Pl.o_me hk)) hR
  gl := row_keep h.gl f (fun k hk m => (hM k hk m).1) (fun k hk m => (hM k (h.lt (Pl.o_gl hk)) m).2 (Pl.o_gl hk)) hR
  el := row_keep h.el f (fun k hk m => (hM k hk m).1) (fun k hk m => (hM k (h.lt (Pl.o_el hk)) m).2 (Pl.o_el hk)) hR
  da := row_keep h.da f (fun k hk m => (hM k hk m).1) (fun k hk m => (hM k (h.lt (Pl.o_da hk)) m).2 (Pl.o_da hk)) hR
  is := row_keep h.is f (fun k hk m => (hM k hk m).1) (fun k hk m => (hM k (h.lt (Pl.o_is hk)) m).2 (Pl.o_is hk)) hR
  tl := h.tl
  tat := fun i z t h1 h2 => by
    have o := Pl.o_tp (V := V) (List.mem_of_getElem? h1)
    exact (h.tat i z t h1 h2).fr f (fun m => (hM _ (h.lt o.1) m).2 o.1) (fun m => (hM _ (h.lt o.2) m).2 o.2)
  tne := h.tne
  ml := h.ml
  mat := fun i z t h1 h2 => by
    have o := Pl.o_mp (V := V) (List.mem_of_getElem? h1)
    exact (h.mat i z t h1 h2).fr f (fun m => (hM _ (h.lt o.1) m).2 o.1) (fun m => (hM _ (h.lt o.2) m).2 o.2)
  mne := h.mne
  own := fun k hk => hR2 k (h.own k hk)
  low := hR3
theorem StIn.frNo (h : StIn w R V x) (f : Fr No w w') : StIn w' R V x := h.fr f (fun _ _ m => m.elim) (fun _ _ h => h) (fun _ h => h) (fun k hk => Nat.lt_of_lt_of_le (h.low k hk) f.size)
end

theorem StIn.put_ho {w w' : World} {R R' : Nat → Prop} {V : Pl} {x : Rx} {v' : Value} {xs : List Ho} (h : StIn w R V x) (f : Fr (fun k => k = V.P ∨ V.ho.ownBlock = some k) w w') (hb : Blk w' V.P 93 #[v', V.co, V.ca, V.fu, V.ta, V.me, V.gl, V.el, V.da, V.is])
    (hrow : tHo.row w' 0 (Sd w' R') 99 v' xs) (hv : ∀ k, v'.ownBlock = some k → R' k) (hR : ∀ k, k < w.heap.size → R' k → R k) (hR2 : ∀ k, R k → R' k) (hR3 : ∀ k, R' k → k < w'.heap.size) : StIn w' R' { V with ho := v' } { x with hosts := xs } := by
  have hM : ∀ k, k < w.heap.size → (k = V.P ∨ V.ho.ownBlock = some k) → R k := fun k _ m => h.own k (m.elim (fun e => e ▸ V.oP) Pl.o_ho)
  have nP : ∀ {k t}, Bt w k t → t ≠ 93 → t ≠ 99 → ¬ (k = V.P ∨ V.ho.ownBlock = some k) := fun hk h1 h2 m => m.elim (fun e => Bt.ne hk ⟨_, h.blk⟩ h1 e) (fun e => Bt.ne hk (row_bk h.ho e) h2 rfl)
  constructor
  case blk => exact hb
  case ho => exact hrow
  case co => exact row_keep h.co f hM (fun k hk => nP (row_bk h.co hk) (by decide) (by decide)) hR
  case ca => exact row_keep h.ca f hM (fun k hk => nP (row_bk h.ca hk) (by decide) (by decide)) hR
  case fu => exact row_keep h.fu f hM (fun k hk => nP (row_bk h.fu hk) (by decide) (by decide)) hR
  case ta => exact row_keep h.ta f hM (fun k hk => nP (row_bk h.ta hk) (by decide) (by decide)) hR
  case me => exact row_keep h.me f hM (fun k hk => nP (row_bk h.me hk) (by decide) (by decide)) hR
  case gl => exact row_keep h.gl f hM (fun k hk => nP (row_bk h.gl hk) (by decide) (by decide)) hR
  case el => exact row_keep h.el f hM (fun k hk => nP (row_bk h.el hk) (by decide) (by decide)) hR
  case da => exact row_keep h.da f hM (fun k hk => nP (row_bk h.da hk) (by decide) (by decide)) hR
  case is => exact row_keep h.is f hM (fun k hk => nP (row_bk h.is hk) (by decide) (by decide)) hR
  case tl => exact h.tl
  case tat =>
    intro i z t h1 h2
    have o := h.tbk (List.mem_of_getElem? h1)
    exact (h.tat i z t h1 h2).fr f (nP o.1 (by decide) (by decide)) (nP o.2 (by decide) (by decide))
  case tne => exact h.tne
  case ml => exact h.ml
  case mat =>
    intro i z t h1 h2
    have o := h.mbk (List.mem_of_getElem? h1)
    exact (h.mat i z t h1 h2).fr f (nP o.1 (by decide) (by decide)) (nP o.2 (by decide) (by decide))
  case mne => exact h.mne
  case low => exact hR3
  case own =>
    rintro k (hk | ⟨v, hv1, hk⟩ | hk | hk)
    · exact hR2 k (h.own k (.inl hk))
    · simp only [Pl.vs, List.mem_cons, List.not_mem_nil, or_false] at hv1
      rcases hv1 with rfl | rfl | rfl | rfl | rfl | rfl | rfl | rfl | rfl | rfl
      · exact hv k hk
      · exact hR2 k (h.own k (Pl.o_co hk))
      · exact hR2 k (h.own k (Pl.o_ca hk))
      · exact hR2 k (h.own k (Pl.o_fu hk))
      · exact hR2 k (h.own k (Pl.o_ta hk))
      · exact hR2 k (h.own k (Pl.o_me hk))
      · exact hR2 k (h.own k (Pl.o_gl hk))
      · exact hR2 k (h.own k (Pl.o_el hk))
      · exact hR2 k (h.own k (Pl.o_da hk))
      · exact hR2 k (h.own k (Pl.o_is hk))
    · exact hR2 k (h.own k (.inr (.inr (.inl hk))))
    · exact hR2 k (h.own k (.inr (.inr (.inr hk))))
theorem StIn.put_co {w w' : World} {R R' : Nat → Prop} {V : Pl} {x : Rx} {v' : Value} {xs : List Int} (h : StIn w R V x) (f : Fr (fun k => k = V.P ∨ V.co.ownBlock = some k) w w') (hb : Blk w' V.P 93 #[V.ho, v', V.ca, V.fu, V.ta, V.me, V.gl, V.el, V.da, V.is])
    (hrow : tI.row w' 0 (Sd w' R') 3 v' xs) (hv : ∀ k, v'.ownBlock = some k → R' k) (hR : ∀ k, k < w.heap.size → R' k → R k) (hR2 : ∀ k, R k → R' k) (hR3 : ∀ k, R' k → k < w'.heap.size) : StIn w' R' { V with co := v' } { x with counts := xs } := by
  have hM : ∀ k, k < w.heap.size → (k = V.P ∨ V.co.ownBlock = some k) → R k := fun k _ m => h.own k (m.elim (fun e => e ▸ V.oP) Pl.o_co)
  have nP : ∀ {k t}, Bt w k t → t ≠ 93 → t ≠ 3 → ¬ (k = V.P ∨ V.co.ownBlock = some k) := fun hk h1 h2 m => m.elim (fun e => Bt.ne hk ⟨_, h.blk⟩ h1 e) (fun e => Bt.ne hk (row_bk h.co e) h2 rfl)
  constructor
  case blk => exact hb
  case ho => exact row_keep h.ho f hM (fun k hk => nP (row_bk h.ho hk) (by decide) (by decide)) hR
  case co => exact hrow
  case ca => exact row_keep h.ca f hM (fun k hk => nP (row_bk h.ca hk) (by decide) (by decide)) hR
  case fu => exact row_keep h.fu f hM (fun k hk => nP (row_bk h.fu hk) (by decide) (by decide)) hR
  case ta => exact row_keep h.ta f hM (fun k hk => nP (row_bk h.ta hk) (by decide) (by decide)) hR
  case me => exact row_keep h.me f hM (fun k hk => nP (row_bk h.me hk) (by decide) (by decide)) hR
  case gl => exact row_keep h.gl f hM (fun k hk => nP (row_bk h.gl hk) (by decide) (by decide)) hR
  case el => exact row_keep h.el f hM (fun k hk => nP (row_bk h.el hk) (by decide) (by decide)) hR
  case da => exact row_keep h.da f hM (fun k hk => nP (row_bk h.da hk) (by decide) (by decide)) hR
  case is => exact row_keep h.is f hM (fun k hk => nP (row_bk h.is hk) (by decide) (by decide)) hR
  case tl => exact h.tl
  case tat =>
    intro i z t h1 h2
    have o := h.tbk (List.mem_of_getElem? h1)
    exact (h.tat i z t h1 h2).fr f (nP o.1 (by decide) (by decide)) (nP o.2 (by decide) (by decide))
  case tne => exact h.tne
  case ml => exact h.ml
  case mat =>
    intro i z t h1 h2
    have o := h.mbk (List.mem_of_getElem? h1)
    exact (h.mat i z t h1 h2).fr f (nP o.1 (by decide) (by decide)) (nP o.2 (by decide) (by decide))
  case mne => exact h.mne
  case low => exact hR3
  case own =>
    rintro k (hk | ⟨v, hv1, hk⟩ | hk | hk)
    · exact hR2 k (h.own k (.inl hk))
    · simp only [Pl.vs, List.mem_cons, List.not_mem_nil, or_false] at hv1
      rcases hv1 with rfl | rfl | rfl | rfl | rfl | rfl | rfl | rfl | rfl | rfl
      · exact hR2 k (h.own k (Pl.o_ho hk))
      · exact hv k hk
      · exact hR2 k (h.own k (Pl.o_ca hk))
      · exact hR2 k (h.own k (Pl.o_fu hk))
      · exact hR2 k (h.own k (Pl.o_ta hk))
      · exact hR2 k (h.own k (Pl.o_me hk))
      · exact hR2 k (h.own k (Pl.o_gl hk))
      · exact hR2 k (h.own k (Pl.o_el hk))
      · exact hR2 k (h.own k (Pl.o_da hk))
      · exact hR2 k (h.own k (Pl.o_is hk))
    · exact hR2 k (h.own k (.inr (.inr (.inl hk))))
    · exact hR2 k (h.own k (.inr (.inr (.inr hk))))
theorem StIn.put_ca {w w' : World} {R R' : Nat → Prop} {V : Pl} {x : Rx} {v' : Value} {xs : List Ca} (h : StIn w R V x) (f : Fr (fun k => k = V.P ∨ V.ca.ownBlock = some k) w w') (hb : Blk w' V.P 93 #[V.ho, V.co, v', V.fu, V.ta, V.me, V.gl, V.el, V.da, V.is])
    (hrow : tCa.row w' 0 (Sd w' R') 215 v' xs) (hv : ∀ k, v'.ownBlock = some k → R' k) (hR : ∀ k, k < w.heap.size → R' k → R k) (hR2 : ∀ k, R k → R' k) (hR3 : ∀ k, R' k → k < w'.heap.size) : StIn w' R' { V with ca := v' } { x with calls := xs } := by
  have hM : ∀ k, k < w.heap.size → (k = V.P ∨ V.ca.ownBlock = some k) → R k := fun k _ m => h.own k (m.elim (fun e => e ▸ V.oP) Pl.o_ca)
  have nP : ∀ {k t}, Bt w k t → t ≠ 93 → t ≠ 215 → ¬ (k = V.P ∨ V.ca.ownBlock = some k) := fun hk h1 h2 m => m.elim (fun e => Bt.ne hk ⟨_, h.blk⟩ h1 e) (fun e => Bt.ne hk (row_bk h.ca e) h2 rfl)
  constructor
  case blk => exact hb
  case ho => exact row_keep h.ho f hM (fun k hk => nP (row_bk h.ho hk) (by decide) (by decide)) hR
  case co => exact row_keep h.co f hM (fun k hk => nP (row_bk h.co hk) (by decide) (by decide)) hR
  case ca => exact hrow
  case fu => exact row_keep h.fu f hM (fun k hk => nP (row_bk h.fu hk) (by decide) (by decide)) hR
  case ta => exact row_keep h.ta f hM (fun k hk => nP (row_bk h.ta hk) (by decide) (by decide)) hR
  case me => exact row_keep h.me f hM (fun k hk => nP (row_bk h.me hk) (by decide) (by decide)) hR
  case gl => exact row_keep h.gl f hM (fun k hk => nP (row_bk h.gl hk) (by decide) (by decide)) hR
  case el => exact row_keep h.el f hM (fun k hk => nP (row_bk h.el hk) (by decide) (by decide)) hR
  case da => exact row_keep h.da f hM (fun k hk => nP (row_bk h.da hk) (by decide) (by decide)) hR
  case is => exact row_keep h.is f hM (fun k hk => nP (row_bk h.is hk) (by decide) (by decide)) hR
  case tl => exact h.tl
  case tat =>
    intro i z t h1 h2
    have o := h.tbk (List.mem_of_getElem? h1)
    exact (h.tat i z t h1 h2).fr f (nP o.1 (by decide) (by decide)) (nP o.2 (by decide) (by decide))
  case tne => exact h.tne
  case ml => exact h.ml
  case mat =>
    intro i z t h1 h2
    have o := h.mbk (List.mem_of_getElem? h1)
    exact (h.mat i z t h1 h2).fr f (nP o.1 (by decide) (by decide)) (nP o.2 (by decide) (by decide))
  case mne => exact h.mne
  case low => exact hR3
  case own =>
    rintro k (hk | ⟨v, hv1, hk⟩ | hk | hk)
    · exact hR2 k (h.own k (.inl hk))
    · simp only [Pl.vs, List.mem_cons, List.not_mem_nil, or_false] at hv1
      rcases hv1 with rfl | rfl | rfl | rfl | rfl | rfl | rfl | rfl | rfl | rfl
      · exact hR2 k (h.own k (Pl.o_ho hk))
      · exact hR2 k (h.own k (Pl.o_co hk))
      · exact hv k hk
      · exact hR2 k (h.own k (Pl.o_fu hk))
      · exact hR2 k (h.own k (Pl.o_ta hk))
      · exact hR2 k (h.own k (Pl.o_me hk))
      · exact hR2 k (h.own k (Pl.o_gl hk))
      · exact hR2 k (h.own k (Pl.o_el hk))
      · exact hR2 k (h.own k (Pl.o_da hk))
      · exact hR2 k (h.own k (Pl.o_is hk))
    · exact hR2 k (h.own k (.inr (.inr (.inl hk))))
    · exact hR2 k (h.own k (.inr (.inr (.inr hk))))
theorem StIn.put_fu {w w' : World} {R R' : Nat → Prop} {V : Pl} {x : Rx} {v' : Value} {xs : List Fi} (h : StIn w R V x) (f : Fr (fun k => k = V.P ∨ V.fu.ownBlock = some k) w w') (hb : Blk w' V.P 93 #[V.ho, V.co, V.ca, v', V.ta, V.me, V.gl, V.el, V.da, V.is])
    (hrow : tFi.row w' 0 (Sd w' R') 134 v' xs) (hv : ∀ k, v'.ownBlock = some k → R' k) (hR : ∀ k, k < w.heap.size → R' k → R k) (hR2 : ∀ k, R k → R' k) (hR3 : ∀ k, R' k → k < w'.heap.size) : StIn w' R' { V with fu := v' } { x with funcs := xs } := by
  have hM : ∀ k, k < w.heap.size → (k = V.P ∨ V.fu.ownBlock = some k) → R k := fun k _ m => h.own k (m.elim (fun e => e ▸ V.oP) Pl.o_fu)
  have nP : ∀ {k t}, Bt w k t → t ≠ 93 → t ≠ 134 → ¬ (k = V.P ∨ V.fu.ownBlock = some k) := fun hk h1 h2 m => m.elim (fun e => Bt.ne hk ⟨_, h.blk⟩ h1 e) (fun e => Bt.ne hk (row_bk h.fu e) h2 rfl)
  constructor
  case blk => exact hb
  case ho => exact row_keep h.ho f hM (fun k hk => nP (row_bk h.ho hk) (by decide) (by decide)) hR
  case co => exact row_keep h.co f hM (fun k hk => nP (row_bk h.co hk) (by decide) (by decide)) hR
  case ca => exact row_keep h.ca f hM (fun k hk => nP (row_bk h.ca hk) (by decide) (by decide)) hR
  case fu => exact hrow
  case ta => exact row_keep h.ta f hM (fun k hk => nP (row_bk h.ta hk) (by decide) (by decide)) hR
  case me => exact row_keep h.me f hM (fun k hk => nP (row_bk h.me hk) (by decide) (by decide)) hR
  case gl => exact row_keep h.gl f hM (fun k hk => nP (row_bk h.gl hk) (by decide) (by decide)) hR
  case el => exact row_keep h.el f hM (fun k hk => nP (row_bk h.el hk) (by decide) (by decide)) hR
  case da => exact row_keep h.da f hM (fun k hk => nP (row_bk h.da hk) (by decide) (by decide)) hR
  case is => exact row_keep h.is f hM (fun k hk => nP (row_bk h.is hk) (by decide) (by decide)) hR
  case tl => exact h.tl
  case tat =>
    intro i z t h1 h2
    have o := h.tbk (List.mem_of_getElem? h1)
    exact (h.tat i z t h1 h2).fr f (nP o.1 (by decide) (by decide)) (nP o.2 (by decide) (by decide))
  case tne => exact h.tne
  case ml => exact h.ml
  case mat =>
    intro i z t h1 h2
    have o := h.mbk (List.mem_of_getElem? h1)
    exact (h.mat i z t h1 h2).fr f (nP o.1 (by decide) (by decide)) (nP o.2 (by decide) (by decide))
  case mne => exact h.mne
  case low => exact hR3
  case own =>
    rintro k (hk | ⟨v, hv1, hk⟩ | hk | hk)
    · exact hR2 k (h.own k (.inl hk))
    · simp only [Pl.vs, List.mem_cons, List.not_mem_nil, or_false] at hv1
      rcases hv1 with rfl | rfl | rfl | rfl | rfl | rfl | rfl | rfl | rfl | rfl
      · exact hR2 k (h.own k (Pl.o_ho hk))
      · exact hR2 k (h.own k (Pl.o_co hk))
      · exact hR2 k (h.own k (Pl.o_ca hk))
      · exact hv k hk
      · exact hR2 k (h.own k (Pl.o_ta hk))
      · exact hR2 k (h.own k (Pl.o_me hk))
      · exact hR2 k (h.own k (Pl.o_gl hk))
      · exact hR2 k (h.own k (Pl.o_el hk))
      · exact hR2 k (h.own k (Pl.o_da hk))
      · exact hR2 k (h.own k (Pl.o_is hk))
    · exact hR2 k (h.own k (.inr (.inr (.inl hk))))
    · exact hR2 k (h.own k (.inr (.inr (.inr hk))))
theorem StIn.put_gl {w w' : World} {R R' : Nat → Prop} {V : Pl} {x : Rx} {v' : Value} {xs : List Rg} (h : StIn w R V x) (f : Fr (fun k => k = V.P ∨ V.gl.ownBlock = some k) w w') (hb : Blk w' V.P 93 #[V.ho, V.co, V.ca, V.fu, V.ta, V.me, v', V.el, V.da, V.is])
    (hrow : tRg.row w' 0 (Sd w' R') 106 v' xs) (hv : ∀ k, v'.ownBlock = some k → R' k) (hR : ∀ k, k < w.heap.size → R' k → R k) (hR2 : ∀ k, R k → R' k) (hR3 : ∀ k, R' k → k < w'.heap.size) : StIn w' R' { V with gl := v' } { x with globs := xs } := by
  have hM : ∀ k, k < w.heap.size → (k = V.P ∨ V.gl.ownBlock = some k) → R k := fun k _ m => h.own k (m.elim (fun e => e ▸ V.oP) Pl.o_gl)
  have nP : ∀ {k t}, Bt w k t → t ≠ 93 → t ≠ 106 → ¬ (k = V.P ∨ V.gl.ownBlock = some k) := fun hk h1 h2 m => m.elim (fun e => Bt.ne hk ⟨_, h.blk⟩ h1 e) (fun e => Bt.ne hk (row_bk h.gl e) h2 rfl)
  constructor
  case blk => exact hb
  case ho => exact row_keep h.ho f hM (fun k hk => nP (row_bk h.ho hk) (by decide) (by decide)) hR
  case co => exact row_keep h.co f hM (fun k hk => nP (row_bk h.co hk) (by decide) (by decide)) hR
  case ca => exact row_keep h.ca f hM (fun k hk => nP (row_bk h.ca hk) (by decide) (by decide)) hR
  case fu => exact row_keep h.fu f hM (fun k hk => nP (row_bk h.fu hk) (by decide) (by decide)) hR
  case ta => exact row_keep h.ta f hM (fun k hk => nP (row_bk h.ta hk) (by decide) (by decide)) hR
  case me => exact row_keep h.me f hM (fun k hk => nP (row_bk h.me hk) (by decide) (by decide)) hR
  case gl => exact hrow
  case el => exact row_keep h.el f hM (fun k hk => nP (row_bk h.el hk) (by decide) (by decide)) hR
  case da => exact row_keep h.da f hM (fun k hk => nP (row_bk h.da hk) (by decide) (by decide)) hR
  case is => exact row_keep h.is f hM (fun k hk => nP (row_bk h.is hk) (by decide) (by decide)) hR
  case tl => exact h.tl
  case tat =>
    intro i z t h1 h2
    have o := h.tbk (List.mem_of_getElem? h1)
    exact (h.tat i z t h1 h2).fr f (nP o.1 (by decide) (by decide)) (nP o.2 (by decide) (by decide))
  case tne => exact h.tne
  case ml => exact h.ml
  case mat =>
    intro i z t h1 h2
    have o := h.mbk (List.mem_of_getElem? h1)
    exact (h.mat i z t h1 h2).fr f (nP o.1 (by decide) (by decide)) (nP o.2 (by decide) (by decide))
  case mne => exact h.mne
  case low => exact hR3
  case own =>
    rintro k (hk | ⟨v, hv1, hk⟩ | hk | hk)
    · exact hR2 k (h.own k (.inl hk))
    · simp only [Pl.vs, List.mem_cons, List.not_mem_nil, or_false] at hv1
      rcases hv1 with rfl | rfl | rfl | rfl | rfl | rfl | rfl | rfl | rfl | rfl
      · exact hR2 k (h.own k (Pl.o_ho hk))
      · exact hR2 k (h.own k (Pl.o_co hk))
      · exact hR2 k (h.own k (Pl.o_ca hk))
      · exact hR2 k (h.own k (Pl.o_fu hk))
      · exact hR2 k (h.own k (Pl.o_ta hk))
      · exact hR2 k (h.own k (Pl.o_me hk))
      · exact hv k hk
      · exact hR2 k (h.own k (Pl.o_el hk))
      · exact hR2 k (h.own k (Pl.o_da hk))
      · exact hR2 k (h.own k (Pl.o_is hk))
    · exact hR2 k (h.own k (.inr (.inr (.inl hk))))
    · exact hR2 k (h.own k (.inr (.inr (.inr hk))))
theorem StIn.put_el {w w' : World} {R R' : Nat → Prop} {V : Pl} {x : Rx} {v' : Value} {xs : List Rs} (h : StIn w R V x) (f : Fr (fun k => k = V.P ∨ V.el.ownBlock = some k) w w') (hb : Blk w' V.P 93 #[V.ho, V.co, V.ca, V.fu, V.ta, V.me, V.gl, v', V.da, V.is])
    (hrow : tRs.row w' 0 (Sd w' R') 217 v' xs) (hv : ∀ k, v'.ownBlock = some k → R' k) (hR : ∀ k, k < w.heap.size → R' k → R k) (hR2 : ∀ k, R k → R' k) (hR3 : ∀ k, R' k → k < w'.heap.size) : StIn w' R' { V with el := v' } { x with elems := xs } := by
  have hM : ∀ k, k < w.heap.size → (k = V.P ∨ V.el.ownBlock = some k) → R k := fun k _ m => h.own k (m.elim (fun e => e ▸ V.oP) Pl.o_el)
  have nP : ∀ {k t}, Bt w k t → t ≠ 93 → t ≠ 217 → ¬ (k = V.P ∨ V.el.ownBlock = some k) := fun hk h1 h2 m => m.elim (fun e => Bt.ne hk ⟨_, h.blk⟩ h1 e) (fun e => Bt.ne hk (row_bk h.el e) h2 rfl)
  constructor
  case blk => exact hb
  case ho => exact row_keep h.ho f hM (fun k hk => nP (row_bk h.ho hk) (by decide) (by decide)) hR
  case co => exact row_keep h.co f hM (fun k hk => nP (row_bk h.co hk) (by decide) (by decide)) hR
  case ca => exact row_keep h.ca f hM (fun k hk => nP (row_bk h.ca hk) (by decide) (by decide)) hR
  case fu => exact row_keep h.fu f hM (fun k hk => nP (row_bk h.fu hk) (by decide) (by decide)) hR
  case ta => exact row_keep h.ta f hM (fun k hk => nP (row_bk h.ta hk) (by decide) (by decide)) hR
  case me => exact row_keep h.me f hM (fun k hk => nP (row_bk h.me hk) (by decide) (by decide)) hR
  case gl => exact row_keep h.gl f hM (fun k hk => nP (row_bk h.gl hk) (by decide) (by decide)) hR
  case el => exact hrow
  case da => exact row_keep h.da f hM (fun k hk => nP (row_bk h.da hk) (by decide) (by decide)) hR
  case is => exact row_keep h.is f hM (fun k hk => nP (row_bk h.is hk) (by decide) (by decide)) hR
  case tl => exact h.tl
  case tat =>
    intro i z t h1 h2
    have o := h.tbk (List.mem_of_getElem? h1)
    exact (h.tat i z t h1 h2).fr f (nP o.1 (by decide) (by decide)) (nP o.2 (by decide) (by decide))
  case tne => exact h.tne
  case ml => exact h.ml
  case mat =>
    intro i z t h1 h2
    have o := h.mbk (List.mem_of_getElem? h1)
    exact (h.mat i z t h1 h2).fr f (nP o.1 (by decide) (by decide)) (nP o.2 (by decide) (by decide))
  case mne => exact h.mne
  case low => exact hR3
  case own =>
    rintro k (hk | ⟨v, hv1, hk⟩ | hk | hk)
    · exact hR2 k (h.own k (.inl hk))
    · simp only [Pl.vs, List.mem_cons, List.not_mem_nil, or_false] at hv1
      rcases hv1 with rfl | rfl | rfl | rfl | rfl | rfl | rfl | rfl | rfl | rfl
      · exact hR2 k (h.own k (Pl.o_ho hk))
      · exact hR2 k (h.own k (Pl.o_co hk))
      · exact hR2 k (h.own k (Pl.o_ca hk))
      · exact hR2 k (h.own k (Pl.o_fu hk))
      · exact hR2 k (h.own k (Pl.o_ta hk))
      · exact hR2 k (h.own k (Pl.o_me hk))
      · exact hR2 k (h.own k (Pl.o_gl hk))
      · exact hv k hk
      · exact hR2 k (h.own k (Pl.o_da hk))
      · exact hR2 k (h.own k (Pl.o_is hk))
    · exact hR2 k (h.own k (.inr (.inr (.inl hk))))
    · exact hR2 k (h.own k (.inr (.inr (.inr hk))))
theorem StIn.put_da {w w' : World} {R R' : Nat → Prop} {V : Pl} {x : Rx} {v' : Value} {xs : List Rb} (h : StIn w R V x) (f : Fr (fun k => k = V.P ∨ V.da.ownBlock = some k) w w') (hb : Blk w' V.P 93 #[V.ho, V.co, V.ca, V.fu, V.ta, V.me, V.gl, V.el, v', V.is])
    (hrow : tRb.row w' 0 (Sd w' R') 219 v' xs) (hv : ∀ k, v'.ownBlock = some k → R' k) (hR : ∀ k, k < w.heap.size → R' k → R k) (hR2 : ∀ k, R k → R' k) (hR3 : ∀ k, R' k → k < w'.heap.size) : StIn w' R' { V with da := v' } { x with datas := xs } := by
  have hM : ∀ k, k < w.heap.size → (k = V.P ∨ V.da.ownBlock = some k) → R k := fun k _ m => h.own k (m.elim (fun e => e ▸ V.oP) Pl.o_da)
  have nP : ∀ {k t}, Bt w k t → t ≠ 93 → t ≠ 219 → ¬ (k = V.P ∨ V.da.ownBlock = some k) := fun hk h1 h2 m => m.elim (fun e => Bt.ne hk ⟨_, h.blk⟩ h1 e) (fun e => Bt.ne hk (row_bk h.da e) h2 rfl)
  constructor
  case blk => exact hb
  case ho => exact row_keep h.ho f hM (fun k hk => nP (row_bk h.ho hk) (by decide) (by decide)) hR
  case co => exact row_keep h.co f hM (fun k hk => nP (row_bk h.co hk) (by decide) (by decide)) hR
  case ca => exact row_keep h.ca f hM (fun k hk => nP (row_bk h.ca hk) (by decide) (by decide)) hR
  case fu => exact row_keep h.fu f hM (fun k hk => nP (row_bk h.fu hk) (by decide) (by decide)) hR
  case ta => exact row_keep h.ta f hM (fun k hk => nP (row_bk h.ta hk) (by decide) (by decide)) hR
  case me => exact row_keep h.me f hM (fun k hk => nP (row_bk h.me hk) (by decide) (by decide)) hR
  case gl => exact row_keep h.gl f hM (fun k hk => nP (row_bk h.gl hk) (by decide) (by decide)) hR
  case el => exact row_keep h.el f hM (fun k hk => nP (row_bk h.el hk) (by decide) (by decide)) hR
  case da => exact hrow
  case is => exact row_keep h.is f hM (fun k hk => nP (row_bk h.is hk) (by decide) (by decide)) hR
  case tl => exact h.tl
  case tat =>
    intro i z t h1 h2
    have o := h.tbk (List.mem_of_getElem? h1)
    exact (h.tat i z t h1 h2).fr f (nP o.1 (by decide) (by decide)) (nP o.2 (by decide) (by decide))
  case tne => exact h.tne
  case ml => exact h.ml
  case mat =>
    intro i z t h1 h2
    have o := h.mbk (List.mem_of_getElem? h1)
    exact (h.mat i z t h1 h2).fr f (nP o.1 (by decide) (by decide)) (nP o.2 (by decide) (by decide))
  case mne => exact h.mne
  case low => exact hR3
  case own =>
    rintro k (hk | ⟨v, hv1, hk⟩ | hk | hk)
    · exact hR2 k (h.own k (.inl hk))
    · simp only [Pl.vs, List.mem_cons, List.not_mem_nil, or_false] at hv1
      rcases hv1 with rfl | rfl | rfl | rfl | rfl | rfl | rfl | rfl | rfl | rfl
      · exact hR2 k (h.own k (Pl.o_ho hk))
      · exact hR2 k (h.own k (Pl.o_co hk))
      · exact hR2 k (h.own k (Pl.o_ca hk))
      · exact hR2 k (h.own k (Pl.o_fu hk))
      · exact hR2 k (h.own k (Pl.o_ta hk))
      · exact hR2 k (h.own k (Pl.o_me hk))
      · exact hR2 k (h.own k (Pl.o_gl hk))
      · exact hR2 k (h.own k (Pl.o_el hk))
      · exact hv k hk
      · exact hR2 k (h.own k (Pl.o_is hk))
    · exact hR2 k (h.own k (.inr (.inr (.inl hk))))
    · exact hR2 k (h.own k (.inr (.inr (.inr hk))))
theorem StIn.put_is {w w' : World} {R R' : Nat → Prop} {V : Pl} {x : Rx} {v' : Value} {xs : List Ri} (h : StIn w R V x) (f : Fr (fun k => k = V.P ∨ V.is.ownBlock = some k) w w') (hb : Blk w' V.P 93 #[V.ho, V.co, V.ca, V.fu, V.ta, V.me, V.gl, V.el, V.da, v'])
    (hrow : tRi.row w' 0 (Sd w' R') 223 v' xs) (hv : ∀ k, v'.ownBlock = some k → R' k) (hR : ∀ k, k < w.heap.size → R' k → R k) (hR2 : ∀ k, R k → R' k) (hR3 : ∀ k, R' k → k < w'.heap.size) : StIn w' R' { V with is := v' } { x with insts := xs } := by
  have hM : ∀ k, k < w.heap.size → (k = V.P ∨ V.is.ownBlock = some k) → R k := fun k _ m => h.own k (m.elim (fun e => e ▸ V.oP) Pl.o_is)
  have nP : ∀ {k t}, Bt w k t → t ≠ 93 → t ≠ 223 → ¬ (k = V.P ∨ V.is.ownBlock = some k) := fun hk h1 h2 m => m.elim (fun e => Bt.ne hk ⟨_, h.blk⟩ h1 e) (fun e => Bt.ne hk (row_bk h.is e) h2 rfl)
  constructor
  case blk => exact hb
  case ho => exact row_keep h.ho f hM (fun k hk => nP (row_bk h.ho hk) (by decide) (by decide)) hR
  case co => exact row_keep h.co f hM (fun k hk => nP (row_bk h.co hk) (by decide) (by decide)) hR
  case ca => exact row_keep h.ca f hM (fun k hk => nP (row_bk h.ca hk) (by decide) (by decide)) hR
  case fu => exact row_keep h.fu f hM (fun k hk => nP (row_bk h.fu hk) (by decide) (by decide)) hR
  case ta => exact row_keep h.ta f hM (fun k hk => nP (row_bk h.ta hk) (by decide) (by decide)) hR
  case me => exact row_keep h.me f hM (fun k hk => nP (row_bk h.me hk) (by decide) (by decide)) hR
  case gl => exact row_keep h.gl f hM (fun k hk => nP (row_bk h.gl hk) (by decide) (by decide)) hR
  case el => exact row_keep h.el f hM (fun k hk => nP (row_bk h.el hk) (by decide) (by decide)) hR
  case da => exact row_keep h.da f hM (fun k hk => nP (row_bk h.da hk) (by decide) (by decide)) hR
  case is => exact hrow
  case tl => exact h.tl
  case tat =>
    intro i z t h1 h2
    have o := h.tbk (List.mem_of_getElem? h1)
    exact (h.tat i z t h1 h2).fr f (nP o.1 (by decide) (by decide)) (nP o.2 (by decide) (by decide))
  case tne => exact h.tne
  case ml => exact h.ml
  case mat =>
    intro i z t h1 h2
    have o := h.mbk (List.mem_of_getElem? h1)
    exact (h.mat i z t h1 h2).fr f (nP o.1 (by decide) (by decide)) (nP o.2 (by decide) (by decide))
  case mne => exact h.mne
  case low => exact hR3
  case own =>
    rintro k (hk | ⟨v, hv1, hk⟩ | hk | hk)
    · exact hR2 k (h.own k (.inl hk))
    · simp only [Pl.vs, List.mem_cons, List.not_mem_nil, or_false] at hv1
      rcases hv1 with rfl | rfl | rfl | rfl | rfl | rfl | rfl | rfl | rfl | rfl
      · exact hR2 k (h.own k (Pl.o_ho hk))
      · exact hR2 k (h.own k (Pl.o_co hk))
      · exact hR2 k (h.own k (Pl.o_ca hk))
      · exact hR2 k (h.own k (Pl.o_fu hk))
      · exact hR2 k (h.own k (Pl.o_ta hk))
      · exact hR2 k (h.own k (Pl.o_me hk))
      · exact hR2 k (h.own k (Pl.o_gl hk))
      · exact hR2 k (h.own k (Pl.o_el hk))
      · exact hR2 k (h.own k (Pl.o_da hk))
      · exact hv k hk
    · exact hR2 k (h.own k (.inr (.inr (.inl hk))))
    · exact hR2 k (h.own k (.inr (.inr (.inr hk))))
end Go.Proofs.Ythggdemiddjlgaa
