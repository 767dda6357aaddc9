/- One memory or table of the store changes; the rows as slices. -/
import Derived.Test.YtdckghiipijobaaGreatStN
namespace Go.Proofs.YtdckghiipijobaaGreat
open Go.RowKit

theorem map_set_same {z y : Nat × Nat × Nat} {l : List (Nat × Nat × Nat)} {i : Nat} (h : l[i]? = some z) (e : y.1 = z.1) : (l.set i y).map (·.1) = l.map (·.1) := by
  rw [List.map_set]
  apply List.ext_getElem?
  intro j
  rw [List.getElem?_set]
  split
  · rename_i hij
    subst hij
    have hi := (List.getElem?_eq_some_iff.1 h).1
    simp [hi, e]
    rw [List.getElem?_eq_getElem hi] at h
    injection h with h
    rw [h]
  · rfl
theorem set_get {α : Type} {l : List α} {i j : Nat} {y z : α} (h : (l.set i y)[j]? = some z) : (j = i ∧ z = y) ∨ (j ≠ i ∧ l[j]? = some z) := by
  rw [List.getElem?_set] at h
  split at h
  · rename_i hij
    split at h
    · simp only [Option.some.injEq] at h; exact .inl ⟨hij.symm, h.symm⟩
    · cases h
  · rename_i hij
    exact .inr ⟨fun e => hij e.symm, h⟩
theorem StIn.setMem {w w' : World} {R : Nat → Prop} {V : Pl} {x : Rx} (h : StIn w R V x) {i : Nat} {z : Nat × Nat × Nat} {t t' : Rm} (hz : V.mp[i]? = some z) (ht : x.mems[i]? = some t) {q c : Nat} (f : Fr (Two z.1 z.2.1) w w')
    (hm : Mo w' z.1 q c t'.lim t'.b) (hq : q = z.2.1 ∨ w.heap.size ≤ q) :
    StIn w' (fun k => R k ∨ k = q) { V with mp := V.mp.set i (z.1, q, c) } { x with mems := x.mems.set i t' } ∧ Grown w w' R (fun k => R k ∨ k = q) V { V with mp := V.mp.set i (z.1, q, c) } := by
  have oz := Pl.o_mp (V := V) (List.mem_of_getElem? hz)
  have bz := h.mbk (List.mem_of_getElem? hz)
  have hM : ∀ k, k < w.heap.size → Two z.1 z.2.1 k → R k := fun k _ m => m.elim (fun e => e ▸ h.own _ oz.1) (fun e => e ▸ h.own _ oz.2)
  have hup : ∀ k, k < w.heap.size → (R k ∨ k = q) → R k := fun k hk r => r.elim (fun r => r) (fun e => hq.elim (fun e2 => by rw [e, e2]; exact h.own _ oz.2) (fun e2 => by omega))
  have nP : ∀ {k u}, Bt w k u → u ≠ 251 → u ≠ 5 → ¬ Two z.1 z.2.1 k := fun hk h1 h2 m => m.elim (fun e => Bt.ne hk bz.1 h1 e) (fun e => Bt.ne hk bz.2 h2 e)
  have hqw : q < w'.heap.size := hm.own.lt
  have hown : ∀ k, Pl.own { V with mp := V.mp.set i (z.1, q, c) } k → V.own k ∨ k = q := by
    rintro k (o | ⟨v, hv, o⟩ | o | o)
    · exact .inl (.inl o)
    · exact .inl (.inr (.inl ⟨v, hv, o⟩))
    · exact .inl (.inr (.inr (.inl o)))
    · obtain ⟨t, ht, o⟩ := o
      obtain ⟨j, hj, rfl⟩ := List.getElem_of_mem ht
      rcases set_get (List.getElem?_eq_getElem hj) with ⟨_, e⟩ | ⟨_, e⟩
      · rw [e] at o
        rcases o with o | o
        · exact .inl (o ▸ oz.1)
        · exact .inr o
      · exact .inl (.inr (.inr (.inr ⟨_, List.mem_of_getElem? e, o⟩)))
  refine ⟨?_, rfl, f.mono (fun k _ m => m.elim (fun e => e ▸ oz.1) (fun e => e ▸ oz.2)), hup, fun k r => .inl r, fun k o => (hown k o).elim (fun o => .inl o) (fun e => hq.elim (fun e2 => .inl (by rw [e, e2]; exact oz.2)) (fun e2 => .inr (by omega)))⟩
  constructor
  case blk => exact h.blk.fr f (nP ⟨_, h.blk⟩ (by decide) (by decide))
  case ho => exact row_keep h.ho f hM (fun k hk => nP (row_bk h.ho hk) (by decide) (by decide)) hup
  case co => exact row_keep h.co f hM (fun k hk => nP (row_bk h.co hk) (by decide) (by decide)) hup
  case ca => exact row_keep h.ca f hM (fun k hk => nP (row_bk h.ca hk) (by decide) (by decide)) hup
  case fu => exact row_keep h.fu f hM (fun k hk => nP (row_bk h.fu hk) (by decide) (by decide)) hup
  case ta => exact row_keep h.ta f hM (fun k hk => nP (row_bk h.ta hk) (by decide) (by decide)) hup
  case me => show tPt.row w' 0 _ _ V.me ((V.mp.set i (z.1, q, c)).map (·.1)); rw [map_set_same (y := (z.1, q, c)) hz rfl]; exact row_keep h.me f hM (fun k hk => nP (row_bk h.me hk) (by decide) (by decide)) hup
  case gl => exact row_keep h.gl f hM (fun k hk => nP (row_bk h.gl hk) (by decide) (by decide)) hup
  case el => exact row_keep h.el f hM (fun k hk => nP (row_bk h.el hk) (by decide) (by decide)) hup
  case da => exact row_keep h.da f hM (fun k hk => nP (row_bk h.da hk) (by decide) (by decide)) hup
  case is => exact row_keep h.is f hM (fun k hk => nP (row_bk h.is hk) (by decide) (by decide)) hup
  case ml => show (V.mp.set i (z.1, q, c)).length = (x.mems.set i t').length; simp [h.ml]
  case mat =>
    intro j y u e1 e2
    rcases set_get (show (V.mp.set i (z.1, q, c))[j]? = some y from e1) with ⟨j1, y1⟩ | ⟨j1, y1⟩
    · subst j1 y1
      rcases set_get (show (x.mems.set j t')[j]? = some u from e2) with ⟨_, u1⟩ | ⟨j2, _⟩
      · subst u1; exact hm
      · exact absurd rfl j2
    · rcases set_get (show (x.mems.set i t')[j]? = some u from e2) with ⟨j2, _⟩ | ⟨_, u1⟩
      · exact absurd j2 j1
      · have d := h.mne j i y z y1 hz j1
        have b := h.mbk (List.mem_of_getElem? y1)
        exact (h.mat j y u y1 u1).fr f (fun m => m.elim (fun e => d.1 e) (fun e => Bt.ne b.1 bz.2 (by decide) e)) (fun m => m.elim (fun e => Bt.ne b.2 bz.1 (by decide) e) (fun e => d.2 e))
  case mne =>
    intro j1 j2 a b e1 e2 hj
    have nq : ∀ (j : Nat) (y : Nat × Nat × Nat), j ≠ i → V.mp[j]? = some y → y.2.1 ≠ q := fun j y hj hy e => hq.elim (fun e2 => (h.mne j i y z hy hz hj).2 (e.trans e2)) (fun e2 => by
      have := (h.mbk (List.mem_of_getElem? hy)).2.lt
      omega)
    rcases set_get (show (V.mp.set i (z.1, q, c))[j1]? = some a from e1) with ⟨i1, a1⟩ | ⟨i1, a1⟩ <;> rcases set_get (show (V.mp.set i (z.1, q, c))[j2]? = some b from e2) with ⟨i2, b1⟩ | ⟨i2, b1⟩
    · omega
    · subst a1; exact ⟨fun e => (h.mne j2 i b z b1 hz i2).1 e.symm, fun e => nq j2 b i2 b1 e.symm⟩
    · subst b1; exact ⟨(h.mne j1 i a z a1 hz i1).1, nq j1 a i1 a1⟩
    · exact h.mne j1 j2 a b a1 b1 hj
  case tl => exact h.tl
  case tat =>
    intro j y u e1 e2
    have o := h.tbk (List.mem_of_getElem? e1)
    exact (h.tat j y u e1 e2).fr f (nP o.1 (by decide) (by decide)) (nP o.2 (by decide) (by decide))
  case tne => exact h.tne
  case own => exact fun k o => (hown k o).elim (fun o => .inl (h.own k o)) (fun e => .inr e)
  case low => exact fun k r => r.elim (fun r => Nat.lt_of_lt_of_le (h.low k r) f.size) (fun e => e ▸ hqw)
theorem StIn.setTab {w w' : World} {R : Nat → Prop} {V : Pl} {x : Rx} (h : StIn w R V x) {i : Nat} {z : Nat × Nat × Nat} {t t' : Rt} (hz : V.tp[i]? = some z) (ht : x.tabs[i]? = some t) {q c : Nat} (f : Fr (Two z.1 z.2.1) w w')
    (hm : TabAt w' z.1 q c t'.t.elem t'.t.lim.min t'.t.lim.max t'.t.lim.has t'.l) (hq : q = z.2.1 ∨ w.heap.size ≤ q) :
    StIn w' (fun k => R k ∨ k = q) { V with tp := V.tp.set i (z.1, q, c) } { x with tabs := x.tabs.set i t' } ∧ Grown w w' R (fun k => R k ∨ k = q) V { V with tp := V.tp.set i (z.1, q, c) } := by
  have oz := Pl.o_tp (V := V) (List.mem_of_getElem? hz)
  have bz := h.tbk (List.mem_of_getElem? hz)
  have hM : ∀ k, k < w.heap.size → Two z.1 z.2.1 k → R k := fun k _ m => m.elim (fun e => e ▸ h.own _ oz.1) (fun e => e ▸ h.own _ oz.2)
  have hup : ∀ k, k < w.heap.size → (R k ∨ k = q) → R k := fun k hk r => r.elim (fun r => r) (fun e => hq.elim (fun e2 => by rw [e, e2]; exact h.own _ oz.2) (fun e2 => by omega))
  have nP : ∀ {k u}, Bt w k u → u ≠ 276 → u ≠ 55 → ¬ Two z.1 z.2.1 k := fun hk h1 h2 m => m.elim (fun e => Bt.ne hk bz.1 h1 e) (fun e => Bt.ne hk bz.2 h2 e)
  have hqw : q < w'.heap.size := hm.own.lt
  have hown : ∀ k, Pl.own { V with tp := V.tp.set i (z.1, q, c) } k → V.own k ∨ k = q := by
    rintro k (o | ⟨v, hv, o⟩ | o | o)
    · exact .inl (.inl o)
    · exact .inl (.inr (.inl ⟨v, hv, o⟩))
    · obtain ⟨t, ht, o⟩ := o
      obtain ⟨j, hj, rfl⟩ := List.getElem_of_mem ht
      rcases set_get (List.getElem?_eq_getElem hj) with ⟨_, e⟩ | ⟨_, e⟩
      · rw [e] at o
        rcases o with o | o
        · exact .inl (o ▸ oz.1)
        · exact .inr o
      · exact .inl (.inr (.inr (.inl ⟨_, List.mem_of_getElem? e, o⟩)))
    · exact .inl (.inr (.inr (.inr o)))
  refine ⟨?_, rfl, f.mono (fun k _ m => m.elim (fun e => e ▸ oz.1) (fun e => e ▸ oz.2)), hup, fun k r => .inl r, fun k o => (hown k o).elim (fun o => .inl o) (fun e => hq.elim (fun e2 => .inl (by rw [e, e2]; exact oz.2)) (fun e2 => .inr (by omega)))⟩
  constructor
  case blk => exact h.blk.fr f (nP ⟨_, h.blk⟩ (by decide) (by decide))
  case ho => exact row_keep h.ho f hM (fun k hk => nP (row_bk h.ho hk) (by decide) (by decide)) hup
  case co => exact row_keep h.co f hM (fun k hk => nP (row_bk h.co hk) (by decide) (by decide)) hup
  case ca => exact row_keep h.ca f hM (fun k hk => nP (row_bk h.ca hk) (by decide) (by decide)) hup
  case fu => exact row_keep h.fu f hM (fun k hk => nP (row_bk h.fu hk) (by decide) (by decide)) hup
  case ta => show tPt.row w' 0 _ _ V.ta ((V.tp.set i (z.1, q, c)).map (·.1)); rw [map_set_same (y := (z.1, q, c)) hz rfl]; exact row_keep h.ta f hM (fun k hk => nP (row_bk h.ta hk) (by decide) (by decide)) hup
  case me => exact row_keep h.me f hM (fun k hk => nP (row_bk h.me hk) (by decide) (by decide)) hup
  case gl => exact row_keep h.gl f hM (fun k hk => nP (row_bk h.gl hk) (by decide) (by decide)) hup
  case el => exact row_keep h.el f hM (fun k hk => nP (row_bk h.el hk) (by decide) (by decide)) hup
  case da => exact row_keep h.da f hM (fun k hk => nP (row_bk h.da hk) (by decide) (by decide)) hup
  case is => exact row_keep h.is f hM (fun k hk => nP (row_bk h.is hk) (by decide) (by decide)) hup
  case tl => show (V.tp.set i (z.1, q, c)).length = (x.tabs.set i t').length; simp [h.tl]
  case tat =>
    intro j y u e1 e2
    rcases set_get (show (V.tp.set i (z.1, q, c))[j]? = some y from e1) with ⟨j1, y1⟩ | ⟨j1, y1⟩
    · subst j1 y1
      rcases set_get (show (x.tabs.set j t')[j]? = some u from e2) with ⟨_, u1⟩ | ⟨j2, _⟩
      · subst u1; exact hm
      · exact absurd rfl j2
    · rcases set_get (show (x.tabs.set i t')[j]? = some u from e2) with ⟨j2, _⟩ | ⟨_, u1⟩
      · exact absurd j2 j1
      · have d := h.tne j i y z y1 hz j1
        have b := h.tbk (List.mem_of_getElem? y1)
        exact (h.tat j y u y1 u1).fr f (fun m => m.elim (fun e => d.1 e) (fun e => Bt.ne b.1 bz.2 (by decide) e)) (fun m => m.elim (fun e => Bt.ne b.2 bz.1 (by decide) e) (fun e => d.2 e))
  case tne =>
    intro j1 j2 a b e1 e2 hj
    have nq : ∀ (j : Nat) (y : Nat × Nat × Nat), j ≠ i → V.tp[j]? = some y → y.2.1 ≠ q := fun j y hj hy e => hq.elim (fun e2 => (h.tne j i y z hy hz hj).2 (e.trans e2)) (fun e2 => by
      have := (h.tbk (List.mem_of_getElem? hy)).2.lt
      omega)
    rcases set_get (show (V.tp.set i (z.1, q, c))[j1]? = some a from e1) with ⟨i1, a1⟩ | ⟨i1, a1⟩ <;> rcases set_get (show (V.tp.set i (z.1, q, c))[j2]? = some b from e2) with ⟨i2, b1⟩ | ⟨i2, b1⟩
    · omega
    · subst a1; exact ⟨fun e => (h.tne j2 i b z b1 hz i2).1 e.symm, fun e => nq j2 b i2 b1 e.symm⟩
    · subst b1; exact ⟨(h.tne j1 i a z a1 hz i1).1, nq j1 a i1 a1⟩
    · exact h.tne j1 j2 a b a1 b1 hj
  case ml => exact h.ml
  case mat =>
    intro j y u e1 e2
    have o := h.mbk (List.mem_of_getElem? e1)
    exact (h.mat j y u e1 e2).fr f (nP o.1 (by decide) (by decide)) (nP o.2 (by decide) (by decide))
  case mne => exact h.mne
  case own => exact fun k o => (hown k o).elim (fun o => .inl (h.own k o)) (fun e => .inr e)
  case low => exact fun k r => r.elim (fun r => Nat.lt_of_lt_of_le (h.low k r) f.size) (fun e => e ▸ hqw)
theorem StIn.sl_ho {w : World} {R : Nat → Prop} {V : Pl} {x : Rx} (h : StIn w R V x) : ∃ A c, V.ho = .slice A (x.hosts).length c ∧ (x.hosts).length ≤ c ∧ tHo.els w (· < w.heap.size) A (x.hosts) := by
  obtain ⟨A, c, e, h1, _, h3⟩ := h.ho.els (S' := (· < w.heap.size)) (fun _ hk => hk.1) (fun g hg => h.lt (Pl.o_ho hg))
  exact ⟨A, c, e, h1, h3⟩
theorem StIn.sl_co {w : World} {R : Nat → Prop} {V : Pl} {x : Rx} (h : StIn w R V x) : ∃ A c, V.co = .slice A (x.counts).length c ∧ (x.counts).length ≤ c ∧ tI.els w (· < w.heap.size) A (x.counts) := by
  obtain ⟨A, c, e, h1, _, h3⟩ := h.co.els (S' := (· < w.heap.size)) (fun _ hk => hk.1) (fun g hg => h.lt (Pl.o_co hg))
  exact ⟨A, c, e, h1, h3⟩
theorem StIn.sl_ca {w : World} {R : Nat → Prop} {V : Pl} {x : Rx} (h : StIn w R V x) : ∃ A c, V.ca = .slice A (x.calls).length c ∧ (x.calls).length ≤ c ∧ tCa.els w (· < w.heap.size) A (x.calls) := by
  obtain ⟨A, c, e, h1, _, h3⟩ := h.ca.els (S' := (· < w.heap.size)) (fun _ hk => hk.1) (fun g hg => h.lt (Pl.o_ca hg))
  exact ⟨A, c, e, h1, h3⟩
theorem StIn.sl_fu {w : World} {R : Nat → Prop} {V : Pl} {x : Rx} (h : StIn w R V x) : ∃ A c, V.fu = .slice A (x.funcs).length c ∧ (x.funcs).length ≤ c ∧ tFi.els w (· < w.heap.size) A (x.funcs) := by
  obtain ⟨A, c, e, h1, _, h3⟩ := h.fu.els (S' := (· < w.heap.size)) (fun _ hk => hk.1) (fun g hg => h.lt (Pl.o_fu hg))
  exact ⟨A, c, e, h1, h3⟩
theorem StIn.sl_ta {w : World} {R : Nat → Prop} {V : Pl} {x : Rx} (h : StIn w R V x) : ∃ A c, V.ta = .slice A (V.tp.map (·.1)).length c ∧ (V.tp.map (·.1)).length ≤ c ∧ tPt.els w (· < w.heap.size) A (V.tp.map (·.1)) := by
  obtain ⟨A, c, e, h1, _, h3⟩ := h.ta.els (S' := (· < w.heap.size)) (fun _ hk => hk.1) (fun g hg => h.lt (Pl.o_ta hg))
  exact ⟨A, c, e, h1, h3⟩
theorem StIn.sl_me {w : World} {R : Nat → Prop} {V : Pl} {x : Rx} (h : StIn w R V x) : ∃ A c, V.me = .slice A (V.mp.map (·.1)).length c ∧ (V.mp.map (·.1)).length ≤ c ∧ tPt.els w (· < w.heap.size) A (V.mp.map (·.1)) := by
  obtain ⟨A, c, e, h1, _, h3⟩ := h.me.els (S' := (· < w.heap.size)) (fun _ hk => hk.1) (fun g hg => h.lt (Pl.o_me hg))
  exact ⟨A, c, e, h1, h3⟩
theorem StIn.sl_gl {w : World} {R : Nat → Prop} {V : Pl} {x : Rx} (h : StIn w R V x) : ∃ A c, V.gl = .slice A (x.globs).length c ∧ (x.globs).length ≤ c ∧ tRg.els w (· < w.heap.size) A (x.globs) := by
  obtain ⟨A, c, e, h1, _, h3⟩ := h.gl.els (S' := (· < w.heap.size)) (fun _ hk => hk.1) (fun g hg => h.lt (Pl.o_gl hg))
  exact ⟨A, c, e, h1, h3⟩
theorem StIn.sl_el {w : World} {R : Nat → Prop} {V : Pl} {x : Rx} (h : StIn w R V x) : ∃ A c, V.el = .slice A (x.elems).length c ∧ (x.elems).length ≤ c ∧ tRs.els w (· < w.heap.size) A (x.elems) := by
  obtain ⟨A, c, e, h1, _, h3⟩ := h.el.els (S' := (· < w.heap.size)) (fun _ hk => hk.1) (fun g hg => h.lt (Pl.o_el hg))
  exact ⟨A, c, e, h1, h3⟩
theorem StIn.sl_da {w : World} {R : Nat → Prop} {V : Pl} {x : Rx} (h : StIn w R V x) : ∃ A c, V.da = .slice A (x.datas).length c ∧ (x.datas).length ≤ c ∧ tRb.els w (· < w.heap.size) A (x.datas) := by
  obtain ⟨A, c, e, h1, _, h3⟩ := h.da.els (S' := (· < w.heap.size)) (fun _ hk => hk.1) (fun g hg => h.lt (Pl.o_da hg))
  exact ⟨A, c, e, h1, h3⟩
theorem StIn.sl_is {w : World} {R : Nat → Prop} {V : Pl} {x : Rx} (h : StIn w R V x) : ∃ A c, V.is = .slice A (x.insts).length c ∧ (x.insts).length ≤ c ∧ tRi.els w (· < w.heap.size) A (x.insts) := by
  obtain ⟨A, c, e, h1, _, h3⟩ := h.is.els (S' := (· < w.heap.size)) (fun _ hk => hk.1) (fun g hg => h.lt (Pl.o_is hg))
  exact ⟨A, c, e, h1, h3⟩
end Go.Proofs.YtdckghiipijobaaGreat
