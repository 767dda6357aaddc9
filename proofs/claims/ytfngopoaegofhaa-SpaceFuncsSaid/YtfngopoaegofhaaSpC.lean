/- The index spaces in memory: six rows, two maps. No condition. -/
import Derived.Test.YtfngopoaegofhaaSpB
namespace Go.Proofs.Ytfngopoaegofhaa
open Go.RowKit

structure SpV where
  types : List Fn
  funcs : List Int
  tables : List Tb
  mems : List Lim
  globals : List Gl
  elems : List Int
  datas : Int
  imp : Int → Int
  dec : Int → Bool

def tagAt : Nat → TypeId
  | 0 => 38 | 1 => 3 | 2 => 60 | 3 => 58 | 4 => 62 | _ => 50
theorem tag_gs (j : Nat) : tagAt j ≠ 95 := by unfold tagAt; split <;> decide
theorem tag_gx (j : Nat) : tagAt j ≠ 69 := by unfold tagAt; split <;> decide
theorem tag_ne {i j : Nat} (hi : i < 6) (hj : j < 6) (h : i ≠ j) : tagAt i ≠ tagAt j := by
  have : ∀ i : Fin 6, ∀ j : Fin 6, i ≠ j → tagAt i ≠ tagAt j := by decide
  exact this ⟨i, hi⟩ ⟨j, hj⟩ (by simpa using h)

/-- Row j of the index spaces. -/
def rowAt (base : Nat) (ST : Nat → Prop) (j : Nat) (X : World) (v : Value) (x : SpV) : Prop :=
  match j with
  | 0 => tFn.row X base ST 38 v x.types
  | 1 => tI.row X base Emp 3 v x.funcs
  | 2 => tTb.row X base Emp 60 v x.tables
  | 3 => tLim.row X base Emp 58 v x.mems
  | 4 => tGl.row X base Emp 62 v x.globals
  | _ => tI.row X base Emp 50 v x.elems
theorem rowAt.own {base : Nat} {ST : Nat → Prop} {j : Nat} {X : World} {v : Value} {x : SpV} (h : rowAt base ST j X v x) {g : Nat} (hv : v.ownBlock = some g) : base ≤ g ∧ ∃ cs, Blk X g (tagAt j) cs := by
  unfold rowAt at h
  unfold tagAt
  split at h <;> exact h.own hv
theorem rowAt.fr {base : Nat} {ST M : Nat → Prop} {j : Nat} {X X' : World} {v : Value} {x : SpV} (h : rowAt base ST j X v x) (f : Fr M X X') (hv : ∀ k, v.ownBlock = some k → ¬ M k) (hS : j = 0 → ∀ k, ST k → k < X.heap.size ∧ ¬ M k) : rowAt base ST j X' v x := by
  unfold rowAt at h ⊢
  split at h
  · exact h.fr f (hS rfl) hv
  all_goals exact h.fr f (fun _ h => h.elim) hv

theorem mapI_ne {P : Program} {k e : TypeId} {w : World} {b n : Nat} {f : Int → Int} {g : Nat} {t : TypeId} {cs : Array Value} (h : MapI P k e w b n f) (hb : Blk w g t cs) : b ≠ g := by
  rintro rfl
  obtain ⟨D, ⟨es, clock, h1, _⟩, _⟩ := h
  unfold Blk at hb
  rw [hb] at h1
  cases h1
theorem mapB_ne {P : Program} {k e : TypeId} {w : World} {b n : Nat} {f : Int → Bool} {g : Nat} {t : TypeId} {cs : Array Value} (h : MapB P k e w b n f) (hb : Blk w g t cs) : b ≠ g := by
  rintro rfl
  obtain ⟨D, ⟨es, clock, h1, _⟩, _⟩ := h
  unfold Blk at hb
  rw [hb] at h1
  cases h1

structure SpSt (base : Nat) (X : World) (gx gs bi bd : Nat) (ST : Nat → Prop) (nI nD : Nat) (v0 v1 v2 v3 v4 v5 : Value) (x : SpV) : Prop where
  hx : Blk X gx 69 #[.pointer (some ⟨gs, 0, none⟩)]
  hs : Blk X gs 95 #[v0, v1, v2, v3, v4, v5, .int .i64 x.datas, .map (some bi), .map (some bd)]
  row : ∀ j v, [v0, v1, v2, v3, v4, v5][j]? = some v → rowAt base ST j X v x
  mi : MapI Try.prog 56 3 X bi nI x.imp
  md : MapB Try.prog 3 4 X bd nD x.dec
  ne : bi ≠ bd
  lx : base ≤ gx
  ls : base ≤ gs
  li : base ≤ bi
  ld : base ≤ bd
  st : ∀ k, ST k → base ≤ k ∧ (∃ cs, Blk X k 50 cs) ∧ v5.ownBlock ≠ some k

section
variable {base : Nat} {X X' : World} {gx gs bi bd : Nat} {ST M : Nat → Prop} {nI nD : Nat} {v0 v1 v2 v3 v4 v5 : Value} {x : SpV}
/-- Everything that the index spaces rest on. -/
def Rests (gx gs bi bd : Nat) (ST : Nat → Prop) (vs : List Value) (k : Nat) : Prop := k = gx ∨ k = gs ∨ k = bi ∨ k = bd ∨ ST k ∨ ∃ v ∈ vs, v.ownBlock = some k
theorem SpSt.lt (h : SpSt base X gx gs bi bd ST nI nD v0 v1 v2 v3 v4 v5 x) {k : Nat} (hk : Rests gx gs bi bd ST [v0, v1, v2, v3, v4, v5] k) : base ≤ k ∧ k < X.heap.size := by
  rcases hk with rfl | rfl | rfl | rfl | hk | ⟨v, hv, hk⟩
  · exact ⟨h.lx, h.hx.lt⟩
  · exact ⟨h.ls, h.hs.lt⟩
  · exact ⟨h.li, h.mi.lt⟩
  · exact ⟨h.ld, h.md.lt⟩
  · obtain ⟨h1, ⟨cs, h2⟩, _⟩ := h.st _ hk
    exact ⟨h1, h2.lt⟩
  · obtain ⟨j, hj, rfl⟩ := List.getElem_of_mem hv
    obtain ⟨h1, cs, h2⟩ := (h.row j _ (List.getElem?_eq_getElem hj)).own hk
    exact ⟨h1, h2.lt⟩
theorem SpSt.fr (h : SpSt base X gx gs bi bd ST nI nD v0 v1 v2 v3 v4 v5 x) (f : Fr M X X') (hM : ∀ k, Rests gx gs bi bd ST [v0, v1, v2, v3, v4, v5] k → ¬ M k) : SpSt base X' gx gs bi bd ST nI nD v0 v1 v2 v3 v4 v5 x := by
  refine ⟨h.hx.fr f (hM _ (.inl rfl)), h.hs.fr f (hM _ (.inr (.inl rfl))), fun j v hv => ?_, h.mi.fr f (hM _ (.inr (.inr (.inl rfl)))), h.md.fr f (hM _ (.inr (.inr (.inr (.inl rfl))))), h.ne, h.lx, h.ls, h.li, h.ld, fun k hk => ?_⟩
  · exact (h.row j v hv).fr f (fun k hk => hM _ (.inr (.inr (.inr (.inr (.inr ⟨v, List.mem_of_getElem? hv, hk⟩)))))) (fun _ k hk => ⟨(h.lt (.inr (.inr (.inr (.inr (.inl hk)))))).2, hM _ (.inr (.inr (.inr (.inr (.inl hk)))))⟩)
  · obtain ⟨h1, ⟨cs, h2⟩, h3⟩ := h.st k hk
    exact ⟨h1, ⟨cs, h2.fr f (hM _ (.inr (.inr (.inr (.inr (.inl hk))))))⟩, h3⟩
theorem SpSt.frNo (h : SpSt base X gx gs bi bd ST nI nD v0 v1 v2 v3 v4 v5 x) (f : Fr No X X') : SpSt base X' gx gs bi bd ST nI nD v0 v1 v2 v3 v4 v5 x := h.fr f (fun _ _ h => h)

/-- A store into the map of the imports' numbers. -/
theorem SpSt.putI (h : SpSt base X gx gs bi bd ST nI nD v0 v1 v2 v3 v4 v5 x) {g : Int → Int} {n' : Nat} (hm : MapI Try.prog 56 3 X' bi n' g) (f : Fr (One bi) X X') :
    SpSt base X' gx gs bi bd ST n' nD v0 v1 v2 v3 v4 v5 { x with imp := g } := by
  have hr : ∀ j v, [v0, v1, v2, v3, v4, v5][j]? = some v → rowAt base ST j X' v x := fun j v hv => (h.row j v hv).fr f (fun k hk e => by
      obtain ⟨_, cs, hb⟩ := (h.row j v hv).own hk
      exact mapI_ne h.mi hb e.symm) (fun _ k hk => ⟨(h.lt (.inr (.inr (.inr (.inr (.inl hk)))))).2, fun e => by
        obtain ⟨_, ⟨cs, hb⟩, _⟩ := h.st k hk
        exact mapI_ne h.mi hb e.symm⟩)
  refine ⟨h.hx.fr f (fun e => mapI_ne h.mi h.hx e.symm), h.hs.fr f (fun e => mapI_ne h.mi h.hs e.symm), fun j v hv => ?_, hm, h.md.fr f (fun e => h.ne e.symm), h.ne, h.lx, h.ls, h.li, h.ld, fun k hk => ?_⟩
  · have := hr j v hv
    unfold rowAt at this ⊢
    split at this <;> exact this
  · obtain ⟨h1, ⟨cs, h2⟩, h3⟩ := h.st k hk
    exact ⟨h1, ⟨cs, h2.fr f (fun e => mapI_ne h.mi h2 e.symm)⟩, h3⟩
/-- A store into the map of the declared functions. -/
theorem SpSt.putB (h : SpSt base X gx gs bi bd ST nI nD v0 v1 v2 v3 v4 v5 x) {g : Int → Bool} {n' : Nat} (hm : MapB Try.prog 3 4 X' bd n' g) (f : Fr (One bd) X X') :
    SpSt base X' gx gs bi bd ST nI n' v0 v1 v2 v3 v4 v5 { x with dec := g } := by
  have hr : ∀ j v, [v0, v1, v2, v3, v4, v5][j]? = some v → rowAt base ST j X' v x := fun j v hv => (h.row j v hv).fr f (fun k hk e => by
      obtain ⟨_, cs, hb⟩ := (h.row j v hv).own hk
      exact mapB_ne h.md hb e.symm) (fun _ k hk => ⟨(h.lt (.inr (.inr (.inr (.inr (.inl hk)))))).2, fun e => by
        obtain ⟨_, ⟨cs, hb⟩, _⟩ := h.st k hk
        exact mapB_ne h.md hb e.symm⟩)
  refine ⟨h.hx.fr f (fun e => mapB_ne h.md h.hx e.symm), h.hs.fr f (fun e => mapB_ne h.md h.hs e.symm), fun j v hv => ?_, h.mi.fr f (fun e => h.ne e), hm, h.ne, h.lx, h.ls, h.li, h.ld, fun k hk => ?_⟩
  · have := hr j v hv
    unfold rowAt at this ⊢
    split at this <;> exact this
  · obtain ⟨h1, ⟨cs, h2⟩, h3⟩ := h.st k hk
    exact ⟨h1, ⟨cs, h2.fr f (fun e => mapB_ne h.md h2 e.symm)⟩, h3⟩
theorem SpSt.old {j : Nat} (hj : j < 6) (ho : ∀ v, [v0, v1, v2, v3, v4, v5][j]? = some v → True) : ∃ v, [v0, v1, v2, v3, v4, v5][j]? = some v :=
  ⟨_, List.getElem?_eq_getElem (by simpa using hj)⟩
/-- An append to row j (not row 0) and the store of its new slice. -/
theorem SpSt.app (h : SpSt base X gx gs bi bd ST nI nD v0 v1 v2 v3 v4 v5 x) {j : Nat} (hj : j < 6) {v v' : Value} {x' : SpV} {u0 u1 u2 u3 u4 u5 : Value} (hv : [v0, v1, v2, v3, v4, v5][j]? = some v) (f : Fr (fun k => some k = v.ownBlock) X X')
    (hr : rowAt base ST j X' v' x') (ho : v'.ownBlock = v.ownBlock ∨ v'.ownBlock = some X.heap.size) (hx : ∀ i, i < 6 → i ≠ j → ∀ Y u, rowAt base ST i Y u x → rowAt base ST i Y u x')
    (hu : [u0, u1, u2, u3, u4, u5] = [v0, v1, v2, v3, v4, v5].set j v') (hd : x'.datas = x.datas) (hi : x'.imp = x.imp) (hdc : x'.dec = x.dec) :
    SpSt base (X'.setCell ⟨gs, j, none⟩ v') gx gs bi bd ST nI nD u0 u1 u2 u3 u4 u5 x' := by
  have hown : ∀ k, some k = v.ownBlock → base ≤ k ∧ ∃ cs, Blk X k (tagAt j) cs := fun k hk => (h.row j v hv).own hk.symm
  have hneS : ∀ k, ST k → ¬ some k = v.ownBlock := by
    intro k hk e
    obtain ⟨_, cs, hb⟩ := hown k e
    obtain ⟨_, ⟨cs', hb'⟩, h5⟩ := h.st k hk
    by_cases h5j : j = 5
    · subst h5j
      simp only [List.getElem?_cons_succ, List.getElem?_cons_zero, Option.some.injEq] at hv
      subst hv
      exact h5 e.symm
    · refine Blk.ne_ hb hb' ?_ rfl
      have := tag_ne hj (show 5 < 6 by omega) h5j
      exact this
  have hgs : Blk X' gs 95 #[v0, v1, v2, v3, v4, v5, .int .i64 x.datas, .map (some bi), .map (some bd)] := h.hs.fr f (fun e => by
    obtain ⟨_, cs, hb⟩ := hown gs e
    exact Blk.ne_ hb h.hs (tag_gs j) rfl)
  have hgx := h.hx.fr f (fun e => by
    obtain ⟨_, cs, hb⟩ := hown gx e
    exact Blk.ne_ hb h.hx (tag_gx j) rfl)
  have F2 : Fr (One gs) X' (X'.setCell ⟨gs, j, none⟩ v') := (Fr.refl _ _).setCell _ _ (fun _ => rfl)
  have hst : ∀ k, ST k → base ≤ k ∧ (∃ cs, Blk X' k 50 cs) ∧ u5.ownBlock ≠ some k := by
    intro k hk
    obtain ⟨h1, ⟨cs, h2⟩, h3⟩ := h.st k hk
    refine ⟨h1, ⟨cs, h2.fr f (hneS k hk)⟩, ?_⟩
    by_cases h5j : j = 5
    · subst h5j
      simp only [List.set_cons_succ, List.set_cons_zero, List.cons.injEq, and_true] at hu
      obtain ⟨_, _, _, _, _, rfl⟩ := hu
      simp only [List.getElem?_cons_succ, List.getElem?_cons_zero, Option.some.injEq] at hv
      subst hv
      rcases ho with ho | ho
      · rw [ho]; exact h3
      · rw [ho]; intro e; injection e with e; have := h2.lt; omega
    · have : u5 = v5 := by
        have e1 : [u0, u1, u2, u3, u4, u5][5]? = ([v0, v1, v2, v3, v4, v5].set j v')[5]? := by rw [hu]
        rw [List.getElem?_set_ne h5j] at e1
        simpa using e1
      rw [this]; exact h3
  refine ⟨hgx.far (fun e => ?_) _, ?_, fun i u hu' => ?_, ?_, ?_, h.ne, h.lx, h.ls, h.li, h.ld, fun k hk => ?_⟩
  · simp only at e; subst e; exact Blk.ne_ hgx hgs (by decide) rfl
  · have := hgs.set_ j v'
    rw [hd]
    have e : (#[v0, v1, v2, v3, v4, v5, .int .i64 x.datas, .map (some bi), .map (some bd)] : Array Value).setIfInBounds j v' = #[u0, u1, u2, u3, u4, u5, .int .i64 x.datas, .map (some bi), .map (some bd)] := by
      have : ∀ j, j < 6 → [u0, u1, u2, u3, u4, u5] = [v0, v1, v2, v3, v4, v5].set j v' → (#[v0, v1, v2, v3, v4, v5, .int .i64 x.datas, .map (some bi), .map (some bd)] : Array Value).setIfInBounds j v' = #[u0, u1, u2, u3, u4, u5, .int .i64 x.datas, .map (some bi), .map (some bd)] := by
        intro j hj hu
        match j, hj with
        | 0, _ => simp at hu; obtain ⟨rfl, rfl, rfl, rfl, rfl, rfl⟩ := hu; rfl
        | 1, _ => simp at hu; obtain ⟨rfl, rfl, rfl, rfl, rfl, rfl⟩ := hu; rfl
        | 2, _ => simp at hu; obtain ⟨rfl, rfl, rfl, rfl, rfl, rfl⟩ := hu; rfl
        | 3, _ => simp at hu; obtain ⟨rfl, rfl, rfl, rfl, rfl, rfl⟩ := hu; rfl
        | 4, _ => simp at hu; obtain ⟨rfl, rfl, rfl, rfl, rfl, rfl⟩ := hu; rfl
        | 5, _ => simp at hu; obtain ⟨rfl, rfl, rfl, rfl, rfl, rfl⟩ := hu; rfl
      exact this j hj hu
    rw [e] at this
    exact this
  · have hi6 : i < 6 := by have := (List.getElem?_eq_some_iff.1 hu').1; simpa using this
    rw [hu] at hu'
    by_cases hij : i = j
    · subst hij
      rw [List.getElem?_set_self (by simpa using hj)] at hu'
      injection hu' with hu'
      subst hu'
      refine hr.fr F2 (fun k hk e => ?_) (fun _ k hk => ⟨?_, fun e => ?_⟩)
      · simp only [One] at e; subst e
        obtain ⟨_, cs, hb⟩ := hr.own hk
        exact Blk.ne_ hb hgs (tag_gs _) rfl
      · obtain ⟨_, ⟨cs, hb⟩, _⟩ := hst k hk; exact hb.lt
      · simp only [One] at e; subst e
        obtain ⟨_, ⟨cs, hb⟩, _⟩ := hst _ hk
        exact Blk.ne_ hb hgs (by decide) rfl
    · rw [List.getElem?_set_ne (fun e => hij e.symm)] at hu'
      have r0 := h.row i u hu'
      refine hx i hi6 hij _ _ ((r0.fr f (fun k hk e => ?_) (fun _ k hk => ⟨?_, hneS k hk⟩)).fr F2 (fun k hk e => ?_) (fun _ k hk => ⟨?_, fun e => ?_⟩))
      · obtain ⟨_, cs, hb⟩ := hown k e
        obtain ⟨_, cs', hb'⟩ := r0.own hk
        exact Blk.ne_ hb hb' (tag_ne hj hi6 (fun e => hij e.symm)) rfl
      · obtain ⟨_, ⟨cs, hb⟩, _⟩ := h.st k hk; exact hb.lt
      · simp only [One] at e; subst e
        obtain ⟨_, cs', hb'⟩ := r0.own hk
        exact Blk.ne_ hb' h.hs (tag_gs _) rfl
      · obtain ⟨_, ⟨cs, hb⟩, _⟩ := hst k hk; exact hb.lt
      · simp only [One] at e; subst e
        obtain ⟨_, ⟨cs, hb⟩, _⟩ := hst _ hk
        exact Blk.ne_ hb hgs (by decide) rfl
  · rw [hi]
    exact (h.mi.fr f (fun e => by obtain ⟨_, cs, hb⟩ := hown _ e; exact mapI_ne h.mi hb rfl)).fr F2 (fun e => mapI_ne h.mi h.hs e)
  · rw [hdc]
    exact (h.md.fr f (fun e => by obtain ⟨_, cs, hb⟩ := hown _ e; exact mapB_ne h.md hb rfl)).fr F2 (fun e => mapB_ne h.md h.hs e)
  · obtain ⟨h1, ⟨cs, h2⟩, h3⟩ := hst k hk
    exact ⟨h1, ⟨cs, h2.far (fun e => by simp only at e; subst e; exact Blk.ne_ h2 hgs (by decide) rfl) _⟩, h3⟩
end
end Go.Proofs.Ytfngopoaegofhaa
