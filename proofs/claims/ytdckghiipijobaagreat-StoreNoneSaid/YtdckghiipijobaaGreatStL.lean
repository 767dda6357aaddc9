/- How the store grows. -/
import Derived.Test.YtdckghiipijobaaGreatStK
namespace Go.Proofs.YtdckghiipijobaaGreat
open Go.RowKit

theorem Bt.lt {w : World} {k : Nat} {t : TypeId} (h : Bt w k t) : k < w.heap.size := by obtain ⟨_, h⟩ := h; exact h.lt
structure Grown (w w' : World) (R R' : Nat → Prop) (V V' : Pl) : Prop where
  P : V'.P = V.P
  fr : Fr V.own w w'
  up : ∀ k, k < w.heap.size → R' k → R k
  keep : ∀ k, R k → R' k
  own : ∀ k, V'.own k → V.own k ∨ w.heap.size ≤ k
theorem Grown.refl (w : World) (R : Nat → Prop) (V : Pl) : Grown w w R R V V := ⟨rfl, Fr.refl _ _, fun _ _ h => h, fun _ h => h, fun _ h => .inl h⟩
theorem Grown.trans {a b c : World} {R R1 R2 : Nat → Prop} {V V1 V2 : Pl} (h : Grown a b R R1 V V1) (k : Grown b c R1 R2 V1 V2) : Grown a c R R2 V V2 :=
  ⟨k.P.trans h.P, h.fr.trans k.fr (fun i hi ho => (h.own i ho).elim (fun h => h) (fun h => by omega)), fun i hi r => h.up i hi (k.up i (Nat.lt_of_lt_of_le hi h.fr.size) r), fun i r => k.keep i (h.keep i r),
    fun i ho => (k.own i ho).elim (fun o => h.own i o) (fun o => .inr (Nat.le_trans h.fr.size o))⟩
theorem Grown.of_no {w w' : World} {R : Nat → Prop} {V : Pl} (f : Fr No w w') : Grown w w' R R V V := ⟨rfl, f.mono (fun _ _ h => h.elim), fun _ _ h => h, fun _ h => h, fun _ h => .inl h⟩
/-- The store is x' afterwards; the call returns v. -/
def GrTo (R : Nat → Prop) (V : Pl) (v : Value) (x' : Rx) (w : World) (e : Ending) (w' : World) : Prop :=
  ∃ (V' : Pl) (R' : Nat → Prop), e = .returned v ∧ StIn w' R' V' x' ∧ Grown w w' R R' V V'
theorem GrTo.of_no {w w1 : World} {R : Nat → Prop} {V : Pl} {v : Value} {x' : Rx} {e : Ending} {w' : World} (f : Fr No w w1) (h : GrTo R V v x' w1 e w') : GrTo R V v x' w e w' := by
  obtain ⟨V', R', h1, h2, h3⟩ := h
  exact ⟨V', R', h1, h2, (Grown.of_no f).trans h3⟩

theorem Pl.own_put_ho {V : Pl} {v' : Value} {k : Nat} (h : Pl.own { V with ho := v' } k) : V.own k ∨ v'.ownBlock = some k := by
  rcases h with h | ⟨v, hv, h⟩ | h | h
  · exact .inl (.inl h)
  · simp only [Pl.vs, List.mem_cons, List.not_mem_nil, or_false] at hv
    rcases hv with rfl | rfl | rfl | rfl | rfl | rfl | rfl | rfl | rfl | rfl
    · exact .inr h
    · exact .inl (Pl.o_co h)
    · exact .inl (Pl.o_ca h)
    · exact .inl (Pl.o_fu h)
    · exact .inl (Pl.o_ta h)
    · exact .inl (Pl.o_me h)
    · exact .inl (Pl.o_gl h)
    · exact .inl (Pl.o_el h)
    · exact .inl (Pl.o_da h)
    · exact .inl (Pl.o_is h)
  · exact .inl (.inr (.inr (.inl h)))
  · exact .inl (.inr (.inr (.inr h)))
theorem Pl.own_put_co {V : Pl} {v' : Value} {k : Nat} (h : Pl.own { V with co := v' } k) : V.own k ∨ v'.ownBlock = some k := by
  rcases h with h | ⟨v, hv, h⟩ | h | h
  · exact .inl (.inl h)
  · simp only [Pl.vs, List.mem_cons, List.not_mem_nil, or_false] at hv
    rcases hv with rfl | rfl | rfl | rfl | rfl | rfl | rfl | rfl | rfl | rfl
    · exact .inl (Pl.o_ho h)
    · exact .inr h
    · exact .inl (Pl.o_ca h)
    · exact .inl (Pl.o_fu h)
    · exact .inl (Pl.o_ta h)
    · exact .inl (Pl.o_me h)
    · exact .inl (Pl.o_gl h)
    · exact .inl (Pl.o_el h)
    · exact .inl (Pl.o_da h)
    · exact .inl (Pl.o_is h)
  · exact .inl (.inr (.inr (.inl h)))
  · exact .inl (.inr (.inr (.inr h)))
theorem Pl.own_put_ca {V : Pl} {v' : Value} {k : Nat} (h : Pl.own { V with ca := v' } k) : V.own k ∨ v'.ownBlock = some k := by
  rcases h with h | ⟨v, hv, h⟩ | h | h
  · exact .inl (.inl h)
  · simp only [Pl.vs, List.mem_cons, List.not_mem_nil, or_false] at hv
    rcases hv with rfl | rfl | rfl | rfl | rfl | rfl | rfl | rfl | rfl | rfl
    · exact .inl (Pl.o_ho h)
    · exact .inl (Pl.o_co h)
    · exact .inr h
    · exact .inl (Pl.o_fu h)
    · exact .inl (Pl.o_ta h)
    · exact .inl (Pl.o_me h)
    · exact .inl (Pl.o_gl h)
    · exact .inl (Pl.o_el h)
    · exact .inl (Pl.o_da h)
    · exact .inl (Pl.o_is h)
  · exact .inl (.inr (.inr (.inl h)))
  · exact .inl (.inr (.inr (.inr h)))
theorem Pl.own_put_fu {V : Pl} {v' : Value} {k : Nat} (h : Pl.own { V with fu := v' } k) : V.own k ∨ v'.ownBlock = some k := by
  rcases h with h | ⟨v, hv, h⟩ | h | h
  · exact .inl (.inl h)
  · simp only [Pl.vs, List.mem_cons, List.not_mem_nil, or_false] at hv
    rcases hv with rfl | rfl | rfl | rfl | rfl | rfl | rfl | rfl | rfl | rfl
    · exact .inl (Pl.o_ho h)
    · exact .inl (Pl.o_co h)
    · exact .inl (Pl.o_ca h)
    · exact .inr h
    · exact .inl (Pl.o_ta h)
    · exact .inl (Pl.o_me h)
    · exact .inl (Pl.o_gl h)
    · exact .inl (Pl.o_el h)
    · exact .inl (Pl.o_da h)
    · exact .inl (Pl.o_is h)
  · exact .inl (.inr (.inr (.inl h)))
  · exact .inl (.inr (.inr (.inr h)))
theorem Pl.own_put_ta {V : Pl} {v' : Value} {k : Nat} (h : Pl.own { V with ta := v' } k) : V.own k ∨ v'.ownBlock = some k := by
  rcases h with h | ⟨v, hv, h⟩ | h | h
  · exact .inl (.inl h)
  · simp only [Pl.vs, List.mem_cons, List.not_mem_nil, or_false] at hv
    rcases hv with rfl | rfl | rfl | rfl | rfl | rfl | rfl | rfl | rfl | rfl
    · exact .inl (Pl.o_ho h)
    · exact .inl (Pl.o_co h)
    · exact .inl (Pl.o_ca h)
    · exact .inl (Pl.o_fu h)
    · exact .inr h
    · exact .inl (Pl.o_me h)
    · exact .inl (Pl.o_gl h)
    · exact .inl (Pl.o_el h)
    · exact .inl (Pl.o_da h)
    · exact .inl (Pl.o_is h)
  · exact .inl (.inr (.inr (.inl h)))
  · exact .inl (.inr (.inr (.inr h)))
theorem Pl.own_put_me {V : Pl} {v' : Value} {k : Nat} (h : Pl.own { V with me := v' } k) : V.own k ∨ v'.ownBlock = some k := by
  rcases h with h | ⟨v, hv, h⟩ | h | h
  · exact .inl (.inl h)
  · simp only [Pl.vs, List.mem_cons, List.not_mem_nil, or_false] at hv
    rcases hv with rfl | rfl | rfl | rfl | rfl | rfl | rfl | rfl | rfl | rfl
    · exact .inl (Pl.o_ho h)
    · exact .inl (Pl.o_co h)
    · exact .inl (Pl.o_ca h)
    · exact .inl (Pl.o_fu h)
    · exact .inl (Pl.o_ta h)
    · exact .inr h
    · exact .inl (Pl.o_gl h)
    · exact .inl (Pl.o_el h)
    · exact .inl (Pl.o_da h)
    · exact .inl (Pl.o_is h)
  · exact .inl (.inr (.inr (.inl h)))
  · exact .inl (.inr (.inr (.inr h)))
theorem Pl.own_put_gl {V : Pl} {v' : Value} {k : Nat} (h : Pl.own { V with gl := v' } k) : V.own k ∨ v'.ownBlock = some k := by
  rcases h with h | ⟨v, hv, h⟩ | h | h
  · exact .inl (.inl h)
  · simp only [Pl.vs, List.mem_cons, List.not_mem_nil, or_false] at hv
    rcases hv with rfl | rfl | rfl | rfl | rfl | rfl | rfl | rfl | rfl | rfl
    · exact .inl (Pl.o_ho h)
    · exact .inl (Pl.o_co h)
    · exact .inl (Pl.o_ca h)
    · exact .inl (Pl.o_fu h)
    · exact .inl (Pl.o_ta h)
    · exact .inl (Pl.o_me h)
    · exact .inr h
    · exact .inl (Pl.o_el h)
    · exact .inl (Pl.o_da h)
    · exact .inl (Pl.o_is h)
  · exact .inl (.inr (.inr (.inl h)))
  · exact .inl (.inr (.inr (.inr h)))
theorem Pl.own_put_el {V : Pl} {v' : Value} {k : Nat} (h : Pl.own { V with el := v' } k) : V.own k ∨ v'.ownBlock = some k := by
  rcases h with h | ⟨v, hv, h⟩ | h | h
  · exact .inl (.inl h)
  · simp only [Pl.vs, List.mem_cons, List.not_mem_nil, or_false] at hv
    rcases hv with rfl | rfl | rfl | rfl | rfl | rfl | rfl | rfl | rfl | rfl
    · exact .inl (Pl.o_ho h)
    · exact .inl (Pl.o_co h)
    · exact .inl (Pl.o_ca h)
    · exact .inl (Pl.o_fu h)
    · exact .inl (Pl.o_ta h)
    · exact .inl (Pl.o_me h)
    · exact .inl (Pl.o_gl h)
    · exact .inr h
    · exact .inl (Pl.o_da h)
    · exact .inl (Pl.o_is h)
  · exact .inl (.inr (.inr (.inl h)))
  · exact .inl (.inr (.inr (.inr h)))
theorem Pl.own_put_da {V : Pl} {v' : Value} {k : Nat} (h : Pl.own { V with da := v' } k) : V.own k ∨ v'.ownBlock = some k := by
  rcases h with h | ⟨v, hv, h⟩ | h | h
  · exact .inl (.inl h)
  · simp only [Pl.vs, List.mem_cons, List.not_mem_nil, or_false] at hv
    rcases hv with rfl | rfl | rfl | rfl | rfl | rfl | rfl | rfl | rfl | rfl
    · exact .inl (Pl.o_ho h)
    · exact .inl (Pl.o_co h)
    · exact .inl (Pl.o_ca h)
    · exact .inl (Pl.o_fu h)
    · exact .inl (Pl.o_ta h)
    · exact .inl (Pl.o_me h)
    · exact .inl (Pl.o_gl h)
    · exact .inl (Pl.o_el h)
    · exact .inr h
    · exact .inl (Pl.o_is h)
  · exact .inl (.inr (.inr (.inl h)))
  · exact .inl (.inr (.inr (.inr h)))
theorem Pl.own_put_is {V : Pl} {v' : Value} {k : Nat} (h : Pl.own { V with is := v' } k) : V.own k ∨ v'.ownBlock = some k := by
  rcases h with h | ⟨v, hv, h⟩ | h | h
  · exact .inl (.inl h)
  · simp only [Pl.vs, List.mem_cons, List.not_mem_nil, or_false] at hv
    rcases hv with rfl | rfl | rfl | rfl | rfl | rfl | rfl | rfl | rfl | rfl
    · exact .inl (Pl.o_ho h)
    · exact .inl (Pl.o_co h)
    · exact .inl (Pl.o_ca h)
    · exact .inl (Pl.o_fu h)
    · exact .inl (Pl.o_ta h)
    · exact .inl (Pl.o_me h)
    · exact .inl (Pl.o_gl h)
    · exact .inl (Pl.o_el h)
    · exact .inl (Pl.o_da h)
    · exact .inr h
  · exact .inl (.inr (.inr (.inl h)))
  · exact .inl (.inr (.inr (.inr h)))
theorem StIn.addIn_ca {w : World} {R : Nat → Prop} {V : Pl} {x : Rx} (h : StIn w R V x) {cs : List Value} {y : Ca} (hr : tCa.rd w (Sd w R) cs y) (hl : x.calls.length ≤ 1000000) : AddIn tCa 113 w V.P 2 (Sd w R) V.ca x.calls cs y where
  cell := h.blk.cell 2
  fz := h.blk.frozen 2
  row := h.ca
  rd := hr
  lt := fun k hk => hk.1
  own := fun k hk => ⟨fun e => hk.2 (h.own k (Pl.o_ca e)), fun e => hk.2 (h.own k (e ▸ V.oP))⟩
  ne := fun e => Bt.ne (row_bk h.ca e) ⟨_, h.blk⟩ (by decide) rfl
  len := hl
theorem StIn.added_ca {w : World} {R : Nat → Prop} {V : Pl} {x : Rx} (h : StIn w R V x) {y : Ca} {e : Ending} {w' : World} (a : AddedTo tCa 113 V.P 2 (Sd w R) V.ca x.calls y w e w') : GrTo R V (.int .i64 x.calls.length) { x with calls := x.calls ++ [y] } w e w' := by
  obtain ⟨v', h1, h2, h3, h4, h5⟩ := a
  have hup : ∀ k, k < w.heap.size → (R k ∨ v'.ownBlock = some k) → R k := fun k hk r => r.elim (fun r => r) (fun e => (h5 k e).elim (fun e => h.own k (Pl.o_ca e)) (fun e => by omega))
  refine ⟨{ V with ca := v' }, fun k => R k ∨ v'.ownBlock = some k, h1, h.put_ca h3 (by simpa using h4 _ _ h.blk) (h2.more (Nat.le_refl _) (fun k hk => hk.up h3.size hup)) (fun k e => .inr e) hup (fun k r => .inl r) (fun k r => r.elim (fun r => Nat.lt_of_lt_of_le (h.low k r) h3.size) (fun e => (h5 k e).elim (fun e => Nat.lt_of_lt_of_le (h.lt (Pl.o_ca e)) h3.size) (fun e => e.2))), rfl, h3.mono (fun k _ e => e.elim (fun e => .inl e) (fun e => Pl.o_ca e)), hup, fun k r => .inl r, fun k o => ?_⟩
  rcases Pl.own_put_ca o with o | e
  · exact .inl o
  · exact (h5 k e).elim (fun e => .inl (Pl.o_ca e)) (fun e => .inr e.1)
theorem StIn.addIn_fu {w : World} {R : Nat → Prop} {V : Pl} {x : Rx} (h : StIn w R V x) {cs : List Value} {y : Fi} (hr : tFi.rd w (Sd w R) cs y) (hl : x.funcs.length ≤ 1000000) : AddIn tFi 47 w V.P 3 (Sd w R) V.fu x.funcs cs y where
  cell := h.blk.cell 3
  fz := h.blk.frozen 3
  row := h.fu
  rd := hr
  lt := fun k hk => hk.1
  own := fun k hk => ⟨fun e => hk.2 (h.own k (Pl.o_fu e)), fun e => hk.2 (h.own k (e ▸ V.oP))⟩
  ne := fun e => Bt.ne (row_bk h.fu e) ⟨_, h.blk⟩ (by decide) rfl
  len := hl
theorem StIn.added_fu {w : World} {R : Nat → Prop} {V : Pl} {x : Rx} (h : StIn w R V x) {y : Fi} {e : Ending} {w' : World} (a : AddedTo tFi 47 V.P 3 (Sd w R) V.fu x.funcs y w e w') : GrTo R V (.int .i64 x.funcs.length) { x with funcs := x.funcs ++ [y] } w e w' := by
  obtain ⟨v', h1, h2, h3, h4, h5⟩ := a
  have hup : ∀ k, k < w.heap.size → (R k ∨ v'.ownBlock = some k) → R k := fun k hk r => r.elim (fun r => r) (fun e => (h5 k e).elim (fun e => h.own k (Pl.o_fu e)) (fun e => by omega))
  refine ⟨{ V with fu := v' }, fun k => R k ∨ v'.ownBlock = some k, h1, h.put_fu h3 (by simpa using h4 _ _ h.blk) (h2.more (Nat.le_refl _) (fun k hk => hk.up h3.size hup)) (fun k e => .inr e) hup (fun k r => .inl r) (fun k r => r.elim (fun r => Nat.lt_of_lt_of_le (h.low k r) h3.size) (fun e => (h5 k e).elim (fun e => Nat.lt_of_lt_of_le (h.lt (Pl.o_fu e)) h3.size) (fun e => e.2))), rfl, h3.mono (fun k _ e => e.elim (fun e => .inl e) (fun e => Pl.o_fu e)), hup, fun k r => .inl r, fun k o => ?_⟩
  rcases Pl.own_put_fu o with o | e
  · exact .inl o
  · exact (h5 k e).elim (fun e => .inl (Pl.o_fu e)) (fun e => .inr e.1)
theorem StIn.addIn_ta {w : World} {R : Nat → Prop} {V : Pl} {x : Rx} (h : StIn w R V x) {cs : List Value} {y : Nat} (hr : tPt.rd w (Sd w R) cs y) (hl : (V.tp.map (·.1)).length ≤ 1000000) : AddIn tPt 100 w V.P 4 (Sd w R) V.ta (V.tp.map (·.1)) cs y where
  cell := h.blk.cell 4
  fz := h.blk.frozen 4
  row := h.ta
  rd := hr
  lt := fun k hk => hk.1
  own := fun k hk => ⟨fun e => hk.2 (h.own k (Pl.o_ta e)), fun e => hk.2 (h.own k (e ▸ V.oP))⟩
  ne := fun e => Bt.ne (row_bk h.ta e) ⟨_, h.blk⟩ (by decide) rfl
  len := hl
theorem StIn.addIn_me {w : World} {R : Nat → Prop} {V : Pl} {x : Rx} (h : StIn w R V x) {cs : List Value} {y : Nat} (hr : tPt.rd w (Sd w R) cs y) (hl : (V.mp.map (·.1)).length ≤ 1000000) : AddIn tPt 99 w V.P 5 (Sd w R) V.me (V.mp.map (·.1)) cs y where
  cell := h.blk.cell 5
  fz := h.blk.frozen 5
  row := h.me
  rd := hr
  lt := fun k hk => hk.1
  own := fun k hk => ⟨fun e => hk.2 (h.own k (Pl.o_me e)), fun e => hk.2 (h.own k (e ▸ V.oP))⟩
  ne := fun e => Bt.ne (row_bk h.me e) ⟨_, h.blk⟩ (by decide) rfl
  len := hl
theorem StIn.addIn_gl {w : World} {R : Nat → Prop} {V : Pl} {x : Rx} (h : StIn w R V x) {cs : List Value} {y : Rg} (hr : tRg.rd w (Sd w R) cs y) (hl : x.globs.length ≤ 1000000) : AddIn tRg 180 w V.P 6 (Sd w R) V.gl x.globs cs y where
  cell := h.blk.cell 6
  fz := h.blk.frozen 6
  row := h.gl
  rd := hr
  lt := fun k hk => hk.1
  own := fun k hk => ⟨fun e => hk.2 (h.own k (Pl.o_gl e)), fun e => hk.2 (h.own k (e ▸ V.oP))⟩
  ne := fun e => Bt.ne (row_bk h.gl e) ⟨_, h.blk⟩ (by decide) rfl
  len := hl
theorem StIn.added_gl {w : World} {R : Nat → Prop} {V : Pl} {x : Rx} (h : StIn w R V x) {y : Rg} {e : Ending} {w' : World} (a : AddedTo tRg 180 V.P 6 (Sd w R) V.gl x.globs y w e w') : GrTo R V (.int .i64 x.globs.length) { x with globs := x.globs ++ [y] } w e w' := by
  obtain ⟨v', h1, h2, h3, h4, h5⟩ := a
  have hup : ∀ k, k < w.heap.size → (R k ∨ v'.ownBlock = some k) → R k := fun k hk r => r.elim (fun r => r) (fun e => (h5 k e).elim (fun e => h.own k (Pl.o_gl e)) (fun e => by omega))
  refine ⟨{ V with gl := v' }, fun k => R k ∨ v'.ownBlock = some k, h1, h.put_gl h3 (by simpa using h4 _ _ h.blk) (h2.more (Nat.le_refl _) (fun k hk => hk.up h3.size hup)) (fun k e => .inr e) hup (fun k r => .inl r) (fun k r => r.elim (fun r => Nat.lt_of_lt_of_le (h.low k r) h3.size) (fun e => (h5 k e).elim (fun e => Nat.lt_of_lt_of_le (h.lt (Pl.o_gl e)) h3.size) (fun e => e.2))), rfl, h3.mono (fun k _ e => e.elim (fun e => .inl e) (fun e => Pl.o_gl e)), hup, fun k r => .inl r, fun k o => ?_⟩
  rcases Pl.own_put_gl o with o | e
  · exact .inl o
  · exact (h5 k e).elim (fun e => .inl (Pl.o_gl e)) (fun e => .inr e.1)
theorem StIn.addIn_el {w : World} {R : Nat → Prop} {V : Pl} {x : Rx} (h : StIn w R V x) {cs : List Value} {y : Rs} (hr : tRs.rd w (Sd w R) cs y) (hl : x.elems.length ≤ 1000000) : AddIn tRs 182 w V.P 7 (Sd w R) V.el x.elems cs y where
  cell := h.blk.cell 7
  fz := h.blk.frozen 7
  row := h.el
  rd := hr
  lt := fun k hk => hk.1
  own := fun k hk => ⟨fun e => hk.2 (h.own k (Pl.o_el e)), fun e => hk.2 (h.own k (e ▸ V.oP))⟩
  ne := fun e => Bt.ne (row_bk h.el e) ⟨_, h.blk⟩ (by decide) rfl
  len := hl
theorem StIn.added_el {w : World} {R : Nat → Prop} {V : Pl} {x : Rx} (h : StIn w R V x) {y : Rs} {e : Ending} {w' : World} (a : AddedTo tRs 182 V.P 7 (Sd w R) V.el x.elems y w e w') : GrTo R V (.int .i64 x.elems.length) { x with elems := x.elems ++ [y] } w e w' := by
  obtain ⟨v', h1, h2, h3, h4, h5⟩ := a
  have hup : ∀ k, k < w.heap.size → (R k ∨ v'.ownBlock = some k) → R k := fun k hk r => r.elim (fun r => r) (fun e => (h5 k e).elim (fun e => h.own k (Pl.o_el e)) (fun e => by omega))
  refine ⟨{ V with el := v' }, fun k => R k ∨ v'.ownBlock = some k, h1, h.put_el h3 (by simpa using h4 _ _ h.blk) (h2.more (Nat.le_refl _) (fun k hk => hk.up h3.size hup)) (fun k e => .inr e) hup (fun k r => .inl r) (fun k r => r.elim (fun r => Nat.lt_of_lt_of_le (h.low k r) h3.size) (fun e => (h5 k e).elim (fun e => Nat.lt_of_lt_of_le (h.lt (Pl.o_el e)) h3.size) (fun e => e.2))), rfl, h3.mono (fun k _ e => e.elim (fun e => .inl e) (fun e => Pl.o_el e)), hup, fun k r => .inl r, fun k o => ?_⟩
  rcases Pl.own_put_el o with o | e
  · exact .inl o
  · exact (h5 k e).elim (fun e => .inl (Pl.o_el e)) (fun e => .inr e.1)
theorem StIn.addIn_da {w : World} {R : Nat → Prop} {V : Pl} {x : Rx} (h : StIn w R V x) {cs : List Value} {y : Rb} (hr : tRb.rd w (Sd w R) cs y) (hl : x.datas.length ≤ 1000000) : AddIn tRb 184 w V.P 8 (Sd w R) V.da x.datas cs y where
  cell := h.blk.cell 8
  fz := h.blk.frozen 8
  row := h.da
  rd := hr
  lt := fun k hk => hk.1
  own := fun k hk => ⟨fun e => hk.2 (h.own k (Pl.o_da e)), fun e => hk.2 (h.own k (e ▸ V.oP))⟩
  ne := fun e => Bt.ne (row_bk h.da e) ⟨_, h.blk⟩ (by decide) rfl
  len := hl
theorem StIn.added_da {w : World} {R : Nat → Prop} {V : Pl} {x : Rx} (h : StIn w R V x) {y : Rb} {e : Ending} {w' : World} (a : AddedTo tRb 184 V.P 8 (Sd w R) V.da x.datas y w e w') : GrTo R V (.int .i64 x.datas.length) { x with datas := x.datas ++ [y] } w e w' := by
  obtain ⟨v', h1, h2, h3, h4, h5⟩ := a
  have hup : ∀ k, k < w.heap.size → (R k ∨ v'.ownBlock = some k) → R k := fun k hk r => r.elim (fun r => r) (fun e => (h5 k e).elim (fun e => h.own k (Pl.o_da e)) (fun e => by omega))
  refine ⟨{ V with da := v' }, fun k => R k ∨ v'.ownBlock = some k, h1, h.put_da h3 (by simpa using h4 _ _ h.blk) (h2.more (Nat.le_refl _) (fun k hk => hk.up h3.size hup)) (fun k e => .inr e) hup (fun k r => .inl r) (fun k r => r.elim (fun r => Nat.lt_of_lt_of_le (h.low k r) h3.size) (fun e => (h5 k e).elim (fun e => Nat.lt_of_lt_of_le (h.lt (Pl.o_da e)) h3.size) (fun e => e.2))), rfl, h3.mono (fun k _ e => e.elim (fun e => .inl e) (fun e => Pl.o_da e)), hup, fun k r => .inl r, fun k o => ?_⟩
  rcases Pl.own_put_da o with o | e
  · exact .inl o
  · exact (h5 k e).elim (fun e => .inl (Pl.o_da e)) (fun e => .inr e.1)
theorem StIn.addIn_is {w : World} {R : Nat → Prop} {V : Pl} {x : Rx} (h : StIn w R V x) {cs : List Value} {y : Ri} (hr : tRi.rd w (Sd w R) cs y) (hl : x.insts.length ≤ 1000000) : AddIn tRi 208 w V.P 9 (Sd w R) V.is x.insts cs y where
  cell := h.blk.cell 9
  fz := h.blk.frozen 9
  row := h.is
  rd := hr
  lt := fun k hk => hk.1
  own := fun k hk => ⟨fun e => hk.2 (h.own k (Pl.o_is e)), fun e => hk.2 (h.own k (e ▸ V.oP))⟩
  ne := fun e => Bt.ne (row_bk h.is e) ⟨_, h.blk⟩ (by decide) rfl
  len := hl
theorem StIn.added_is {w : World} {R : Nat → Prop} {V : Pl} {x : Rx} (h : StIn w R V x) {y : Ri} {e : Ending} {w' : World} (a : AddedTo tRi 208 V.P 9 (Sd w R) V.is x.insts y w e w') : GrTo R V (.int .i64 x.insts.length) { x with insts := x.insts ++ [y] } w e w' := by
  obtain ⟨v', h1, h2, h3, h4, h5⟩ := a
  have hup : ∀ k, k < w.heap.size → (R k ∨ v'.ownBlock = some k) → R k := fun k hk r => r.elim (fun r => r) (fun e => (h5 k e).elim (fun e => h.own k (Pl.o_is e)) (fun e => by omega))
  refine ⟨{ V with is := v' }, fun k => R k ∨ v'.ownBlock = some k, h1, h.put_is h3 (by simpa using h4 _ _ h.blk) (h2.more (Nat.le_refl _) (fun k hk => hk.up h3.size hup)) (fun k e => .inr e) hup (fun k r => .inl r) (fun k r => r.elim (fun r => Nat.lt_of_lt_of_le (h.low k r) h3.size) (fun e => (h5 k e).elim (fun e => Nat.lt_of_lt_of_le (h.lt (Pl.o_is e)) h3.size) (fun e => e.2))), rfl, h3.mono (fun k _ e => e.elim (fun e => .inl e) (fun e => Pl.o_is e)), hup, fun k r => .inl r, fun k o => ?_⟩
  rcases Pl.own_put_is o with o | e
  · exact .inl o
  · exact (h5 k e).elim (fun e => .inl (Pl.o_is e)) (fun e => .inr e.1)
theorem Pl.own_add_me {V : Pl} {v' : Value} {z : Nat × Nat × Nat} {k : Nat} (h : Pl.own { V with me := v', mp := V.mp ++ [z] } k) : V.own k ∨ v'.ownBlock = some k ∨ k = z.1 ∨ k = z.2.1 := by
  rcases h with h | ⟨v, hv, h⟩ | h | h
  · exact .inl (.inl h)
  · simp only [Pl.vs, List.mem_cons, List.not_mem_nil, or_false] at hv
    rcases hv with rfl | rfl | rfl | rfl | rfl | rfl | rfl | rfl | rfl | rfl
    · exact .inl (Pl.o_ho h)
    · exact .inl (Pl.o_co h)
    · exact .inl (Pl.o_ca h)
    · exact .inl (Pl.o_fu h)
    · exact .inl (Pl.o_ta h)
    · exact .inr (.inl h)
    · exact .inl (Pl.o_gl h)
    · exact .inl (Pl.o_el h)
    · exact .inl (Pl.o_da h)
    · exact .inl (Pl.o_is h)
  · exact .inl (.inr (.inr (.inl h)))
  · obtain ⟨t, ht, h⟩ := h
    rcases List.mem_append.1 ht with ht | ht
    · exact .inl (.inr (.inr (.inr ⟨t, ht, h⟩)))
    · rw [List.mem_singleton] at ht; subst ht; exact .inr (.inr h)
theorem StIn.added_me {w w1 : World} {R : Nat → Prop} {V : Pl} {x : Rx} (h : StIn w R V x) (f : Fr No w w1) {t : Rm} {z : Nat × Nat × Nat} (hm : Mo w1 z.1 z.2.1 z.2.2 t.lim t.b) (l1 : w.heap.size ≤ z.1) (l2 : w.heap.size ≤ z.2.1) {e : Ending} {w' : World}
    (a : AddedTo tPt 99 V.P 5 (Sd w1 (fun k => R k ∨ k = z.1 ∨ k = z.2.1)) V.me (V.mp.map (·.1)) z.1 w1 e w') : GrTo R V (.int .i64 x.mems.length) { x with mems := x.mems ++ [t] } w e w' := by
  obtain ⟨v', h1, h2, h3, h4, h5⟩ := a
  have hz0 : Bt w1 z.1 251 ∧ Bt w1 z.2.1 5 := ⟨⟨_, hm.hp⟩, hm.own.bk⟩
  have k1 : StIn w1 (fun k => R k ∨ k = z.1 ∨ k = z.2.1) V x := h.fr f (fun _ _ m => m.elim) (fun k hk r => r.elim (fun r => r) (fun e => by omega)) (fun k r => .inl r) (fun k r => r.elim (fun r => Nat.lt_of_lt_of_le (h.low k r) f.size) (fun e => e.elim (fun e => e ▸ hz0.1.lt) (fun e => e ▸ hz0.2.lt)))
  have hlen : (V.mp.map (·.1)).length = x.mems.length := by simp [h.ml]
  rw [hlen] at h1
  have s1 := f.size
  have hnv : ∀ k, V.own k → k < w.heap.size := fun k o => h.lt o
  let R' : Nat → Prop := fun k => (R k ∨ k = z.1 ∨ k = z.2.1) ∨ v'.ownBlock = some k
  have hup : ∀ k, k < w1.heap.size → R' k → (R k ∨ k = z.1 ∨ k = z.2.1) := fun k hk r => r.elim (fun r => r) (fun e => (h5 k e).elim (fun e => .inl (h.own k (Pl.o_me e))) (fun e => by omega))
  have hM : ∀ k, k < w1.heap.size → (k = V.P ∨ V.me.ownBlock = some k) → (R k ∨ k = z.1 ∨ k = z.2.1) := fun k _ m => .inl (h.own k (m.elim (fun e => e ▸ V.oP) Pl.o_me))
  have nP : ∀ {k t}, Bt w1 k t → t ≠ 135 → t ≠ 99 → ¬ (k = V.P ∨ V.me.ownBlock = some k) := fun hk h1 h2 m => m.elim (fun e => Bt.ne hk ⟨_, k1.blk⟩ h1 e) (fun e => Bt.ne hk (row_bk k1.me e) h2 rfl)
  have hz : Bt w1 z.1 251 ∧ Bt w1 z.2.1 5 := ⟨⟨_, hm.hp⟩, hm.own.bk⟩
  refine ⟨{ V with me := v', mp := V.mp ++ [z] }, R', h1, ?_, rfl, (f.mono (fun _ _ h => h.elim)).trans (h3.mono (fun k _ e => e.elim (fun e => .inl e) (fun e => Pl.o_me e))) (fun _ _ h => h), fun k hk r => (hup k (by omega) r).elim (fun r => r) (fun e => by omega), fun k r => .inl (.inl r), fun k o => ?_⟩
  · constructor
    case blk => simpa using h4 _ _ k1.blk
    case ho => exact row_keep k1.ho h3 hM (fun k hk => nP (row_bk k1.ho hk) (by decide) (by decide)) hup
    case co => exact row_keep k1.co h3 hM (fun k hk => nP (row_bk k1.co hk) (by decide) (by decide)) hup
    case ca => exact row_keep k1.ca h3 hM (fun k hk => nP (row_bk k1.ca hk) (by decide) (by decide)) hup
    case fu => exact row_keep k1.fu h3 hM (fun k hk => nP (row_bk k1.fu hk) (by decide) (by decide)) hup
    case ta => exact row_keep k1.ta h3 hM (fun k hk => nP (row_bk k1.ta hk) (by decide) (by decide)) hup
    case me => show tPt.row w' 0 _ _ v' ((V.mp ++ [z]).map (·.1)); rw [List.map_append]; exact h2.more (Nat.le_refl _) (fun k hk => hk.up h3.size hup)
    case gl => exact row_keep k1.gl h3 hM (fun k hk => nP (row_bk k1.gl hk) (by decide) (by decide)) hup
    case el => exact row_keep k1.el h3 hM (fun k hk => nP (row_bk k1.el hk) (by decide) (by decide)) hup
    case da => exact row_keep k1.da h3 hM (fun k hk => nP (row_bk k1.da hk) (by decide) (by decide)) hup
    case is => exact row_keep k1.is h3 hM (fun k hk => nP (row_bk k1.is hk) (by decide) (by decide)) hup
    case tl => exact h.tl
    case tat =>
      intro i y u e1 e2
      have o := k1.tbk (List.mem_of_getElem? e1)
      exact (k1.tat i y u e1 e2).fr h3 (nP o.1 (by decide) (by decide)) (nP o.2 (by decide) (by decide))
    case tne => exact h.tne
    case ml => show (V.mp ++ [z]).length = (x.mems ++ [t]).length; simp [h.ml]
    case mat =>
      intro i y u e1 e2
      have e1 : (V.mp ++ [z])[i]? = some y := e1
      have e2 : (x.mems ++ [t])[i]? = some u := e2
      by_cases hi : i < V.mp.length
      · rw [List.getElem?_append_left hi] at e1
        rw [List.getElem?_append_left (by rw [← h.ml]; exact hi)] at e2
        have o := k1.mbk (List.mem_of_getElem? e1)
        exact (k1.mat i y u e1 e2).fr h3 (nP o.1 (by decide) (by decide)) (nP o.2 (by decide) (by decide))
      · rw [List.getElem?_append_right (by omega)] at e1
        rw [List.getElem?_append_right (by rw [← h.ml]; omega)] at e2
        have hlt := (List.getElem?_eq_some_iff.1 e1).1
        have hi0 : i - V.mp.length = 0 := by simp at hlt; omega
        rw [← h.ml] at e2
        rw [hi0] at e1 e2
        simp only [List.getElem?_cons_zero, Option.some.injEq] at e1 e2
        subst e1 e2
        exact hm.fr h3 (nP hz.1 (by decide) (by decide)) (nP hz.2 (by decide) (by decide))
    case mne =>
      intro i j a b e1 e2 hij
      have e1 : (V.mp ++ [z])[i]? = some a := e1
      have e2 : (V.mp ++ [z])[j]? = some b := e2
      have new : ∀ (i : Nat) (y : Nat × Nat × Nat), (V.mp ++ [z])[i]? = some y → (V.mp[i]? = some y ∧ y.1 < w.heap.size ∧ y.2.1 < w.heap.size) ∨ (i = V.mp.length ∧ y = z) := by
        intro i y e
        by_cases hi : i < V.mp.length
        · rw [List.getElem?_append_left hi] at e
          have o := Pl.o_mp (V := V) (List.mem_of_getElem? e)
          exact .inl ⟨e, hnv _ o.1, hnv _ o.2⟩
        · rw [List.getElem?_append_right (by omega)] at e
          have hlt := (List.getElem?_eq_some_iff.1 e).1
          have hi0 : i - V.mp.length = 0 := by simp at hlt; omega
          rw [hi0] at e
          simp only [List.getElem?_cons_zero, Option.some.injEq] at e
          exact .inr ⟨by omega, e.symm⟩
      rcases new i a e1 with ⟨a1, a2, a3⟩ | ⟨a1, a2⟩ <;> rcases new j b e2 with ⟨b1, b2, b3⟩ | ⟨b1, b2⟩
      · exact h.mne i j a b a1 b1 hij
      · subst b2; exact ⟨by omega, by omega⟩
      · subst a2; exact ⟨by omega, by omega⟩
      · omega
    case low =>
      intro k r
      exact r.elim (fun r => Nat.lt_of_lt_of_le (k1.low k r) h3.size) (fun e => (h5 k e).elim (fun e => Nat.lt_of_lt_of_le (k1.lt (Pl.o_me e)) h3.size) (fun e => e.2))
    case own =>
      intro k o
      rcases Pl.own_add_me o with o | o | o
      · exact .inl (.inl (h.own k o))
      · exact .inr o
      · exact .inl (.inr o)
  · rcases Pl.own_add_me o with o | o | o
    · exact .inl o
    · exact (h5 k o).elim (fun e => .inl (Pl.o_me e)) (fun e => .inr (by omega))
    · rcases o with o | o <;> (right; omega)
theorem Pl.own_add_ta {V : Pl} {v' : Value} {z : Nat × Nat × Nat} {k : Nat} (h : Pl.own { V with ta := v', tp := V.tp ++ [z] } k) : V.own k ∨ v'.ownBlock = some k ∨ k = z.1 ∨ k = z.2.1 := by
  rcases h with h | ⟨v, hv, h⟩ | h | h
  · exact .inl (.inl h)
  · simp only [Pl.vs, List.mem_cons, List.not_mem_nil, or_false] at hv
    rcases hv with rfl | rfl | rfl | rfl | rfl | rfl | rfl | rfl | rfl | rfl
    · exact .inl (Pl.o_ho h)
    · exact .inl (Pl.o_co h)
    · exact .inl (Pl.o_ca h)
    · exact .inl (Pl.o_fu h)
    · exact .inr (.inl h)
    · exact .inl (Pl.o_me h)
    · exact .inl (Pl.o_gl h)
    · exact .inl (Pl.o_el h)
    · exact .inl (Pl.o_da h)
    · exact .inl (Pl.o_is h)
  · obtain ⟨t, ht, h⟩ := h
    rcases List.mem_append.1 ht with ht | ht
    · exact .inl (.inr (.inr (.inl ⟨t, ht, h⟩)))
    · rw [List.mem_singleton] at ht; subst ht; exact .inr (.inr h)
  · exact .inl (.inr (.inr (.inr h)))
theorem StIn.added_ta {w w1 : World} {R : Nat → Prop} {V : Pl} {x : Rx} (h : StIn w R V x) (f : Fr No w w1) {t : Rt} {z : Nat × Nat × Nat} (hm : TabAt w1 z.1 z.2.1 z.2.2 t.t.elem t.t.lim.min t.t.lim.max t.t.lim.has t.l) (l1 : w.heap.size ≤ z.1) (l2 : w.heap.size ≤ z.2.1) {e : Ending} {w' : World}
    (a : AddedTo tPt 100 V.P 4 (Sd w1 (fun k => R k ∨ k = z.1 ∨ k = z.2.1)) V.ta (V.tp.map (·.1)) z.1 w1 e w') : GrTo R V (.int .i64 x.tabs.length) { x with tabs := x.tabs ++ [t] } w e w' := by
  obtain ⟨v', h1, h2, h3, h4, h5⟩ := a
  have hz0 : Bt w1 z.1 276 ∧ Bt w1 z.2.1 55 := ⟨⟨_, hm.blk⟩, hm.own.bk⟩
  have k1 : StIn w1 (fun k => R k ∨ k = z.1 ∨ k = z.2.1) V x := h.fr f (fun _ _ m => m.elim) (fun k hk r => r.elim (fun r => r) (fun e => by omega)) (fun k r => .inl r) (fun k r => r.elim (fun r => Nat.lt_of_lt_of_le (h.low k r) f.size) (fun e => e.elim (fun e => e ▸ hz0.1.lt) (fun e => e ▸ hz0.2.lt)))
  have hlen : (V.tp.map (·.1)).length = x.tabs.length := by simp [h.tl]
  rw [hlen] at h1
  have s1 := f.size
  have hnv : ∀ k, V.own k → k < w.heap.size := fun k o => h.lt o
  let R' : Nat → Prop := fun k => (R k ∨ k = z.1 ∨ k = z.2.1) ∨ v'.ownBlock = some k
  have hup : ∀ k, k < w1.heap.size → R' k → (R k ∨ k = z.1 ∨ k = z.2.1) := fun k hk r => r.elim (fun r => r) (fun e => (h5 k e).elim (fun e => .inl (h.own k (Pl.o_ta e))) (fun e => by omega))
  have hM : ∀ k, k < w1.heap.size → (k = V.P ∨ V.ta.ownBlock = some k) → (R k ∨ k = z.1 ∨ k = z.2.1) := fun k _ m => .inl (h.own k (m.elim (fun e => e ▸ V.oP) Pl.o_ta))
  have nP : ∀ {k t}, Bt w1 k t → t ≠ 135 → t ≠ 100 → ¬ (k = V.P ∨ V.ta.ownBlock = some k) := fun hk h1 h2 m => m.elim (fun e => Bt.ne hk ⟨_, k1.blk⟩ h1 e) (fun e => Bt.ne hk (row_bk k1.ta e) h2 rfl)
  have hz : Bt w1 z.1 276 ∧ Bt w1 z.2.1 55 := ⟨⟨_, hm.blk⟩, hm.own.bk⟩
  refine ⟨{ V with ta := v', tp := V.tp ++ [z] }, R', h1, ?_, rfl, (f.mono (fun _ _ h => h.elim)).trans (h3.mono (fun k _ e => e.elim (fun e => .inl e) (fun e => Pl.o_ta e))) (fun _ _ h => h), fun k hk r => (hup k (by omega) r).elim (fun r => r) (fun e => by omega), fun k r => .inl (.inl r), fun k o => ?_⟩
  · constructor
    case blk => simpa using h4 _ _ k1.blk
    case ho => exact row_keep k1.ho h3 hM (fun k hk => nP (row_bk k1.ho hk) (by decide) (by decide)) hup
    case co => exact row_keep k1.co h3 hM (fun k hk => nP (row_bk k1.co hk) (by decide) (by decide)) hup
    case ca => exact row_keep k1.ca h3 hM (fun k hk => nP (row_bk k1.ca hk) (by decide) (by decide)) hup
    case fu => exact row_keep k1.fu h3 hM (fun k hk => nP (row_bk k1.fu hk) (by decide) (by decide)) hup
    case ta => show tPt.row w' 0 _ _ v' ((V.tp ++ [z]).map (·.1)); rw [List.map_append]; exact h2.more (Nat.le_refl _) (fun k hk => hk.up h3.size hup)
    case me => exact row_keep k1.me h3 hM (fun k hk => nP (row_bk k1.me hk) (by decide) (by decide)) hup
    case gl => exact row_keep k1.gl h3 hM (fun k hk => nP (row_bk k1.gl hk) (by decide) (by decide)) hup
    case el => exact row_keep k1.el h3 hM (fun k hk => nP (row_bk k1.el hk) (by decide) (by decide)) hup
    case da => exact row_keep k1.da h3 hM (fun k hk => nP (row_bk k1.da hk) (by decide) (by decide)) hup
    case is => exact row_keep k1.is h3 hM (fun k hk => nP (row_bk k1.is hk) (by decide) (by decide)) hup
    case tl => show (V.tp ++ [z]).length = (x.tabs ++ [t]).length; simp [h.tl]
    case tat =>
      intro i y u e1 e2
      have e1 : (V.tp ++ [z])[i]? = some y := e1
      have e2 : (x.tabs ++ [t])[i]? = some u := e2
      by_cases hi : i < V.tp.length
      · rw [List.getElem?_append_left hi] at e1
        rw [List.getElem?_append_left (by rw [← h.tl]; exact hi)] at e2
        have o := k1.tbk (List.mem_of_getElem? e1)
        exact (k1.tat i y u e1 e2).fr h3 (nP o.1 (by decide) (by decide)) (nP o.2 (by decide) (by decide))
      · rw [List.getElem?_append_right (by omega)] at e1
        rw [List.getElem?_append_right (by rw [← h.tl]; omega)] at e2
        have hlt := (List.getElem?_eq_some_iff.1 e1).1
        have hi0 : i - V.tp.length = 0 := by simp at hlt; omega
        rw [← h.tl] at e2
        rw [hi0] at e1 e2
        simp only [List.getElem?_cons_zero, Option.some.injEq] at e1 e2
        subst e1 e2
        exact hm.fr h3 (nP hz.1 (by decide) (by decide)) (nP hz.2 (by decide) (by decide))
    case tne =>
      intro i j a b e1 e2 hij
      have e1 : (V.tp ++ [z])[i]? = some a := e1
      have e2 : (V.tp ++ [z])[j]? = some b := e2
      have new : ∀ (i : Nat) (y : Nat × Nat × Nat), (V.tp ++ [z])[i]? = some y → (V.tp[i]? = some y ∧ y.1 < w.heap.size ∧ y.2.1 < w.heap.size) ∨ (i = V.tp.length ∧ y = z) := by
        intro i y e
        by_cases hi : i < V.tp.length
        · rw [List.getElem?_append_left hi] at e
          have o := Pl.o_tp (V := V) (List.mem_of_getElem? e)
          exact .inl ⟨e, hnv _ o.1, hnv _ o.2⟩
        · rw [List.getElem?_append_right (by omega)] at e
          have hlt := (List.getElem?_eq_some_iff.1 e).1
          have hi0 : i - V.tp.length = 0 := by simp at hlt; omega
          rw [hi0] at e
          simp only [List.getElem?_cons_zero, Option.some.injEq] at e
          exact .inr ⟨by omega, e.symm⟩
      rcases new i a e1 with ⟨a1, a2, a3⟩ | ⟨a1, a2⟩ <;> rcases new j b e2 with ⟨b1, b2, b3⟩ | ⟨b1, b2⟩
      · exact h.tne i j a b a1 b1 hij
      · subst b2; exact ⟨by omega, by omega⟩
      · subst a2; exact ⟨by omega, by omega⟩
      · omega
    case ml => exact h.ml
    case mat =>
      intro i y u e1 e2
      have o := k1.mbk (List.mem_of_getElem? e1)
      exact (k1.mat i y u e1 e2).fr h3 (nP o.1 (by decide) (by decide)) (nP o.2 (by decide) (by decide))
    case mne => exact h.mne
    case low =>
      intro k r
      exact r.elim (fun r => Nat.lt_of_lt_of_le (k1.low k r) h3.size) (fun e => (h5 k e).elim (fun e => Nat.lt_of_lt_of_le (k1.lt (Pl.o_ta e)) h3.size) (fun e => e.2))
    case own =>
      intro k o
      rcases Pl.own_add_ta o with o | o | o
      · exact .inl (.inl (h.own k o))
      · exact .inr o
      · exact .inl (.inr o)
  · rcases Pl.own_add_ta o with o | o | o
    · exact .inl o
    · exact (h5 k o).elim (fun e => .inl (Pl.o_ta e)) (fun e => .inr (by omega))
    · rcases o with o | o <;> (right; omega)
end Go.Proofs.YtdckghiipijobaaGreat
