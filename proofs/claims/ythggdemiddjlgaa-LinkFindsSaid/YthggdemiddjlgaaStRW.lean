/- Merged: StR StS StT StU StV StW. -/
import Derived.Test.YthggdemiddjlgaaStQ
import Derived.Test.YthggdemiddjlgaaStIO

namespace Go.Proofs.Ythggdemiddjlgaa
open Go.RowKit

theorem AddIn.finish {α : Type} {t : Ty α} [TyOk t] [TyMore t] {el : TypeId} {w w1 w2 : World} {P off : Nat} {S : Nat → Prop} {v v1 : Value} {xs : List α} {cs : List Value} {x : α} (h : AddIn t el w P off S v xs cs x) (f1 : Fr No w w1) (hr1 : t.row w2 0 S el v1 (xs ++ [x])) (fr1 : Fr (fun k => some k = v.ownBlock) w1 w2)
    (hv1 : v1.ownBlock = v.ownBlock ∨ v1.ownBlock = some w1.heap.size) : AddedTo t el P off S v xs x w (.returned (.int .i64 xs.length)) (w2.setCell ⟨P, off, none⟩ v1) := by
  have hP : P < w.heap.size := World.block_lt_of_cell? w _ h.cell
  have s1 := f1.size
  have s2 := fr1.size
  have hvl : ∀ k, v1.ownBlock = some k → v.ownBlock = some k ∨ w.heap.size ≤ k ∧ k < w2.heap.size := fun k hk => by
    rcases hv1 with e | e
    · exact .inl (e.symm.trans hk)
    · obtain ⟨_, cs1, hb1⟩ := hr1.own hk
      rw [hk] at e
      have := Option.some.inj e
      exact .inr ⟨by omega, hb1.lt⟩
  refine ⟨v1, rfl, ?_, ?_, ?_, ?_⟩
  · exact hr1.fr ((Fr.refl (One P) w2).setCell ⟨P, off, none⟩ _ (fun _ => rfl)) (fun k hk => ⟨by have := h.lt k hk; omega, fun e => (h.own k hk).2 e⟩) (fun k hk e => by
      have e : k = P := e
      rcases hvl k hk with h1 | h1
      · exact h.ne (h1.trans (congrArg some e))
      · omega)
  · exact ((f1.mono (M := fun k => k = P ∨ v.ownBlock = some k) (fun _ _ h => h.elim)).trans fr1 (fun _ _ h => .inr h.symm)).setCell _ _ (fun _ => .inl rfl)
  · intro T cs hb
    exact blk_gone (hb.fr f1 (fun x => x)) fr1 h.ne _
  · intro k hk
    rcases hvl k hk with h1 | h1
    · exact .inl h1
    · exact .inr ⟨h1.1, by simpa [World.setCell] using h1.2⟩

structure StOk (x : Rx) : Prop where
  ho : ∀ h ∈ x.hosts, hoB h = true
  hb : ∀ h ∈ x.hosts, HoBd h
  hl : x.hosts.length ≤ 32
  cl : x.counts.length = x.hosts.length
  cn : ∀ c ∈ x.counts, 0 ≤ c ∧ c ≤ 1000000
  ms : MemsOk x
  lc : x.calls.length ≤ 1000000
  lm : x.mems.length ≤ 1000000
def ansL (a : Ac) (rs : List Int) : List Vl × Int := if ansB a rs then (a.vals, 0) else ([], 11)
def AnsRes (l : List Vl × Int) (w : World) (e : Ending) (w' : World) : Prop :=
  ∃ (A : Option Addr) (c : Nat), e = .returned (.tuple #[.slice A l.1.length c, .int .i64 l.2]) ∧ l.1.length ≤ c ∧ tVl.els w' (Nw w w') A l.1 ∧ Fr No w w'
theorem fit_len {vs : List Vl} {ts : List Int} (h : fitB vs ts = true) : vs.length = ts.length := by
  simp only [fitB, Bool.and_eq_true, decide_eq_true_eq] at h
  exact h.1
structure HoGood (h : Ho) : Prop where
  p : h.ty.params.length ≤ 8
  r : h.ty.results.length ≤ 8
  a : 0 < h.acts.length
  v : ∀ a ∈ h.acts, a.vals.length ≤ 8
  b : ∀ a ∈ h.acts, actB a h.ty.results = true
theorem hoB_good {h : Ho} (hb : hoB h = true) : HoGood h := by
  simp only [hoB, fnB, valsB, Bool.and_eq_true, decide_eq_true_eq] at hb
  obtain ⟨⟨⟨h1, _⟩, h2, _⟩, _, _, h3, h4⟩ := hb
  have hall : ∀ a ∈ h.acts, actB a h.ty.results = true := fun a ha => by
    obtain ⟨i, hi, rfl⟩ := List.getElem_of_mem ha
    have : actAt h i = true := allUp_iff.1 h4 i hi
    simpa [actAt, hi] using this
  refine ⟨h1, h2, by omega, fun a ha => ?_, hall⟩
  have hb := hall a ha
  unfold actB at hb
  split at hb
  · simp only [Bool.and_eq_true] at hb; have := fit_len hb.1; omega
  · split at hb
    · simp only [Bool.and_eq_true, decide_eq_true_eq] at hb; omega
    · split at hb
      · simp only [Bool.and_eq_true] at hb; have := fit_len hb.1; omega
      · cases hb
def zAc : Ac := ⟨0, [], 0, 0, 0⟩
def actOf (H : Ho) (n : Int) : Ac := (H.acts[n.toNat % H.acts.length]?).getD zAc
/-- The store with a call noted. -/
def notedS (x : Rx) (k : Nat) (n : Int) (args : List Vl) : Rx := { x with calls := x.calls ++ [⟨k, args⟩], counts := x.counts.set k (n + 1) }
def finS (x : Rx) (a : Ac) (rs : List Int) : Rx × List Vl × Int :=
  if a.kind = 2 then (if (pokeS x a).2 then ((pokeS x a).1, ansL a rs) else ((pokeS x a).1, [], 11)) else (x, ansL a rs)
/-- What a call of the host function h does. -/
def callS (x : Rx) (h : Int) (args : List Vl) : Rx × List Vl × Int :=
  match getI x.hosts h with
  | none => (x, [], 12)
  | some H => if fitB args H.ty.params then finS (notedS x h.toNat ((x.counts[h.toNat]?).getD 0) args) (actOf H ((x.counts[h.toNat]?).getD 0)) H.ty.results else (x, [], 12)
theorem row_some {α : Type} {t : Ty α} {w : World} {base : Nat} {S : Nat → Prop} {e : TypeId} {v : Value} {xs : List α} (h : t.row w base S e v xs) (hx : 0 < xs.length) : ∃ g c, v = .slice (some ⟨g, 0, none⟩) xs.length c ∧ base ≤ g := by
  obtain ⟨css, h1, h2⟩ := h
  rcases h2.2 with ⟨rfl, h0⟩ | ⟨g, cap, cur, rfl, hb, _⟩
  · omega
  · exact ⟨g, cap, rfl, hb⟩
/-- One counter of the store changes. -/
theorem StIn.setCount {w : World} {R : Nat → Prop} {V : Pl} {x : Rx} (h : StIn w R V x) {k : Nat} {n : Int} {g c : Nat} (hk : k < x.counts.length) (hv : V.co = .slice (some ⟨g, 0, none⟩) x.counts.length c) (wn : (Lit.int .i64 n).wf = true) :
    StIn (w.setCell ⟨g, k, none⟩ (.int .i64 n)) R V { x with counts := x.counts.set k n } ∧ Grown w (w.setCell ⟨g, k, none⟩ (.int .i64 n)) R R V V := by
  have ho : V.co.ownBlock = some g := by rw [hv]; rfl
  have f := (Fr.refl (fun k => k = V.P ∨ V.co.ownBlock = some k) w).setCell ⟨g, k, none⟩ (.int .i64 n) (fun _ => .inr ho)
  have hne : V.P ≠ g := fun e => Bt.ne ⟨_, h.blk⟩ (row_bk h.co ho) (by decide) e
  have hrow : tI.row (w.setCell ⟨g, k, none⟩ (.int .i64 n)) 0 (Sd w R) 3 (.slice (some ⟨g, 0, none⟩) x.counts.length c) (x.counts.set k n) := by
    have hr := h.co
    rw [hv] at hr
    refine hr.set (ds := [.int .i64 n]) k hk (int_mk wn) (fun p hp => World.cell?_of_block (w := w) (Below.heap_setCell w _ _ _ (fun e => hp.2 (h.own _ (Pl.o_co (by rw [ho, e]))))))  (fun cur hb => ?_)
    have e : tI.size = 1 := rfl
    rw [e, Nat.mul_one]
    exact hb.set_ k _
  refine ⟨?_, rfl, f.mono (fun k _ e => e.elim (fun e => e ▸ V.oP) Pl.o_co), fun _ _ r => r, fun _ r => r, fun _ o => .inl o⟩
  have := h.put_co (v' := V.co) (xs := x.counts.set k n) f (h.blk.far hne _) ?_ (fun k hk => h.own k (Pl.o_co hk)) (fun _ _ r => r) (fun _ r => r) (fun k r => Nat.lt_of_lt_of_le (h.low k r) f.size)
  · exact this
  · rw [hv]
    exact hrow.more (Nat.le_refl _) (fun k hk => hk.up f.size (fun _ _ r => r))
def CallTo (R : Nat → Prop) (V : Pl) (r : Rx × List Vl × Int) (w : World) (e : Ending) (w' : World) : Prop :=
  ∃ (V' : Pl) (R' : Nat → Prop) (A : Option Addr) (c : Nat), e = .returned (.tuple #[.slice A r.2.1.length c, .int .i64 r.2.2]) ∧ StIn w' R' V' r.1 ∧ Grown w w' R R' V V' ∧ r.2.1.length ≤ c ∧ tVl.els w' (Sd w' R') A r.2.1
end Go.Proofs.Ythggdemiddjlgaa

namespace Go.Proofs.Ythggdemiddjlgaa
open Go.RowKit

section
variable {w : World} {R : Nat → Prop} {V : Pl} {x : Rx}
theorem CallTo.no {w w' : World} {R : Nat → Prop} {V : Pl} {x : Rx} {t : Int} (h : StIn w R V x) (f : Fr No w w') : CallTo R V (x, [], t) w (.returned (.tuple #[.slice none 0 0, .int .i64 t])) w' :=
  ⟨V, R, none, 0, rfl, h.frNo f, Grown.of_no f, Nat.le_refl _, .inl rfl⟩
end
end Go.Proofs.Ythggdemiddjlgaa

namespace Go.Proofs.Ythggdemiddjlgaa
open Go.RowKit

theorem CallTo.cast {R : Nat → Prop} {V : Pl} {r r' : Rx × List Vl × Int} {w w' : World} {e : Ending} (h : r = r') (k : CallTo R V r' w e w') : CallTo R V r w e w' := h ▸ k
theorem pokeS_hosts (x : Rx) (a : Ac) : (pokeS x a).1.hosts = x.hosts := by
  unfold pokeS
  split
  · rfl
  · split <;> rfl
theorem act_idx {n : Int} {L : Nat} (h0 : 0 ≤ n) (hL : 0 < L) : n.toNat % L < L ∧ n.tmod L = ((n.toNat % L : Nat) : Int) := by
  obtain ⟨m, rfl⟩ := Int.eq_ofNat_of_zero_le h0
  refine ⟨Nat.mod_lt _ hL, ?_⟩
  rw [Int.tmod_eq_emod_of_nonneg (Int.natCast_nonneg m), Int.toNat_natCast, Int.natCast_emod]
section
variable {w : World} {R : Nat → Prop} {V : Pl} {x : Rx}
end
end Go.Proofs.Ythggdemiddjlgaa

namespace Go.Proofs.Ythggdemiddjlgaa
open Go.RowKit

structure Stg {α : Type} (t : Ty α) (T el : TypeId) (w0 wr : World) (B i : Nat) (cs : Array Value) (xs : List α) (v : Value) : Prop where
  fr : Fr (One B) w0 wr
  hB : Blk wr B T (cs.setIfInBounds i v)
  row : t.row wr w0.heap.size (fun b => Nw w0 wr b ∧ v.ownBlock ≠ some b) el v xs
  lt : B < w0.heap.size
section
variable {α : Type} {t : Ty α} {T el : TypeId} {w0 wr w' w3 w4 : World} {B i : Nat} {cs : Array Value} {xs : List α} {x : α} {v v1 : Value}
theorem Stg.start (hB : Blk w0 B T cs) (e : cs.setIfInBounds i (.slice none 0 0) = cs) : Stg t T el w0 w0 B i cs ([] : List α) (.slice none 0 0) :=
  ⟨Fr.refl _ _, e.symm ▸ hB, Ty.row.nil _ _ _ _, hB.lt⟩
theorem Stg.frNo [TyOk t] [TyMore t] (h : Stg t T el w0 wr B i cs xs v) (f : Fr No wr w') : Stg t T el w0 w' B i cs xs v :=
  ⟨h.fr.trans f (fun _ _ h => h.elim), h.hB.fr f (fun x => x), (h.row.fr f (fun k hk => ⟨hk.1.2, fun x => x⟩) (fun _ _ x => x)).more (Nat.le_refl _) (fun b hb => ⟨hb.1.up (Nat.le_refl _) f.size, hb.2⟩), h.lt⟩
theorem Stg.own (h : Stg t T el w0 wr B i cs xs v) {k : Nat} (hk : v.ownBlock = some k) : w0.heap.size ≤ k ∧ k < wr.heap.size := by
  obtain ⟨h1, _, hb⟩ := h.row.own hk
  exact ⟨h1, hb.lt⟩
theorem Stg.push [TyOk t] [TyMore t] (h : Stg t T el w0 w3 B i cs xs v) (hr : t.row w4 w0.heap.size (fun b => Nw w0 w3 b ∧ v.ownBlock ≠ some b) el v1 (xs ++ [x])) (f4 : Fr (fun k => some k = v.ownBlock) w3 w4)
    (hv : v1.ownBlock = v.ownBlock ∨ v1.ownBlock = some w3.heap.size) : Stg t T el w0 (w4.setCell ⟨B, i, none⟩ v1) B i cs (xs ++ [x]) v1 := by
  have hlt := h.lt
  have s3 := h.fr.size
  have s4 := f4.size
  have hvB : ¬ some B = v.ownBlock := fun e => by have := (h.own e.symm).1; omega
  have f5 := (Fr.refl (One B) w4).setCell ⟨B, i, none⟩ v1 (fun _ => rfl)
  have hv1 : ∀ k, v1.ownBlock = some k → w0.heap.size ≤ k := fun k hk => (hr.own hk).1
  refine ⟨?_, ?_, ?_, hlt⟩
  · exact (h.fr.trans f4 (fun k hk e => by have := (h.own e.symm).1; omega)).trans f5 (fun _ _ e => e)
  · have := (h.hB.fr f4 hvB).set_ i v1
    simpa using this
  · refine (hr.fr f5 (fun k hk => ⟨Nat.lt_of_lt_of_le hk.1.2 s4, fun e => by have e : k = B := e; have := hk.1.1; omega⟩) (fun k hk e => by have e : k = B := e; have := hv1 k hk; omega)).more (Nat.le_refl _) ?_
    intro b hb
    refine ⟨⟨hb.1.1, by have := hb.1.2; have := f5.size; omega⟩, fun e => ?_⟩
    rcases hv with e1 | e1
    · exact hb.2 (e1.symm.trans e)
    · rw [e] at e1; have := Option.some.inj e1; have := hb.1.2; omega
theorem Stg.els [TyOk t] [TyMore t] (h : Stg t T el w0 wr B i cs xs v) : ∃ A c, v = .slice A xs.length c ∧ xs.length ≤ c ∧ c ≤ maxLen ∧ t.els wr (fun b => Nw w0 wr b ∧ b ≠ B) A xs := by
  have hlt := h.lt
  obtain ⟨A, c, e, h1, h2, h3⟩ := h.row.els (S' := fun b => Nw w0 wr b ∧ b ≠ B) (fun k hk => ⟨hk.1, by have := hk.1.1; omega⟩) (fun k hk => by
    have := h.own hk
    exact ⟨this, by omega⟩)
  exact ⟨A, c, e, h1, h2, h3⟩
end
/-- Between two stages: the two structs, what was there before is unchanged. -/
structure ShB (T : TypeId) (w wi : World) (D B : Nat) (zs cs : Array Value) : Prop where
  fr : Fr No w wi
  hD : Blk wi D T zs
  hB : Blk wi B T cs
  lD : w.heap.size ≤ D
  lB : w.heap.size ≤ B
  ne : D ≠ B
theorem ShB.frNo {T : TypeId} {w wi w' : World} {D B : Nat} {zs cs : Array Value} (h : ShB T w wi D B zs cs) (f : Fr No wi w') : ShB T w w' D B zs cs :=
  ⟨h.fr.trans f (fun _ _ h => h), h.hD.fr f (fun x => x), h.hB.fr f (fun x => x), h.lD, h.lB, h.ne⟩
theorem ShB.step {α : Type} {t : Ty α} {el T : TypeId} {w wi wr : World} {D B i : Nat} {zs cs : Array Value} {xs : List α} {v : Value} (h : ShB T w wi D B zs cs) (k : Stg t T el wi wr B i cs xs v) : ShB T w wr D B zs (cs.setIfInBounds i v) :=
  ⟨h.fr.trans k.fr (fun i hi e => by have e : i = B := e; have := h.lB; omega), h.hD.fr k.fr h.ne, k.hB, h.lD, h.lB, h.ne⟩
/-- Elements of a finished stage. -/
def ShE {α : Type} (t : Ty α) (w wi : World) (D B : Nat) (A : Option Addr) (xs : List α) : Prop := t.els wi (fun b => Nw w wi b ∧ b ≠ B ∧ b ≠ D) A xs
theorem ShE.of {α : Type} {t : Ty α} [TyMore t] {T : TypeId} {w wi wr : World} {D B : Nat} {zs cs : Array Value} {A : Option Addr} {xs : List α} (h : ShB T w wi D B zs cs) (k : t.els wr (fun b => Nw wi wr b ∧ b ≠ B) A xs) : ShE t w wr D B A xs :=
  k.more (fun b hb => ⟨⟨Nat.le_trans h.fr.size hb.1.1, hb.1.2⟩, hb.2, fun e => by have := h.hD.lt; have := hb.1.1; omega⟩)
theorem ShE.up {α : Type} {t : Ty α} [TyOk t] [TyMore t] {w wi wr : World} {D B : Nat} {A : Option Addr} {xs : List α} (k : ShE t w wi D B A xs) (f : Fr (fun k => k = B ∨ k = D) wi wr) : ShE t w wr D B A xs :=
  Ty.els.more (Ty.els.fr k f (fun b hb => ⟨hb.1.2, fun e => e.elim hb.2.1 hb.2.2⟩)) (fun b hb => ⟨hb.1.up (Nat.le_refl _) f.size, hb.2⟩)
theorem ShE.one {α : Type} {t : Ty α} [TyOk t] [TyMore t] {w wi wr : World} {D B : Nat} {A : Option Addr} {xs : List α} (k : ShE t w wi D B A xs) (f : Fr (One B) wi wr) : ShE t w wr D B A xs :=
  k.up (f.mono (fun _ _ h => .inl h))
def shotS (x : Rx) : Sh := ⟨x.mems.map (·.b), x.tabs.map (·.l), x.globs.map (·.v), x.elems.map (·.gone), x.datas.map (·.gone), x.calls⟩
end Go.Proofs.Ythggdemiddjlgaa

namespace Go.Proofs.Ythggdemiddjlgaa
open Go.RowKit

theorem own_us {w : World} {q c : Nat} {xs : List Int} {S : Nat → Prop} (h : Own w q 38 c (Us xs)) (hw : ∀ u ∈ xs, (Lit.int .u64 u).wf = true) (hS : q < w.heap.size → S q) :
    xs.length ≤ c ∧ c ≤ maxLen ∧ tU.els w S (some ⟨q, 0, none⟩) xs := by
  have hlt := h.lt
  obtain ⟨cur, h1, h2, h3, _⟩ := h.cur
  rw [len_Us] at h2
  refine ⟨h2, h3, .inr ⟨q, 0, rfl, hS hlt, fun i u hi => ⟨[.int .u64 u], fun j v hj => ?_, int_mk (hw u (List.mem_of_getElem? hi))⟩⟩⟩
  obtain ⟨hil, hiu⟩ := List.getElem?_eq_some_iff.1 hi
  obtain ⟨b, o, e, hc⟩ := Us_rd (h.rd h.lt) i hil
  injection e with e
  injection e with e1 e2 _
  subst e1 e2
  have hj0 : j = 0 := by have := (List.getElem?_eq_some_iff.1 hj).1; simpa using this
  subst hj0
  have hv : v = .int .u64 u := by simpa using hj.symm
  rw [hv, ← hiu, show tU.size = 1 from rfl, Nat.mul_one, Nat.add_zero]
  exact hc
structure ShOk (x : Rx) : Prop where
  tw : ∀ t ∈ x.tabs, ∀ u ∈ t.l, (Lit.int .u64 u).wf = true
  ms : ∀ m ∈ x.mems, m.b.length ≤ 100000
  lme : x.mems.length ≤ 1000000
  lta : x.tabs.length ≤ 1000000
  lgl : x.globs.length ≤ 1000000
  lel : x.elems.length ≤ 1000000
  lda : x.datas.length ≤ 1000000
  lca : x.calls.length ≤ 1000000
  ca : ∀ c ∈ x.calls, c.args.length * 16 ≤ 140737488351232
section
variable {w : World} {R : Nat → Prop} {V : Pl} {x : Rx}
end
end Go.Proofs.Ythggdemiddjlgaa

namespace Go.Proofs.Ythggdemiddjlgaa
open Go.RowKit

def aV : Vl := ⟨1, 5⟩
def aH : Ho := ⟨⟨#[109]⟩, ⟨#[102]⟩, ⟨[1], []⟩, [⟨1, [], 0, 0, 0⟩, ⟨0, [], 0, 0, 0⟩]⟩
def aX1 : Rx := ⟨[aH], [1], [⟨0, [aV]⟩], [], [], [], [], [], [], []⟩
def aX2 : Rx := ⟨[aH], [2], [⟨0, [aV]⟩, ⟨0, [aV]⟩], [], [], [], [], [], [], []⟩
def aX3 : Rx := ⟨[aH], [2], [⟨0, [aV]⟩, ⟨0, [aV]⟩], [], [], [⟨⟨1, 0, false⟩, List.replicate 256 0⟩], [], [], [], []⟩
theorem a_may : mayB [aH] = true := by decide +kernel
theorem a_hoB : hoB aH = true := by decide +kernel
theorem a_fit : fitB [aV] [1] = true := by decide +kernel
theorem a_c1 : callS (sto0 [aH]) (0 : Nat) [aV] = (aX1, [], 11) := by kernel_rfl
theorem a_c2 : callS aX1 (0 : Nat) [aV] = (aX2, [], 0) := by kernel_rfl
theorem a_m1 : addMS aX2 ⟨1, 0, false⟩ = (aX3, 0) := by kernel_rfl
theorem a_m2 : addMS aX3 ⟨-1, 0, false⟩ = (aX3, -1) := by kernel_rfl
theorem a_g : addGS aX3 ⟨1, false⟩ ⟨2, 0⟩ = (aX3, -1) := by kernel_rfl
theorem a_s : shotS aX3 = ⟨[List.replicate 256 0], [], [], [], [], [⟨0, [aV]⟩, ⟨0, [aV]⟩]⟩ := rfl
theorem a_bd : HoBd aH := ⟨by decide, by decide, by decide, by decide⟩
theorem a_ok0 : StOk (sto0 [aH]) := ⟨by intro h hh; rw [List.mem_singleton.1 hh]; exact a_hoB, by intro h hh; rw [List.mem_singleton.1 hh]; exact a_bd, by decide, by decide, by intro c hc; rw [List.mem_singleton.1 hc]; decide, (fun m hm => nomatch hm), by decide, by decide⟩
theorem a_ok1 : StOk aX1 := ⟨by intro h hh; rw [List.mem_singleton.1 hh]; exact a_hoB, by intro h hh; rw [List.mem_singleton.1 hh]; exact a_bd, by decide, by decide, by intro c hc; rw [List.mem_singleton.1 hc]; decide, (fun m hm => nomatch hm), by decide, by decide⟩
theorem a_sh : ShOk aX3 := ⟨(fun t ht => nomatch ht), by intro m hm; rw [List.mem_singleton.1 hm]; show (List.replicate 256 (0 : Int)).length ≤ 100000; rw [List.length_replicate]; omega, by decide, by decide, by decide, by decide, by decide, by decide, by intro c hc; simp only [aX3, List.mem_cons, List.not_mem_nil, or_false, or_self] at hc; rw [hc]; decide⟩

theorem lit_els {α : Type} {t : Ty α} [TyOk t] [TyMore t] {w : World} {q : Nat} {e : TypeId} {css : List (List Value)} {xs : List α} (hb : Blk w q e css.flatten.toArray) (h : Css t w (· < w.heap.size) css xs) (hm : xs.length ≤ maxLen) : t.els w (· < w.heap.size) (some ⟨q, 0, none⟩) xs :=
  Ty.row.els' (Ty.row.lit (base := 0) hb (Nat.zero_le _) h hm) (fun _ h => h) (fun g hg => by
    have : q = g := by simpa [Value.ownBlock] using hg
    subst this
    exact hb.lt)
theorem Grown.no {w0 w w' : World} {R R' : Nat → Prop} {V V' : Pl} (h : Grown w w' R R' V V') (f : Fr No w0 w) (ho : ∀ k, V.own k → w0.heap.size ≤ k) : Fr No w0 w' :=
  f.trans h.fr (fun i hi o => by have := ho i o; omega)
theorem w3_size (w : World) (o1 o2 o3 : Obj) : (((w.alloc o1).alloc o2).alloc o3).heap.size = w.heap.size + 1 + 1 + 1 := by simp

end Go.Proofs.Ythggdemiddjlgaa
