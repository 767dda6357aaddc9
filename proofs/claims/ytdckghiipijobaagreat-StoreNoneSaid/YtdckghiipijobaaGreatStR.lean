/- What a call needs: the log, the counters, answers of valid acts. -/
import Derived.Test.YtdckghiipijobaaGreatStQ
namespace Go.Proofs.YtdckghiipijobaaGreat
open Go.RowKit

theorem AddIn.finish {α : Type} {t : Ty α} [TyOk t] [TyMore t] {el : TypeId} {w w1 w2 : World} {P off : Nat} {S : Nat → Prop} {v v1 : Value} {xs : List α} {cs : List Value} {x : α} (h : AddIn t el w P off S v xs cs x) (f1 : Fr No w w1) (hr1 : t.row w2 0 S el v1 (xs ++ [x])) (fr1 : Fr (fun k => some k = v.ownBlock) w1 w2)
    (hv1 : v1.ownBlock = v.ownBlock ∨ v1.ownBlock = some w1.heap.size) : AddedTo t el P off S v xs x w (.returned (.int .i64 xs.length)) (w2.setCell ⟨P, off, none⟩ v1) := by
  have hP : P < w.heap.size := World.block_lt_of_cell? w _ h.cell
  have s1 := f1.size
  have s2 := fr1.size
  have hvl : ∀ k, v1.ownBlock = some k → v.ownBlock = some k ∨ w.heap.size ≤ k ∧ k < w2.heap.size := fun k hk => by
    rcases hv1 with e | e
    · exact .inl (e.symm.trans hk)
    · obtain ⟨_, cs1, hb1⟩ := hr1.own hk
      rw [hk] at e
      have := Option.some.inj e
      exact .inr ⟨by omega, hb1.lt⟩
  refine ⟨v1, rfl, ?_, ?_, ?_, ?_⟩
  · exact hr1.fr ((Fr.refl (One P) w2).setCell ⟨P, off, none⟩ _ (fun _ => rfl)) (fun k hk => ⟨by have := h.lt k hk; omega, fun e => (h.own k hk).2 e⟩) (fun k hk e => by
      have e : k = P := e
      rcases hvl k hk with h1 | h1
      · exact h.ne (h1.trans (congrArg some e))
      · omega)
  · exact ((f1.mono (M := fun k => k = P ∨ v.ownBlock = some k) (fun _ _ h => h.elim)).trans fr1 (fun _ _ h => .inr h.symm)).setCell _ _ (fun _ => .inl rfl)
  · intro T cs hb
    exact blk_gone (hb.fr f1 (fun x => x)) fr1 h.ne _
  · intro k hk
    rcases hvl k hk with h1 | h1
    · exact .inl h1
    · exact .inr ⟨h1.1, by simpa [World.setCell] using h1.2⟩

structure StOk (x : Rx) : Prop where
  ho : ∀ h ∈ x.hosts, hoB h = true
  hb : ∀ h ∈ x.hosts, HoBd h
  hl : x.hosts.length ≤ 32
  cl : x.counts.length = x.hosts.length
  cn : ∀ c ∈ x.counts, 0 ≤ c ∧ c ≤ 1000000
  ms : MemsOk x
  lc : x.calls.length ≤ 1000000
  lm : x.mems.length ≤ 1000000
def ansL (a : Ac) (rs : List Int) : List Vl × Int := if ansB a rs then (a.vals, 0) else ([], 11)
def AnsRes (l : List Vl × Int) (w : World) (e : Ending) (w' : World) : Prop :=
  ∃ (A : Option Addr) (c : Nat), e = .returned (.tuple #[.slice A l.1.length c, .int .i64 l.2]) ∧ l.1.length ≤ c ∧ tVl.els w' (Nw w w') A l.1 ∧ Fr No w w'
theorem hans_any (a : Ac) (np : Nat) (rs : List Int) (A A1 A2 : Option Addr) (c c1 c2 : Nat) (S : Nat → Prop) (w : World) (hS : ∀ k, S k → k < w.heap.size) (ha : tVl.els w S A a.vals) (h2 : (Ty.int .i64).els w S A2 rs) (hc : a.vals.length ≤ c) (l1 : a.vals.length ≤ 500) (l2 : rs.length ≤ 140737488351232) :
    Calls Tryz.prog 93 #[.agg #[.int .i64 a.kind, .slice A a.vals.length c, .int .i64 a.mem, .int .i64 a.at_, .int .u8 a.byte], .agg #[.slice A1 np c1, .slice A2 rs.length c2]] w (AnsRes (ansL a rs) w) := by
  unfold ansL
  by_cases hk : a.kind = 0 ∨ a.kind = 2
  · have hkb : (decide (a.kind = 0) || decide (a.kind = 2)) = true := by simpa using hk
    cases hf : fitB a.vals rs with
    | true =>
      rw [if_pos (by simp only [ansB, hkb, hf, Bool.and_self])]
      refine (hans_yes a.kind a.mem a.at_ a.byte a.vals np rs A A1 A2 c c1 c2 S w hS ha h2 hc l1 l2 hk hf).mono ?_
      rintro e w' ⟨A', c', rfl, h1, h3, h4⟩
      exact ⟨A', c', rfl, h1, h3, h4⟩
    | false =>
      rw [if_neg (by simp only [ansB, hkb, hf]; decide)]
      refine (hans_no a.kind a.mem a.at_ a.byte a.vals np rs A A1 A2 c c1 c2 S w hS ha h2 hc l1 l2 hk hf).mono ?_
      rintro e w' ⟨rfl, h4⟩
      exact ⟨none, 0, rfl, Nat.le_refl _, .inl rfl, h4⟩
  · have hkb : (decide (a.kind = 0) || decide (a.kind = 2)) = false := by simpa using hk
    rw [if_neg (by simp only [ansB, hkb]; simp)]
    refine (hans_not a.kind a.mem a.at_ a.byte a.vals np rs A A1 A2 c c1 c2 S w hS ha h2 hc l1 l2 (fun e => hk (.inl e)) (fun e => hk (.inr e))).mono ?_
    rintro e w' ⟨rfl, h4⟩
    exact ⟨none, 0, rfl, Nat.le_refl _, .inl rfl, h4⟩
theorem fit_len {vs : List Vl} {ts : List Int} (h : fitB vs ts = true) : vs.length = ts.length := by
  simp only [fitB, Bool.and_eq_true, decide_eq_true_eq] at h
  exact h.1
structure HoGood (h : Ho) : Prop where
  p : h.ty.params.length ≤ 8
  r : h.ty.results.length ≤ 8
  a : 0 < h.acts.length
  v : ∀ a ∈ h.acts, a.vals.length ≤ 8
  b : ∀ a ∈ h.acts, actB a h.ty.results = true
theorem hoB_good {h : Ho} (hb : hoB h = true) : HoGood h := by
  simp only [hoB, fnB, valsB, Bool.and_eq_true, decide_eq_true_eq] at hb
  obtain ⟨⟨⟨h1, _⟩, h2, _⟩, _, _, h3, h4⟩ := hb
  have hall : ∀ a ∈ h.acts, actB a h.ty.results = true := fun a ha => by
    obtain ⟨i, hi, rfl⟩ := List.getElem_of_mem ha
    have : actAt h i = true := allUp_iff.1 h4 i hi
    simpa [actAt, hi] using this
  refine ⟨h1, h2, by omega, fun a ha => ?_, hall⟩
  have hb := hall a ha
  unfold actB at hb
  split at hb
  · simp only [Bool.and_eq_true] at hb; have := fit_len hb.1; omega
  · split at hb
    · simp only [Bool.and_eq_true, decide_eq_true_eq] at hb; omega
    · split at hb
      · simp only [Bool.and_eq_true] at hb; have := fit_len hb.1; omega
      · cases hb
def zAc : Ac := ⟨0, [], 0, 0, 0⟩
def actOf (H : Ho) (n : Int) : Ac := (H.acts[n.toNat % H.acts.length]?).getD zAc
/-- The store with a call noted. -/
def notedS (x : Rx) (k : Nat) (n : Int) (args : List Vl) : Rx := { x with calls := x.calls ++ [⟨k, args⟩], counts := x.counts.set k (n + 1) }
def finS (x : Rx) (a : Ac) (rs : List Int) : Rx × List Vl × Int :=
  if a.kind = 2 then (if (pokeS x a).2 then ((pokeS x a).1, ansL a rs) else ((pokeS x a).1, [], 11)) else (x, ansL a rs)
/-- What a call of the host function h does. -/
def callS (x : Rx) (h : Int) (args : List Vl) : Rx × List Vl × Int :=
  match getI x.hosts h with
  | none => (x, [], 12)
  | some H => if fitB args H.ty.params then finS (notedS x h.toNat ((x.counts[h.toNat]?).getD 0) args) (actOf H ((x.counts[h.toNat]?).getD 0)) H.ty.results else (x, [], 12)
theorem row_some {α : Type} {t : Ty α} {w : World} {base : Nat} {S : Nat → Prop} {e : TypeId} {v : Value} {xs : List α} (h : t.row w base S e v xs) (hx : 0 < xs.length) : ∃ g c, v = .slice (some ⟨g, 0, none⟩) xs.length c ∧ base ≤ g := by
  obtain ⟨css, h1, h2⟩ := h
  rcases h2.2 with ⟨rfl, h0⟩ | ⟨g, cap, cur, rfl, hb, _⟩
  · omega
  · exact ⟨g, cap, rfl, hb⟩
/-- One counter of the store changes. -/
theorem StIn.setCount {w : World} {R : Nat → Prop} {V : Pl} {x : Rx} (h : StIn w R V x) {k : Nat} {n : Int} {g c : Nat} (hk : k < x.counts.length) (hv : V.co = .slice (some ⟨g, 0, none⟩) x.counts.length c) (wn : (Lit.int .i64 n).wf = true) :
    StIn (w.setCell ⟨g, k, none⟩ (.int .i64 n)) R V { x with counts := x.counts.set k n } ∧ Grown w (w.setCell ⟨g, k, none⟩ (.int .i64 n)) R R V V := by
  have ho : V.co.ownBlock = some g := by rw [hv]; rfl
  have f := (Fr.refl (fun k => k = V.P ∨ V.co.ownBlock = some k) w).setCell ⟨g, k, none⟩ (.int .i64 n) (fun _ => .inr ho)
  have hne : V.P ≠ g := fun e => Bt.ne ⟨_, h.blk⟩ (row_bk h.co ho) (by decide) e
  have hrow : tI.row (w.setCell ⟨g, k, none⟩ (.int .i64 n)) 0 (Sd w R) 3 (.slice (some ⟨g, 0, none⟩) x.counts.length c) (x.counts.set k n) := by
    have hr := h.co
    rw [hv] at hr
    refine hr.set (ds := [.int .i64 n]) k hk (int_mk wn) (fun p hp => World.cell?_of_block (w := w) (Below.heap_setCell w _ _ _ (fun e => hp.2 (h.own _ (Pl.o_co (by rw [ho, e]))))))  (fun cur hb => ?_)
    have e : tI.size = 1 := rfl
    rw [e, Nat.mul_one]
    exact hb.set_ k _
  refine ⟨?_, rfl, f.mono (fun k _ e => e.elim (fun e => e ▸ V.oP) Pl.o_co), fun _ _ r => r, fun _ r => r, fun _ o => .inl o⟩
  have := h.put_co (v' := V.co) (xs := x.counts.set k n) f (h.blk.far hne _) ?_ (fun k hk => h.own k (Pl.o_co hk)) (fun _ _ r => r) (fun _ r => r) (fun k r => Nat.lt_of_lt_of_le (h.low k r) f.size)
  · exact this
  · rw [hv]
    exact hrow.more (Nat.le_refl _) (fun k hk => hk.up f.size (fun _ _ r => r))
def CallTo (R : Nat → Prop) (V : Pl) (r : Rx × List Vl × Int) (w : World) (e : Ending) (w' : World) : Prop :=
  ∃ (V' : Pl) (R' : Nat → Prop) (A : Option Addr) (c : Nat), e = .returned (.tuple #[.slice A r.2.1.length c, .int .i64 r.2.2]) ∧ StIn w' R' V' r.1 ∧ Grown w w' R R' V V' ∧ r.2.1.length ≤ c ∧ tVl.els w' (Sd w' R') A r.2.1
end Go.Proofs.YtdckghiipijobaaGreat
