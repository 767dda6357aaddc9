/- What Of computes, and the state of its walk. -/
import Derived.Test.YtfngopoaegofhaaSpE
namespace Go.Proofs.Ytfngopoaegofhaa
open Go.RowKit

theorem foldl_take {α β : Type} {f : β → α → β} {a : β} {l : List α} {k : Nat} (hk : k < l.length) : (l.take (k + 1)).foldl f a = f ((l.take k).foldl f a) l[k] := by
  rw [List.take_succ_eq_append_getElem hk, List.foldl_append]; rfl
def SpV.zero (datas : Int) : SpV := ⟨[], [], [], [], [], [], datas, fun _ => 0, fun _ => false⟩
def SpV.glob (x : SpV) (g : Gd) : SpV := { x with globals := x.globals ++ [g.type], dec := decUp x.dec g.init }
def SpV.elem (x : SpV) (e : El) : SpV := { x with elems := x.elems ++ [e.type], dec := e.items.foldl decUp x.dec }
def SpV.exp (x : SpV) (e : Ex) : SpV := if e.kind = 0 then { x with dec := fun j => if j = e.index then true else x.dec j } else x
def SpV.s1 (m : Md) : SpV := { SpV.zero m.datas with types := m.types }
def SpV.s2 (m : Md) : SpV := m.imports.foldl SpV.bring (SpV.s1 m)
def SpV.s3 (m : Md) : SpV := { SpV.s2 m with funcs := (SpV.s2 m).funcs ++ m.funcs.map (·.type) }
def SpV.s4 (m : Md) : SpV := { SpV.s3 m with tables := (SpV.s3 m).tables ++ m.tables }
def SpV.s5 (m : Md) : SpV := { SpV.s4 m with mems := (SpV.s4 m).mems ++ m.mems }
def SpV.s6 (m : Md) : SpV := m.globals.foldl SpV.glob (SpV.s5 m)
def SpV.s7 (m : Md) : SpV := m.elems.foldl SpV.elem (SpV.s6 m)
/-- The index spaces of a module. -/
def SpV.of (m : Md) : SpV := m.exports.foldl SpV.exp (SpV.s7 m)

def OfSt (W : World) (base gx gs bi bd nI nD : Nat) (x : SpV) (Y : World) : Prop :=
  Fr (fun k => base ≤ k) W Y ∧ ∃ (ST : Nat → Prop) (v0 v1 v2 v3 v4 v5 : Value), SpSt base Y gx gs bi bd ST nI nD v0 v1 v2 v3 v4 v5 x
section
variable {base : Nat} {X X' : World} {gx gs bi bd : Nat} {ST : Nat → Prop} {nI nD : Nat} {v0 v1 v2 v3 v4 v5 : Value} {x : SpV}
theorem SpSt.monoI (h : SpSt base X gx gs bi bd ST nI nD v0 v1 v2 v3 v4 v5 x) {n' : Nat} (hn : nI ≤ n') : SpSt base X gx gs bi bd ST n' nD v0 v1 v2 v3 v4 v5 x :=
  ⟨h.hx, h.hs, h.row, h.mi.mono hn, h.md, h.ne, h.lx, h.ls, h.li, h.ld, h.st⟩
/-- A fresh function type joins what the types rest on. -/
theorem SpSt.stMore (h : SpSt base X gx gs bi bd ST nI nD v0 v1 v2 v3 v4 v5 x) {ST' : Nat → Prop} (hs : ∀ k, ST k → ST' k) (hn : ∀ k, ST' k → ¬ ST k → base ≤ k ∧ (∃ cs, Blk X k 50 cs) ∧ v5.ownBlock ≠ some k) : SpSt base X gx gs bi bd ST' nI nD v0 v1 v2 v3 v4 v5 x := by
  refine ⟨h.hx, h.hs, fun j v hv => ?_, h.mi, h.md, h.ne, h.lx, h.ls, h.li, h.ld, fun k hk => ?_⟩
  · have := h.row j v hv
    unfold rowAt at this ⊢
    split at this
    · exact this.more (Nat.le_refl _) hs
    all_goals exact this
  · by_cases hk' : ST k
    · exact h.st k hk'
    · exact hn k hk hk'
theorem SpSt.size (h : SpSt base X gx gs bi bd ST nI nD v0 v1 v2 v3 v4 v5 x) : base ≤ X.heap.size := Nat.le_trans h.lx (Nat.le_of_lt h.hx.lt)
theorem SpSt.rests (h : SpSt base X gx gs bi bd ST nI nD v0 v1 v2 v3 v4 v5 x) (f : Fr (Rests gx gs bi bd ST [v0, v1, v2, v3, v4, v5]) X X') : Fr (fun k => base ≤ k) X X' := f.mono fun i _ hi => (h.lt hi).1
/-- The frame of an append to row j: what a block of another type, or one that the spaces do not rest on, holds is kept. -/
theorem SpSt.ownTag (h : SpSt base X gx gs bi bd ST nI nD v0 v1 v2 v3 v4 v5 x) {j : Nat} {v : Value} (hv : [v0, v1, v2, v3, v4, v5][j]? = some v) {k : Nat} (hk : some k = v.ownBlock) : base ≤ k ∧ k < X.heap.size ∧ ∃ cs, Blk X k (tagAt j) cs := by
  obtain ⟨h1, cs, h2⟩ := (h.row j v hv).own hk.symm
  exact ⟨h1, h2.lt, cs, h2⟩
end
theorem bring_any (base : Nat) (X : World) (gx gs bi bd : Nat) (ST : Nat → Prop) (nI nD : Nat) (v0 v1 v2 v3 v4 v5 : Value) (x : SpV) (im : Im) (h : SpSt base X gx gs bi bd ST nI nD v0 v1 v2 v3 v4 v5 x) (ok : ImOk im)
    (hi0 : -1000000 ≤ x.imp im.kind) (hi1 : x.imp im.kind ≤ 1000000) (hnI : nI ≤ 1000000) (l1 : x.funcs.length ≤ 1000000) (l2 : x.tables.length ≤ 1000000) (l3 : x.mems.length ≤ 1000000) (l4 : x.globals.length ≤ 1000000) :
    Calls Try.prog 46 #[imv im, .pointer (some ⟨gx, 0, none⟩)] X fun e w' => e = .returned (.tuple #[]) ∧ SpTo base X gx gs bi bd ST (nI + 1) nD [v0, v1, v2, v3, v4, v5] (x.bring im) w' := by
  by_cases h0 : im.kind = 0
  · exact bring_1 base X gx gs bi bd ST nI nD v0 v1 v2 v3 v4 v5 x im h ok hi0 hi1 hnI h0 l1
  by_cases h1 : im.kind = 1
  · exact bring_2 base X gx gs bi bd ST nI nD v0 v1 v2 v3 v4 v5 x im h ok hi0 hi1 hnI h1 l2
  by_cases h2 : im.kind = 2
  · exact bring_3 base X gx gs bi bd ST nI nD v0 v1 v2 v3 v4 v5 x im h ok hi0 hi1 hnI h2 l3
  by_cases h3 : im.kind = 3
  · exact bring_4 base X gx gs bi bd ST nI nD v0 v1 v2 v3 v4 v5 x im h ok hi0 hi1 hnI h3 l4
  exact bring_0 base X gx gs bi bd ST nI nD v0 v1 v2 v3 v4 v5 x im h ok hi0 hi1 hnI h0 h1 h2 h3
structure SpLe (x : SpV) (n : Nat) : Prop where
  f : x.funcs.length ≤ n
  t : x.tables.length ≤ n
  m : x.mems.length ≤ n
  g : x.globals.length ≤ n
  i0 : ∀ j, 0 ≤ x.imp j
  i1 : ∀ j, x.imp j ≤ n
theorem SpLe.bring {x : SpV} {n : Nat} (h : SpLe x n) (im : Im) : SpLe (x.bring im) (n + 1) := by
  obtain ⟨h1, h2, h3, h4, h5, h6⟩ := h
  refine ⟨?_, ?_, ?_, ?_, fun j => ?_, fun j => ?_⟩
  · simp only [SpV.bring]; split <;> (try simp) <;> omega
  · simp only [SpV.bring]; split <;> (try simp) <;> omega
  · simp only [SpV.bring]; split <;> (try simp) <;> omega
  · simp only [SpV.bring]; split <;> (try simp) <;> omega
  · have := h5 j; have := h5 im.kind; simp only [SpV.bring]; split <;> omega
  · have := h6 j; have := h6 im.kind; simp only [SpV.bring]; split <;> omega
theorem SpLe.fold {x : SpV} {n : Nat} (h : SpLe x n) : ∀ (l : List Im), SpLe (l.foldl SpV.bring x) (n + l.length) := by
  intro l
  induction l generalizing x n with
  | nil => exact h
  | cons a l ih =>
    have := ih (h.bring a)
    rw [List.foldl_cons, List.length_cons, show n + (l.length + 1) = n + 1 + l.length by omega]
    exact this
theorem spLe_s1 (m : Md) : SpLe (SpV.s1 m) 0 := ⟨by simp [SpV.s1, SpV.zero], by simp [SpV.s1, SpV.zero], by simp [SpV.s1, SpV.zero], by simp [SpV.s1, SpV.zero], fun j => by simp [SpV.s1, SpV.zero], fun j => by simp [SpV.s1, SpV.zero]⟩
theorem glob_len (x : SpV) (l : List Gd) : (l.foldl SpV.glob x).globals.length = x.globals.length + l.length := by
  induction l generalizing x with
  | nil => rfl
  | cons a l ih => rw [List.foldl_cons, ih]; simp [SpV.glob]; omega
theorem elem_len (x : SpV) (l : List El) : (l.foldl SpV.elem x).elems.length = x.elems.length + l.length := by
  induction l generalizing x with
  | nil => rfl
  | cons a l ih => rw [List.foldl_cons, ih]; simp [SpV.elem]; omega
theorem lists_at {α : Type} {t : Ty α} {w : World} {S : Nat → Prop} {A : Option Addr} {ls : List (List α)} (h : t.slice.els w S A ls) (k : Nat) (hk : k < ls.length) : ∃ (b o : Nat) (A' : Option Addr) (c' : Nat), A = some ⟨b, o, none⟩ ∧ S b ∧ w.cell? ⟨b, o + k, none⟩ = some (.slice A' ls[k].length c') ∧ t.els w S A' ls[k] := by
  obtain ⟨b, o, ds, rfl, hb, hc, A', c', rfl, _, _, he⟩ := h.at_ k hk
  have := hc 0 _ rfl
  have e : (Ty.slice t).size = 1 := rfl
  rw [e, Nat.mul_one, Nat.add_zero] at this
  exact ⟨b, o, A', c', rfl, hb, this, he⟩
theorem bring_elems (x : SpV) (l : List Im) : (l.foldl SpV.bring x).elems = x.elems := by
  induction l generalizing x with
  | nil => rfl
  | cons a l ih => rw [List.foldl_cons, ih]; rfl
theorem glob_elems (x : SpV) (l : List Gd) : (l.foldl SpV.glob x).elems = x.elems := by
  induction l generalizing x with
  | nil => rfl
  | cons a l ih => rw [List.foldl_cons, ih]; rfl
theorem s6_elems (m : Md) : (SpV.s6 m).elems.length = 0 := by
  rw [SpV.s6, glob_elems]
  show (SpV.s2 m).elems.length = 0
  rw [SpV.s2, bring_elems]; rfl
theorem SpSt.base {base base' : Nat} {X : World} {gx gs bi bd : Nat} {ST : Nat → Prop} {nI nD : Nat} {v0 v1 v2 v3 v4 v5 : Value} {x : SpV} (h : SpSt base X gx gs bi bd ST nI nD v0 v1 v2 v3 v4 v5 x) (hb : base' ≤ base) : SpSt base' X gx gs bi bd ST nI nD v0 v1 v2 v3 v4 v5 x := by
  refine ⟨h.hx, h.hs, fun j v hv => ?_, h.mi, h.md, h.ne, Nat.le_trans hb h.lx, Nat.le_trans hb h.ls, Nat.le_trans hb h.li, Nat.le_trans hb h.ld, fun k hk => ⟨Nat.le_trans hb (h.st k hk).1, (h.st k hk).2⟩⟩
  have := h.row j v hv
  unfold rowAt at this ⊢
  split at this <;> exact this.more hb (fun _ h => h)
theorem fnNew_rd {w : World} {base : Nat} {A1 A2 : Option Addr} {c1 c2 : Nat} {f : Fn} (h : FnNew w base A1 c1 A2 c2 f) {S' : Nat → Prop} (h1 : ∀ g, (Value.slice A1 f.params.length c1).ownBlock = some g → S' g) (h2 : ∀ g, (Value.slice A2 f.results.length c2).ownBlock = some g → S' g) :
    tFn.rd w S' [.slice A1 f.params.length c1, .slice A2 f.results.length c2] f := by
  obtain ⟨A, c, e1, l1, m1, k1⟩ := h.p.els (S' := S') (fun _ h => h.elim) h1
  obtain ⟨A', c', e2, l2, m2, k2⟩ := h.r.els (S' := S') (fun _ h => h.elim) h2
  injection e1 with a1 _ a2
  injection e2 with b1 _ b2
  subst a1 a2 b1 b2
  exact Fn_mk l1 m1 k1 l2 m2 k2
end Go.Proofs.Ytfngopoaegofhaa
