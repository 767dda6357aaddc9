/- Merged: LkA LkB LkC LkD LkE LkF LkG. -/
import Derived.Test.YthggdemiddjlgaaStA
import Derived.RangeFuncNested
import Derived.RangeFuncBound
import Derived.RangeFuncCalls
import Derived.RangeFuncLeaves
import Derived.Shelf.Abstract
import Derived.WalkKit
import Derived.OwnWalkIn
import Derived.TacticsInMore
import Derived.LoopNIn
import Derived.LoopIn
import Derived.Test.YthggdemiddjlgaaStB
import Derived.Test.YthggdemiddjlgaaSuA
import Derived.Test.YthggdemiddjlgaaStIO

namespace Go.Proofs.Ythggdemiddjlgaa
open Go.RowKit

structure Et where
  kind : Int
  addr : Int
def tEt0 : Ty (Int × Int) := (Ty.int .i64).pair ((Ty.int .i64))
def tEt : Ty Et := tEt0.iso fun a => (a.kind, a.addr)
instance : TyOk tEt := by unfold tEt tEt0; infer_instance
instance : TyMore tEt := by unfold tEt tEt0; infer_instance
instance : TyOne tEt := by unfold tEt tEt0; infer_instance
theorem opens_Et : Opens Try.prog 26 tEt := by
  refine opens_iso _ (fun x => ⟨x.1, x.2⟩) (fun _ => rfl) ?_
  exact opens_struct Try.underlying26 (by kernel_rfl) (Flds.cons rfl (by kernel_rfl) (opens_int Try.underlying24) (Flds.one rfl (by kernel_rfl) (opens_int Try.underlying3)))
theorem Et_cells {w : World} {S : Nat → Prop} {cs : List Value} {a : Et} (h : tEt.rd w S cs a) : cs = [.int .i64 a.kind, .int .i64 a.addr] ∧ (Lit.int .i64 a.kind).wf = true ∧ (Lit.int .i64 a.addr).wf = true := by
  obtain ⟨xkind, rkind, rfl, ⟨rfl, wkind⟩, rfl, waddr⟩ := h
  exact ⟨rfl, wkind, waddr⟩
theorem Et_mk {w : World} {S : Nat → Prop} {a : Et}  (f0 : (Lit.int .i64 a.kind).wf = true) (f1 : (Lit.int .i64 a.addr).wf = true) : tEt.rd w S [.int .i64 a.kind, .int .i64 a.addr] a :=
  ⟨[.int .i64 a.kind], [.int .i64 a.addr], rfl, ⟨rfl, f0⟩, ⟨rfl, f1⟩⟩
theorem Et_at {w : World} {S : Nat → Prop} {A : Option Addr} {l : List Et} (h : tEt.els w S A l) (k : Nat) (hk : k < l.length) : ∃ (b o : Nat), A = some ⟨b, o, none⟩ ∧ S b ∧ w.cell? ⟨b, o + k * 2, none⟩ = some (.int .i64 l[k].kind) ∧ w.cell? ⟨b, o + k * 2 + 1, none⟩ = some (.int .i64 l[k].addr) ∧ (Lit.int .i64 l[k].kind).wf = true ∧ (Lit.int .i64 l[k].addr).wf = true := by
  obtain ⟨b, o, ds, rfl, hb, hc, hr⟩ := h.at_ k hk
  obtain ⟨rfl, f0, f1⟩ := Et_cells hr
  have e : tEt.size = 2 := rfl
  rw [e] at hc
  exact ⟨b, o, rfl, hb, hc 0 _ rfl, (by have := hc 1 _ rfl; rwa [← Nat.add_assoc] at this), f0, f1⟩

structure Gv where
  mod : ByteArray
  name : ByteArray
  what : Et
def tGv0 : Ty (ByteArray × ByteArray × Et) := Ty.str.pair (Ty.str.pair (tEt))
def tGv : Ty Gv := tGv0.iso fun a => (a.mod, a.name, a.what)
instance : TyOk tGv := by unfold tGv tGv0; infer_instance
instance : TyMore tGv := by unfold tGv tGv0; infer_instance
instance : TyOne tGv := by unfold tGv tGv0; infer_instance
theorem opens_Gv : Opens Try.prog 30 tGv := by
  refine opens_iso _ (fun x => ⟨x.1, x.2.1, x.2.2⟩) (fun _ => rfl) ?_
  exact opens_struct Try.underlying30 (by kernel_rfl) (Flds.cons rfl (by kernel_rfl) (opens_str Try.underlying9) (Flds.cons rfl (by kernel_rfl) (opens_str Try.underlying9) (Flds.one rfl (by kernel_rfl) opens_Et)))
theorem Gv_cells {w : World} {S : Nat → Prop} {cs : List Value} {a : Gv} (h : tGv.rd w S cs a) : cs = [.string a.mod, .string a.name, .int .i64 a.what.kind, .int .i64 a.what.addr] ∧ a.mod.size ≤ maxLen ∧ a.name.size ≤ maxLen ∧ (Lit.int .i64 a.what.kind).wf = true ∧ (Lit.int .i64 a.what.addr).wf = true := by
  obtain ⟨xmod, rmod, rfl, ⟨rfl, wmod⟩, xname, rname, rfl, ⟨rfl, wname⟩, hwhat⟩ := h
  obtain ⟨rfl, kwhat0, kwhat1⟩ := Et_cells hwhat
  exact ⟨rfl, wmod, wname, kwhat0, kwhat1⟩
theorem Gv_mk {w : World} {S : Nat → Prop} {a : Gv}  (f0 : a.mod.size ≤ maxLen) (f1 : a.name.size ≤ maxLen) (f2 : (Lit.int .i64 a.what.kind).wf = true) (f3 : (Lit.int .i64 a.what.addr).wf = true) : tGv.rd w S [.string a.mod, .string a.name, .int .i64 a.what.kind, .int .i64 a.what.addr] a :=
  ⟨[.string a.mod], [.string a.name, .int .i64 a.what.kind, .int .i64 a.what.addr], rfl, ⟨rfl, f0⟩, ⟨[.string a.name], [.int .i64 a.what.kind, .int .i64 a.what.addr], rfl, ⟨rfl, f1⟩, ⟨[.int .i64 a.what.kind], [.int .i64 a.what.addr], rfl, ⟨rfl, f2⟩, ⟨rfl, f3⟩⟩⟩⟩
theorem Gv_at {w : World} {S : Nat → Prop} {A : Option Addr} {l : List Gv} (h : tGv.els w S A l) (k : Nat) (hk : k < l.length) : ∃ (b o : Nat), A = some ⟨b, o, none⟩ ∧ S b ∧ w.cell? ⟨b, o + k * 4, none⟩ = some (.string l[k].mod) ∧ w.cell? ⟨b, o + k * 4 + 1, none⟩ = some (.string l[k].name) ∧ w.cell? ⟨b, o + k * 4 + 2, none⟩ = some (.int .i64 l[k].what.kind) ∧ w.cell? ⟨b, o + k * 4 + 3, none⟩ = some (.int .i64 l[k].what.addr) ∧ l[k].mod.size ≤ maxLen ∧ l[k].name.size ≤ maxLen ∧ (Lit.int .i64 l[k].what.kind).wf = true ∧ (Lit.int .i64 l[k].what.addr).wf = true := by
  obtain ⟨b, o, ds, rfl, hb, hc, hr⟩ := h.at_ k hk
  obtain ⟨rfl, f0, f1, f2, f3⟩ := Gv_cells hr
  have e : tGv.size = 4 := rfl
  rw [e] at hc
  exact ⟨b, o, rfl, hb, hc 0 _ rfl, (by have := hc 1 _ rfl; rwa [← Nat.add_assoc] at this), (by have := hc 2 _ rfl; rwa [← Nat.add_assoc] at this), (by have := hc 3 _ rfl; rwa [← Nat.add_assoc] at this), f0, f1, f2, f3⟩

/-- Find's test, and what Find answers: the last definition that meets it. -/
def gvAt (m n : ByteArray) (g : Gv) : Bool := g.mod.toList == m.toList && g.name.toList == n.toList
def lastF (m n : ByteArray) (l : List Gv) : Et × Bool := match l.reverse.find? (gvAt m n) with
  | some g => (g.what, true)
  | none => (⟨0, 0⟩, false)
theorem lastF_nil (m n : ByteArray) : lastF m n [] = (⟨0, 0⟩, false) := rfl
theorem lastF_no {m n : ByteArray} {l : List Gv} {k : Nat} (hk : k < l.length) (h : gvAt m n l[k] = false) : lastF m n (l.take (k + 1)) = lastF m n (l.take k) := by
  unfold lastF
  rw [List.take_succ_eq_append_getElem hk, List.reverse_append, List.reverse_singleton, List.singleton_append, List.find?_cons, h]
theorem lastF_yes {m n : ByteArray} {l : List Gv} {k : Nat} (hk : k < l.length) (h : gvAt m n l[k] = true) : lastF m n (l.take (k + 1)) = (l[k].what, true) := by
  unfold lastF
  rw [List.take_succ_eq_append_getElem hk, List.reverse_append, List.reverse_singleton, List.singleton_append, List.find?_cons, h]
theorem lastF_app {m n : ByteArray} {l : List Gv} {g : Gv} (h : gvAt m n g = true) : lastF m n (l ++ [g]) = (g.what, true) := by
  unfold lastF
  rw [List.reverse_append, List.reverse_singleton, List.singleton_append, List.find?_cons, h]
theorem gvAt_self (m n : ByteArray) (x : Et) : gvAt m n ⟨m, n, x⟩ = true := by simp [gvAt]
end Go.Proofs.Ythggdemiddjlgaa

namespace Go.Proofs.Ythggdemiddjlgaa
open Go.RowKit Go.Shelf
attribute [local go_sem] Oper.semAt_some

def gvc (g : Gv) : Value := .agg #[.string g.mod, .string g.name, .int .i64 g.what.kind, .int .i64 g.what.addr]
theorem blk_own {β : Type} (B : Nat) (t : TypeId) (f : β → Array Value) : Go.Own (fun s W => Blk W B t (f s)) := fun s X Y row hs hg hrow =>
  (hg.block B hs.lt (fun e => by obtain ⟨o, ho, hc⟩ := hrow B e.symm; rw [show X.heap[B]? = _ from hs] at ho; cases ho; cases hc)).trans hs
theorem drop_rev {xs : List Gv} {k : Nat} (h : k < xs.length) : (xs.drop (k + 1)).reverse ++ [xs[k]] = (xs.drop k).reverse := by
  rw [List.drop_eq_getElem_cons h, List.reverse_cons]

set_option maxRecDepth 100000 in
set_option maxHeartbeats 2000000 in
theorem behind1_in (F : Fence) (n : Nat) (hF : F.fn 22) (hro : F.round = none) (hn : 1 ≤ n) (l Bn n₀ : Nat) (A : Option Addr) (c : Nat) (xs : List Gv) (J Jx : List Gv → World → Prop)
    (hY : ∀ pre x W, J pre W → pre.length < xs.length → YieldAt F (n - 1) Try.prog l #[gvc x] W fun e W' =>
      (e = .returned (.bool true) ∧ J (pre ++ [x]) W' ∧ Below n₀ W W') ∨ (e = .returned (.bool false) ∧ Jx (pre ++ [x]) W'))
    (W : World) (hlen : xs.length ≤ 1000000) (hb : Bn < n₀) (hBn : W.cell? ⟨Bn, 0, none⟩ = some (.slice A xs.length c)) (hE : tGv.els W (· < n₀) A xs) (h0 : J [] W) :
    CallsIn F n Try.prog 22 #[.func (.yield l) #[] #[], .pointer (some ⟨Bn, 0, none⟩)] W fun e W' => (∃ v, e = .returned v) ∧
      ((∃ ys, ys = xs.reverse ∧ J ys W') ∨ (∃ pre, pre <+: xs.reverse ∧ Jx pre W')) := by
  refine callsIn_of_wp Try.func22 rfl hF ?_ hro
  simp only [Try.ntmps22, List.size_toArray, List.length_cons, List.length_nil, Nat.reduceAdd, Nat.reduceSub, Array.replicate_succ, Array.replicate_zero, List.push_toArray, List.append_toArray, List.nil_append, List.cons_append]
  gi_wp2
  gi_loopw [3] (fun i wr => ∃ (k : Nat), k ≤ xs.length ∧ i = .int .i64 ((k : Int) - 1) ∧ Hid (Below n₀ W wr) ∧ J (xs.drop k).reverse wr)
    (fun i _ => (intOf i + 1).toNat)
  case atStart => exact ⟨xs.length, Nat.le_refl _, rfl, Below.refl _ _, by rw [List.drop_length]; exact h0⟩
  case round =>
    obtain ⟨k, hk, rfl, hB, hJ⟩ := hrel
    have hB' := hB.out
    have HBn := hid ((hB'.cell (p := ⟨Bn, 0, none⟩) hb).trans hBn)
    have HE := hid (hE.keep (w' := wr) (fun p hp => hB'.cell hp))
    clear hBn hE h0 hB'
    cases k with
    | zero =>
      have e0 : ((((0 : Nat) : Int)) - 1) = -1 := rfl
      simp only [e0]
      gi_wp2
      go_end0
      exact ⟨⟨_, rfl⟩, .inl ⟨_, rfl, by simpa using hJ⟩⟩
    | succ k =>
      have e0 : ((((k + 1 : Nat)) : Int) - 1) = (k : Int) := by omega
      simp only [e0]
      have hkl : k < xs.length := by omega
      have hJ' : J (xs.drop k.succ).reverse wr := hJ
      obtain ⟨fn, tmps, assign, body, hy, hR⟩ := hY _ xs[k] wr hJ' (by simp; omega)
      obtain ⟨b, o, rfl, hbl, y0, y1, y2, y3, -⟩ := Gv_at HE.out k hkl
      have hbn := HBn.out
      unfold gvc at hy
      gi_wp2
      refine hR.mono ?_
      rw [show (xs.drop k.succ).reverse ++ [xs[k]] = (xs.drop k).reverse from drop_rev hkl]
      rintro e W3 (⟨rfl, hJ3, hk3⟩ | ⟨rfl, hJx3⟩)
      · gi_wp2
        go_roundw
        case rel => exact ⟨k, by omega, rfl, hB.out.trans hk3, hJ3⟩
        case measure => simp [intOf]
      · gi_wp2
        refine bodyPost_ret (results_none rfl _ _ _) rfl ?_
        exact ⟨⟨_, rfl⟩, .inr ⟨_, ⟨(xs.take k).reverse, by rw [← List.reverse_append, List.take_append_drop]⟩, hJx3⟩⟩

set_option maxHeartbeats 1000000 in
theorem behind_in (F : Fence) (n : Nat) (hF : F.fn 12) (hro : F.round = none) (A : Option Addr) (m c : Nat) (w : World) :
    CallsIn F n Try.prog 12 #[.slice A m c] w fun e w' => e = .returned (.func (.func 22) #[] #[.pointer (some ⟨w.heap.size, 0, none⟩)]) ∧ w' = w.alloc (.cells #[.slice A m c] 22) := by
  refine callsIn_of_wp Try.func12 rfl hF ?_ hro
  simp only [Try.ntmps12, List.size_toArray, List.length_cons, List.length_nil, Nat.reduceAdd, Nat.reduceSub, Array.replicate_succ, Array.replicate_zero, List.push_toArray, List.append_toArray, List.nil_append, List.cons_append]
  gi_wp2
  go_ret
  exact ⟨rfl, rfl⟩
theorem behind_stops (F : Fence) (n : Nat) (hF : F.fn 22) (hro : F.round = none) (hn : 1 ≤ n) (Bn n₀ : Nat) (A : Option Addr) (c : Nat) (xs : List Gv) (w : World) (hn₀ : n₀ ≤ w.heap.size) (hlen : xs.length ≤ 1000000) (hb : Bn < n₀)
    (hc : w.cell? ⟨Bn, 0, none⟩ = some (.slice A xs.length c)) (hE : tGv.els w (· < n₀) A xs) :
    SeqStopsK F n Try.prog 22 #[.pointer (some ⟨Bn, 0, none⟩)] (fun x : Gv => #[gvc x]) (Below n₀) (fun ys => ys = xs.reverse) (fun pre => pre <+: xs.reverse) xs.length w := fun l J Jx W hW _ _ hY h0 =>
  behind1_in F n hF hro hn l Bn n₀ A c xs J Jx hY W hlen hb ((hW.cell (p := ⟨Bn, 0, none⟩) (Nat.lt_of_lt_of_le hb hn₀)).trans hc) (hE.keep (fun p hp => hW.cell (Nat.lt_of_lt_of_le hp hn₀))) h0

theorem cell_own {v : Value} (p : Addr) : Go.Own (fun (_ : Unit) W => W.cell? p = some v) := fun s X Y row hs hg hrow => cell_kept hs hg hrow
/-- Find's own four blocks. -/
structure FdB (m n : ByteArray) (e : Et) (ok : Bool) (p : Nat) (W : World) : Prop where
  b0 : Blk W p 9 #[.string m]
  b1 : Blk W (p + 1) 9 #[.string n]
  b2 : Blk W (p + 1 + 1) 26 #[.int .i64 e.kind, .int .i64 e.addr]
  b3 : Blk W (p + 1 + 1 + 1) 4 #[.bool ok]
theorem fdB_own {β : Type} (m n : ByteArray) (e : β → Et) (ok : β → Bool) (p : Nat) : Go.Own (fun s W => FdB m n (e s) (ok s) p W) := fun s X Y row hs hg hrow =>
  ⟨blk_own _ _ (fun (_ : Unit) => _) () X Y row hs.b0 hg hrow, blk_own _ _ (fun (_ : Unit) => _) () X Y row hs.b1 hg hrow, blk_own _ _ (fun (_ : Unit) => _) () X Y row hs.b2 hg hrow, blk_own _ _ (fun (_ : Unit) => _) () X Y row hs.b3 hg hrow⟩
theorem FdB.alloc {m n : ByteArray} {e : Et} {ok : Bool} {p : Nat} {W : World} (h : FdB m n e ok p W) (o : Obj) : FdB m n e ok p (W.alloc o) := ⟨h.b0.alloc o, h.b1.alloc o, h.b2.alloc o, h.b3.alloc o⟩

def fdS (W : World) (e : Et) (ok : Bool) (p : Nat) : World := ((W.setCell ⟨p + 1 + 1, 0, none⟩ (.int .i64 e.kind)).setCell ⟨p + 1 + 1, 1, none⟩ (.int .i64 e.addr)).setCell ⟨p + 1 + 1 + 1, 0, none⟩ (.bool ok)
theorem FdB.put {m n : ByteArray} {e : Et} {ok : Bool} {p : Nat} {W : World} (h : FdB m n e ok p W) (e' : Et) (ok' : Bool) : FdB m n e' ok' p (fdS W e' ok' p) :=
  ⟨((h.b0.far (p := ⟨p + 1 + 1, 0, none⟩) (by show p ≠ p + 1 + 1; omega) _).far (p := ⟨p + 1 + 1, 1, none⟩) (by show p ≠ p + 1 + 1; omega) _).far (p := ⟨p + 1 + 1 + 1, 0, none⟩) (by show p ≠ p + 1 + 1 + 1; omega) _,
   ((h.b1.far (p := ⟨p + 1 + 1, 0, none⟩) (by show p + 1 ≠ p + 1 + 1; omega) _).far (p := ⟨p + 1 + 1, 1, none⟩) (by show p + 1 ≠ p + 1 + 1; omega) _).far (p := ⟨p + 1 + 1 + 1, 0, none⟩) (by show p + 1 ≠ p + 1 + 1 + 1; omega) _,
   ((h.b2.set_ 0 _).set_ 1 _).far (p := ⟨p + 1 + 1 + 1, 0, none⟩) (by show p + 1 + 1 ≠ p + 1 + 1 + 1; omega) _,
   ((h.b3.far (p := ⟨p + 1 + 1, 0, none⟩) (by show p + 1 + 1 + 1 ≠ p + 1 + 1; omega) _).far (p := ⟨p + 1 + 1, 1, none⟩) (by show p + 1 + 1 + 1 ≠ p + 1 + 1; omega) _).set_ 0 _⟩
theorem fdS_keeps (W : World) (e : Et) (ok : Bool) (p : Nat) : KeepsOthers W (fdS W e ok p) := ((KeepsOthers.setCell _ _ _).trans (KeepsOthers.setCell _ _ _)).trans (KeepsOthers.setCell _ _ _)
theorem fdS_below {w W : World} {p : Nat} (h : Below p w W) (e : Et) (ok : Bool) : Below p w (fdS W e ok p) :=
  ((h.setCell (p := ⟨p + 1 + 1, 0, none⟩) (by show p ≤ p + 1 + 1; omega) _).setCell (p := ⟨p + 1 + 1, 1, none⟩) (by show p ≤ p + 1 + 1; omega) _).setCell (p := ⟨p + 1 + 1 + 1, 0, none⟩) (by show p ≤ p + 1 + 1 + 1; omega) _
theorem gvAt_1 {m n : ByteArray} {x : Gv} (h1 : x.mod.toList = m.toList) (h2 : (x.name.toList == n.toList) = true) : gvAt m n x = true := by simp [gvAt, h1]; simpa using h2
theorem gvAt_2 {m n : ByteArray} {x : Gv} (h2 : (x.name.toList == n.toList) = false) : gvAt m n x = false := by rw [gvAt, h2, Bool.and_false]
theorem gvAt_3 {m n : ByteArray} {x : Gv} (h1 : ¬ x.mod.toList = m.toList) : gvAt m n x = false := by simp [gvAt, h1]
theorem lastF_stop {m n : ByteArray} {xs pre' : List Gv} {g : Gv} (hp : pre' ++ [g] <+: xs.reverse) (h1 : ∀ x ∈ pre', gvAt m n x = false) (h2 : gvAt m n g = true) : lastF m n xs = (g.what, true) := by
  obtain ⟨t, ht⟩ := hp
  unfold lastF
  rw [← ht, List.append_assoc, List.find?_append, List.find?_eq_none.2 (fun x hx => by rw [h1 x hx]; decide)]
  simp [h2]
theorem lastF_none {m n : ByteArray} {xs : List Gv} (h : ∀ x ∈ xs.reverse, gvAt m n x = false) : lastF m n xs = (⟨0, 0⟩, false) := by
  unfold lastF
  rw [List.find?_eq_none.2 (fun x hx => by rw [h x hx]; decide)]

set_option maxRecDepth 100000 in
set_option maxHeartbeats 4000000 in
theorem find_any (xs : List Gv) (A : Option Addr) (c : Nat) (md nm : ByteArray) (w : World) (hlen : xs.length ≤ 1000000) (hE : tGv.els w (· < w.heap.size) A xs) :
    Calls Try.prog 5 #[.slice A xs.length c, .string md, .string nm] w fun e w' => e = .returned (.tuple #[.agg #[.int .i64 (lastF md nm xs).1.kind, .int .i64 (lastF md nm xs).1.addr], .bool (lastF md nm xs).2]) ∧ Fr No w w' := by
  refine (callsIn_wide (n := 5)).1 ?_
  refine callsIn_of_wp_marks Try.func5 rfl trivial ?_ rfl
  simp only [Try.ntmps5, List.size_toArray, List.length_cons, List.length_nil, Nat.reduceAdd, Nat.reduceSub, Array.replicate_succ, Array.replicate_zero, List.push_toArray, List.append_toArray, List.nil_append, List.cons_append]
  gi_wp2
  refine ⟨trivial, (behind_in Fence.wide _ trivial rfl _ _ _ _).mono ?_⟩
  rintro e w' ⟨rfl, rfl⟩
  have b0 := (((Blk.new w 9 #[.string md]).alloc (.cells #[.string nm] 9)).alloc (.cells #[.int .i64 0, .int .i64 0] 26)).alloc (.cells #[.bool false] 4)
  have b1 := ((Blk.new (w.alloc (.cells #[.string md] 9)) 9 #[.string nm]).alloc (.cells #[.int .i64 0, .int .i64 0] 26)).alloc (.cells #[.bool false] 4)
  have b2 := (Blk.new ((w.alloc (.cells #[.string md] 9)).alloc (.cells #[.string nm] 9)) 26 #[.int .i64 0, .int .i64 0]).alloc (.cells #[.bool false] 4)
  have b3 := Blk.new (((w.alloc (.cells #[.string md] 9)).alloc (.cells #[.string nm] 9)).alloc (.cells #[.int .i64 0, .int .i64 0] 26)) 4 #[.bool false]
  have bn := Blk.new ((((w.alloc (.cells #[.string md] 9)).alloc (.cells #[.string nm] 9)).alloc (.cells #[.int .i64 0, .int .i64 0] 26)).alloc (.cells #[.bool false] 4)) 22 #[.slice A xs.length c]
  have F0 := ((((Fr.refl No w).alloc (.cells #[.string md] 9)).alloc (.cells #[.string nm] 9)).alloc (.cells #[.int .i64 0, .int .i64 0] 26)).alloc (.cells #[.bool false] 4) |>.alloc (.cells #[.slice A xs.length c] 22)
  simp only [World.size_alloc] at b0 b1 b2 b3 bn ⊢
  have FB := (FdB.mk (e := ⟨0, 0⟩) b0 b1 b2 b3).alloc (.cells #[.slice A xs.length c] 22)
  have hsz : (((((w.alloc (.cells #[.string md] 9)).alloc (.cells #[.string nm] 9)).alloc (.cells #[.int .i64 0, .int .i64 0] 26)).alloc (.cells #[.bool false] 4)).alloc (.cells #[.slice A xs.length c] 22)).heap.size = w.heap.size + 5 := by simp
  clear b0 b1 b2 b3
  generalize (((((w.alloc (.cells #[.string md] 9)).alloc (.cells #[.string nm] 9)).alloc (.cells #[.int .i64 0, .int .i64 0] 26)).alloc (.cells #[.bool false] 4)).alloc (.cells #[.slice A xs.length c] 22)) = W0 at *
  have hB0 : Below w.heap.size w W0 := F0.below
  have hE0 : tGv.els W0 (· < W0.heap.size) A xs := (hE.keep (fun p hp => hB0.cell hp)).more (fun k hk => Nat.lt_of_lt_of_le hk hB0.size)
  gi_wp2
  refine wpIn_rangeFunc_ownH rfl (by decide) (gf := 22) (lb := #[.pointer (some ⟨w.heap.size + 1 + 1 + 1 + 1, 0, none⟩)]) rfl trivial (enters_of Try.func22 (by kernel_rfl) rfl)
    (behind_stops Fence.wide _ trivial rfl (by decide) (w.heap.size + 1 + 1 + 1 + 1) W0.heap.size A c xs W0 (Nat.le_refl _) hlen (by omega) (bn.cell 0) hE0) belowK_t (belowK_b (Nat.le_refl _)) (Below.refl _ _) (fun _ => rfl)
    (fun pre W => (FdB md nm ⟨0, 0⟩ false w.heap.size W ∧ (∀ g ∈ pre, gvAt md nm g = false) ∧ W0.heap.size ≤ W.heap.size) ∧ Below w.heap.size w W)
    (fun c pre W => (c = .ret ∧ ∃ (g : Gv) (pre' : List Gv), pre = pre' ++ [g] ∧ (∀ x ∈ pre', gvAt md nm x = false) ∧ gvAt md nm g = true ∧ FdB md nm g.what true w.heap.size W) ∧ Below w.heap.size w W)
    (OwnFrom.and (Own.from (fun s X Y row hs hg hr => ⟨fdB_own md nm (fun (_ : Unit) => _) (fun _ => _) _ () X Y row hs.1 hg hr, hs.2.1, Nat.le_trans hs.2.2 hg.size⟩) _) (ownFrom_below (Nat.le_refl _) (by omega)))
    (fun c => OwnFrom.and (Own.from (fun s X Y row hs hg hr => by
      obtain ⟨e0, g, pre', e1, e2, e3, e4⟩ := hs
      exact ⟨e0, g, pre', e1, e2, e3, fdB_own md nm (fun (_ : Unit) => g.what) (fun _ => true) _ () X Y row e4 hg hr⟩) _) (ownFrom_below (Nat.le_refl _) (by omega)))
    ⟨⟨FB, by simp, Nat.le_refl _⟩, hB0⟩
    (fun x a' W => ∃ Bx, w.heap.size + 1 + 1 + 1 + 1 < Bx ∧ Blk W Bx 30 #[.string x.mod, .string x.name, .int .i64 x.what.kind, .int .i64 x.what.addr] ∧ a' = { tmps := #[.slice A xs.length c, .string md, .string nm, undef, .pointer (some ⟨w.heap.size, 0, none⟩), .pointer (some ⟨w.heap.size + 1, 0, none⟩), .pointer (some ⟨w.heap.size + 1 + 1, 0, none⟩), .pointer (some ⟨w.heap.size + 1 + 1 + 1, 0, none⟩), .pointer (some ⟨Bx, 0, none⟩), .slice A xs.length c, .func (.func 22) #[] #[.pointer (some ⟨w.heap.size + 1 + 1 + 1 + 1, 0, none⟩)], .agg #[.string x.mod, .string x.name, .int .i64 x.what.kind, .int .i64 x.what.addr], undef, undef, undef, undef, undef, undef, undef, undef, undef, undef, undef, undef, undef], defers := [] })
    (fun x a' _ X Y row hs hg hr => by
      obtain ⟨Bx, h1, h2, h3⟩ := hs
      exact ⟨Bx, h1, blk_own Bx _ (fun (_ : Unit) => #[.string x.mod, .string x.name, .int .i64 x.what.kind, .int .i64 x.what.addr]) () X Y row h2 hg (fun r e => (hr r e).2), h3⟩)
    ?assign ?body ?done ?stop
  case assign =>
    rintro l pre x W K hI hK
    unfold gvc
    gi_wp2
    exact hK _ _ ((KeepsOthers.alloc _ _).from _) ((Below.refl _ W).alloc hI.1.2.2 _) ⟨⟨hI.1.1.alloc _, hI.1.2.1, Nat.le_trans hI.1.2.2 (by simp)⟩, hI.2.alloc hI.2.size _⟩ ⟨W.heap.size, by have := hI.1.2.2; omega, Blk.new W _ _, rfl⟩
  case body =>
    rintro l pre x a' W hl ⟨r, hr⟩ ⟨⟨fb, hp, hs⟩, hB⟩ ⟨Bx, hBx, bX, rfl⟩ hlt
    have c0 := fb.b0.cell 0
    have c1 := fb.b1.cell 0
    have c2 := fb.b2.cell 0
    have c3 := fb.b2.cell 1
    have c4 := fb.b3.cell 0
    have z2 := fb.b2.frozen 0
    have z3 := fb.b2.frozen 1
    have z4 := fb.b3.frozen 0
    have x0 := bX.cell 0
    have x1 := bX.cell 1
    have x2 := bX.cell 2
    have x3 := bX.cell 3
    gi_wp2
    · rename_i h1 h2
      exact ⟨(fdS_keeps W x.what true _).from _, ⟨rfl, x, pre, rfl, hp, gvAt_1 h1 h2, fb.put x.what true⟩, fdS_below hB _ _⟩
    · rename_i h1 h2
      exact ⟨KeepsFrom.refl _ _, Below.refl _ _, ⟨fb, fun g hg => (List.mem_append.1 hg).elim (hp g) (fun e => by rw [List.mem_singleton.1 e]; exact gvAt_2 h2), by rw [← hsz]; exact hs⟩, hB⟩
    · rename_i h1
      exact ⟨KeepsFrom.refl _ _, Below.refl _ _, ⟨fb, fun g hg => (List.mem_append.1 hg).elim (hp g) (fun e => by rw [List.mem_singleton.1 e]; exact gvAt_3 h1), by rw [← hsz]; exact hs⟩, hB⟩
  case done =>
    rintro D ys W hD rfl ⟨⟨fb, hp, hs⟩, hB⟩ hK
    have c2 := fb.b2.cell 0
    have c3 := fb.b2.cell 1
    have c4 := fb.b3.cell 0
    have z2 := fb.b2.frozen 0
    have z3 := fb.b2.frozen 1
    have z4 := fb.b3.frozen 0
    gi_wp2
    have hK' := (fdS_keeps W ⟨0, 0⟩ false w.heap.size).same D _ hK rfl
    have fb2 := fb.put ⟨0, 0⟩ false
    have hB2 := fdS_below hB ⟨0, 0⟩ false
    rw [lastF_none hp]
    refine ⟨by simp, .inl ⟨_, _, rfl, run_takeDeferred hK', ?_⟩⟩
    have fb3 := fdB_own md nm (fun (_ : Unit) => ⟨0, 0⟩) (fun _ => false) _ () _ _ _ fb2 (grownBy_putObj' _ D (.deferred none)) (fun r e => by cases e; exact ⟨_, hK', rfl⟩)
    have hF := Fr.of_below (M := No) (hB2.trans (belowK_b (w := w) (Nat.le_refl _) _ D _ (.deferred none) (by omega) hK' rfl rfl))
    have d0 := fb3.b2.cell 0
    have d1 := fb3.b2.cell 1
    have d2 := fb3.b3.cell 0
    unfold fdS at d0 d1 d2 hF
    refine ⟨_, ?_, rfl, hF⟩
    simp [results, Try.f5, go_sem, d0, d1, d2]
  case stop =>
    rintro D c pre W hD hpre ⟨⟨rfl, g, pre', rfl, h1, h2, fb⟩, hB⟩ hK
    gi_wp2
    rw [lastF_stop hpre h1 h2]
    refine ⟨by simp, .inl ⟨_, _, rfl, run_takeDeferred hK, ?_⟩⟩
    have fb3 := fdB_own md nm (fun (_ : Unit) => g.what) (fun _ => true) _ () _ _ _ fb (grownBy_putObj' _ D (.deferred none)) (fun r e => by cases e; exact ⟨_, hK, rfl⟩)
    have hF := Fr.of_below (M := No) (hB.trans (belowK_b (w := w) (Nat.le_refl _) _ D _ (.deferred none) (by omega) hK rfl rfl))
    have d0 := fb3.b2.cell 0
    have d1 := fb3.b2.cell 1
    have d2 := fb3.b3.cell 0
    refine ⟨_, ?_, rfl, hF⟩
    simp [results, Try.f5, go_sem, d0, d1, d2]
end Go.Proofs.Ythggdemiddjlgaa

namespace Go.Proofs.Ythggdemiddjlgaa
open Go.RowKit

theorem lastF_all (m n : ByteArray) (xs : List Gv) : lastF m n (xs.take xs.length) = lastF m n xs := by rw [List.take_length]
theorem rAt_1 {m n : ByteArray} {x : Gv} (h1 : x.mod.toList = m.toList) (h2 : (x.name.toList == n.toList) = true) : gvAt m n x = true := by simp [gvAt, h1]; simpa using h2
theorem rAt_2 {m n : ByteArray} {x : Gv} (h2 : (x.name.toList == n.toList) = false) : gvAt m n x = false := by rw [gvAt, h2, Bool.and_false]
theorem rAt_3 {m n : ByteArray} {x : Gv} (h1 : ¬ x.mod.toList = m.toList) : gvAt m n x = false := by simp [gvAt, h1]
set_option maxRecDepth 100000 in
set_option maxHeartbeats 3200000 in
theorem rfind_any (xs : List Gv) (A : Option Addr) (c : Nat) (md nm : ByteArray) (w : World) (hlen : xs.length ≤ 1000000) (hE : tGv.els w (· < w.heap.size) A xs) :
    Calls Try.prog 6 #[.slice A xs.length c, .string md, .string nm] w fun e w' => e = .returned (.tuple #[.agg #[.int .i64 (lastF md nm xs).1.kind, .int .i64 (lastF md nm xs).1.addr], .bool (lastF md nm xs).2]) ∧ Fr No w w' := by
  have F0 := hid (((Fr.refl No w).alloc (.cells #[.int .i64 0, .int .i64 0] 26)).alloc (.cells #[.int .i64 0, .int .i64 0] 26))
  have G0 := hid ((Blk.new w 26 #[.int .i64 0, .int .i64 0]).alloc (.cells #[.int .i64 0, .int .i64 0] 26))
  have G1 := hid (Blk.new1 w (.cells #[.int .i64 0, .int .i64 0] 26) 26 #[.int .i64 0, .int .i64 0])
  have HE := hid hE
  clear hE
  go_enter Try.func6, Try.ntmps6
  go_wp2
  generalize (w.alloc (.cells #[.int .i64 0, .int .i64 0] 26)).alloc (.cells #[.int .i64 0, .int .i64 0] 26) = W at *
  obtain ⟨n, hn⟩ : ∃ n, xs.length = n := ⟨_, rfl⟩
  have HN := hid hn
  rw [hn] at hlen ⊢
  clear hn
  go_loopw [9, 10] (fun a i wr => ∃ k, k ≤ n ∧ i = .int .i64 (k : Nat) ∧ a = .bool (lastF md nm (xs.take k)).2 ∧ Hid (Fr No w wr) ∧ Hid (Blk wr w.heap.size 26 #[.int .i64 0, .int .i64 0]) ∧ Hid (Blk wr (w.heap.size + 1) 26 #[.int .i64 (lastF md nm (xs.take k)).1.kind, .int .i64 (lastF md nm (xs.take k)).1.addr])) (fun _ i _ => n - (intOf i).toNat)
  case atStart => exact ⟨0, Nat.zero_le _, rfl, rfl, F0.out, G0.out, G1.out⟩
  case round =>
    obtain ⟨k, hk, rfl, rfl, F1, H0, H1⟩ := hrel
    have x0 := H0.out.frozen 0
    have x1 := H0.out.frozen 1
    have x2 := H0.out.cell 0
    have x3 := H0.out.cell 1
    have z0 := H1.out.cell 0
    have z1 := H1.out.cell 1
    have z2 := H1.out.frozen 0
    have z3 := H1.out.frozen 1
    by_cases hlt : k < n
    · have hkl : k < xs.length := by rw [HN.out]; exact hlt
      obtain ⟨b, o, rfl, hbl, y0, y1, y2, y3, -⟩ := Gv_at HE.out k hkl
      replace y0 := (F1.out.cell (p := ⟨b, o + k * 4, none⟩) hbl (fun x => x)).trans y0
      replace y1 := (F1.out.cell (p := ⟨b, o + k * 4 + 1, none⟩) hbl (fun x => x)).trans y1
      replace y2 := (F1.out.cell (p := ⟨b, o + k * 4 + 2, none⟩) hbl (fun x => x)).trans y2
      replace y3 := (F1.out.cell (p := ⟨b, o + k * 4 + 3, none⟩) hbl (fun x => x)).trans y3
      go_wp2
      · rename_i h1 h2
        have hy := lastF_yes hkl (rAt_1 h1 h2)
        go_round
        case measure => show n - (((k : Int) + 1)).toNat < n - ((k : Int)).toNat; omega
        case rel =>
          refine ⟨k + 1, hlt, rfl, by rw [hy], ?_, ?_, ?_⟩
          · exact (F1.out.setCell ⟨w.heap.size + 1, 0, none⟩ _ (fun h => absurd h (by show ¬ w.heap.size + 1 < _; omega))).setCell ⟨w.heap.size + 1, 1, none⟩ _ (fun h => absurd h (by show ¬ w.heap.size + 1 < _; omega))
          · exact (H0.out.far (p := ⟨w.heap.size + 1, 0, none⟩) (by show w.heap.size ≠ w.heap.size + 1; omega) _).far (p := ⟨w.heap.size + 1, 1, none⟩) (by show w.heap.size ≠ w.heap.size + 1; omega) _
          · rw [hy]
            exact (H1.out.set_ 0 _).set_ 1 _
      · rename_i h1 h2
        have hy := lastF_no (m := md) (n := nm) hkl (rAt_2 h2)
        go_round
        case measure => show n - (((k : Int) + 1)).toNat < n - ((k : Int)).toNat; omega
        case rel => exact ⟨k + 1, hlt, rfl, by rw [hy], F1.out, H0.out, by rw [hy]; exact H1.out⟩
      · rename_i h1
        have hy := lastF_no (m := md) (n := nm) hkl (rAt_3 h1)
        go_round
        case measure => show n - (((k : Int) + 1)).toNat < n - ((k : Int)).toNat; omega
        case rel => exact ⟨k + 1, hlt, rfl, by rw [hy], F1.out, H0.out, by rw [hy]; exact H1.out⟩
    · have hkn : k = xs.length := by have := HN.out; omega
      subst hkn
      rw [List.take_length] at *
      have FE := hid ((F1.out.setCell ⟨w.heap.size, 0, none⟩ (.int .i64 (lastF md nm xs).1.kind) (fun h => absurd h (by show ¬ w.heap.size < _; omega))).setCell ⟨w.heap.size, 1, none⟩ (.int .i64 (lastF md nm xs).1.addr) (fun h => absurd h (by show ¬ w.heap.size < _; omega)))
      have HB := (H0.out.set_ 0 (.int .i64 (lastF md nm xs).1.kind)).set_ 1 (.int .i64 (lastF md nm xs).1.addr)
      have q0 := HB.cell 0
      have q1 := HB.cell 1
      go_wp2
      refine bodyPost_ret (v := .tuple #[.agg #[.int .i64 (lastF md nm xs).1.kind, .int .i64 (lastF md nm xs).1.addr], .bool (lastF md nm xs).2]) ?_ rfl ⟨rfl, FE.out⟩
      simp [results, Try.f6, go_sem, q0, q1]
end Go.Proofs.Ythggdemiddjlgaa

namespace Go.Proofs.Ythggdemiddjlgaa
open Go.RowKit

def fitsB (n : Int) (a b : Lim) : Bool := !decide (n < b.min) && (!b.has || (a.has && decide (a.max ≤ b.max)))
theorem blk3 {w : World} {p : Nat} {t : TypeId} {v0 v1 v2 : Value} (h : Blk w p t #[v0, v1, v2]) : ∀ X, Fr No w X → X.cell? ⟨p, 0, none⟩ = some v0 ∧ X.cell? ⟨p, 1, none⟩ = some v1 ∧ X.cell? ⟨p, 2, none⟩ = some v2 := fun X f =>
  ⟨(h.fr f (fun x => x)).cell 0, (h.fr f (fun x => x)).cell 1, (h.fr f (fun x => x)).cell 2⟩
set_option maxRecDepth 100000 in
set_option maxHeartbeats 1600000 in
theorem fits_any (n : Int) (a b : Lim) (w : World) :
    Calls Try.prog 37 #[.int .i64 n, .agg #[.int .i64 a.min, .int .i64 a.max, .bool a.has], .agg #[.int .i64 b.min, .int .i64 b.max, .bool b.has]] w fun e w' => e = .returned (.bool (fitsB n a b)) ∧ Fr No w w' := by
  have F0 := hid (((Fr.refl No w).alloc (.cells #[.int .i64 a.min, .int .i64 a.max, .bool a.has] 43)).alloc (.cells #[.int .i64 b.min, .int .i64 b.max, .bool b.has] 43))
  go_enter Try.func37, Try.ntmps37
  go_wp2
  all_goals
    go_ret
    refine ⟨rt_bool ?_, ((Fr.refl No w).alloc _).alloc _⟩
    rw [Bool.eq_iff_iff]
    simp_all [fitsB] <;> omega
section
variable {w : World} {R : Nat → Prop} {V : Pl} {x : Rx}
def errOf (there fits : Bool) : Int := if there then (if fits then 0 else 26) else 27
/-- What thing answers. -/
def thTab (x : Rx) (t : Tb) (addr : Int) : Int := match getI x.tabs addr with
  | none => 27
  | some y => errOf true (y.t.elem == t.elem && fitsB y.l.length y.t.lim t.lim)
def thMem (x : Rx) (l : Lim) (addr : Int) : Int := match getI x.mems addr with
  | none => 27
  | some y => errOf true (fitsB ((y.b.length / 256 : Nat) : Int) y.lim l)
def thGlob (x : Rx) (g : Gl) (addr : Int) : Int := match getI x.globs addr with
  | none => 27
  | some y => errOf true (y.t.val == g.val && y.t.mut_ == g.mut_)
set_option maxRecDepth 100000 in
theorem run_eq_gl (a c : Int) (b d : Bool) (w : World) : (Op.equalIn 10000 37 (.agg #[.int .i64 a, .bool b]) (.agg #[.int .i64 c, .bool d])).run Try.prog w = .ok (a == c && (b == d && true)) w :=
  eq_st (by kernel_rfl) (by kernel_rfl) (eqf_cons (by decide) (run_part1 (isAgg_int Try.underlying35) rfl) (run_part1 (isAgg_int Try.underlying35) rfl) (run_equalIn_int w 9998 _ _ _ _ _ Try.underlying35)
    (eqf_cons (by decide) (run_part1 (isAgg_bool Try.underlying4) rfl) (run_part1 (isAgg_bool Try.underlying4) rfl) (run_equalIn_bool w 9998 _ _ _ Try.underlying4) eqf_nil))
theorem thGlob_eq (x : Rx) (g : Gl) (addr : Int) : thGlob x g addr = errOf (atD zRg x.globs addr).2 ((atD zRg x.globs addr).1.t.val == g.val && (atD zRg x.globs addr).1.t.mut_ == g.mut_) := by
  unfold thGlob atD getI
  by_cases h0 : 0 ≤ addr
  · by_cases h1 : addr.toNat < x.globs.length
    · simp [h0, h1, show addr < (x.globs.length : Int) by omega]
    · simp [h0, h1, errOf, show ¬ addr < (x.globs.length : Int) by omega]
  · simp [h0, errOf]
set_option maxRecDepth 100000 in
set_option maxHeartbeats 1600000 in
theorem thingG_any (h : StIn w R V x) (im : Im) (addr : Int) (hn : x.globs.length ≤ 1000000) (hk1 : (im.kind == 1) = false) (hk2 : (im.kind == 2) = false) :
    Calls Try.prog 21 #[.pointer (some ⟨V.P, 0, none⟩), .agg #[.string im.mod, .string im.name, .int .i64 im.kind, .int .i64 im.func, .int .i64 im.table.elem, .int .i64 im.table.lim.min, .int .i64 im.table.lim.max, .bool im.table.lim.has, .int .i64 im.mem.min, .int .i64 im.mem.max, .bool im.mem.has, .int .i64 im.glob.val, .bool im.glob.mut_], .int .i64 addr] w fun e w' => e = .returned (.int .i64 (thGlob x im.glob addr)) ∧ Fr No w w' := by
  have F0 := hid ((Fr.refl No w).alloc (.cells #[.string im.mod, .string im.name, .int .i64 im.kind, .int .i64 im.func, .int .i64 im.table.elem, .int .i64 im.table.lim.min, .int .i64 im.table.lim.max, .bool im.table.lim.has, .int .i64 im.mem.min, .int .i64 im.mem.max, .bool im.mem.has, .int .i64 im.glob.val, .bool im.glob.mut_] 47))
  have G0 := hid (Blk.new w 47 #[.string im.mod, .string im.name, .int .i64 im.kind, .int .i64 im.func, .int .i64 im.table.elem, .int .i64 im.table.lim.min, .int .i64 im.table.lim.max, .bool im.table.lim.has, .int .i64 im.mem.min, .int .i64 im.mem.max, .bool im.mem.has, .int .i64 im.glob.val, .bool im.glob.mut_])
  have HG := hid (global_any (h.frNo F0.out) addr hn)
  clear h
  rw [thGlob_eq]
  generalize (atD zRg x.globs addr) = g at *
  go_enter Try.func21, Try.ntmps21
  go_wp2_with fail
  refine HG.out.mono ?_
  rintro e w1 ⟨rfl, f1⟩
  have F1 := hid (F0.out.trans f1 (fun _ _ h => h))
  have G1 := hid (G0.out.fr f1 (fun x => x))
  clear HG f1 F0 G0
  have F2 := hid ((F1.out.alloc (.cells #[.int .i64 g.1.t.val, .bool g.1.t.mut_] 37)).alloc (.cells #[.int .i64 g.1.v.t, .int .u64 g.1.v.n] 40))
  have G2 := hid ((G1.out.alloc (.cells #[.int .i64 g.1.t.val, .bool g.1.t.mut_] 37)).alloc (.cells #[.int .i64 g.1.v.t, .int .u64 g.1.v.n] 40))
  have G3 := hid ((Blk.new w1 37 #[.int .i64 g.1.t.val, .bool g.1.t.mut_]).alloc (.cells #[.int .i64 g.1.v.t, .int .u64 g.1.v.n] 40))
  go_upto_region 4 with fail
  generalize (w1.alloc (.cells #[.int .i64 g.1.t.val, .bool g.1.t.mut_] 37)).alloc (.cells #[.int .i64 g.1.v.t, .int .u64 g.1.v.n] 40) = W at *
  generalize w1.heap.size = q at *
  have HX : Hid (∀ X, Fr No W X → X.cell? ⟨q, 0, none⟩ = some (.int .i64 g.1.t.val) ∧ X.cell? ⟨q, 1, none⟩ = some (.bool g.1.t.mut_) ∧ X.cell? ⟨w.heap.size, 11, none⟩ = some (.int .i64 im.glob.val) ∧ X.cell? ⟨w.heap.size, 12, none⟩ = some (.bool im.glob.mut_)) := fun X f =>
    ⟨(G3.out.fr f (fun x => x)).cell 0, (G3.out.fr f (fun x => x)).cell 1, (G2.out.fr f (fun x => x)).cell 11, (G2.out.fr f (fun x => x)).cell 12⟩
  have HQ := run_eq_gl g.1.t.val im.glob.val g.1.t.mut_ im.glob.mut_
  refine wp_region_ord (fun X => X.cell? ⟨q, 0, none⟩ = some (.int .i64 g.1.t.val) ∧ X.cell? ⟨q, 1, none⟩ = some (.bool g.1.t.mut_) ∧ X.cell? ⟨w.heap.size, 11, none⟩ = some (.int .i64 im.glob.val) ∧ X.cell? ⟨w.heap.size, 12, none⟩ = some (.bool im.glob.mut_)) [] [(0, true), (1, true), (2, true), (3, true), (4, true), (5, true), (6, true)] (by kernel_rfl) (by kernel_rfl) (by kernel_rfl) rfl (HX.out _ (Fr.refl No _).drew) ?_
  repeat (first
    | (refine wpO_skip rfl rfl ?_; simp only [List.getElem_toArray, List.getElem_cons_succ, List.getElem_cons_zero, Act.put, List.setIfInBounds_toArray, List.set_cons_zero, List.set_cons_succ])
    | (refine wpO_call rfl rfl ?_; simp only [List.getElem_toArray, List.getElem_cons_succ, List.getElem_cons_zero]; apply Exists.intro; refine ⟨fun X hX => ?_, ?_⟩
       · (have s0 := hX.1; have s1 := hX.2.1; have s2 := hX.2.2.1; have s3 := hX.2.2.2; go_simp; exact stillUpon_value)
       simp only [Act.put, List.setIfInBounds_toArray, List.set_cons_zero, List.set_cons_succ]))
  refine wpO_nil ?_
  have FF := hid F2.out.drew
  clear HX HQ F1 F2 G1 G2 G3
  cases hf : (g.1.t.val == im.glob.val && g.1.t.mut_ == im.glob.mut_) <;> cases ht : g.2
  all_goals
    have HF := hid hf
    have HTT := hid ht
    clear hf ht
    go_wp2
    go_ret
    exact ⟨by rw [HF.out, HTT.out]; rfl, FF.out⟩
set_option maxRecDepth 100000 in
set_option maxHeartbeats 1600000 in
theorem thingM_any (h : StIn w R V x) (im : Im) (addr : Int) (hn : x.mems.length ≤ 1000000) (hb : ∀ m ∈ x.mems, m.b.length ≤ 1000000) (hk1 : (im.kind == 1) = false) (hk2 : (im.kind == 2) = true) :
    Calls Try.prog 21 #[.pointer (some ⟨V.P, 0, none⟩), .agg #[.string im.mod, .string im.name, .int .i64 im.kind, .int .i64 im.func, .int .i64 im.table.elem, .int .i64 im.table.lim.min, .int .i64 im.table.lim.max, .bool im.table.lim.has, .int .i64 im.mem.min, .int .i64 im.mem.max, .bool im.mem.has, .int .i64 im.glob.val, .bool im.glob.mut_], .int .i64 addr] w fun e w' => e = .returned (.int .i64 (thMem x im.mem addr)) ∧ Fr No w w' := by
  have F0 := hid ((Fr.refl No w).alloc (.cells #[.string im.mod, .string im.name, .int .i64 im.kind, .int .i64 im.func, .int .i64 im.table.elem, .int .i64 im.table.lim.min, .int .i64 im.table.lim.max, .bool im.table.lim.has, .int .i64 im.mem.min, .int .i64 im.mem.max, .bool im.mem.has, .int .i64 im.glob.val, .bool im.glob.mut_] 47))
  have G0 := hid (Blk.new w 47 #[.string im.mod, .string im.name, .int .i64 im.kind, .int .i64 im.func, .int .i64 im.table.elem, .int .i64 im.table.lim.min, .int .i64 im.table.lim.max, .bool im.table.lim.has, .int .i64 im.mem.min, .int .i64 im.mem.max, .bool im.mem.has, .int .i64 im.glob.val, .bool im.glob.mut_])
  have H0 := hid (h.frNo F0.out)
  have HG := hid (mem_any H0.out addr hn)
  clear h
  cases hg : getI V.mp addr with
  | none =>
    have hx : getI x.mems addr = none := by
      have := getI_len H0.out.ml addr
      rw [hg] at this
      simpa using this.symm
    rw [getI_map, hg] at HG
    rw [thMem, hx]
    clear hx hg
    go_enter Try.func21, Try.ntmps21
    go_wp2_with fail
    refine HG.out.mono ?_
    rintro e w1 ⟨rfl, f1⟩
    have F1 := hid (F0.out.trans f1 (fun _ _ h => h))
    clear HG f1 F0 G0
    simp only [Option.map, ptrV]
    go_wp2
    go_ret
    exact ⟨rfl, F1.out⟩
  | some z =>
    obtain ⟨y, hx⟩ : ∃ y, getI x.mems addr = some y := by
      have := getI_len H0.out.ml addr
      rw [hg] at this
      cases hx : getI x.mems addr with
      | none => rw [hx] at this; simp at this
      | some y => exact ⟨y, rfl⟩
    have hz := getI_some hg
    have hy := getI_some hx
    have hM := H0.out.mat _ z y hz.2 hy.2
    have hbl := hb y (List.mem_of_getElem? hy.2)
    have HM := hid hM
    rw [getI_map, hg] at HG
    rw [thMem, hx]
    have HPG := hid (fun (X : World) (hh : X.cell? ⟨z.1, 3, none⟩ = some (.slice (some ⟨z.2.1, 0, none⟩) y.b.length z.2.2)) => pages_any z.1 (some ⟨z.2.1, 0, none⟩) y.b.length z.2.2 X hh hbl)
    simp only
    generalize y.b.length / 256 = pg at *
    clear hx hg hz hy hM hb
    go_enter Try.func21, Try.ntmps21
    go_wp2_with fail
    refine HG.out.mono ?_
    rintro e w1 ⟨rfl, f1⟩
    have F1 := hid (F0.out.trans f1 (fun _ _ h => h))
    have G1 := hid (G0.out.fr f1 (fun x => x))
    have M1 := hid (HM.out.frNo f1)
    clear HG f1 F0 G0 HM
    simp only [Option.map, ptrV]
    go_wp2_with fail
    have HX : Hid (∀ X, Fr No w1 X → X.cell? ⟨w.heap.size, 8, none⟩ = some (.int .i64 im.mem.min) ∧ X.cell? ⟨w.heap.size, 9, none⟩ = some (.int .i64 im.mem.max) ∧ X.cell? ⟨w.heap.size, 10, none⟩ = some (.bool im.mem.has)) := fun X f =>
      ⟨(G1.out.fr f (fun x => x)).cell 8, (G1.out.fr f (fun x => x)).cell 9, (G1.out.fr f (fun x => x)).cell 10⟩
    have HM := hid (fun (X : World) (f : Fr No w1 X) => M1.out.frNo f)
    have HF := hid (fun (n : Int) (a b : Lim) (X : World) => fits_any n a b X)
    refine wp_region_ord (fun X => X.cell? ⟨w.heap.size, 8, none⟩ = some (.int .i64 im.mem.min) ∧ X.cell? ⟨w.heap.size, 9, none⟩ = some (.int .i64 im.mem.max) ∧ X.cell? ⟨w.heap.size, 10, none⟩ = some (.bool im.mem.has)) [] [(0, true), (2, true), (4, true), (5, true), (1, false), (3, false), (6, false), (7, true), (8, true)] (by kernel_rfl) (by kernel_rfl) (by kernel_rfl) rfl (HX.out _ (Fr.refl No _).drew) ?_
    repeat (first
      | (refine wpO_skip rfl rfl ?_; simp only [List.getElem_toArray, List.getElem_cons_succ, List.getElem_cons_zero, Act.put, List.setIfInBounds_toArray, List.set_cons_zero, List.set_cons_succ])
      | (refine wpO_call rfl rfl ?_; simp only [List.getElem_toArray, List.getElem_cons_succ, List.getElem_cons_zero]; apply Exists.intro; refine ⟨fun X hX => ?_, ?_⟩
         · (have s0 := hX.1; have s1 := hX.2.1; have s2 := hX.2.2; go_simp; exact stillUpon_value)
         simp only [Act.put, List.setIfInBounds_toArray, List.set_cons_zero, List.set_cons_succ]))
    refine wpO_eff rfl rfl (fun K hK => ?_)
    simp only [List.getElem_toArray, List.getElem_cons_succ, List.getElem_cons_zero]
    go_simp
    refine (HPG.out _ ((HM.out _ (Fr.refl No _).drew).hp.cell 3)).mono ?_
    rintro e w2 ⟨rfl, rfl⟩
    refine hK _ _ (fun _ => HX.out _ (Fr.refl No _).drew) ?_
    clear hK K
    refine wpO_eff rfl rfl (fun K hK => ?_)
    simp only [List.getElem_toArray, List.getElem_cons_succ, List.getElem_cons_zero]
    go_simp
    refine (limits_any z.1 y.lim _ _ (HM.out _ (Fr.refl No _).drew).hp).mono ?_
    rintro e w2 ⟨rfl, f2⟩
    have F2 := hid (((Fr.refl No w1).drew).trans f2 (fun _ _ h => h))
    refine hK _ _ (fun _ => HX.out _ F2.out) ?_
    clear hK K f2
    refine wpO_eff rfl rfl (fun K hK => ?_)
    simp only [List.getElem_toArray, List.getElem_cons_succ, List.getElem_cons_zero]
    go_simp
    refine (HF.out _ y.lim im.mem _).mono ?_
    rintro e w3 ⟨rfl, f3⟩
    have F3 := hid (F2.out.trans f3 (fun _ _ h => h))
    refine hK _ _ (fun _ => HX.out _ F3.out) ?_
    clear hK K f3
    repeat (first
      | (refine wpO_skip rfl rfl ?_; simp only [List.getElem_toArray, List.getElem_cons_succ, List.getElem_cons_zero, Act.put, List.setIfInBounds_toArray, List.set_cons_zero, List.set_cons_succ])
      | (refine wpO_call rfl rfl ?_; simp only [List.getElem_toArray, List.getElem_cons_succ, List.getElem_cons_zero]; apply Exists.intro; refine ⟨fun X hX => ?_, ?_⟩
         · (have s0 := hX.1; have s1 := hX.2.1; have s2 := hX.2.2; go_simp; exact stillUpon_value)
         simp only [Act.put, List.setIfInBounds_toArray, List.set_cons_zero, List.set_cons_succ]))
    refine wpO_nil ?_
    have FF := hid (F1.out.trans F3.out (fun _ _ h => h))
    clear HX HM HF F1 F2 F3 G1 M1
    cases hf : fitsB (pg : Int) y.lim im.mem
    all_goals
      have HFF := hid hf
      clear hf
      go_wp2
      go_ret
      exact ⟨by rw [HFF.out]; rfl, FF.out⟩
end
end Go.Proofs.Ythggdemiddjlgaa

namespace Go.Proofs.Ythggdemiddjlgaa
open Go.RowKit

set_option maxRecDepth 100000 in
set_option maxHeartbeats 1600000 in
theorem checkT_any (p : Nat) (im : Im) (nt ni nf nta nm ng ne nel nd nc ct ci cf cta cm cg ce cel cd cc : Nat) (At Ai Af Ata Am Ag Ae Ael Ad Ac : Option Addr) (bst : Bool) (vst : Int) (addr r : Int) (w : World) (hk : 1 ≤ im.kind ∧ im.kind ≤ 3)
    (hT : ∀ X, Fr No w X → Calls Try.prog 21 #[.pointer (some ⟨p, 0, none⟩), .agg #[.string im.mod, .string im.name, .int .i64 im.kind, .int .i64 im.func, .int .i64 im.table.elem, .int .i64 im.table.lim.min, .int .i64 im.table.lim.max, .bool im.table.lim.has, .int .i64 im.mem.min, .int .i64 im.mem.max, .bool im.mem.has, .int .i64 im.glob.val, .bool im.glob.mut_], .int .i64 addr] X fun e w' => e = .returned (.int .i64 r) ∧ Fr No X w') :
    Calls Try.prog 11 #[.pointer (some ⟨p, 0, none⟩), .agg #[.string im.mod, .string im.name, .int .i64 im.kind, .int .i64 im.func, .int .i64 im.table.elem, .int .i64 im.table.lim.min, .int .i64 im.table.lim.max, .bool im.table.lim.has, .int .i64 im.mem.min, .int .i64 im.mem.max, .bool im.mem.has, .int .i64 im.glob.val, .bool im.glob.mut_], .agg #[.slice At nt ct, .slice Ai ni ci, .slice Af nf cf, .slice Ata nta cta, .slice Am nm cm, .slice Ag ng cg, .slice Ae ne ce, .bool bst, .int .i64 vst, .slice Ael nel cel, .slice Ad nd cd, .slice Ac nc cc], .agg #[.int .i64 im.kind, .int .i64 addr]] w fun e w' => e = .returned (.int .i64 r) ∧ Fr No w w' := by
  have hk0 : (im.kind == 0) = false := by simp; omega
  have hk1 : decide (im.kind < 0) = false := by simp; omega
  have hk2 : decide (3 < im.kind) = false := by simp; omega
  have F0 := hid ((((Fr.refl No w).alloc (.cells #[.string im.mod, .string im.name, .int .i64 im.kind, .int .i64 im.func, .int .i64 im.table.elem, .int .i64 im.table.lim.min, .int .i64 im.table.lim.max, .bool im.table.lim.has, .int .i64 im.mem.min, .int .i64 im.mem.max, .bool im.mem.has, .int .i64 im.glob.val, .bool im.glob.mut_] 47)).alloc (.cells #[.slice At nt ct, .slice Ai ni ci, .slice Af nf cf, .slice Ata nta cta, .slice Am nm cm, .slice Ag ng cg, .slice Ae ne ce, .bool bst, .int .i64 vst, .slice Ael nel cel, .slice Ad nd cd, .slice Ac nc cc] 63)).alloc (.cells #[.int .i64 im.kind, .int .i64 addr] 26))
  have HT := hid (hT _ F0.out)
  clear hT hk
  go_enter Try.func11, Try.ntmps11
  go_wp2_with fail
  refine HT.out.mono ?_
  rintro e w1 ⟨rfl, f1⟩
  have F1 := hid (F0.out.trans f1 (fun _ _ h => h))
  clear HT f1 F0
  go_wp2
  go_ret
  exact ⟨rfl, F1.out⟩
set_option maxRecDepth 100000 in
set_option maxHeartbeats 1600000 in
theorem resolve0_any (p : Nat) (im : Im) (nt ni nf nta nm ng ne nel nd nc ct ci cf cta cm cg ce cel cd cc : Nat) (At Ai Af Ata Am Ag Ae Ael Ad Ac : Option Addr) (bst : Bool) (vst : Int) (w : World) (hi : tIm.els w (· < w.heap.size) Ai [im]) (hn : ni = 1) :
    Calls Try.prog 10 #[.pointer (some ⟨p, 0, none⟩), .agg #[.slice At nt ct, .slice Ai ni ci, .slice Af nf cf, .slice Ata nta cta, .slice Am nm cm, .slice Ag ng cg, .slice Ae ne ce, .bool bst, .int .i64 vst, .slice Ael nel cel, .slice Ad nd cd, .slice Ac nc cc], .slice none 0 0] w fun e w' => e = .returned (.tuple #[.slice none 0 0, .int .i64 0, .int .i64 25]) ∧ Fr No w w' := by
  subst hn
  have F0 := hid ((Fr.refl No w).alloc (.cells #[.slice At nt ct, .slice Ai 1 ci, .slice Af nf cf, .slice Ata nta cta, .slice Am nm cm, .slice Ag ng cg, .slice Ae ne ce, .bool bst, .int .i64 vst, .slice Ael nel cel, .slice Ad nd cd, .slice Ac nc cc] 63))
  have G0 := hid (Blk.new w 63 #[.slice At nt ct, .slice Ai 1 ci, .slice Af nf cf, .slice Ata nta cta, .slice Am nm cm, .slice Ag ng cg, .slice Ae ne ce, .bool bst, .int .i64 vst, .slice Ael nel cel, .slice Ad nd cd, .slice Ac nc cc])
  have E0 := hid (hi.fr F0.out (fun k hk => ⟨hk, fun x => x⟩))
  clear hi
  go_enter Try.func10, Try.ntmps10
  go_wp2_with fail
  generalize w.alloc (.cells #[.slice At nt ct, .slice Ai 1 ci, .slice Af nf cf, .slice Ata nta cta, .slice Am nm cm, .slice Ag ng cg, .slice Ae ne ce, .bool bst, .int .i64 vst, .slice Ael nel cel, .slice Ad nd cd, .slice Ac nc cc] 63) = W at *
  go_loopw [18] (fun i wr => i = .int .i64 0 ∧ wr = W) (fun _ _ => 0)
  case atStart => exact ⟨rfl, rfl⟩
  case round =>
    obtain ⟨rfl, rfl⟩ := hrel
    obtain ⟨b, o, rfl, hb, y0, y1, y2, y3, y4, y5, y6, y7, y8, y9, y10, y11, y12, -⟩ := Im_at E0.out 0 (by simp)
    simp only [List.getElem_cons_zero, Nat.zero_mul, Nat.add_zero] at y0 y1 y2 y3 y4 y5 y6 y7 y8 y9 y10 y11 y12
    have F1 := hid (F0.out.alloc (.cells #[.string im.mod, .string im.name, .int .i64 im.kind, .int .i64 im.func, .int .i64 im.table.elem, .int .i64 im.table.lim.min, .int .i64 im.table.lim.max, .bool im.table.lim.has, .int .i64 im.mem.min, .int .i64 im.mem.max, .bool im.mem.has, .int .i64 im.glob.val, .bool im.glob.mut_] 47))
    have HF := hid (find_any [] none 0 im.mod im.name (wr.alloc (.cells #[.string im.mod, .string im.name, .int .i64 im.kind, .int .i64 im.func, .int .i64 im.table.elem, .int .i64 im.table.lim.min, .int .i64 im.table.lim.max, .bool im.table.lim.has, .int .i64 im.mem.min, .int .i64 im.mem.max, .bool im.mem.has, .int .i64 im.glob.val, .bool im.glob.mut_] 47)) (by decide) (.inl rfl))
    go_wp2_with fail
    refine HF.out.mono ?_
    rintro e w1 ⟨rfl, f1⟩
    have F2 := hid (F1.out.trans f1 (fun _ _ h => h))
    clear HF f1 F0 F1 G0 E0 y0 y1 y2 y3 y4 y5 y6 y7 y8 y9 y10 y11 y12
    rw [lastF_nil]
    have F3 := hid (F2.out.alloc (.cells #[.int .i64 0, .int .i64 0] 26))
    go_wp2
    go_ret3
    exact ⟨rfl, F3.out⟩
end Go.Proofs.Ythggdemiddjlgaa

namespace Go.Proofs.Ythggdemiddjlgaa
open Go.RowKit

theorem lel {α : Type} {t : Ty α} [TyOk t] [TyMore t] {w : World} {q : Nat} {e : TypeId} {css : List (List Value)} {xs : List α} (hb : Blk w q e css.flatten.toArray) (h : Css t w (· < w.heap.size) css xs) (hm : xs.length ≤ maxLen) : t.els w (· < w.heap.size) (some ⟨q, 0, none⟩) xs :=
  Ty.row.els' (Ty.row.lit (base := 0) hb (Nat.zero_le _) h hm) (fun _ h => h) (fun g hg => by
    have : q = g := by simpa [Value.ownBlock] using hg
    subst this
    exact hb.lt)
def kX1 : Rx := ⟨[], [], [], [], [], [], [⟨⟨1, true⟩, ⟨1, 0⟩⟩], [], [], []⟩
def kX2 : Rx := ⟨[], [], [], [], [], [⟨⟨1, 3, true⟩, List.replicate 256 0⟩], [⟨⟨1, true⟩, ⟨1, 0⟩⟩], [], [], []⟩
theorem k_may : mayB [] = true := by decide +kernel
theorem k_g : addGS (sto0 []) ⟨1, true⟩ ⟨1, 0⟩ = (kX1, 0) := by kernel_rfl
theorem k_m : addMS kX1 ⟨1, 3, true⟩ = (kX2, 0) := by kernel_rfl
def kIm : Im := ⟨⟨#[109]⟩, ⟨#[103]⟩, 3, 0, ⟨0, ⟨0, 0, false⟩⟩, ⟨0, 0, false⟩, ⟨1, false⟩⟩
def kMe : Im := ⟨⟨#[]⟩, ⟨#[]⟩, 2, 0, ⟨0, ⟨0, 0, false⟩⟩, ⟨1, 2, true⟩, ⟨0, false⟩⟩
def kSo : Im := ⟨⟨#[]⟩, ⟨#[]⟩, 2, 0, ⟨0, ⟨0, 0, false⟩⟩, ⟨1, 0, false⟩, ⟨0, false⟩⟩
theorem k_1 : thGlob kX2 kIm.glob 0 = 26 := by kernel_rfl
theorem k_2 : thMem kX2 kMe.mem 0 = 26 := by kernel_rfl
theorem k_3 : thMem kX2 kSo.mem 0 = 0 := by kernel_rfl
theorem k_mb : ∀ m ∈ kX2.mems, m.b.length ≤ 1000000 := by intro m hm; rw [List.mem_singleton.1 hm]; show (List.replicate 256 (0 : Int)).length ≤ 1000000; rw [List.length_replicate]; omega
def kG1 : Gv := ⟨⟨#[109]⟩, ⟨#[102]⟩, ⟨0, 0⟩⟩
def kG2 : Gv := ⟨⟨#[109]⟩, ⟨#[102]⟩, ⟨0, 5⟩⟩
theorem k_f : lastF ⟨#[109]⟩ ⟨#[102]⟩ [kG1, kG2] = (⟨0, 5⟩, true) := by kernel_rfl
set_option maxRecDepth 100000 in
set_option maxHeartbeats 6400000 in
theorem alive32_any (w : World) : Calls Try.prog 4 #[] w fun e w' => e = .returned (.bool true) ∧ Fr No w w' := by
  go_enter Try.func4, Try.ntmps4
  go_wp2_with fail
  refine (newS_any none 0 [] (· < w.heap.size) w (.inl rfl) (fun _ h => h) (by decide) (by intro h hh; cases hh)).mono ?_
  rintro e w1 hN
  unfold NewSTo at hN
  rw [k_may] at hN
  obtain ⟨V, rfl, h1, h2, f1⟩ := hN
  have F1 := hid f1
  have LO := hid h2
  have K1 := hid h1
  clear h1 h2 f1
  go_wp2_with fail
  have HC := addGlobal_any K1.out ⟨1, true⟩ ⟨1, 0⟩ rfl rfl rfl (by decide)
  rw [k_g] at HC
  refine HC.mono ?_
  rintro e w2 ⟨V2, R2, rfl, k2, g2⟩
  have K2 := hid k2
  have G2 := hid g2
  clear HC k2 g2 K1
  go_wp2_with fail
  have HC := addMem_any K2.out ⟨1, 3, true⟩ (by decide)
  rw [k_m, G2.out.P] at HC
  refine HC.mono ?_
  rintro e w3 ⟨V3, R3, rfl, k2, g2⟩
  have K3 := hid k2
  have G3 := hid (G2.out.trans g2)
  have F3 := hid (Fr.trans F1.out G3.out.fr (fun i hi o => by have := LO.out i o; omega))
  clear HC k2 g2 K2 G2
  go_wp2_with fail
  have f4 := ((((Fr.refl No w3).alloc (.cells #[.string ⟨#[109]⟩, .string ⟨#[103]⟩, .int .i64 3, .int .i64 0, .int .i64 0, .int .i64 0, .int .i64 0, .bool false, .int .i64 0, .int .i64 0, .bool false, .int .i64 1, .bool false] 47)).alloc (.cells #[.string ⟨#[]⟩, .string ⟨#[]⟩, .int .i64 2, .int .i64 0, .int .i64 0, .int .i64 0, .int .i64 0, .bool false, .int .i64 1, .int .i64 2, .bool true, .int .i64 0, .bool false] 47)).alloc (.cells #[.string ⟨#[]⟩, .string ⟨#[]⟩, .int .i64 2, .int .i64 0, .int .i64 0, .int .i64 0, .int .i64 0, .bool false, .int .i64 1, .int .i64 0, .bool false, .int .i64 0, .bool false] 47)).alloc (.cells #[.string ⟨#[109]⟩, .string ⟨#[102]⟩, .int .i64 0, .int .i64 0, .string ⟨#[109]⟩, .string ⟨#[102]⟩, .int .i64 0, .int .i64 5] 30)
  have B0 := (((Blk.new w3 47 #[.string ⟨#[109]⟩, .string ⟨#[103]⟩, .int .i64 3, .int .i64 0, .int .i64 0, .int .i64 0, .int .i64 0, .bool false, .int .i64 0, .int .i64 0, .bool false, .int .i64 1, .bool false]).alloc (.cells #[.string ⟨#[]⟩, .string ⟨#[]⟩, .int .i64 2, .int .i64 0, .int .i64 0, .int .i64 0, .int .i64 0, .bool false, .int .i64 1, .int .i64 2, .bool true, .int .i64 0, .bool false] 47)).alloc (.cells #[.string ⟨#[]⟩, .string ⟨#[]⟩, .int .i64 2, .int .i64 0, .int .i64 0, .int .i64 0, .int .i64 0, .bool false, .int .i64 1, .int .i64 0, .bool false, .int .i64 0, .bool false] 47)).alloc (.cells #[.string ⟨#[109]⟩, .string ⟨#[102]⟩, .int .i64 0, .int .i64 0, .string ⟨#[109]⟩, .string ⟨#[102]⟩, .int .i64 0, .int .i64 5] 30)
  have B1 := ((Blk.new (w3.alloc (.cells #[.string ⟨#[109]⟩, .string ⟨#[103]⟩, .int .i64 3, .int .i64 0, .int .i64 0, .int .i64 0, .int .i64 0, .bool false, .int .i64 0, .int .i64 0, .bool false, .int .i64 1, .bool false] 47)) 47 #[.string ⟨#[]⟩, .string ⟨#[]⟩, .int .i64 2, .int .i64 0, .int .i64 0, .int .i64 0, .int .i64 0, .bool false, .int .i64 1, .int .i64 2, .bool true, .int .i64 0, .bool false]).alloc (.cells #[.string ⟨#[]⟩, .string ⟨#[]⟩, .int .i64 2, .int .i64 0, .int .i64 0, .int .i64 0, .int .i64 0, .bool false, .int .i64 1, .int .i64 0, .bool false, .int .i64 0, .bool false] 47)).alloc (.cells #[.string ⟨#[109]⟩, .string ⟨#[102]⟩, .int .i64 0, .int .i64 0, .string ⟨#[109]⟩, .string ⟨#[102]⟩, .int .i64 0, .int .i64 5] 30)
  have B2 := (Blk.new ((w3.alloc (.cells #[.string ⟨#[109]⟩, .string ⟨#[103]⟩, .int .i64 3, .int .i64 0, .int .i64 0, .int .i64 0, .int .i64 0, .bool false, .int .i64 0, .int .i64 0, .bool false, .int .i64 1, .bool false] 47)).alloc (.cells #[.string ⟨#[]⟩, .string ⟨#[]⟩, .int .i64 2, .int .i64 0, .int .i64 0, .int .i64 0, .int .i64 0, .bool false, .int .i64 1, .int .i64 2, .bool true, .int .i64 0, .bool false] 47)) 47 #[.string ⟨#[]⟩, .string ⟨#[]⟩, .int .i64 2, .int .i64 0, .int .i64 0, .int .i64 0, .int .i64 0, .bool false, .int .i64 1, .int .i64 0, .bool false, .int .i64 0, .bool false]).alloc (.cells #[.string ⟨#[109]⟩, .string ⟨#[102]⟩, .int .i64 0, .int .i64 0, .string ⟨#[109]⟩, .string ⟨#[102]⟩, .int .i64 0, .int .i64 5] 30)
  have B3 := Blk.new (((w3.alloc (.cells #[.string ⟨#[109]⟩, .string ⟨#[103]⟩, .int .i64 3, .int .i64 0, .int .i64 0, .int .i64 0, .int .i64 0, .bool false, .int .i64 0, .int .i64 0, .bool false, .int .i64 1, .bool false] 47)).alloc (.cells #[.string ⟨#[]⟩, .string ⟨#[]⟩, .int .i64 2, .int .i64 0, .int .i64 0, .int .i64 0, .int .i64 0, .bool false, .int .i64 1, .int .i64 2, .bool true, .int .i64 0, .bool false] 47)).alloc (.cells #[.string ⟨#[]⟩, .string ⟨#[]⟩, .int .i64 2, .int .i64 0, .int .i64 0, .int .i64 0, .int .i64 0, .bool false, .int .i64 1, .int .i64 0, .bool false, .int .i64 0, .bool false] 47)) 30 #[.string ⟨#[109]⟩, .string ⟨#[102]⟩, .int .i64 0, .int .i64 0, .string ⟨#[109]⟩, .string ⟨#[102]⟩, .int .i64 0, .int .i64 5]
  simp only [World.size_alloc] at B1 B2 B3
  generalize (((w3.alloc (.cells #[.string ⟨#[109]⟩, .string ⟨#[103]⟩, .int .i64 3, .int .i64 0, .int .i64 0, .int .i64 0, .int .i64 0, .bool false, .int .i64 0, .int .i64 0, .bool false, .int .i64 1, .bool false] 47)).alloc (.cells #[.string ⟨#[]⟩, .string ⟨#[]⟩, .int .i64 2, .int .i64 0, .int .i64 0, .int .i64 0, .int .i64 0, .bool false, .int .i64 1, .int .i64 2, .bool true, .int .i64 0, .bool false] 47)).alloc (.cells #[.string ⟨#[]⟩, .string ⟨#[]⟩, .int .i64 2, .int .i64 0, .int .i64 0, .int .i64 0, .int .i64 0, .bool false, .int .i64 1, .int .i64 0, .bool false, .int .i64 0, .bool false] 47)).alloc (.cells #[.string ⟨#[109]⟩, .string ⟨#[102]⟩, .int .i64 0, .int .i64 0, .string ⟨#[109]⟩, .string ⟨#[102]⟩, .int .i64 0, .int .i64 5] 30) = W4 at *
  have EG : tGv.els W4 (· < W4.heap.size) (some ⟨w3.heap.size + 1 + 1 + 1, 0, none⟩) [kG1, kG2] :=
    lel (css := [[.string ⟨#[109]⟩, .string ⟨#[102]⟩, .int .i64 0, .int .i64 0], [.string ⟨#[109]⟩, .string ⟨#[102]⟩, .int .i64 0, .int .i64 5]]) B3 (Css.two (Gv_mk (a := kG1) (by decide) (by decide) rfl rfl) (Gv_mk (a := kG2) (by decide) (by decide) rfl rfl)) (by decide)
  have HC := find_any [kG1, kG2] (some ⟨w3.heap.size + 1 + 1 + 1, 0, none⟩) 2 ⟨#[109]⟩ ⟨#[102]⟩ W4 (by decide) EG
  rw [k_f] at HC
  refine HC.mono ?_
  rintro e w5 ⟨rfl, f5⟩
  have B5 := Blk.new w5 26 #[.int .i64 0, .int .i64 5]
  have f6 := (f4.trans f5 (fun _ _ h => h)).alloc (.cells #[.int .i64 0, .int .i64 5] 26)
  have C0 := hid ((B0.fr f5 (fun x => x)).alloc (.cells #[.int .i64 0, .int .i64 5] 26))
  have C1 := hid ((B1.fr f5 (fun x => x)).alloc (.cells #[.int .i64 0, .int .i64 5] 26))
  have C2 := hid ((B2.fr f5 (fun x => x)).alloc (.cells #[.int .i64 0, .int .i64 5] 26))
  have C3 := hid B5
  have F6 := hid (F3.out.trans f6 (fun _ _ h => h))
  have K6 := hid (K3.out.frNo f6)
  clear HC f4 B0 B1 B2 B3 B5 EG f5 f6 F3 K3 F1
  have z0 := C0.out.cell 0
  have z1 := C0.out.cell 1
  have z2 := C0.out.cell 2
  have z3 := C0.out.cell 3
  have z4 := C0.out.cell 4
  have z5 := C0.out.cell 5
  have z6 := C0.out.cell 6
  have z7 := C0.out.cell 7
  have z8 := C0.out.cell 8
  have z9 := C0.out.cell 9
  have z10 := C0.out.cell 10
  have z11 := C0.out.cell 11
  have z12 := C0.out.cell 12
  go_upto_region 9 with fail
  generalize w5.alloc (.cells #[.int .i64 0, .int .i64 5] 26) = W6 at *
  go_wp2_with fail
  have HB := hid (Blk.new W6 47 #[.string ⟨#[109]⟩, .string ⟨#[103]⟩, .int .i64 3, .int .i64 0, .int .i64 0, .int .i64 0, .int .i64 0, .bool false, .int .i64 0, .int .i64 0, .bool false, .int .i64 1, .bool false])
  have F7 := hid ((Fr.refl No W6).alloc (.cells #[.string ⟨#[109]⟩, .string ⟨#[103]⟩, .int .i64 3, .int .i64 0, .int .i64 0, .int .i64 0, .int .i64 0, .bool false, .int .i64 0, .int .i64 0, .bool false, .int .i64 1, .bool false] 47))
  have EI := hid (lel (css := [[.string ⟨#[109]⟩, .string ⟨#[103]⟩, .int .i64 3, .int .i64 0, .int .i64 0, .int .i64 0, .int .i64 0, .bool false, .int .i64 0, .int .i64 0, .bool false, .int .i64 1, .bool false]]) HB.out (Css.one (Im_mk (a := kIm) (by decide) (by decide) rfl rfl rfl rfl rfl rfl rfl rfl)) (by decide))
  refine Calls.mono (resolve0_any V.P kIm _ _ _ _ _ _ _ _ _ _ _ _ _ _ _ _ _ _ _ _ _ _ _ _ _ _ _ _ _ _ _ _ _ EI.out rfl) ?_
  rintro e w7 ⟨rfl, f7⟩
  have F8 := hid (F7.out.trans f7 (fun _ _ h => h))
  have HPV : V3.P = V.P := G3.out.P
  clear f7 F7 HB EI
  clear z0 z1 z2 z3 z4 z5 z6 z7 z8 z9 z10 z11 z12
  have z0 := (C0.out.fr F8.out (fun x => x)).cell 0
  have z1 := (C0.out.fr F8.out (fun x => x)).cell 1
  have z2 := (C0.out.fr F8.out (fun x => x)).cell 2
  have z3 := (C0.out.fr F8.out (fun x => x)).cell 3
  have z4 := (C0.out.fr F8.out (fun x => x)).cell 4
  have z5 := (C0.out.fr F8.out (fun x => x)).cell 5
  have z6 := (C0.out.fr F8.out (fun x => x)).cell 6
  have z7 := (C0.out.fr F8.out (fun x => x)).cell 7
  have z8 := (C0.out.fr F8.out (fun x => x)).cell 8
  have z9 := (C0.out.fr F8.out (fun x => x)).cell 9
  have z10 := (C0.out.fr F8.out (fun x => x)).cell 10
  have z11 := (C0.out.fr F8.out (fun x => x)).cell 11
  have z12 := (C0.out.fr F8.out (fun x => x)).cell 12
  go_wp2_with fail
  rw [← HPV]
  refine Calls.mono (checkT_any V3.P kIm _ _ _ _ _ _ _ _ _ _ _ _ _ _ _ _ _ _ _ _ _ _ _ _ _ _ _ _ _ _ _ _ 0 26 w7 ⟨by decide, by decide⟩ (fun X f => by
    have := thingG_any (K6.out.frNo (F8.out.trans f (fun _ _ h => h))) kIm 0 (by decide) rfl rfl
    rw [k_1] at this
    exact this)) ?_
  rintro e w8 ⟨rfl, f8⟩
  have F9 := hid (F8.out.trans f8 (fun _ _ h => h))
  clear f8
  clear z0 z1 z2 z3 z4 z5 z6 z7 z8 z9 z10 z11 z12
  have z0 := (C1.out.fr F9.out (fun x => x)).cell 0
  have z1 := (C1.out.fr F9.out (fun x => x)).cell 1
  have z2 := (C1.out.fr F9.out (fun x => x)).cell 2
  have z3 := (C1.out.fr F9.out (fun x => x)).cell 3
  have z4 := (C1.out.fr F9.out (fun x => x)).cell 4
  have z5 := (C1.out.fr F9.out (fun x => x)).cell 5
  have z6 := (C1.out.fr F9.out (fun x => x)).cell 6
  have z7 := (C1.out.fr F9.out (fun x => x)).cell 7
  have z8 := (C1.out.fr F9.out (fun x => x)).cell 8
  have z9 := (C1.out.fr F9.out (fun x => x)).cell 9
  have z10 := (C1.out.fr F9.out (fun x => x)).cell 10
  have z11 := (C1.out.fr F9.out (fun x => x)).cell 11
  have z12 := (C1.out.fr F9.out (fun x => x)).cell 12
  rw [HPV]
  go_wp2_with fail
  rw [← HPV]
  refine Calls.mono (checkT_any V3.P kMe _ _ _ _ _ _ _ _ _ _ _ _ _ _ _ _ _ _ _ _ _ _ _ _ _ _ _ _ _ _ _ _ 0 26 w8 ⟨by decide, by decide⟩ (fun X f => by
    have := thingM_any (K6.out.frNo (F9.out.trans f (fun _ _ h => h))) kMe 0 (by decide) k_mb rfl rfl
    rw [k_2] at this
    exact this)) ?_
  rintro e w9 ⟨rfl, f9⟩
  have F10 := hid (F9.out.trans f9 (fun _ _ h => h))
  clear f9
  clear z0 z1 z2 z3 z4 z5 z6 z7 z8 z9 z10 z11 z12
  have z0 := (C2.out.fr F10.out (fun x => x)).cell 0
  have z1 := (C2.out.fr F10.out (fun x => x)).cell 1
  have z2 := (C2.out.fr F10.out (fun x => x)).cell 2
  have z3 := (C2.out.fr F10.out (fun x => x)).cell 3
  have z4 := (C2.out.fr F10.out (fun x => x)).cell 4
  have z5 := (C2.out.fr F10.out (fun x => x)).cell 5
  have z6 := (C2.out.fr F10.out (fun x => x)).cell 6
  have z7 := (C2.out.fr F10.out (fun x => x)).cell 7
  have z8 := (C2.out.fr F10.out (fun x => x)).cell 8
  have z9 := (C2.out.fr F10.out (fun x => x)).cell 9
  have z10 := (C2.out.fr F10.out (fun x => x)).cell 10
  have z11 := (C2.out.fr F10.out (fun x => x)).cell 11
  have z12 := (C2.out.fr F10.out (fun x => x)).cell 12
  rw [HPV]
  go_wp2_with fail
  rw [← HPV]
  refine Calls.mono (checkT_any V3.P kSo _ _ _ _ _ _ _ _ _ _ _ _ _ _ _ _ _ _ _ _ _ _ _ _ _ _ _ _ _ _ _ _ 0 0 w9 ⟨by decide, by decide⟩ (fun X f => by
    have := thingM_any (K6.out.frNo (F10.out.trans f (fun _ _ h => h))) kSo 0 (by decide) k_mb rfl rfl
    rw [k_3] at this
    exact this)) ?_
  rintro e w10 ⟨rfl, f10⟩
  have F11 := hid (F10.out.trans f10 (fun _ _ h => h))
  clear f10
  clear z0 z1 z2 z3 z4 z5 z6 z7 z8 z9 z10 z11 z12
  have z0 := (C3.out.fr F11.out (fun x => x)).cell 0
  have z1 := (C3.out.fr F11.out (fun x => x)).cell 1
  have FE := hid (F6.out.trans F11.out (fun _ _ h => h))
  go_wp2
  go_ret
  exact ⟨rfl, FE.out⟩
end Go.Proofs.Ythggdemiddjlgaa

namespace Go.Proofs.Ythggdemiddjlgaa
open Go.RowKit

instance : TyFlat tEt := by unfold tEt tEt0; infer_instance
instance : TyFlat tGv := by unfold tGv tGv0; infer_instance
theorem elGv : ElemOk Try.prog 22 30 4 48 (.agg #[.string ⟨#[]⟩, .string ⟨#[]⟩, .int .i64 0, .int .i64 0]) := ElemOk.mk' Try.underlying22 (by kernel_rfl) rfl (by decide)
set_option maxRecDepth 100000 in
theorem run_eq_et (a b c d : Int) (w : World) : (Op.equalIn 10000 26 (.agg #[.int .i64 a, .int .i64 b]) (.agg #[.int .i64 c, .int .i64 d])).run Try.prog w = .ok (a == c && (b == d && true)) w :=
  eq_st (by kernel_rfl) (by kernel_rfl) (eqf_cons (by decide) (run_part1 (isAgg_int Try.underlying24) rfl) (run_part1 (isAgg_int Try.underlying24) rfl) (run_equalIn_int w 9998 _ _ _ _ _ Try.underlying24)
    (eqf_cons (by decide) (run_part1 (isAgg_int Try.underlying3) rfl) (run_part1 (isAgg_int Try.underlying3) rfl) (run_equalIn_int w 9998 _ _ _ _ _ Try.underlying3) eqf_nil))
set_option maxRecDepth 100000 in
set_option maxHeartbeats 3200000 in
theorem linkFinds_big (w : World) (xs : List Gv) (A : Option Addr) (c : Nat) (md nm : ByteArray) (hl : 60 < xs.length) :
    Calls Try.prog 3 #[.slice A xs.length c, .string md, .string nm] w fun e w' => e = .returned (.bool true) ∧ Fr No w w' := by
  have d1 : decide (60 < (xs.length : Int)) = true := by simp; omega
  have HA := hid (alive32_any w)
  clear hl
  go_enter Try.func3, Try.ntmps3
  go_wp2_with fail
  refine HA.out.mono ?_
  rintro e w1 ⟨rfl, f1⟩
  have F1 := hid f1
  clear f1 HA
  go_wp2
  go_ret
  exact ⟨rfl, F1.out⟩
set_option maxRecDepth 100000 in
set_option maxHeartbeats 6400000 in
theorem linkFinds_small (w : World) (xs : List Gv) (A : Option Addr) (c : Nat) (md nm : ByteArray) (hl : xs.length ≤ 60) (hE : tGv.els w (· < w.heap.size) A xs) (b1 : md.size ≤ maxLen) (b2 : nm.size ≤ maxLen) :
    Calls Try.prog 3 #[.slice A xs.length c, .string md, .string nm] w fun e w' => e = .returned (.bool true) ∧ Fr No w w' := by
  have d1 : decide (60 < (xs.length : Int)) = false := by simp; omega
  have HB := hid (And.intro b1 b2)
  obtain ⟨css, hcs, hrd⟩ := els_flat hE (B := w.heap.size) (fun _ h => h)
  have HC := hid (And.intro hcs hrd)
  have HE := hid hE
  have HL := hid hl
  obtain ⟨y, hy⟩ : ∃ y, y = lastF md nm xs := ⟨_, rfl⟩
  have HY := hid hy
  clear hcs hrd hE b1 b2 hy
  have HF := hid (find_any xs A c md nm w (by omega) HE.out)
  rw [← HY.out] at HF
  go_enter Try.func3, Try.ntmps3
  go_wp2_with fail
  refine HF.out.mono ?_
  rintro e w1 ⟨rfl, f1⟩
  have F1 := hid (f1.alloc (.cells #[.int .i64 y.1.kind, .int .i64 y.1.addr] 26))
  have G1 := hid (Blk.new w1 26 #[.int .i64 y.1.kind, .int .i64 y.1.addr])
  clear HF f1
  go_upto_region 4 with fail
  generalize w1.alloc (.cells #[.int .i64 y.1.kind, .int .i64 y.1.addr] 26) = W1 at *
  have HF := hid (rfind_any xs A c md nm W1 (by omega) ((HE.out.fr F1.out (fun k hk => ⟨hk, fun x => x⟩)).more (fun k hk => Nat.lt_of_lt_of_le hk F1.out.size)))
  rw [← HY.out] at HF
  go_wp2_with fail
  refine HF.out.mono ?_
  rintro e w2 ⟨rfl, f2⟩
  have F2 := hid (F1.out.trans (f2.alloc (.cells #[.int .i64 y.1.kind, .int .i64 y.1.addr] 26)) (fun _ _ h => h))
  have G2 := hid ((G1.out.fr f2 (fun x => x)).alloc (.cells #[.int .i64 y.1.kind, .int .i64 y.1.addr] 26))
  have G3 := hid (Blk.new w2 26 #[.int .i64 y.1.kind, .int .i64 y.1.addr])
  clear HF f2 F1 G1
  go_upto_region 5 with fail
  generalize w2.alloc (.cells #[.int .i64 y.1.kind, .int .i64 y.1.addr] 26) = W2 at *
  generalize w1.heap.size = p1 at *
  generalize w2.heap.size = p2 at *
  have F3 := hid ((Fr.refl No W2).alloc (.cells #[] 30))
  have R3 := hid (Ty.row.lit (t := tGv) (S := Emp) (base := W2.heap.size) (css := []) (xs := []) (Blk.new W2 30 #[]) (Nat.le_refl _) Css.nil (by decide))
  go_upto_region 6 with (first
    | (at_builtin; refine wpList_appC (t := tGv) (P := Try.prog) (base := W2.heap.size) (S := Emp) (xs := []) (ys := xs) (dss := css) (B2 := w.heap.size) elGv rfl rfl rfl rfl R3.out (HC.out.1 _ _) ((HC.out.2.frNo F2.out).frNo F3.out) rfl (by have := HL.out; simp; omega) (by have := HL.out; simp; omega) (fun _ h => h.elim) F3.out.size ?_; intro v1 w3 hr1 fr1 hv1; have R4 := hid hr1; have F4 := hid (own_frame R3.out F3.out fr1 (Nat.le_refl _)); clear hr1 fr1 hv1 R3)
    | (at_builtin; refine wpList_appC (t := tGv) (P := Try.prog) (base := W2.heap.size) (S := Emp) (xs := [] ++ xs) (ys := [⟨md, nm, ⟨2, 7⟩⟩]) (dss := [[.string md, .string nm, .int .i64 2, .int .i64 7]]) (B2 := w3.heap.size + 1) elGv rfl rfl rfl rfl (R4.out.fr ((Fr.refl No w3).alloc (.cells #[.string md, .string nm, .int .i64 2, .int .i64 7] 30)) (fun _ h => h.elim) (fun _ _ x => x)) (Css.one (Gv_mk (a := ⟨md, nm, ⟨2, 7⟩⟩) HB.out.1 HB.out.2 rfl rfl)) (rd_lit w3 [.string md, .string nm, .int .i64 2, .int .i64 7] 30) rfl (by have := HL.out; simp; omega) (by have := HL.out; simp; omega) (fun _ h => h.elim) (by have := F4.out.size; simp; omega) ?_; intro v2 w4 hr1 fr1 hv1; have R5 := hid hr1; have F5 := hid (own_frame (R4.out.fr ((Fr.refl No w3).alloc (.cells #[.string md, .string nm, .int .i64 2, .int .i64 7] 30)) (fun _ h => h.elim) (fun _ _ x => x)) (F4.out.alloc (.cells #[.string md, .string nm, .int .i64 2, .int .i64 7] 30)) fr1 (Nat.le_refl _)); clear hr1 fr1 hv1)
    | fail)
  have hl5 : ([] ++ xs ++ [(⟨md, nm, ⟨2, 7⟩⟩ : Gv)]).length = xs.length + 1 := by simp
  obtain ⟨A5, c5, e5, l5, l6, E5⟩ := R5.out.els (S' := (· < w4.heap.size)) (fun _ h => h.elim) (fun g hg => by obtain ⟨_, cs, hb⟩ := R5.out.own hg; exact hb.lt)
  rw [hl5] at e5
  subst e5
  have F6 := hid (F2.out.trans F5.out (fun _ _ h => h))
  have K1 := hid (G2.out.fr F5.out (fun x => x))
  have K2 := hid (G3.out.fr F5.out (fun x => x))
  have E5 := hid E5
  have hl6 := HL.out
  have HF := hid (find_any ([] ++ xs ++ [(⟨md, nm, ⟨2, 7⟩⟩ : Gv)]) A5 c5 md nm w4 (by rw [hl5]; omega) E5.out)
  rw [hl5] at HF
  rw [List.nil_append, lastF_app (gvAt_self md nm ⟨2, 7⟩)] at HF
  clear R4 R5 F3 F4 F5 E5 l5 l6 G2 G3 F2 hl5
  go_wp2_with fail
  refine HF.out.mono ?_
  rintro e w5 ⟨rfl, f5⟩
  have F7 := hid ((F6.out.trans f5 (fun _ _ h => h)).alloc (.cells #[.int .i64 2, .int .i64 7] 26))
  have K3 := hid ((K1.out.fr f5 (fun x => x)).alloc (.cells #[.int .i64 2, .int .i64 7] 26))
  have K4 := hid ((K2.out.fr f5 (fun x => x)).alloc (.cells #[.int .i64 2, .int .i64 7] 26))
  have K5 := hid (Blk.new w5 26 #[.int .i64 2, .int .i64 7])
  clear HF f5 F6 K1 K2
  go_upto_region 7 with fail
  generalize w5.alloc (.cells #[.int .i64 2, .int .i64 7] 26) = W5 at *
  generalize w5.heap.size = p5 at *
  have z0 := K3.out.cell 0
  have z1 := K3.out.cell 1
  have z2 := K4.out.cell 0
  have z3 := K4.out.cell 1
  have z4 := K5.out.cell 0
  have z5 := K5.out.cell 1
  have he1 := run_eq_et y.1.kind y.1.addr y.1.kind y.1.addr
  have he2 := run_eq_et 2 7 2 7
  have HA := hid (alive32_any W5)
  go_wp2_with fail
  refine HA.out.mono ?_
  rintro e w6 ⟨rfl, f6⟩
  have F8 := hid (F7.out.trans f6 (fun _ _ h => h))
  go_wp2
  go_ret
  exact ⟨rfl, F8.out⟩
theorem linkFinds_walk (w : World) (v0 v1 v2 : Value) (x0 : List Gv) (x1 x2 : ByteArray) (y0 : tGv.slice.rd w (· < w.heap.size) v0.cells.toList x0) (y1 : Ty.str.rd w (· < w.heap.size) v1.cells.toList x1) (y2 : Ty.str.rd w (· < w.heap.size) v2.cells.toList x2)
    (_ : tGv.slice.lw 140737488351232 x0) (_ : Ty.str.lw 140737488351232 x1) (_ : Ty.str.lw 140737488351232 x2) (hv0 : ∃ A l c, v0 = .slice A l c) (hv1 : ∃ s, v1 = .string s) (hv2 : ∃ s, v2 = .string s) :
    Calls Try.prog 3 #[v0, v1, v2] w fun e w' => e = .returned (.bool true) ∧ Below w.heap.size w w' := by
  obtain ⟨A, l, c, rfl⟩ := hv0
  obtain ⟨s1, rfl⟩ := hv1
  obtain ⟨s2, rfl⟩ := hv2
  obtain ⟨A', c', e, _, _, h0⟩ := y0
  obtain ⟨e1, b1⟩ := y1
  obtain ⟨e2, b2⟩ := y2
  simp only [Value.cells, List.cons.injEq, and_true, Value.slice.injEq, Value.string.injEq] at e e1 e2
  obtain ⟨rfl, rfl, rfl⟩ := e
  subst e1 e2
  by_cases hl : x0.length ≤ 60
  · exact (linkFinds_small w x0 A c s1 s2 hl h0 b1 b2).mono fun e w' h => ⟨h.1, h.2.below⟩
  · exact (linkFinds_big w x0 A c s1 s2 (by omega)).mono fun e w' h => ⟨h.1, h.2.below⟩
end Go.Proofs.Ythggdemiddjlgaa
