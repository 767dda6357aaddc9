/- Part 6 of the proof: lemmas and contracts of functions. No condition. -/
import Derived.Test.YthggdemiddjlgaaGreatS2
import Derived.Test.YthggdemiddjlgaaGreatS3
import Derived.Test.YthggdemiddjlgaaGreatS5
import Derived.Test.YthggdemiddjlgaaGreatS4
import Derived.Test.YthggdemiddjlgaaGreatS1
set_option maxRecDepth 100000
set_option maxHeartbeats 12800000
set_option linter.unusedVariables false
set_option linter.unusedSimpArgs false
set_option linter.unusedSectionVars false
namespace Go.Proofs.YthggdemiddjlgaaGreat
open Go.RowKit Go.Proofs.Tryz
section
open Go.Shelf
structure Et where
 kind : Int
 addr : Int
def tEt0 : Ty (Int × Int) := (Ty.int .i64).pair ((Ty.int .i64))
def tEt : Ty Et := tEt0.iso fun a => (a.kind, a.addr)
instance : TyOk tEt := by unfold tEt tEt0; infer_instance
instance : TyMore tEt := by unfold tEt tEt0; infer_instance
instance : kAG tEt := by unfold tEt tEt0; infer_instance
theorem kJb : kAL prog 57 tEt := by
 refine kAH _ (fun x => ⟨x.1, x.2⟩) (fun _ => rfl) ?_
 exact kAF underlying57 kr (Flds.cons rfl kr (kAD underlying34) (Flds.one rfl kr (kAD underlying3)))
theorem kHF {w : World} {S : Nat → Prop} {cs : LV} {a : Et} (h : tEt.rd w S cs a) : cs = [.int .i64 a.kind, .int .i64 a.addr] ∧ (Lit.int .i64 a.kind).wf = true ∧ (Lit.int .i64 a.addr).wf = true := by
 obtain ⟨xkind, rkind, rfl, ⟨rfl, wkind⟩, rfl, waddr⟩ := h
 exact ⟨rfl, wkind, waddr⟩
theorem kKC {w : World} {S : Nat → Prop} {a : Et}  (f0 : (Lit.int .i64 a.kind).wf = true) (f1 : (Lit.int .i64 a.addr).wf = true) : tEt.rd w S [.int .i64 a.kind, .int .i64 a.addr] a :=
 ⟨[.int .i64 a.kind], [.int .i64 a.addr], rfl, ⟨rfl, f0⟩, ⟨rfl, f1⟩⟩
theorem kHi {w : World} {S : Nat → Prop} {A : OA} {l : List Et} (h : tEt.els w S A l) (k : Nat) (hk : k < l.length) : ∃ (b o : Nat), A = some ⟨b, o, none⟩ ∧ S b ∧ w.cell? ⟨b, o + k * 2, none⟩ = some (.int .i64 l[k].kind) ∧ w.cell? ⟨b, o + k * 2 + 1, none⟩ = some (.int .i64 l[k].addr) ∧ (Lit.int .i64 l[k].kind).wf = true ∧ (Lit.int .i64 l[k].addr).wf = true := by
 obtain ⟨b, o, ds, rfl, hb, hc, hr⟩ := h.at_ k hk
 obtain ⟨rfl, f0, f1⟩ := kHF hr
 have e : tEt.size = 2 := rfl
 rw [e] at hc
 exact ⟨b, o, rfl, hb, hc 0 _ rfl, (by have := hc 1 _ rfl; rwa [← Nat.add_assoc] at this), f0, f1⟩
structure Gv where
 mod : ByteArray
 name : ByteArray
 what : Et
def tGv0 : Ty (ByteArray × ByteArray × Et) := Ty.str.pair (Ty.str.pair (tEt))
def tGv : Ty Gv := tGv0.iso fun a => (a.mod, a.name, a.what)
instance : TyOk tGv := by unfold tGv tGv0; infer_instance
instance : TyMore tGv := by unfold tGv tGv0; infer_instance
instance : kAG tGv := by unfold tGv tGv0; infer_instance
theorem kKF : kAL prog 94 tGv := by
 refine kAH _ (fun x => ⟨x.1, x.2.1, x.2.2⟩) (fun _ => rfl) ?_
 exact kAF underlying94 kr (Flds.cons rfl kr (kAt underlying9) (Flds.cons rfl kr (kAt underlying9) (Flds.one rfl kr kJb)))
theorem kHD {w : World} {S : Nat → Prop} {cs : LV} {a : Gv} (h : tGv.rd w S cs a) : cs = [.string a.mod, .string a.name, .int .i64 a.what.kind, .int .i64 a.what.addr] ∧ a.mod.size ≤ maxLen ∧ a.name.size ≤ maxLen ∧ (Lit.int .i64 a.what.kind).wf = true ∧ (Lit.int .i64 a.what.addr).wf = true := by
 obtain ⟨xmod, rmod, rfl, ⟨rfl, wmod⟩, xname, rname, rfl, ⟨rfl, wname⟩, hwhat⟩ := h
 obtain ⟨rfl, kwhat0, kwhat1⟩ := kHF hwhat
 exact ⟨rfl, wmod, wname, kwhat0, kwhat1⟩
theorem kDY {w : World} {S : Nat → Prop} {a : Gv}  (f0 : a.mod.size ≤ maxLen) (f1 : a.name.size ≤ maxLen) (f2 : (Lit.int .i64 a.what.kind).wf = true) (f3 : (Lit.int .i64 a.what.addr).wf = true) : tGv.rd w S [.string a.mod, .string a.name, .int .i64 a.what.kind, .int .i64 a.what.addr] a :=
 ⟨[.string a.mod], [.string a.name, .int .i64 a.what.kind, .int .i64 a.what.addr], rfl, ⟨rfl, f0⟩, ⟨[.string a.name], [.int .i64 a.what.kind, .int .i64 a.what.addr], rfl, ⟨rfl, f1⟩, ⟨[.int .i64 a.what.kind], [.int .i64 a.what.addr], rfl, ⟨rfl, f2⟩, ⟨rfl, f3⟩⟩⟩⟩
theorem kFV {w : World} {S : Nat → Prop} {A : OA} {l : List Gv} (h : tGv.els w S A l) (k : Nat) (hk : k < l.length) : ∃ (b o : Nat), A = some ⟨b, o, none⟩ ∧ S b ∧ w.cell? ⟨b, o + k * 4, none⟩ = some (.string l[k].mod) ∧ w.cell? ⟨b, o + k * 4 + 1, none⟩ = some (.string l[k].name) ∧ w.cell? ⟨b, o + k * 4 + 2, none⟩ = some (.int .i64 l[k].what.kind) ∧ w.cell? ⟨b, o + k * 4 + 3, none⟩ = some (.int .i64 l[k].what.addr) ∧ l[k].mod.size ≤ maxLen ∧ l[k].name.size ≤ maxLen ∧ (Lit.int .i64 l[k].what.kind).wf = true ∧ (Lit.int .i64 l[k].what.addr).wf = true := by
 obtain ⟨b, o, ds, rfl, hb, hc, hr⟩ := h.at_ k hk
 obtain ⟨rfl, f0, f1, f2, f3⟩ := kHD hr
 have e : tGv.size = 4 := rfl
 rw [e] at hc
 exact ⟨b, o, rfl, hb, hc 0 _ rfl, (by have := hc 1 _ rfl; rwa [← Nat.add_assoc] at this), (by have := hc 2 _ rfl; rwa [← Nat.add_assoc] at this), (by have := hc 3 _ rfl; rwa [← Nat.add_assoc] at this), f0, f1, f2, f3⟩
def gvAt (m n : ByteArray) (g : Gv) : Bool := g.mod.toList == m.toList && g.name.toList == n.toList
def lastF (m n : ByteArray) (l : List Gv) : Et × Bool := match l.reverse.find? (gvAt m n) with
 | some g => (g.what, true)
 | none => (⟨0, 0⟩, false)
theorem kFo (m n : ByteArray) : lastF m n [] = (⟨0, 0⟩, false) := rfl
theorem kKU {m n : ByteArray} {l : List Gv} {k : Nat} (hk : k < l.length) (h : gvAt m n l[k] = false) : lastF m n (l.take (k + 1)) = lastF m n (l.take k) := by
 exact yy57
theorem kKp {m n : ByteArray} {l : List Gv} {k : Nat} (hk : k < l.length) (h : gvAt m n l[k] = true) : lastF m n (l.take (k + 1)) = (l[k].what, true) := by
 exact yy57
attribute [local go_sem] Oper.semAt_some
def gvc (g : Gv) : Value := .agg #[.string g.mod, .string g.name, .int .i64 g.what.kind, .int .i64 g.what.addr]
theorem kBm {β : Type} (B : Nat) (t : TypeId) (f : β → Array Value) : Go.Own (fun s W => Blk W B t (f s)) := fun s X Y row hs hg hrow =>
 (hg.block B hs.lt (fun e => by obtain ⟨o, ho, hc⟩ := hrow B e.symm; rw [show X.heap[B]? = _ from hs] at ho; cases ho; cases hc)).trans hs
theorem kGr {xs : List Gv} {k : Nat} (h : k < xs.length) : (xs.drop (k + 1)).reverse ++ [xs[k]] = (xs.drop k).reverse := by
 rw [List.drop_eq_getElem_cons h, List.reverse_cons]
theorem kFP (F : Fence) (n : Nat) (hF : F.fn 86) (hro : F.round = none) (hn : 1 ≤ n) (l Bn n₀ : Nat) (A : OA) (c : Nat) (xs : List Gv) (J Jx : List Gv → World → Prop)
    (hY : ∀ pre x W, J pre W → pre.length < xs.length → YieldAt F (n - 1) prog l #[gvc x] W fun e W' =>
     (e = .returned (.bool true) ∧ J (pre ++ [x]) W' ∧ Below n₀ W W') ∨ (e = .returned (.bool false) ∧ Jx (pre ++ [x]) W'))
    (W : World) (hlen : xs.length ≤ 1000000) (hb : Bn < n₀) (hBn : W.cell? ⟨Bn, 0, none⟩ = some (.slice A xs.length c)) (hE : tGv.els W (· < n₀) A xs) (h0 : J [] W) :
    CallsIn F n prog 86 #[.func (.yield l) #[] #[], .pointer (some ⟨Bn, 0, none⟩)] W fun e W' => (∃ v, e = .returned v) ∧
     ((∃ ys, ys = xs.reverse ∧ J ys W') ∨ (∃ pre, pre <+: xs.reverse ∧ Jx pre W')) := by
 refine callsIn_of_wp func86 rfl hF ?_ hro
 simp only [ntmps86, List.size_toArray, List.length_cons, List.length_nil, Nat.reduceAdd, Nat.reduceSub, Array.replicate_succ, Array.replicate_zero, List.push_toArray, List.append_toArray, List.nil_append, List.cons_append]
 gi_wp2
 gi_loopw [3] (fun i wr => ∃ (k : Nat), k ≤ xs.length ∧ i = .int .i64 ((k : Int) - 1) ∧ Hid (Below n₀ W wr) ∧ J (xs.drop k).reverse wr)
  (fun i _ => (intOf i + 1).toNat)
 case atStart => exact ⟨xs.length, nr, rfl, Below.refl _ _, by rw [List.drop_length]; exact h0⟩
 obtain ⟨k, hk, rfl, hB, hJ⟩ := hrel
 have hB' := hB.o
 have HBn := hid ((hB'.cell (p := ⟨Bn, 0, none⟩) hb).trans hBn)
 have HE := hid (hE.keep (w' := wr) (fun p hp => hB'.cell hp))
 clear hBn hE h0 hB'
 cases k with
 | zero =>
  have e0 : ((((0 : Nat) : Int)) - 1) = -1 := rfl
  simp only [e0]
  gi_wp2
  go_end0
  exact ⟨⟨_, rfl⟩, .inl ⟨_, rfl, by simpa using hJ⟩⟩
 | succ k =>
  have e0 : ((((k + 1 : Nat)) : Int) - 1) = (k : Int) := om
  simp only [e0]
  have hkl : k < xs.length := om
  have hJ' : J (xs.drop k.succ).reverse wr := hJ
  obtain ⟨fn, tmps, assign, body, hy, hR⟩ := hY _ xs[k] wr hJ' so
  obtain ⟨b, o, rfl, hbl, y0, y1, y2, y3, -⟩ := kFV HE.o k hkl
  have hbn := HBn.o
  unfold gvc at hy
  gi_wp2
  refine hR.mono ?_
  rw [show (xs.drop k.succ).reverse ++ [xs[k]] = (xs.drop k).reverse from kGr hkl]
  rintro e W3 (⟨rfl, hJ3, hk3⟩ | ⟨rfl, hJx3⟩)
  · gi_wp2
    go_roundw
    case rel => exact ⟨k, by omega, rfl, hB.o.trans hk3, hJ3⟩
    simp [intOf]
  · gi_wp2
    refine bodyPost_ret (results_none rfl _ _ _) rfl ?_
    exact ⟨⟨_, rfl⟩, .inr ⟨_, ⟨(xs.take k).reverse, by rw [← List.reverse_append, List.take_append_drop]⟩, hJx3⟩⟩
theorem kFz (F : Fence) (n : Nat) (hF : F.fn 55) (hro : F.round = none) (A : OA) (m c : Nat) (w : World) :
    CallsIn F n prog 55 #[.slice A m c] w fun e w' => e = .returned (.func (.func 86) #[] #[.pointer (some ⟨w.heap.size, 0, none⟩)]) ∧ w' = w.alloc (.cells #[.slice A m c] 68) := by
 refine callsIn_of_wp func55 rfl hF ?_ hro
 simp only [ntmps55, List.size_toArray, List.length_cons, List.length_nil, Nat.reduceAdd, Nat.reduceSub, Array.replicate_succ, Array.replicate_zero, List.push_toArray, List.append_toArray, List.nil_append, List.cons_append]
 gi_wp2
 go_ret
 exact ⟨rfl, rfl⟩
theorem kDx (F : Fence) (n : Nat) (hF : F.fn 86) (hro : F.round = none) (hn : 1 ≤ n) (Bn n₀ : Nat) (A : OA) (c : Nat) (xs : List Gv) (w : World) (hn₀ : n₀ ≤ w.heap.size) (hlen : xs.length ≤ 1000000) (hb : Bn < n₀)
    (hc : w.cell? ⟨Bn, 0, none⟩ = some (.slice A xs.length c)) (hE : tGv.els w (· < n₀) A xs) :
    SeqStopsK F n prog 86 #[.pointer (some ⟨Bn, 0, none⟩)] (fun x : Gv => #[gvc x]) (Below n₀) (fun ys => ys = xs.reverse) (fun pre => pre <+: xs.reverse) xs.length w := fun l J Jx W hW _ _ hY h0 =>
 kFP F n hF hro hn l Bn n₀ A c xs J Jx hY W hlen hb ((hW.cell (p := ⟨Bn, 0, none⟩) (ltl hb hn₀)).trans hc) (hE.keep (fun p hp => hW.cell (ltl hp hn₀))) h0
structure FdB (m n : ByteArray) (e : Et) (ok : Bool) (p : Nat) (W : World) : Prop where
 b0 : Blk W p 9 #[.string m]
 b1 : Blk W (p + 1) 9 #[.string n]
 b2 : Blk W (p + 1 + 1) 57 #[.int .i64 e.kind, .int .i64 e.addr]
 b3 : Blk W (p + 1 + 1 + 1) 4 #[.bool ok]
theorem kCP {β : Type} (m n : ByteArray) (e : β → Et) (ok : β → Bool) (p : Nat) : Go.Own (fun s W => FdB m n (e s) (ok s) p W) := fun s X Y row hs hg hrow =>
 ⟨kBm _ _ (fun (_ : Unit) => _) () X Y row hs.b0 hg hrow, kBm _ _ (fun (_ : Unit) => _) () X Y row hs.b1 hg hrow, kBm _ _ (fun (_ : Unit) => _) () X Y row hs.b2 hg hrow, kBm _ _ (fun (_ : Unit) => _) () X Y row hs.b3 hg hrow⟩
theorem FdB.alloc {m n : ByteArray} {e : Et} {ok : Bool} {p : Nat} {W : World} (h : FdB m n e ok p W) (o : Obj) : FdB m n e ok p (W.alloc o) := ⟨h.b0.alloc o, h.b1.alloc o, h.b2.alloc o, h.b3.alloc o⟩
def fdS (W : World) (e : Et) (ok : Bool) (p : Nat) : World := ((W.setCell ⟨p + 1 + 1, 0, none⟩ (.int .i64 e.kind)).setCell ⟨p + 1 + 1, 1, none⟩ (.int .i64 e.addr)).setCell ⟨p + 1 + 1 + 1, 0, none⟩ (.bool ok)
theorem FdB.put {m n : ByteArray} {e : Et} {ok : Bool} {p : Nat} {W : World} (h : FdB m n e ok p W) (e' : Et) (ok' : Bool) : FdB m n e' ok' p (fdS W e' ok' p) :=
 ⟨((h.b0.far (p := ⟨p + 1 + 1, 0, none⟩) (by show p ≠ p + 1 + 1; omega) _).far (p := ⟨p + 1 + 1, 1, none⟩) (by show p ≠ p + 1 + 1; omega) _).far (p := ⟨p + 1 + 1 + 1, 0, none⟩) (by show p ≠ p + 1 + 1 + 1; omega) _,
  ((h.b1.far (p := ⟨p + 1 + 1, 0, none⟩) (by show p + 1 ≠ p + 1 + 1; omega) _).far (p := ⟨p + 1 + 1, 1, none⟩) (by show p + 1 ≠ p + 1 + 1; omega) _).far (p := ⟨p + 1 + 1 + 1, 0, none⟩) (by show p + 1 ≠ p + 1 + 1 + 1; omega) _,
  ((h.b2.set_ 0 _).set_ 1 _).far (p := ⟨p + 1 + 1 + 1, 0, none⟩) (by show p + 1 + 1 ≠ p + 1 + 1 + 1; omega) _,
  ((h.b3.far (p := ⟨p + 1 + 1, 0, none⟩) (by show p + 1 + 1 + 1 ≠ p + 1 + 1; omega) _).far (p := ⟨p + 1 + 1, 1, none⟩) (by show p + 1 + 1 + 1 ≠ p + 1 + 1; omega) _).set_ 0 _⟩
theorem kDL (W : World) (e : Et) (ok : Bool) (p : Nat) : KeepsOthers W (fdS W e ok p) := ((KeepsOthers.setCell _ _ _).trans (KeepsOthers.setCell _ _ _)).trans (KeepsOthers.setCell _ _ _)
theorem kDM {w W : World} {p : Nat} (h : Below p w W) (e : Et) (ok : Bool) : Below p w (fdS W e ok p) :=
 ((h.setCell (p := ⟨p + 1 + 1, 0, none⟩) (by show p ≤ p + 1 + 1; omega) _).setCell (p := ⟨p + 1 + 1, 1, none⟩) (by show p ≤ p + 1 + 1; omega) _).setCell (p := ⟨p + 1 + 1 + 1, 0, none⟩) (by show p ≤ p + 1 + 1 + 1; omega) _
theorem kIM {m n : ByteArray} {x : Gv} (h1 : x.mod.toList = m.toList) (h2 : (x.name.toList == n.toList) = true) : gvAt m n x = true := by simp [gvAt, h1]; simpa using h2
theorem kIL {m n : ByteArray} {x : Gv} (h2 : (x.name.toList == n.toList) = false) : gvAt m n x = false := by rw [gvAt, h2, Bool.and_false]
theorem kIK {m n : ByteArray} {x : Gv} (h1 : ¬ x.mod.toList = m.toList) : gvAt m n x = false := by simp [gvAt, h1]
theorem kEx {m n : ByteArray} {xs pre' : List Gv} {g : Gv} (hp : pre' ++ [g] <+: xs.reverse) (h1 : ∀ x ∈ pre', gvAt m n x = false) (h2 : gvAt m n g = true) : lastF m n xs = (g.what, true) := by
 obtain ⟨t, ht⟩ := hp
 unfold lastF
 rw [← ht, List.append_assoc, List.find?_append, List.find?_eq_none.2 (fun x hx => by rw [h1 x hx]; decide)]
 simp [h2]
theorem kEy {m n : ByteArray} {xs : List Gv} (h : ∀ x ∈ xs.reverse, gvAt m n x = false) : lastF m n xs = (⟨0, 0⟩, false) := by
 unfold lastF
 rw [List.find?_eq_none.2 (fun x hx => by rw [h x hx]; decide)]
theorem kDq (xs : List Gv) (A : OA) (c : Nat) (md nm : ByteArray) (w : World) (hlen : xs.length ≤ 1000000) (hE : tGv.els w (· < w.heap.size) A xs) :
    Calls prog 24 #[.slice A xs.length c, .string md, .string nm] w fun e w' => e = .returned (.tuple #[.agg #[.int .i64 (lastF md nm xs).1.kind, .int .i64 (lastF md nm xs).1.addr], .bool (lastF md nm xs).2]) ∧ Fr No w w' := by
 refine (callsIn_wide (n := 5)).1 ?_
 refine callsIn_of_wp_marks func24 rfl trivial ?_ rfl
 simp only [ntmps24, List.size_toArray, List.length_cons, List.length_nil, Nat.reduceAdd, Nat.reduceSub, Array.replicate_succ, Array.replicate_zero, List.push_toArray, List.append_toArray, List.nil_append, List.cons_append]
 gi_wp2
 refine ⟨trivial, (kFz Fence.wide _ trivial rfl _ _ _ _).mono ?_⟩
 rintro e w' ⟨rfl, rfl⟩
 have b0 := (((Blk.new w 9 #[.string md]).alloc (.cells #[.string nm] 9)).alloc (.cells #[.int .i64 0, .int .i64 0] 57)).alloc (.cells #[.bool false] 4)
 have b1 := ((Blk.new (w.alloc (.cells #[.string md] 9)) 9 #[.string nm]).alloc (.cells #[.int .i64 0, .int .i64 0] 57)).alloc (.cells #[.bool false] 4)
 have b2 := (Blk.new ((w.alloc (.cells #[.string md] 9)).alloc (.cells #[.string nm] 9)) 57 #[.int .i64 0, .int .i64 0]).alloc (.cells #[.bool false] 4)
 have b3 := Blk.new (((w.alloc (.cells #[.string md] 9)).alloc (.cells #[.string nm] 9)).alloc (.cells #[.int .i64 0, .int .i64 0] 57)) 4 #[.bool false]
 have bn := Blk.new ((((w.alloc (.cells #[.string md] 9)).alloc (.cells #[.string nm] 9)).alloc (.cells #[.int .i64 0, .int .i64 0] 57)).alloc (.cells #[.bool false] 4)) 68 #[.slice A xs.length c]
 have F0 := ((((Fr.refl No w).alloc (.cells #[.string md] 9)).alloc (.cells #[.string nm] 9)).alloc (.cells #[.int .i64 0, .int .i64 0] 57)).alloc (.cells #[.bool false] 4) |>.alloc (.cells #[.slice A xs.length c] 68)
 simp only [World.size_alloc] at b0 b1 b2 b3 bn ⊢
 have FB := (FdB.mk (e := ⟨0, 0⟩) b0 b1 b2 b3).alloc (.cells #[.slice A xs.length c] 68)
 have hsz : (((((w.alloc (.cells #[.string md] 9)).alloc (.cells #[.string nm] 9)).alloc (.cells #[.int .i64 0, .int .i64 0] 57)).alloc (.cells #[.bool false] 4)).alloc (.cells #[.slice A xs.length c] 68)).heap.size = w.heap.size + 5 := by simp
 clear b0 b1 b2 b3
 generalize (((((w.alloc (.cells #[.string md] 9)).alloc (.cells #[.string nm] 9)).alloc (.cells #[.int .i64 0, .int .i64 0] 57)).alloc (.cells #[.bool false] 4)).alloc (.cells #[.slice A xs.length c] 68)) = W0 at *
 have hB0 : Below w.heap.size w W0 := F0.below
 have hE0 : tGv.els W0 (· < W0.heap.size) A xs := (hE.keep (fun p hp => hB0.cell hp)).more (fun k hk => ltl hk hB0.size)
 gi_wp2
 refine wpIn_rangeFunc_ownH rfl dc (gf := 86) (lb := #[.pointer (some ⟨w.heap.size + 1 + 1 + 1 + 1, 0, none⟩)]) rfl trivial (enters_of func86 kr rfl)
  (kDx Fence.wide _ trivial rfl dc (w.heap.size + 1 + 1 + 1 + 1) W0.heap.size A c xs W0 nr hlen om (bn.cell 0) hE0) belowK_t (belowK_b nr) (Below.refl _ _) (fun _ => rfl)
  (fun pre W => (FdB md nm ⟨0, 0⟩ false w.heap.size W ∧ (∀ g ∈ pre, gvAt md nm g = false) ∧ W0.heap.size ≤ W.heap.size) ∧ Below w.heap.size w W)
  (fun c pre W => (c = .ret ∧ ∃ (g : Gv) (pre' : List Gv), pre = pre' ++ [g] ∧ (∀ x ∈ pre', gvAt md nm x = false) ∧ gvAt md nm g = true ∧ FdB md nm g.what true w.heap.size W) ∧ Below w.heap.size w W)
  (OwnFrom.and (Own.from (fun s X Y row hs hg hr => ⟨kCP md nm (fun (_ : Unit) => _) (fun _ => _) _ () X Y row hs.1 hg hr, hs.2.1, Nat.le_trans hs.2.2 hg.size⟩) _) (ownFrom_below nr om))
  (fun c => OwnFrom.and (Own.from (fun s X Y row hs hg hr => by
   obtain ⟨e0, g, pre', e1, e2, e3, e4⟩ := hs
   exact ⟨e0, g, pre', e1, e2, e3, kCP md nm (fun (_ : Unit) => g.what) (fun _ => true) _ () X Y row e4 hg hr⟩) _) (ownFrom_below nr om))
  ⟨⟨FB, by simp, nr⟩, hB0⟩
  (fun x a' W => ∃ Bx, w.heap.size + 1 + 1 + 1 + 1 < Bx ∧ Blk W Bx 94 #[.string x.mod, .string x.name, .int .i64 x.what.kind, .int .i64 x.what.addr] ∧ a' = { tmps := #[.slice A xs.length c, .string md, .string nm, undef, .pointer (some ⟨w.heap.size, 0, none⟩), .pointer (some ⟨w.heap.size + 1, 0, none⟩), .pointer (some ⟨w.heap.size + 1 + 1, 0, none⟩), .pointer (some ⟨w.heap.size + 1 + 1 + 1, 0, none⟩), .pointer (some ⟨Bx, 0, none⟩), .slice A xs.length c, .func (.func 86) #[] #[.pointer (some ⟨w.heap.size + 1 + 1 + 1 + 1, 0, none⟩)], .agg #[.string x.mod, .string x.name, .int .i64 x.what.kind, .int .i64 x.what.addr], undef, undef, undef, undef, undef, undef, undef, undef, undef, undef, undef, undef, undef], defers := [] })
  (fun x a' _ X Y row hs hg hr => by
   obtain ⟨Bx, h1, h2, h3⟩ := hs
   exact ⟨Bx, h1, kBm Bx _ (fun (_ : Unit) => #[.string x.mod, .string x.name, .int .i64 x.what.kind, .int .i64 x.what.addr]) () X Y row h2 hg (fun r e => (hr r e).2), h3⟩)
  ?assign ?body ?done ?stop
 case assign =>
  rintro l pre x W K hI hK
  unfold gvc
  gi_wp2
  exact hK _ _ ((KeepsOthers.alloc _ _).from _) ((Below.refl _ W).alloc hI.1.2.2 _) ⟨⟨hI.1.1.alloc _, hI.1.2.1, Nat.le_trans hI.1.2.2 sm⟩, hI.2.alloc hI.2.size _⟩ ⟨W.heap.size, by have := hI.1.2.2; omega, Blk.new W _ _, rfl⟩
 case body =>
  rintro l pre x a' W hl ⟨r, hr⟩ ⟨⟨fb, hp, hs⟩, hB⟩ ⟨Bx, hBx, bX, rfl⟩ hlt
  have c0 := fb.b0.cell 0
  have c1 := fb.b1.cell 0
  have c2 := fb.b2.cell 0
  have c3 := fb.b2.cell 1
  have c4 := fb.b3.cell 0
  have z2 := fb.b2.frozen 0
  have z3 := fb.b2.frozen 1
  have z4 := fb.b3.frozen 0
  have x0 := bX.cell 0
  have x1 := bX.cell 1
  have x2 := bX.cell 2
  have x3 := bX.cell 3
  gi_wp2
  · rename_i h1 h2
    exact ⟨(kDL W x.what true _).from _, ⟨rfl, x, pre, rfl, hp, kIM h1 h2, fb.put x.what true⟩, kDM hB _ _⟩
  · rename_i h1 h2
    exact ⟨KeepsFrom.refl _ _, Below.refl _ _, ⟨fb, fun g hg => (List.mem_append.1 hg).elim (hp g) (fun e => by rw [List.mem_singleton.1 e]; exact kIL h2), by rw [← hsz]; exact hs⟩, hB⟩
  rename_i h1
  exact ⟨KeepsFrom.refl _ _, Below.refl _ _, ⟨fb, fun g hg => (List.mem_append.1 hg).elim (hp g) (fun e => by rw [List.mem_singleton.1 e]; exact kIK h1), by rw [← hsz]; exact hs⟩, hB⟩
 case done =>
  rintro D ys W hD rfl ⟨⟨fb, hp, hs⟩, hB⟩ hK
  have c2 := fb.b2.cell 0
  have c3 := fb.b2.cell 1
  have c4 := fb.b3.cell 0
  have z2 := fb.b2.frozen 0
  have z3 := fb.b2.frozen 1
  have z4 := fb.b3.frozen 0
  gi_wp2
  have hK' := (kDL W ⟨0, 0⟩ false w.heap.size).same D _ hK rfl
  have fb2 := fb.put ⟨0, 0⟩ false
  have hB2 := kDM hB ⟨0, 0⟩ false
  rw [kEy hp]
  refine ⟨by simp, .inl ⟨_, _, rfl, run_takeDeferred hK', ?_⟩⟩
  have fb3 := kCP md nm (fun (_ : Unit) => ⟨0, 0⟩) (fun _ => false) _ () _ _ _ fb2 (grownBy_putObj' _ D (.deferred none)) (fun r e => by cases e; exact ⟨_, hK', rfl⟩)
  have hF := Fr.of_below (M := No) (hB2.trans (belowK_b (w := w) nr _ D _ (.deferred none) om hK' rfl rfl))
  have d0 := fb3.b2.cell 0
  have d1 := fb3.b2.cell 1
  have d2 := fb3.b3.cell 0
  unfold fdS at d0 d1 d2 hF
  refine ⟨_, ?_, rfl, hF⟩
  simp [results, f24, go_sem, d0, d1, d2]
 rintro D c pre W hD hpre ⟨⟨rfl, g, pre', rfl, h1, h2, fb⟩, hB⟩ hK
 gi_wp2
 rw [kEx hpre h1 h2]
 refine ⟨by simp, .inl ⟨_, _, rfl, run_takeDeferred hK, ?_⟩⟩
 have fb3 := kCP md nm (fun (_ : Unit) => g.what) (fun _ => true) _ () _ _ _ fb (grownBy_putObj' _ D (.deferred none)) (fun r e => by cases e; exact ⟨_, hK, rfl⟩)
 have hF := Fr.of_below (M := No) (hB.trans (belowK_b (w := w) nr _ D _ (.deferred none) om hK rfl rfl))
 have d0 := fb3.b2.cell 0
 have d1 := fb3.b2.cell 1
 have d2 := fb3.b3.cell 0
 refine ⟨_, ?_, rfl, hF⟩
 simp [results, f24, go_sem, d0, d1, d2]
theorem kLK {m n : ByteArray} {x : Gv} (h1 : x.mod.toList = m.toList) (h2 : (x.name.toList == n.toList) = true) : gvAt m n x = true := by simp [gvAt, h1]; simpa using h2
theorem kLJ {m n : ByteArray} {x : Gv} (h2 : (x.name.toList == n.toList) = false) : gvAt m n x = false := by rw [gvAt, h2, Bool.and_false]
theorem kLI {m n : ByteArray} {x : Gv} (h1 : ¬ x.mod.toList = m.toList) : gvAt m n x = false := by simp [gvAt, h1]
theorem kKm (xs : List Gv) (A : OA) (c : Nat) (md nm : ByteArray) (w : World) (hlen : xs.length ≤ 1000000) (hE : tGv.els w (· < w.heap.size) A xs) :
    Calls prog 42 #[.slice A xs.length c, .string md, .string nm] w fun e w' => e = .returned (.tuple #[.agg #[.int .i64 (lastF md nm xs).1.kind, .int .i64 (lastF md nm xs).1.addr], .bool (lastF md nm xs).2]) ∧ Fr No w w' := by
 have F0 := hid (((Fr.refl No w).alloc (.cells #[.int .i64 0, .int .i64 0] 57)).alloc (.cells #[.int .i64 0, .int .i64 0] 57))
 have G0 := hid ((Blk.new w 57 #[.int .i64 0, .int .i64 0]).alloc (.cells #[.int .i64 0, .int .i64 0] 57))
 have G1 := hid (Blk.new1 w (.cells #[.int .i64 0, .int .i64 0] 57) 57 #[.int .i64 0, .int .i64 0])
 have HE := hid hE
 clear hE
 go_enter func42, ntmps42
 go_wp2
 generalize (w.alloc (.cells #[.int .i64 0, .int .i64 0] 57)).alloc (.cells #[.int .i64 0, .int .i64 0] 57) = W at *
 obtain ⟨n, hn⟩ : ∃ n, xs.length = n := ⟨_, rfl⟩
 have HN := hid hn
 rw [hn] at hlen ⊢
 clear hn
 go_loopw [9, 10] (fun a i wr => ∃ k, k ≤ n ∧ i = .int .i64 (k : Nat) ∧ a = .bool (lastF md nm (xs.take k)).2 ∧ Hid (Fr No w wr) ∧ Hid (Blk wr w.heap.size 57 #[.int .i64 0, .int .i64 0]) ∧ Hid (Blk wr (w.heap.size + 1) 57 #[.int .i64 (lastF md nm (xs.take k)).1.kind, .int .i64 (lastF md nm (xs.take k)).1.addr])) (fun _ i _ => n - (intOf i).toNat)
 case atStart => exact ⟨0, nz, rfl, rfl, F0.o, G0.o, G1.o⟩
 obtain ⟨k, hk, rfl, rfl, F1, H0, H1⟩ := hrel
 have x0 := H0.o.frozen 0
 have x1 := H0.o.frozen 1
 have x2 := H0.o.cell 0
 have x3 := H0.o.cell 1
 have z0 := H1.o.cell 0
 have z1 := H1.o.cell 1
 have z2 := H1.o.frozen 0
 have z3 := H1.o.frozen 1
 by_cases hlt : k < n
 · have hkl : k < xs.length := by rw [HN.o]; exact hlt
   obtain ⟨b, o, rfl, hbl, y0, y1, y2, y3, -⟩ := kFV HE.o k hkl
   replace y0 := (F1.o.cell (p := ⟨b, o + k * 4, none⟩) hbl id).trans y0
   replace y1 := (F1.o.cell (p := ⟨b, o + k * 4 + 1, none⟩) hbl id).trans y1
   replace y2 := (F1.o.cell (p := ⟨b, o + k * 4 + 2, none⟩) hbl id).trans y2
   replace y3 := (F1.o.cell (p := ⟨b, o + k * 4 + 3, none⟩) hbl id).trans y3
   go_wp2
   · rename_i h1 h2
     have hy := kKp hkl (kLK h1 h2)
     go_round
     case measure => show n - (((k : Int) + 1)).toNat < n - ((k : Int)).toNat; omega
     refine ⟨k + 1, hlt, rfl, by rw [hy], ?_, ?_, ?_⟩
     · exact (F1.o.setCell ⟨w.heap.size + 1, 0, none⟩ _ (fun h => absurd h (by show ¬ w.heap.size + 1 < _; omega))).setCell ⟨w.heap.size + 1, 1, none⟩ _ (fun h => absurd h (by show ¬ w.heap.size + 1 < _; omega))
     · exact (H0.o.far (p := ⟨w.heap.size + 1, 0, none⟩) (by show w.heap.size ≠ w.heap.size + 1; omega) _).far (p := ⟨w.heap.size + 1, 1, none⟩) (by show w.heap.size ≠ w.heap.size + 1; omega) _
     rw [hy]
     exact (H1.o.set_ 0 _).set_ 1 _
   · rename_i h1 h2
     have hy := kKU (m := md) (n := nm) hkl (kLJ h2)
     exact yy51
   rename_i h1
   have hy := kKU (m := md) (n := nm) hkl (kLI h1)
   exact yy51
 have hkn : k = xs.length := by have := HN.o; omega
 subst hkn
 rw [List.take_length] at *
 have FE := hid ((F1.o.setCell ⟨w.heap.size, 0, none⟩ (.int .i64 (lastF md nm xs).1.kind) (fun h => absurd h (by show ¬ w.heap.size < _; omega))).setCell ⟨w.heap.size, 1, none⟩ (.int .i64 (lastF md nm xs).1.addr) (fun h => absurd h (by show ¬ w.heap.size < _; omega)))
 have HB := (H0.o.set_ 0 (.int .i64 (lastF md nm xs).1.kind)).set_ 1 (.int .i64 (lastF md nm xs).1.addr)
 have q0 := HB.cell 0
 have q1 := HB.cell 1
 go_wp2
 refine bodyPost_ret (v := .tuple #[.agg #[.int .i64 (lastF md nm xs).1.kind, .int .i64 (lastF md nm xs).1.addr], .bool (lastF md nm xs).2]) ?_ rfl ⟨rfl, FE.o⟩
 simp [results, f42, go_sem, q0, q1]
def kDX (n : Int) (a b : Lim) : Bool := !decide (n < b.min) && (!b.has || (a.has && decide (a.max ≤ b.max)))
theorem kGo (n : Int) (a b : Lim) (w : World) :
    Calls prog 75 #[.int .i64 n, .agg #[.int .i64 a.min, .int .i64 a.max, .bool a.has], .agg #[.int .i64 b.min, .int .i64 b.max, .bool b.has]] w fun e w' => e = .returned (.bool (kDX n a b)) ∧ Fr No w w' := by
 have F0 := hid (((Fr.refl No w).alloc (.cells #[.int .i64 a.min, .int .i64 a.max, .bool a.has] 37)).alloc (.cells #[.int .i64 b.min, .int .i64 b.max, .bool b.has] 37))
 go_enter func75, ntmps75
 go_wp2
 all_goals
  go_ret
  refine ⟨kAM ?_, ((Fr.refl No w).alloc _).alloc _⟩
  rw [Bool.eq_iff_iff]
  simp_all [kDX] <;> omega
section
variable {w : World} {R : Nat → Prop} {V : Pl} {x : Rx}
def kCr (there fits : Bool) : Int := if there then (if fits then 0 else 26) else 27
def kFh (x : Rx) (t : Tb) (addr : Int) : Int := match getI x.tabs addr with
 | none => 27
 | some y => kCr true (y.t.elem == t.elem && kDX y.l.length y.t.lim t.lim)
def kCj (x : Rx) (l : Lim) (addr : Int) : Int := match getI x.mems addr with
 | none => 27
 | some y => kCr true (kDX ((y.b.length / 256 : Nat) : Int) y.lim l)
def kCk (x : Rx) (g : Gl) (addr : Int) : Int := match getI x.globs addr with
 | none => 27
 | some y => kCr true (y.t.val == g.val && y.t.mut_ == g.mut_)
theorem kFi (a c : Int) (b d : Bool) (w : World) : (Op.equalIn 10000 41 (.agg #[.int .i64 a, .bool b]) (.agg #[.int .i64 c, .bool d])).run prog w = .ok (a == c && (b == d && true)) w :=
 kFG kr kr (kAr dc (kAS (kAu underlying35) rfl) (kAS (kAu underlying35) rfl) (run_equalIn_int w 9998 _ _ _ _ _ underlying35)
  (kAr dc (kAS (kCq underlying4) rfl) (kAS (kCq underlying4) rfl) (run_equalIn_bool w 9998 _ _ _ underlying4) kDA))
theorem kFc (x : Rx) (g : Gl) (addr : Int) : kCk x g addr = kCr (atD zRg x.globs addr).2 ((atD zRg x.globs addr).1.t.val == g.val && (atD zRg x.globs addr).1.t.mut_ == g.mut_) := by
 unfold kCk atD getI
 by_cases h0 : 0 ≤ addr
 · by_cases h1 : addr.toNat < x.globs.length
   · simp [h0, h1, show addr < (x.globs.length : Int) by omega]
   simp [h0, h1, kCr, show ¬ addr < (x.globs.length : Int) by omega]
 simp [h0, kCr]
abbrev q6x0 (a0 : Pl) (a1 : Im) (a2 : Int) : Array Value := #[.pointer (some ⟨a0.P, 0, none⟩), .agg #[.string a1.mod, .string a1.name, .int .i64 a1.kind, .int .i64 a1.func, .int .i64 a1.table.elem, .int .i64 a1.table.lim.min, .int .i64 a1.table.lim.max, .bool a1.table.lim.has, .int .i64 a1.mem.min, .int .i64 a1.mem.max, .bool a1.mem.has, .int .i64 a1.glob.val, .bool a1.glob.mut_], .int .i64 a2]
abbrev q6x2 (a0 : Im) : Array Value := #[.string a0.mod, .string a0.name, .int .i64 a0.kind, .int .i64 a0.func, .int .i64 a0.table.elem, .int .i64 a0.table.lim.min, .int .i64 a0.table.lim.max, .bool a0.table.lim.has, .int .i64 a0.mem.min, .int .i64 a0.mem.max, .bool a0.mem.has, .int .i64 a0.glob.val, .bool a0.glob.mut_]
theorem kEr (h : StIn w R V x) (im : Im) (addr : Int) (hn : x.globs.length ≤ 1000000) (hk1 : (im.kind == 1) = false) (hk2 : (im.kind == 2) = false) :
    Calls prog 33 (q6x0 V im addr) w fun e w' => e = .returned (.int .i64 (kCk x im.glob addr)) ∧ Fr No w w' := by
 have F0 := hid ((Fr.refl No w).alloc (.cells (q6x2 im) 43))
 have G0 := hid (Blk.new w 43 (q6x2 im))
 have HG := hid (kFF (h.frNo F0.o) addr hn)
 clear h
 rw [kFc]
 generalize (atD zRg x.globs addr) = g at *
 go_enter func33, ntmps33
 go_wp2_with fail
 refine HG.o.mono ?_
 rintro e w1 ⟨rfl, f1⟩
 have F1 := ftr F0 f1
 have G1 := hid (G0.o.fr f1 id)
 clear HG f1 F0 G0
 have F2 := hid ((F1.o.alloc (.cells #[.int .i64 g.1.t.val, .bool g.1.t.mut_] 41)).alloc (.cells #[.int .i64 g.1.v.t, .int .u64 g.1.v.n] 84))
 have G2 := hid ((G1.o.alloc (.cells #[.int .i64 g.1.t.val, .bool g.1.t.mut_] 41)).alloc (.cells #[.int .i64 g.1.v.t, .int .u64 g.1.v.n] 84))
 have G3 := hid ((Blk.new w1 41 #[.int .i64 g.1.t.val, .bool g.1.t.mut_]).alloc (.cells #[.int .i64 g.1.v.t, .int .u64 g.1.v.n] 84))
 go_upto_region 4 with fail
 generalize (w1.alloc (.cells #[.int .i64 g.1.t.val, .bool g.1.t.mut_] 41)).alloc (.cells #[.int .i64 g.1.v.t, .int .u64 g.1.v.n] 84) = W at *
 generalize w1.heap.size = q at *
 have HX : Hid (∀ X, Fr No W X → Ce X q 0 (.int .i64 g.1.t.val) ∧ Ce X q 1 (.bool g.1.t.mut_) ∧ Ce X w.heap.size 11 (.int .i64 im.glob.val) ∧ Ce X w.heap.size 12 (.bool im.glob.mut_)) := fun X f =>
  ⟨(G3.o.fr f id).cell 0, (G3.o.fr f id).cell 1, (G2.o.fr f id).cell 11, (G2.o.fr f id).cell 12⟩
 have HQ := kFi g.1.t.val im.glob.val g.1.t.mut_ im.glob.mut_
 refine rwO (fun X => Ce X q 0 (.int .i64 g.1.t.val) ∧ Ce X q 1 (.bool g.1.t.mut_) ∧ Ce X w.heap.size 11 (.int .i64 im.glob.val) ∧ Ce X w.heap.size 12 (.bool im.glob.mut_)) [] (List.range 7) [] (HX.o _ (Fr.refl No _).drew) ?_
 refine rC ?_
 refine wpO_nil ?_
 have FF := hid F2.o.drew
 clear HX HQ F1 F2 G1 G2 G3
 cases hf : (g.1.t.val == im.glob.val && g.1.t.mut_ == im.glob.mut_) <;> cases ht : g.2
 all_goals
  have HF := hid hf
  have HTT := hid ht
  clear hf ht
  go_wp2
  go_ret
  exact ⟨by rw [HF.o, HTT.o]; rfl, FF.o⟩
theorem kCi (h : StIn w R V x) (im : Im) (addr : Int) (hn : x.mems.length ≤ 1000000) (hb : ∀ m ∈ x.mems, m.b.length ≤ 1000000) (hk1 : (im.kind == 1) = false) (hk2 : (im.kind == 2) = true) :
    Calls prog 33 (q6x0 V im addr) w fun e w' => e = .returned (.int .i64 (kCj x im.mem addr)) ∧ Fr No w w' := by
 have F0 := hid ((Fr.refl No w).alloc (.cells (q6x2 im) 43))
 have G0 := hid (Blk.new w 43 (q6x2 im))
 have H0 := hid (h.frNo F0.o)
 have HG := hid (kEj H0.o addr hn)
 clear h
 cases hg : getI V.mp addr with
 | none =>
  have hx : getI x.mems addr = none := by
   have := kDp H0.o.ml addr
   rw [hg] at this
   simpa using this.symm
  rw [kDo, hg] at HG
  rw [kCj, hx]
  exact yy40
 | some z =>
  obtain ⟨y, hx⟩ : ∃ y, getI x.mems addr = some y := by
   have := kDp H0.o.ml addr
   rw [hg] at this
   cases hx : getI x.mems addr with
   | none => rw [hx] at this; simp at this
   | some y => exact ⟨y, rfl⟩
  have hz := kDI hg
  have hy := kDI hx
  have hM := H0.o.mat _ z y hz.2 hy.2
  have hbl := hb y (List.mem_of_getElem? hy.2)
  have HM := hid hM
  rw [kDo, hg] at HG
  rw [kCj, hx]
  have HPG := hid (fun (X : World) (hh : Ce X z.1 3 (.slice (some ⟨z.2.1, 0, none⟩) y.b.length z.2.2)) => kDH z.1 (some ⟨z.2.1, 0, none⟩) y.b.length z.2.2 X hh hbl)
  simp only
  generalize y.b.length / 256 = pg at *
  clear hx hg hz hy hM hb
  go_enter func33, ntmps33
  go_wp2_with fail
  refine HG.o.mono ?_
  rintro e w1 ⟨rfl, f1⟩
  have F1 := ftr F0 f1
  have G1 := hid (G0.o.fr f1 id)
  have M1 := hid (HM.o.frNo f1)
  clear HG f1 F0 G0 HM
  simp only [Option.map, ptrV]
  go_wp2_with fail
  have HX : Hid (∀ X, Fr No w1 X → Ce X w.heap.size 8 (.int .i64 im.mem.min) ∧ Ce X w.heap.size 9 (.int .i64 im.mem.max) ∧ Ce X w.heap.size 10 (.bool im.mem.has)) := fun X f =>
   ⟨(G1.o.fr f id).cell 8, (G1.o.fr f id).cell 9, (G1.o.fr f id).cell 10⟩
  have HM := hid (fun (X : World) (f : Fr No w1 X) => M1.o.frNo f)
  have HF := hid (fun (n : Int) (a b : Lim) (X : World) => kGo n a b X)
  refine rwO (fun X => Ce X w.heap.size 8 (.int .i64 im.mem.min) ∧ Ce X w.heap.size 9 (.int .i64 im.mem.max) ∧ Ce X w.heap.size 10 (.bool im.mem.has)) [] [0, 2, 4, 5, 1, 3, 6, 7, 8] [1, 3, 6] (HX.o _ (Fr.refl No _).drew) ?_
  refine rC ?_
  refine wpO_eff rfl rfl fun K hK => sz ?_
  refine (HPG.o _ ((HM.o _ (Fr.refl No _).drew).hp.cell 3)).mono ?_
  rintro e w2 ⟨rfl, rfl⟩
  refine hK _ _ (fun _ => HX.o _ (Fr.refl No _).drew) ?_
  clear hK K
  refine wpO_eff rfl rfl fun K hK => sz ?_
  refine (kEw z.1 y.lim _ _ (HM.o _ (Fr.refl No _).drew).hp).mono ?_
  rintro e w2 ⟨rfl, f2⟩
  have F2 := hid (((Fr.refl No w1).drew).trans f2 i3)
  refine hK _ _ (fun _ => HX.o _ F2.o) ?_
  clear hK K f2
  refine wpO_eff rfl rfl fun K hK => sz ?_
  refine (HF.o _ y.lim im.mem _).mono ?_
  rintro e w3 ⟨rfl, f3⟩
  have F3 := ftr F2 f3
  refine hK _ _ (fun _ => HX.o _ F3.o) ?_
  clear hK K f3
  refine rC ?_
  refine wpO_nil ?_
  have FF := ftr F1 F3.o
  clear HX HM HF F1 F2 F3 G1 M1
  cases hf : kDX (pg : Int) y.lim im.mem
  all_goals
   have HFF := hid hf
   clear hf
   go_wp2
   go_ret
   exact ⟨by rw [HFF.o]; rfl, FF.o⟩
end
theorem kBx (p : Nat) (im : Im) (nt ni nf nta nm ng ne nel nd nc ct ci cf cta cm cg ce cel cd cc : Nat) (At Ai Af Ata Am Ag Ae Ael Ad Ac : OA) (bst : Bool) (vst : Int) (addr r : Int) (w : World) (hk : 1 ≤ im.kind ∧ im.kind ≤ 3)
    (hT : ∀ X, Fr No w X → Calls prog 33 #[.pointer (some ⟨p, 0, none⟩), .agg (q6x2 im), .int .i64 addr] X fun e w' => e = .returned (.int .i64 r) ∧ Fr No X w') :
    Calls prog 12 #[.pointer (some ⟨p, 0, none⟩), .agg (q6x2 im), .agg #[.slice At nt ct, .slice Ai ni ci, .slice Af nf cf, .slice Ata nta cta, .slice Am nm cm, .slice Ag ng cg, .slice Ae ne ce, .bool bst, .int .i64 vst, .slice Ael nel cel, .slice Ad nd cd, .slice Ac nc cc], .agg #[.int .i64 im.kind, .int .i64 addr]] w fun e w' => e = .returned (.int .i64 r) ∧ Fr No w w' := by
 have hk0 : (im.kind == 0) = false := by simp; omega
 have hk1 : decide (im.kind < 0) = false := by simp; omega
 have hk2 : decide (3 < im.kind) = false := by simp; omega
 have F0 := hid ((((Fr.refl No w).alloc (.cells (q6x2 im) 43)).alloc (.cells #[.slice At nt ct, .slice Ai ni ci, .slice Af nf cf, .slice Ata nta cta, .slice Am nm cm, .slice Ag ng cg, .slice Ae ne ce, .bool bst, .int .i64 vst, .slice Ael nel cel, .slice Ad nd cd, .slice Ac nc cc] 55)).alloc (.cells #[.int .i64 im.kind, .int .i64 addr] 57))
 have HT := hid (hT _ F0.o)
 clear hT hk
 go_enter func12, ntmps12
 go_wp2_with fail
 refine HT.o.mono ?_
 rintro e w1 ⟨rfl, f1⟩
 have F1 := ftr F0 f1
 clear HT f1 F0
 go_wp2
 go_ret
 exact ⟨rfl, F1.o⟩
theorem kDh (p : Nat) (im : Im) (nt ni nf nta nm ng ne nel nd nc ct ci cf cta cm cg ce cel cd cc : Nat) (At Ai Af Ata Am Ag Ae Ael Ad Ac : OA) (bst : Bool) (vst : Int) (w : World) (hi : tIm.els w (· < w.heap.size) Ai [im]) (hn : ni = 1) :
    Calls prog 14 #[.pointer (some ⟨p, 0, none⟩), .agg #[.slice At nt ct, .slice Ai ni ci, .slice Af nf cf, .slice Ata nta cta, .slice Am nm cm, .slice Ag ng cg, .slice Ae ne ce, .bool bst, .int .i64 vst, .slice Ael nel cel, .slice Ad nd cd, .slice Ac nc cc], .slice none 0 0] w fun e w' => e = .returned (.tuple #[.slice none 0 0, .int .i64 0, .int .i64 25]) ∧ Fr No w w' := by
 subst hn
 have F0 := hid ((Fr.refl No w).alloc (.cells #[.slice At nt ct, .slice Ai 1 ci, .slice Af nf cf, .slice Ata nta cta, .slice Am nm cm, .slice Ag ng cg, .slice Ae ne ce, .bool bst, .int .i64 vst, .slice Ael nel cel, .slice Ad nd cd, .slice Ac nc cc] 55))
 have G0 := hid (Blk.new w 55 #[.slice At nt ct, .slice Ai 1 ci, .slice Af nf cf, .slice Ata nta cta, .slice Am nm cm, .slice Ag ng cg, .slice Ae ne ce, .bool bst, .int .i64 vst, .slice Ael nel cel, .slice Ad nd cd, .slice Ac nc cc])
 have E0 := hid (hi.fr F0.o (fun k hk => ⟨hk, fun x => x⟩))
 clear hi
 go_enter func14, ntmps14
 go_wp2_with fail
 generalize w.alloc (.cells #[.slice At nt ct, .slice Ai 1 ci, .slice Af nf cf, .slice Ata nta cta, .slice Am nm cm, .slice Ag ng cg, .slice Ae ne ce, .bool bst, .int .i64 vst, .slice Ael nel cel, .slice Ad nd cd, .slice Ac nc cc] 55) = W at *
 go_loopw [18] (fun i wr => i = .int .i64 0 ∧ wr = W) (fun _ _ => 0)
 case atStart => exact ⟨rfl, rfl⟩
 obtain ⟨rfl, rfl⟩ := hrel
 obtain ⟨b, o, rfl, hb, y0, y1, y2, y3, y4, y5, y6, y7, y8, y9, y10, y11, y12, -⟩ := kHM E0.o 0 sm
 simp only [List.getElem_cons_zero, Nat.zero_mul, Nat.add_zero] at y0 y1 y2 y3 y4 y5 y6 y7 y8 y9 y10 y11 y12
 have F1 := hid (F0.o.alloc (.cells (q6x2 im) 43))
 have HF := hid (kDq [] none 0 im.mod im.name (wr.alloc (.cells (q6x2 im) 43)) dc (.inl rfl))
 go_wp2_with fail
 refine HF.o.mono ?_
 rintro e w1 ⟨rfl, f1⟩
 have F2 := ftr F1 f1
 clear HF f1 F0 F1 G0 E0 y0 y1 y2 y3 y4 y5 y6 y7 y8 y9 y10 y11 y12
 rw [kFo]
 have F3 := hid (F2.o.alloc (.cells #[.int .i64 0, .int .i64 0] 57))
 go_wp2
 go_ret3
 exact ⟨rfl, F3.o⟩
theorem lel {α : Type} {t : Ty α} [TyOk t] [TyMore t] {w : World} {q : Nat} {e : TypeId} {css : List (LV)} {xs : List α} (hb : Blk w q e css.flatten.toArray) (h : Css t w (· < w.heap.size) css xs) (hm : xs.length ≤ maxLen) : t.els w (· < w.heap.size) (some ⟨q, 0, none⟩) xs :=
 Ty.row.els' (Ty.row.lit (base := 0) hb nz h hm) i2 (fun g hg => by
  have : q = g := by simpa [Value.ownBlock] using hg
  subst this
  exact hb.lt)
def kX1 : Rx := ⟨[], [], [], [], [], [], [⟨⟨1, true⟩, ⟨1, 0⟩⟩], [], [], []⟩
def kX2 : Rx := ⟨[], [], [], [], [], [⟨⟨1, 3, true⟩, List.replicate 256 0⟩], [⟨⟨1, true⟩, ⟨1, 0⟩⟩], [], [], []⟩
theorem kIb : mayB [] = true := by decide +kernel
theorem k_g : kBa (sto0 []) ⟨1, true⟩ ⟨1, 0⟩ = (kX1, 0) := by kernel_rfl
theorem k_m : kBY kX1 ⟨1, 3, true⟩ = (kX2, 0) := by kernel_rfl
def kIm : Im := ⟨⟨#[109]⟩, ⟨#[103]⟩, 3, 0, ⟨0, ⟨0, 0, false⟩⟩, ⟨0, 0, false⟩, ⟨1, false⟩⟩
def kMe : Im := ⟨⟨#[]⟩, ⟨#[]⟩, 2, 0, ⟨0, ⟨0, 0, false⟩⟩, ⟨1, 2, true⟩, ⟨0, false⟩⟩
def kSo : Im := ⟨⟨#[]⟩, ⟨#[]⟩, 2, 0, ⟨0, ⟨0, 0, false⟩⟩, ⟨1, 0, false⟩, ⟨0, false⟩⟩
theorem k_1 : kCk kX2 kIm.glob 0 = 26 := by kernel_rfl
theorem k_2 : kCj kX2 kMe.mem 0 = 26 := by kernel_rfl
theorem k_3 : kCj kX2 kSo.mem 0 = 0 := by kernel_rfl
theorem k_mb : ∀ m ∈ kX2.mems, m.b.length ≤ 1000000 := by intro m hm; rw [List.mem_singleton.1 hm]; show (List.replicate 256 (0 : Int)).length ≤ 1000000; rw [List.length_replicate]; omega
def kG1 : Gv := ⟨⟨#[109]⟩, ⟨#[102]⟩, ⟨0, 0⟩⟩
def kG2 : Gv := ⟨⟨#[109]⟩, ⟨#[102]⟩, ⟨0, 5⟩⟩
theorem k_f : lastF ⟨#[109]⟩ ⟨#[102]⟩ [kG1, kG2] = (⟨0, 5⟩, true) := by kernel_rfl
abbrev q6x3 : Array Value := #[.string ⟨#[109]⟩, .string ⟨#[103]⟩, .int .i64 3, .int .i64 0, .int .i64 0, .int .i64 0, .int .i64 0, .bool false, .int .i64 0, .int .i64 0, .bool false, .int .i64 1, .bool false]
abbrev q6x4 : Array Value := #[.string ⟨#[]⟩, .string ⟨#[]⟩, .int .i64 2, .int .i64 0, .int .i64 0, .int .i64 0, .int .i64 0, .bool false, .int .i64 1, .int .i64 0, .bool false, .int .i64 0, .bool false]
abbrev q6x5 : Array Value := #[.string ⟨#[]⟩, .string ⟨#[]⟩, .int .i64 2, .int .i64 0, .int .i64 0, .int .i64 0, .int .i64 0, .bool false, .int .i64 1, .int .i64 2, .bool true, .int .i64 0, .bool false]
abbrev q6x6 : Array Value := #[.string ⟨#[109]⟩, .string ⟨#[102]⟩, .int .i64 0, .int .i64 0, .string ⟨#[109]⟩, .string ⟨#[102]⟩, .int .i64 0, .int .i64 5]
theorem kEb (w : World) : Calls prog 10 #[] w fun e w' => e = .returned (.bool true) ∧ Fr No w w' := by
 go_enter func10, ntmps10
 go_wp2_with fail
 refine (kDm none 0 [] (· < w.heap.size) w (.inl rfl) i2 dc (by intro h hh; cases hh)).mono ?_
 rintro e w1 hN
 unfold kBp at hN
 rw [kIb] at hN
 obtain ⟨V, rfl, h1, h2, f1⟩ := hN
 have F1 := hid f1
 have LO := hid h2
 have K1 := hid h1
 clear h1 h2 f1
 go_wp2_with fail
 have HC := kCE K1.o ⟨1, true⟩ ⟨1, 0⟩ rfl rfl rfl dc
 rw [k_g] at HC
 refine HC.mono ?_
 rintro e w2 ⟨V2, R2, rfl, k2, g2⟩
 have K2 := hid k2
 have G2 := hid g2
 clear HC k2 g2 K1
 go_wp2_with fail
 have HC := kCw K2.o ⟨1, 3, true⟩ dc
 rw [k_m, G2.o.P] at HC
 refine HC.mono ?_
 rintro e w3 ⟨V3, R3, rfl, k2, g2⟩
 have K3 := hid k2
 have G3 := hid (G2.o.trans g2)
 have F3 := hid (Fr.trans F1.o G3.o.fr (fun i hi o => by have := LO.o i o; omega))
 clear HC k2 g2 K2 G2
 go_wp2_with fail
 have f4 := ((((Fr.refl No w3).alloc (.cells q6x3 43)).alloc (.cells q6x5 43)).alloc (.cells q6x4 43)).alloc (.cells q6x6 94)
 have B0 := (((Blk.new w3 43 q6x3).alloc (.cells q6x5 43)).alloc (.cells q6x4 43)).alloc (.cells q6x6 94)
 have B1 := ((Blk.new (w3.alloc (.cells q6x3 43)) 43 q6x5).alloc (.cells q6x4 43)).alloc (.cells q6x6 94)
 have B2 := (Blk.new ((w3.alloc (.cells q6x3 43)).alloc (.cells q6x5 43)) 43 q6x4).alloc (.cells q6x6 94)
 have B3 := Blk.new (((w3.alloc (.cells q6x3 43)).alloc (.cells q6x5 43)).alloc (.cells q6x4 43)) 94 q6x6
 simp only [World.size_alloc] at B1 B2 B3
 generalize (((w3.alloc (.cells q6x3 43)).alloc (.cells q6x5 43)).alloc (.cells q6x4 43)).alloc (.cells q6x6 94) = W4 at *
 have EG : tGv.els W4 (· < W4.heap.size) (some ⟨w3.heap.size + 1 + 1 + 1, 0, none⟩) [kG1, kG2] :=
  lel (css := [[.string ⟨#[109]⟩, .string ⟨#[102]⟩, .int .i64 0, .int .i64 0], [.string ⟨#[109]⟩, .string ⟨#[102]⟩, .int .i64 0, .int .i64 5]]) B3 (Css.two (kDY (a := kG1) dc dc rfl rfl) (kDY (a := kG2) dc dc rfl rfl)) dc
 have HC := kDq [kG1, kG2] (some ⟨w3.heap.size + 1 + 1 + 1, 0, none⟩) 2 ⟨#[109]⟩ ⟨#[102]⟩ W4 dc EG
 rw [k_f] at HC
 refine HC.mono ?_
 rintro e w5 ⟨rfl, f5⟩
 have B5 := Blk.new w5 57 #[.int .i64 0, .int .i64 5]
 have f6 := (f4.trans f5 i3).alloc (.cells #[.int .i64 0, .int .i64 5] 57)
 have C0 := hid ((B0.fr f5 id).alloc (.cells #[.int .i64 0, .int .i64 5] 57))
 have C1 := hid ((B1.fr f5 id).alloc (.cells #[.int .i64 0, .int .i64 5] 57))
 have C2 := hid ((B2.fr f5 id).alloc (.cells #[.int .i64 0, .int .i64 5] 57))
 have C3 := hid B5
 have F6 := ftr F3 f6
 have K6 := hid (K3.o.frNo f6)
 clear HC f4 B0 B1 B2 B3 B5 EG f5 f6 F3 K3 F1
 have z0 := C0.o.cell 0
 have z1 := C0.o.cell 1
 have z2 := C0.o.cell 2
 have z3 := C0.o.cell 3
 have z4 := C0.o.cell 4
 have z5 := C0.o.cell 5
 have z6 := C0.o.cell 6
 have z7 := C0.o.cell 7
 have z8 := C0.o.cell 8
 have z9 := C0.o.cell 9
 have z10 := C0.o.cell 10
 have z11 := C0.o.cell 11
 have z12 := C0.o.cell 12
 go_upto_region 9 with fail
 generalize w5.alloc (.cells #[.int .i64 0, .int .i64 5] 57) = W6 at *
 go_wp2_with fail
 have HB := hid (Blk.new W6 43 q6x3)
 have F7 := hid ((Fr.refl No W6).alloc (.cells q6x3 43))
 have EI := hid (lel (css := [[.string ⟨#[109]⟩, .string ⟨#[103]⟩, .int .i64 3, .int .i64 0, .int .i64 0, .int .i64 0, .int .i64 0, .bool false, .int .i64 0, .int .i64 0, .bool false, .int .i64 1, .bool false]]) HB.o (Css.one (kIl (a := kIm) dc dc rfl rfl rfl rfl rfl rfl rfl rfl)) dc)
 refine Calls.mono (kDh V.P kIm _ _ _ _ _ _ _ _ _ _ _ _ _ _ _ _ _ _ _ _ _ _ _ _ _ _ _ _ _ _ _ _ _ EI.o rfl) ?_
 rintro e w7 ⟨rfl, f7⟩
 have F8 := ftr F7 f7
 have HPV : V3.P = V.P := G3.o.P
 clear f7 F7 HB EI
 clear z0 z1 z2 z3 z4 z5 z6 z7 z8 z9 z10 z11 z12
 have z0 := (C0.o.fr F8.o id).cell 0
 have z1 := (C0.o.fr F8.o id).cell 1
 have z2 := (C0.o.fr F8.o id).cell 2
 have z3 := (C0.o.fr F8.o id).cell 3
 have z4 := (C0.o.fr F8.o id).cell 4
 have z5 := (C0.o.fr F8.o id).cell 5
 have z6 := (C0.o.fr F8.o id).cell 6
 have z7 := (C0.o.fr F8.o id).cell 7
 have z8 := (C0.o.fr F8.o id).cell 8
 have z9 := (C0.o.fr F8.o id).cell 9
 have z10 := (C0.o.fr F8.o id).cell 10
 have z11 := (C0.o.fr F8.o id).cell 11
 have z12 := (C0.o.fr F8.o id).cell 12
 go_wp2_with fail
 rw [← HPV]
 refine Calls.mono (kBx V3.P kIm _ _ _ _ _ _ _ _ _ _ _ _ _ _ _ _ _ _ _ _ _ _ _ _ _ _ _ _ _ _ _ _ 0 26 w7 ⟨by decide, by decide⟩ (fun X f => by
  have := kEr (K6.o.frNo (F8.o.trans f i3)) kIm 0 dc rfl rfl
  rw [k_1] at this
  exact this)) ?_
 rintro e w8 ⟨rfl, f8⟩
 have F9 := ftr F8 f8
 clear f8
 clear z0 z1 z2 z3 z4 z5 z6 z7 z8 z9 z10 z11 z12
 have z0 := (C1.o.fr F9.o id).cell 0
 have z1 := (C1.o.fr F9.o id).cell 1
 have z2 := (C1.o.fr F9.o id).cell 2
 have z3 := (C1.o.fr F9.o id).cell 3
 have z4 := (C1.o.fr F9.o id).cell 4
 have z5 := (C1.o.fr F9.o id).cell 5
 have z6 := (C1.o.fr F9.o id).cell 6
 have z7 := (C1.o.fr F9.o id).cell 7
 have z8 := (C1.o.fr F9.o id).cell 8
 have z9 := (C1.o.fr F9.o id).cell 9
 have z10 := (C1.o.fr F9.o id).cell 10
 have z11 := (C1.o.fr F9.o id).cell 11
 have z12 := (C1.o.fr F9.o id).cell 12
 rw [HPV]
 go_wp2_with fail
 rw [← HPV]
 refine Calls.mono (kBx V3.P kMe _ _ _ _ _ _ _ _ _ _ _ _ _ _ _ _ _ _ _ _ _ _ _ _ _ _ _ _ _ _ _ _ 0 26 w8 ⟨by decide, by decide⟩ (fun X f => by
  have := kCi (K6.o.frNo (F9.o.trans f i3)) kMe 0 dc k_mb rfl rfl
  rw [k_2] at this
  exact this)) ?_
 rintro e w9 ⟨rfl, f9⟩
 have F10 := ftr F9 f9
 clear f9
 clear z0 z1 z2 z3 z4 z5 z6 z7 z8 z9 z10 z11 z12
 have z0 := (C2.o.fr F10.o id).cell 0
 have z1 := (C2.o.fr F10.o id).cell 1
 have z2 := (C2.o.fr F10.o id).cell 2
 have z3 := (C2.o.fr F10.o id).cell 3
 have z4 := (C2.o.fr F10.o id).cell 4
 have z5 := (C2.o.fr F10.o id).cell 5
 have z6 := (C2.o.fr F10.o id).cell 6
 have z7 := (C2.o.fr F10.o id).cell 7
 have z8 := (C2.o.fr F10.o id).cell 8
 have z9 := (C2.o.fr F10.o id).cell 9
 have z10 := (C2.o.fr F10.o id).cell 10
 have z11 := (C2.o.fr F10.o id).cell 11
 have z12 := (C2.o.fr F10.o id).cell 12
 rw [HPV]
 go_wp2_with fail
 rw [← HPV]
 refine Calls.mono (kBx V3.P kSo _ _ _ _ _ _ _ _ _ _ _ _ _ _ _ _ _ _ _ _ _ _ _ _ _ _ _ _ _ _ _ _ 0 0 w9 ⟨by decide, by decide⟩ (fun X f => by
  have := kCi (K6.o.frNo (F10.o.trans f i3)) kSo 0 dc k_mb rfl rfl
  rw [k_3] at this
  exact this)) ?_
 rintro e w10 ⟨rfl, f10⟩
 have F11 := ftr F10 f10
 clear f10
 clear z0 z1 z2 z3 z4 z5 z6 z7 z8 z9 z10 z11 z12
 have z0 := (C3.o.fr F11.o id).cell 0
 have z1 := (C3.o.fr F11.o id).cell 1
 have FE := ftr F6 F11.o
 go_wp2
 go_ret
 exact ⟨rfl, FE.o⟩
instance : kAQ tEt := by unfold tEt tEt0; infer_instance
instance : kAQ tGv := by unfold tGv tGv0; infer_instance
theorem elGv : ElemOk prog 68 94 4 48 (.agg #[.string ⟨#[]⟩, .string ⟨#[]⟩, .int .i64 0, .int .i64 0]) := ElemOk.mk' underlying68 kr rfl dc
theorem kJP (a b c d : Int) (w : World) : (Op.equalIn 10000 57 (.agg #[.int .i64 a, .int .i64 b]) (.agg #[.int .i64 c, .int .i64 d])).run prog w = .ok (a == c && (b == d && true)) w :=
 kFG kr kr (kAr dc (kAS (kAu underlying34) rfl) (kAS (kAu underlying34) rfl) (run_equalIn_int w 9998 _ _ _ _ _ underlying34)
  (kAr dc (kAS (kAu underlying3) rfl) (kAS (kAu underlying3) rfl) (run_equalIn_int w 9998 _ _ _ _ _ underlying3) kDA))
end
theorem els_up {α : Type} {t : Ty α} [TyOk t] [TyMore t] {w w' : World} {S S' : Nat → Prop} {A : OA} {xs : List α} (h : t.els w S A xs) (f : Fr No w w') (hS : Lt S w) (hB : ∀ k, S k → S' k) : t.els w' S' A xs :=
 (h.fr f (fun k hk => ⟨hS k hk, fun x => x⟩)).more hB
theorem kAO {α : Type} {t : Ty α} [ho : TyOk t] [hm : TyMore t] {w w' : World} {S S' : Nat → Prop} {cs : LV} {x : α} (h : t.rd w S cs x) (f : Fr No w w') (hS : Lt S w) (hB : ∀ k, S k → S' k) : t.rd w' S' cs x :=
 hm.more _ _ _ _ _ (ho.keep _ _ _ _ _ h (fun p hp => f.cell (hS _ hp) id)) hB
theorem kBK {P : Program} {fn : Func} {p : Tmp} {ty : TypeId} (h : fn.results = #[.cell p ty]) (tmps : Array Value) (w : World) (g : Nat) (ds : LV) (d : TypeDesc)
    (hp : tmps.getD p undef = .pointer (some ⟨g, 0, none⟩)) (hr : w.rangeAt g 0 ds) (hu : P.underlying ty = some d) (hd : d.isRow = true) (hi : (P.info? ty).map (·.size) = some ds.length) :
    (results fn tmps).run P w = .ok (.agg ds.toArray) w := by
 have hp' : tmps[p]?.getD undef = .pointer (some ⟨g, 0, none⟩) := by simpa using hp
 simp [results, h, hp', asAddr, run_loadVar_mid w g 0 ty ds d hr hu hd hi]
section
variable {w : World} {S : Nat → Prop} {x : Rx} {A0 A1 A2 A3 A4 A5 A6 A7 A8 A9 : OA} {c0 c1 c2 c3 c4 c5 c6 c7 c8 c9 : Nat}
abbrev q6x1 (a0 a1 a2 a3 a4 a5 a6 a7 a8 a9 : Option Addr) (a10 : Rx) (a11 a12 a13 a14 a15 a16 a17 a18 a19 a20 : Nat) : List Value := [.slice a0 a10.hosts.length a11, .slice a1 a10.counts.length a12, .slice a2 a10.calls.length a13, .slice a3 a10.funcs.length a14, .slice a4 a10.tabs.length a15, .slice a5 a10.mems.length a16, .slice a6 a10.globs.length a17, .slice a7 a10.elems.length a18, .slice a8 a10.datas.length a19, .slice a9 a10.insts.length a20]
theorem kKZ (h : tRx.rd w S (q6x1 A0 A1 A2 A3 A4 A5 A6 A7 A8 A9 x c0 c1 c2 c3 c4 c5 c6 c7 c8 c9) x) : x.funcs.length ≤ c3 ∧ c3 ≤ maxLen ∧ tFi.els w S A3 x.funcs := by
 obtain ⟨B0, d0, B1, d1, B2, d2, B3, d3, B4, d4, B5, d5, B6, d6, B7, d7, B8, d8, B9, d9, e, h0, k0, e0, h1, k1, e1, h2, k2, e2, h3, k3, e3, h4, k4, e4, h5, k5, e5, h6, k6, e6, h7, k7, e7, h8, k8, e8, h9, k9, e9⟩ := kBz h
 simp only [List.cons.injEq, Value.slice.injEq, true_and, and_true] at e
 obtain ⟨⟨rfl, rfl⟩, ⟨rfl, rfl⟩, ⟨rfl, rfl⟩, ⟨rfl, rfl⟩, ⟨rfl, rfl⟩, ⟨rfl, rfl⟩, ⟨rfl, rfl⟩, ⟨rfl, rfl⟩, ⟨rfl, rfl⟩, ⟨rfl, rfl⟩⟩ := e
 exact ⟨h3, k3, e3⟩
theorem kKk (h : tRx.rd w S (q6x1 A0 A1 A2 A3 A4 A5 A6 A7 A8 A9 x c0 c1 c2 c3 c4 c5 c6 c7 c8 c9) x) : x.tabs.length ≤ c4 ∧ c4 ≤ maxLen ∧ tRt.els w S A4 x.tabs := by
 obtain ⟨B0, d0, B1, d1, B2, d2, B3, d3, B4, d4, B5, d5, B6, d6, B7, d7, B8, d8, B9, d9, e, h0, k0, e0, h1, k1, e1, h2, k2, e2, h3, k3, e3, h4, k4, e4, h5, k5, e5, h6, k6, e6, h7, k7, e7, h8, k8, e8, h9, k9, e9⟩ := kBz h
 simp only [List.cons.injEq, Value.slice.injEq, true_and, and_true] at e
 obtain ⟨⟨rfl, rfl⟩, ⟨rfl, rfl⟩, ⟨rfl, rfl⟩, ⟨rfl, rfl⟩, ⟨rfl, rfl⟩, ⟨rfl, rfl⟩, ⟨rfl, rfl⟩, ⟨rfl, rfl⟩, ⟨rfl, rfl⟩, ⟨rfl, rfl⟩⟩ := e
 exact ⟨h4, k4, e4⟩
theorem kKl (h : tRx.rd w S (q6x1 A0 A1 A2 A3 A4 A5 A6 A7 A8 A9 x c0 c1 c2 c3 c4 c5 c6 c7 c8 c9) x) : x.mems.length ≤ c5 ∧ c5 ≤ maxLen ∧ tRm.els w S A5 x.mems := by
 obtain ⟨B0, d0, B1, d1, B2, d2, B3, d3, B4, d4, B5, d5, B6, d6, B7, d7, B8, d8, B9, d9, e, h0, k0, e0, h1, k1, e1, h2, k2, e2, h3, k3, e3, h4, k4, e4, h5, k5, e5, h6, k6, e6, h7, k7, e7, h8, k8, e8, h9, k9, e9⟩ := kBz h
 simp only [List.cons.injEq, Value.slice.injEq, true_and, and_true] at e
 obtain ⟨⟨rfl, rfl⟩, ⟨rfl, rfl⟩, ⟨rfl, rfl⟩, ⟨rfl, rfl⟩, ⟨rfl, rfl⟩, ⟨rfl, rfl⟩, ⟨rfl, rfl⟩, ⟨rfl, rfl⟩, ⟨rfl, rfl⟩, ⟨rfl, rfl⟩⟩ := e
 exact ⟨h5, k5, e5⟩
theorem kKY (h : tRx.rd w S (q6x1 A0 A1 A2 A3 A4 A5 A6 A7 A8 A9 x c0 c1 c2 c3 c4 c5 c6 c7 c8 c9) x) : x.globs.length ≤ c6 ∧ c6 ≤ maxLen ∧ tRg.els w S A6 x.globs := by
 obtain ⟨B0, d0, B1, d1, B2, d2, B3, d3, B4, d4, B5, d5, B6, d6, B7, d7, B8, d8, B9, d9, e, h0, k0, e0, h1, k1, e1, h2, k2, e2, h3, k3, e3, h4, k4, e4, h5, k5, e5, h6, k6, e6, h7, k7, e7, h8, k8, e8, h9, k9, e9⟩ := kBz h
 simp only [List.cons.injEq, Value.slice.injEq, true_and, and_true] at e
 obtain ⟨⟨rfl, rfl⟩, ⟨rfl, rfl⟩, ⟨rfl, rfl⟩, ⟨rfl, rfl⟩, ⟨rfl, rfl⟩, ⟨rfl, rfl⟩, ⟨rfl, rfl⟩, ⟨rfl, rfl⟩, ⟨rfl, rfl⟩, ⟨rfl, rfl⟩⟩ := e
 exact ⟨h6, k6, e6⟩
end
theorem kLQ {w : World} {S : Nat → Prop} {x : Rx} {cs : LV} (h : tRx.rd w S cs x) : ∃ A c, cs[3]? = some (.slice A x.funcs.length c) ∧ x.funcs.length ≤ c ∧ c ≤ maxLen ∧ tFi.els w S A x.funcs := by
 obtain ⟨A0, c0, A1, c1, A2, c2, A3, c3, A4, c4, A5, c5, A6, c6, A7, c7, A8, c8, A9, c9, rfl, -⟩ := kBz h
 exact ⟨A3, c3, rfl, kKZ h⟩
theorem kLP {w : World} {S : Nat → Prop} {x : Rx} {cs : LV} (h : tRx.rd w S cs x) : ∃ A c, cs[4]? = some (.slice A x.tabs.length c) ∧ x.tabs.length ≤ c ∧ c ≤ maxLen ∧ tRt.els w S A x.tabs := by
 obtain ⟨A0, c0, A1, c1, A2, c2, A3, c3, A4, c4, A5, c5, A6, c6, A7, c7, A8, c8, A9, c9, rfl, -⟩ := kBz h
 exact ⟨A4, c4, rfl, kKk h⟩
theorem kLO {w : World} {S : Nat → Prop} {x : Rx} {cs : LV} (h : tRx.rd w S cs x) : ∃ A c, cs[5]? = some (.slice A x.mems.length c) ∧ x.mems.length ≤ c ∧ c ≤ maxLen ∧ tRm.els w S A x.mems := by
 obtain ⟨A0, c0, A1, c1, A2, c2, A3, c3, A4, c4, A5, c5, A6, c6, A7, c7, A8, c8, A9, c9, rfl, -⟩ := kBz h
 exact ⟨A5, c5, rfl, kKl h⟩
theorem kKj {w : World} {S : Nat → Prop} {x : Rx} {cs : LV} (h : tRx.rd w S cs x) : ∃ A c, cs[6]? = some (.slice A x.globs.length c) ∧ x.globs.length ≤ c ∧ c ≤ maxLen ∧ tRg.els w S A x.globs := by
 obtain ⟨A0, c0, A1, c1, A2, c2, A3, c3, A4, c4, A5, c5, A6, c6, A7, c7, A8, c8, A9, c9, rfl, -⟩ := kBz h
 exact ⟨A6, c6, rfl, kKY h⟩
theorem Blk.at_ {w : World} {p i : Nat} {t : TypeId} {cs : LV} {v : Value} (h : Blk w p t cs.toArray) (e : cs[i]? = some v) : w.cell? ⟨p, i, none⟩ = some v := by
 rw [h.cell, List.getElem?_toArray, e]
theorem bx0 (w : World) (cs : LV) (C : Array Value) (T : TypeId) : Hid (Fr No w ((w.alloc (.cells cs.toArray 33)).alloc (.cells C T))) ∧ Hid (Blk ((w.alloc (.cells cs.toArray 33)).alloc (.cells C T)) w.heap.size 33 cs.toArray) ∧ Hid (Blk ((w.alloc (.cells cs.toArray 33)).alloc (.cells C T)) (w.heap.size + 1) T C) :=
 ⟨((Fr.refl No w).alloc _).alloc _, (Blk.new w 33 cs.toArray).alloc _, Blk.new1 w (.cells cs.toArray 33) T C⟩
theorem bx1 (w : World) (cs : LV) (C : Array Value) (T : TypeId) (D : Array Value) (U : TypeId) : Hid (Fr No w (((w.alloc (.cells cs.toArray 33)).alloc (.cells C T)).alloc (.cells D U))) ∧ Hid (Blk (((w.alloc (.cells cs.toArray 33)).alloc (.cells C T)).alloc (.cells D U)) w.heap.size 33 cs.toArray) ∧ Hid (Blk (((w.alloc (.cells cs.toArray 33)).alloc (.cells C T)).alloc (.cells D U)) (w.heap.size + 1) T C) ∧ Hid (Blk (((w.alloc (.cells cs.toArray 33)).alloc (.cells C T)).alloc (.cells D U)) (w.heap.size + 1 + 1) U D) := by
 obtain ⟨f, g0, g1⟩ := bx0 w cs C T
 exact ⟨f.o.alloc _, g0.o.alloc _, g1.o.alloc _, by have h := Blk.new ((w.alloc (.cells cs.toArray 33)).alloc (.cells C T)) U D; simp only [World.size_alloc] at h; exact h⟩
section
variable {ops : Array Oper} {rest : List Oper} {op : Oper} {a : Act} {Q : Exit → Act → World → Prop} {w : World} {T : TypeId} {d : TypeDesc} {n p q : Nat} {ds : LV}
theorem ldG (hu : prog.underlying T = some d) (hi : (prog.info? T).map (·.size) = some n) (r : w.rangeAt p q ds) (hl : ds.length = n) (h : wpList prog ops Q rest (a.put op.dst (.agg ds.toArray)) w)
    (hd : d.isRow = true := by rfl) (hgd : op.guard = none := by rfl) {o : Operand} (ho : op.op = .load T o := by rfl) (hx : a.eval o = .pointer (some ⟨p, q, none⟩) := by rfl) : wpList prog ops Q (op :: rest) a w :=
 wpList_load_mid hgd T o ho p q hx ds _ r hu hd (by rw [hl]; exact hi) h
theorem stG (hi : (prog.info? T).map (·.size) = some n) (th : w.there p q n) (hl : ds.length = n) (h1 : ds.all (·.oneCell') = true) (h : wpList prog ops Q rest (a.put op.dst undef) (w.setCells p q ds))
    (hgd : op.guard = none := by rfl) {o v : Operand} (ho : op.op = .store T o v := by rfl) (hx : a.eval o = .pointer (some ⟨p, q, none⟩) := by rfl) (hy : a.eval v = .agg ds.toArray := by rfl) : wpList prog ops Q (op :: rest) a w :=
 wpList_store_mid hgd T o v ho p q ds.toArray hx hy (by rw [show ds.toArray.size = n from hl]; exact th) (by rw [show ds.toArray.size = n from hl]; exact hi) (by simpa using h1) h
theorem nwG {c : Array Value} (hi : (prog.info? T).map (·.size) = some n) (hc : c.size = n) (hl : ds.length = n) (h1 : ds.all (·.oneCell') = true) (h : wpList prog ops Q rest (a.put op.dst undef) (w.alloc (.cells ds.toArray T)))
    (hgd : op.guard = none := by rfl) {o v : Operand} (ho : op.op = .store T o v := by rfl) (hx : a.eval o = .pointer (some ⟨w.heap.size, 0, none⟩) := by rfl) (hy : a.eval v = .agg ds.toArray := by rfl) : wpList prog ops Q (op :: rest) a (w.alloc (.cells c T)) :=
 kAm hgd T o v ho c ds hx hy (by rw [hl]; exact hi) (by rw [hl]; exact hc) h1 h
end
def kHu {α : Type} (t : Ty α) (x : α) (ok : Bool) (w : World) (e : Ending) (w' : World) : Prop := ∃ cs, e = .returned (.tuple #[.agg cs.toArray, .bool ok]) ∧ t.rd w' (Nw w w') cs x ∧ Fr No w w'
section
variable {w : World} {R : Nat → Prop} {V : Pl} {x : Rx}
abbrev q6x14 : Array Value := #[.slice none 0 0, .slice none 0 0, .int .i64 0, .int .i64 0]
theorem kJB (h : StIn w R V x) (i : Int) (hn : x.funcs.length ≤ 1000000) (hb : ∀ a ∈ x.funcs, a.ty.params.length * 8 ≤ 140737488351232 ∧ a.ty.results.length * 8 ≤ 140737488351232) :
    Calls prog 73 #[.pointer (some ⟨V.P, 0, none⟩), .int .i64 i] w (kHu tFi (atD zFi x.funcs i).1 (atD zFi x.funcs i).2 w) := by
 have F0 := hid ((Fr.refl No w).alloc (.cells q6x14 80))
 have G0 := hid (Blk.new w 80 q6x14)
 obtain ⟨A, c, hv, _, hel⟩ := h.sl_fu
 have hcell : w.cell? ⟨V.P, 3, none⟩ = some (.slice A x.funcs.length c) := by rw [← hv]; exact h.blk.cell 3
 have hPl : V.P < w.heap.size := h.lt V.oP
 have HA := hid (fun (X : World) (f : Fr No w X) => kGv V.P 3 A c x.funcs i (· < w.heap.size) X ((f.cell (p := ⟨V.P, 3, none⟩) hPl id).trans hcell) (hel.fr f (fun k hk => ⟨hk, fun x => x⟩)) (fun k hk => ltl hk f.size) hn)
 have hbl : Hid ((atD zFi x.funcs i).1.ty.params.length * 8 ≤ 140737488351232 ∧ (atD zFi x.funcs i).1.ty.results.length * 8 ≤ 140737488351232) := kBn (p := fun a : Fi => a.ty.params.length * 8 ≤ 140737488351232 ∧ a.ty.results.length * 8 ≤ 140737488351232) dc hb
 clear hel hcell hv h hPl hb
 obtain ⟨ok, hok⟩ : ∃ ok, ok = (atD zFi x.funcs i).2 := ⟨_, rfl⟩
 rw [← hok]
 have HOK := hid hok.symm
 clear hok
 obtain ⟨s, hs⟩ : ∃ s, s = (atD zFi x.funcs i).1 := ⟨_, rfl⟩
 rw [← hs] at hbl ⊢
 have HS := hid hs.symm
 clear hs
 go_enter func73, ntmps73
 go_wp2_with fail
 refine (HA.o _ F0.o).mono ?_
 rintro e w1 ⟨cs, rfl, hr, f1⟩
 rw [HS.o] at hr
 obtain ⟨A1, c1, A2, c2, rfl, q1, q2, q3, q4, q5, q6, q7, q8⟩ := kCe hr
 have F1 := ftr F0 f1
 replace G0 := hid (G0.o.fr f1 id)
 have HQ := hid G0.o.lt
 clear HA hr f1 F0
 obtain ⟨p, hp⟩ : ∃ p, p = w.heap.size := ⟨_, rfl⟩
 rw [← hp] at G0 HQ
 simp only [← hp]
 have HPW := hid hp
 clear hp
 have f2 := (Fr.refl No w1).alloc (.cells #[.slice A1 s.ty.params.length c1, .slice A2 s.ty.results.length c2, .int .i64 s.inst, .int .i64 s.index] 80)
 have F2 := ftr F1 f2
 replace G0 := hid (G0.o.fr f2 id)
 have G1 := hid (Blk.new w1 80 #[.slice A1 s.ty.params.length c1, .slice A2 s.ty.results.length c2, .int .i64 s.inst, .int .i64 s.index])
 go_upto_region 4 with fail
 have HC := hid (kBQ s.ty A1 A2 c1 c2 (· < w.heap.size) (w1.alloc (.cells #[.slice A1 s.ty.params.length c1, .slice A2 s.ty.results.length c2, .int .i64 s.inst, .int .i64 s.index] 80)) (fun k hk => ltl hk F2.o.size) (q3.fr f2 (fun k hk => ⟨ltl hk F1.o.size, fun x => x⟩)) (q6.fr f2 (fun k hk => ⟨ltl hk F1.o.size, fun x => x⟩)) hbl.o.1 hbl.o.2)
 clear f2 q3 q6
 generalize w1.alloc (.cells #[.slice A1 s.ty.params.length c1, .slice A2 s.ty.results.length c2, .int .i64 s.inst, .int .i64 s.index] 80) = W at *
 have HW0 : w1.heap.size < W.heap.size := G1.o.lt
 have HW := hid HW0
 clear HW0
 generalize w1.heap.size = q at *
 have z0 := G1.o.cell 0
 have z1 := G1.o.cell 1
 go_wp2_with fail
 refine HC.o.mono ?_
 rintro e w3 ⟨cs, rfl, hr, f3⟩
 clear z0 z1 HC
 obtain ⟨B1, d1, B2, d2, rfl, r1, r2, r3, r4, r5, r6⟩ := Fn_cells hr
 have R3 := hid r3
 have R6 := hid r6
 clear hr r3 r6
 have F3 := ftr F2 f3
 replace G0 := hid (G0.o.fr f3 id)
 replace G1 := hid (G1.o.fr f3 id)
 clear f3
 have z0 := G1.o.cell 0
 have z1 := G1.o.cell 1
 have y0 := G1.o.frozen 0
 have y1 := G1.o.frozen 1
 have y2 : ∀ u, (w3.setCell ⟨q, 0, none⟩ u).cell? ⟨q, 1, none⟩ = some (.slice A2 s.ty.results.length c2) := fun u => (G1.o.set_ 0 u).cell 1
 have y3 : ∀ u, (w3.setCell ⟨q, 0, none⟩ u).frozen? ⟨q, 1, none⟩ = false := fun u => (G1.o.set_ 0 u).frozen 1
 go_upto_region 5 with fail
 have hpq : p ≠ q := by have := HQ.o; omega
 have N1 := hid ((G1.o.set_ 0 (.slice B1 s.ty.params.length d1)).set_ 1 (.slice B2 s.ty.results.length d2))
 have N0 := hid ((G0.o.far (p := ⟨q, 0, none⟩) hpq (.slice B1 s.ty.params.length d1)).far (p := ⟨q, 1, none⟩) hpq (.slice B2 s.ty.results.length d2))
 have F5 := hid ((F3.o.setCell ⟨q, 0, none⟩ (.slice B1 s.ty.params.length d1) (fun h => absurd h (by have := HQ.o; have := HPW.o; show ¬ q < _; omega))).setCell ⟨q, 1, none⟩ (.slice B2 s.ty.results.length d2) (fun h => absurd h (by have := HQ.o; have := HPW.o; show ¬ q < _; omega)))
 have fq := (((Fr.refl (fun k => k = q) w3).setCell ⟨q, 0, none⟩ (.slice B1 s.ty.params.length d1) (fun _ => rfl)).setCell ⟨q, 1, none⟩ (.slice B2 s.ty.results.length d2) (fun _ => rfl))
 have hlq : Hid (∀ k, Nw W w3 k → k < w3.heap.size ∧ ¬ k = q ∧ ¬ k = p ∧ w.heap.size ≤ k) := by
  rintro k ⟨ha, hb⟩
  have h1 := G1.o.lt
  have h2 := HW.o
  have h3 := HQ.o
  have h4 := HPW.o
  refine ⟨hb, ?_, ?_, ?_⟩ <;> omega
 have R3' := hid (R3.o.fr fq (fun k hk => ⟨(hlq.o k hk).1, (hlq.o k hk).2.1⟩))
 have R6' := hid (R6.o.fr fq (fun k hk => ⟨(hlq.o k hk).1, (hlq.o k hk).2.1⟩))
 have SZ := hid fq.size
 clear fq z0 z1 y0 y1 y2 y3 G0 G1 R3 R6 F3
 generalize (w3.setCell ⟨q, 0, none⟩ (.slice B1 s.ty.params.length d1)).setCell ⟨q, 1, none⟩ (.slice B2 s.ty.results.length d2) = W5 at *
 have HI : Hid ((prog.info? 80).map (·.size) = some 4) := by unfold Hid; kernel_rfl
 have RQ : W5.rangeAt q 0 [.slice B1 s.ty.params.length d1, .slice B2 s.ty.results.length d2, .int .i64 s.inst, .int .i64 s.index] := kBJ N1.o
 have HT : Hid (W5.there p 0 4) := there_blk N0.o rfl
 go_wp2_with (first
  | (refine wpList_load_mid (by rfl) 80 _ (by rfl) q 0 (by rfl) _ _ RQ underlying80 (by rfl) HI.o ?_)
  | (refine wpList_store_mid (by rfl) 80 _ _ (by rfl) p 0 #[.slice B1 s.ty.params.length d1, .slice B2 s.ty.results.length d2, .int .i64 s.inst, .int .i64 s.index] (by rfl) (by rfl) HT.o HI.o (by simp [Value.oneCell']) ?_)
  | fail)
 have F6 := hid (Fr.setCells' (a := w) (b := p) (M := No) (fun h => absurd h (by have := HPW.o; omega)) [.slice B1 s.ty.params.length d1, .slice B2 s.ty.results.length d2, .int .i64 s.inst, .int .i64 s.index] 0 W5 F5.o)
 have f7 := Fr.setCells' (a := W5) (b := p) (M := fun k => k = p) (fun _ => rfl) [.slice B1 s.ty.params.length d1, .slice B2 s.ty.results.length d2, .int .i64 s.inst, .int .i64 s.index] 0 W5 (Fr.refl _ W5)
 have RR := World.rangeAt_setCells_same W5 p 0 [.slice B1 s.ty.params.length d1, .slice B2 s.ty.results.length d2, .int .i64 s.inst, .int .i64 s.index] HT.o
 have E3 := R3'.o.fr f7 (fun k hk => ⟨ltl (hlq.o k hk).1 SZ.o, (hlq.o k hk).2.2.1⟩)
 have E6 := R6'.o.fr f7 (fun k hk => ⟨ltl (hlq.o k hk).1 SZ.o, (hlq.o k hk).2.2.1⟩)
 have hup : ∀ k, Nw W w3 k → Nw w (W5.setCells p 0 [.slice B1 s.ty.params.length d1, .slice B2 s.ty.results.length d2, .int .i64 s.inst, .int .i64 s.index]) k := fun k hk => ⟨(hlq.o k hk).2.2.2, ltl (hlq.o k hk).1 (Nat.le_trans SZ.o f7.size)⟩
 rw [HOK.o]
 refine bodyPost_ret (v := .tuple #[.agg [.slice B1 s.ty.params.length d1, .slice B2 s.ty.results.length d2, .int .i64 s.inst, .int .i64 s.index].toArray, .bool ok]) (kHv (fn := f73) (p := 4) (t := 5) (ty := 80) rfl _ _ p _ _ (by rfl) RR underlying80 (by rfl) HI.o) rfl ?_
 exact ⟨_, rfl, Fi_mk (a := s) r1 r2 (E3.more hup) r4 r5 (E6.more hup) q7 q8, F6.o⟩
end
section
variable {w : World} {R : Nat → Prop} {V : Pl} {x : Rx}
def tbB (t : Tb) : Bool := tabB t.elem t.lim.min t.lim.max t.lim.has
def kBy (x : Rx) (t : Tb) : Rx × Int := if tbB t then ({ x with tabs := x.tabs ++ [⟨t, List.replicate t.lim.min.toNat 0⟩] }, x.tabs.length) else (x, -1)
abbrev q6x9 (a0 : Tb) : Array Value := #[.int .i64 a0.elem, .int .i64 a0.lim.min, .int .i64 a0.lim.max, .bool a0.lim.has]
theorem kDy (h : StIn w R V x) (t : Tb) (hn : x.tabs.length ≤ 1000000) :
    Calls prog 26 #[.pointer (some ⟨V.P, 0, none⟩), .agg (q6x9 t)] w (GrTo R V (.int .i64 (kBy x t).2) (kBy x t).1 w) := by
 have F0 := hid ((Fr.refl No w).alloc (.cells (q6x9 t) 39))
 have G0 := hid (Blk.new w 39 (q6x9 t))
 have H := hid h
 clear h
 have HTA := hid (fun X => kDD t.elem t.lim.min t.lim.max t.lim.has X)
 unfold kBy
 cases hv : tbB t with
 | false =>
  have HV : Hid (tabB t.elem t.lim.min t.lim.max t.lim.has = false) := hv
  clear hv
  rw [HV.o] at HTA
  simp only [if_true, Bool.false_eq_true, if_false]
  go_enter func26, ntmps26
  go_wp2_with (go_at_call 60; refine (HTA.o _).mono ?_; rintro e w1 ⟨rfl, f1⟩; have F1 := hid (Fr.of_below (M := No) f1); clear f1)
  go_ret
  exact GrTo.no H.o (F0.o.trans F1.o i3)
 | true =>
  have HV : Hid (tabB t.elem t.lim.min t.lim.max t.lim.has = true) := hv
  clear hv
  rw [HV.o] at HTA
  simp only [if_true, Bool.false_eq_true, if_false]
  go_enter func26, ntmps26
  go_wp2_with (go_at_call 60; refine (HTA.o _).mono ?_; rintro e w1 ⟨rfl, f1⟩; have F1 := hid (Fr.of_below (M := No) f1); clear f1)
  have F2 := ftr F0 F1.o
  have G1 := hid (G0.o.fr F1.o id)
  have HX : Hid (∀ X, Blk X w.heap.size 39 (q6x9 t) → Ce X w.heap.size 0 (.int .i64 t.elem) ∧ Ce X w.heap.size 1 (.int .i64 t.lim.min) ∧ Ce X w.heap.size 2 (.int .i64 t.lim.max) ∧ Ce X w.heap.size 3 (.bool t.lim.has)) := fun X b => ⟨b.cell 0, b.cell 1, b.cell 2, b.cell 3⟩
  clear G0 F0 F1 HTA
  refine rwO (fun X => Ce X w.heap.size 0 (.int .i64 t.elem) ∧ Ce X w.heap.size 1 (.int .i64 t.lim.min) ∧ Ce X w.heap.size 2 (.int .i64 t.lim.max) ∧ Ce X w.heap.size 3 (.bool t.lim.has)) [] (List.range 7) [4, 5] (HX.o _ G1.o.drew) ?_
  refine rC ?_
  refine wpO_eff rfl rfl fun K hK => sz ?_
  refine (kHU t.elem t.lim.min t.lim.max t.lim.has _ HV.o).mono ?_
  rintro e w2 ⟨p, q, rfl, hm, l1, l2, f2⟩
  have F3 := hid (F2.o.drew.trans f2 i3)
  have G2 := hid (G1.o.drew.fr f2 id)
  have HM := hid hm
  have l1 : w.heap.size ≤ p := Nat.le_trans F2.o.size l1
  have l2 : w.heap.size ≤ q := Nat.le_trans F2.o.size l2
  clear hm f2
  refine hK _ _ (fun _ => HX.o _ G2.o) ?_
  clear hK K
  have K1 : Hid (StIn w2 (fun k => R k ∨ k = p ∨ k = q) V x) := H.o.fr F3.o (fun _ _ m => m.elim) (fun k hk r => r.elim (fun r => r) (fun e => by omega)) (fun k r => .inl r) (fun k r => r.elim (fun r => ltl (H.o.low k r) F3.o.size) (fun e => e.elim (fun e => e ▸ HM.o.blk.lt) (fun e => e ▸ HM.o.own.lt)))
  refine wpO_eff rfl rfl fun K hK => sz ?_
  refine (kFQ V.P 4 (Sd w2 (fun k => R k ∨ k = p ∨ k = q)) V.ta (V.tp.map (·.1)) p w2 (K1.o.addIn_ta rfl (by simp [H.o.tl]; exact hn))).mono ?_
  intro e w3 ha
  obtain ⟨V', R', rfl, h2, h3⟩ := H.o.added_ta (z := (p, q, t.lim.min.toNat)) (t := ⟨t, List.replicate t.lim.min.toNat 0⟩) F3.o HM.o l1 l2 ha
  have H2 := hid h2
  have H3 := hid h3
  clear h2 h3
  obtain ⟨v9, e9, -, f9, -⟩ := ha
  have G3 := G2.o.fr f9 (fun m => m.elim (fun e => by have := H.o.lt V.oP; omega) (fun e => by have := H.o.lt (Pl.o_ta e); omega))
  refine hK _ _ (fun _ => HX.o _ G3) ?_
  clear hK K f9 e9 G3
  refine rC ?_
  refine wpO_nil ?_
  go_wp2
  go_ret
  exact ⟨V', R', rfl, H2.o, H3.o⟩
end
theorem kDE (A B : OA) (xs ys : List Int) (c d : Nat) (S T : Nat → Prop) (w : World) (ha : tI.els w S A xs) (hb : tI.els w T B ys) (h1 : xs.length ≤ 140737488351232) (h2 : ys.length ≤ 140737488351232) :
    Calls prog 88 #[.slice A xs.length c, .slice B ys.length d] w fun e w' => e = .returned (.bool (decide (xs = ys))) ∧ ∃ n, w' = w.drewN n := by
 by_cases hl : xs.length = ys.length
 · have e1 : (((xs.length : Nat) : Int) != ((ys.length : Nat) : Int)) = false := by simp [hl]
   have hL := hid hl
   have hl1 : xs.length ≤ ys.length := om
   clear hl
   go_enter func88, ntmps88
   go_wp2
   go_loopw [14] (fun i wr => ∃ k m : Nat, k ≤ xs.length ∧ i = .int .i64 k ∧ wr = w.drewN m ∧ xs.take k = ys.take k) (fun i _ => xs.length - (intOf i).toNat)
   case atStart => exact ⟨0, 0, by omega, rfl, rfl, by simp⟩
   obtain ⟨k, m, hk, rfl, rfl, hq⟩ := hrel
   have HQ := hid hq
   clear hq e1
   by_cases hlt : k < xs.length
   · obtain ⟨b, o, rfl, _, c1, _⟩ := kEk ha k hlt
     obtain ⟨b', o', rfl, _, c2, _⟩ := kEk hb k om
     have i0 := nki k
     have i1 : (k : Int) < xs.length := om
     have i2 : (k : Int) < ys.length := om
     generalize hx : xs[k] = x at c1
     generalize hy : ys[k] = y at c2
     have HX := hid hx
     have HY := hid hy
     clear hx hy ha hb
     by_cases hxy : x = y
     · have hn : (x != y) = false := by simp [hxy]
       have HXY := hid hxy
       clear hxy
       exact yy38
     have hn : (x != y) = true := by simp [hxy]
     have HXY := hid hxy
     clear hxy
     go_wp2
     go_ret
     refine ⟨ret_bool ?_, _, rfl⟩
     symm
     rw [decide_eq_false_iff_not]
     rintro rfl
     exact HXY.o (HX.o.symm.trans HY.o)
   exact yy47
 have e1 : (((xs.length : Nat) : Int) != ((ys.length : Nat) : Int)) = true := by simp; omega
 have hL := hid hl
 clear hl
 go_enter func88, ntmps88
 go_wp2
 go_ret
 refine ⟨ret_bool ?_, 0, rfl⟩
 symm
 rw [decide_eq_false_iff_not]
 rintro rfl
 exact hL.o rfl
theorem kKM (A B : OA) (xs ys : List Int) (c d : Nat) (S T : Nat → Prop) (w : World) (ha : tI.els w S A xs) (hb : tI.els w T B ys) (h1 : xs.length ≤ 140737488351232) (h2 : ys.length ≤ 140737488351232) :
    Calls prog 43 #[.slice A xs.length c, .slice B ys.length d] w fun e w' => e = .returned (.bool (decide (xs = ys))) ∧ ∃ n, w' = w.drewN n := by
 by_cases hl : xs.length = ys.length
 · have e1 : (((xs.length : Nat) : Int) != ((ys.length : Nat) : Int)) = false := by simp [hl]
   have hL := hid hl
   have hl1 : xs.length ≤ ys.length := om
   clear hl
   go_enter func43, ntmps43
   go_wp2
   go_loopw [5] (fun i wr => ∃ k m : Nat, k ≤ xs.length ∧ i = .int .i64 k ∧ wr = w.drewN m ∧ xs.take k = ys.take k) (fun i _ => xs.length - (intOf i).toNat)
   case atStart => exact ⟨0, 0, by omega, rfl, rfl, by simp⟩
   obtain ⟨k, m, hk, rfl, rfl, hq⟩ := hrel
   have HQ := hid hq
   clear hq e1
   by_cases hlt : k < xs.length
   · obtain ⟨b, o, rfl, _, c1, _⟩ := kEk ha k hlt
     obtain ⟨b', o', rfl, _, c2, _⟩ := kEk hb k om
     have i0 := nki k
     have i1 : (k : Int) < xs.length := om
     have i2 : (k : Int) < ys.length := om
     generalize hx : xs[k] = x at c1
     generalize hy : ys[k] = y at c2
     have HX := hid hx
     have HY := hid hy
     clear hx hy ha hb
     by_cases hxy : x = y
     · have hn : (x != y) = false := by simp [hxy]
       have HXY := hid hxy
       clear hxy
       go_wp2
       go_quiet (fail)
       exact yy38
     have hn : (x != y) = true := by simp [hxy]
     have HXY := hid hxy
     clear hxy
     go_wp2
     go_quiet (fail)
     go_wp2
     go_ret
     refine ⟨ret_bool ?_, m + nq, World.drewN_drewN _ _ _⟩
     symm
     rw [decide_eq_false_iff_not]
     rintro rfl
     exact HXY.o (HX.o.symm.trans HY.o)
   exact yy47
 have e1 : (((xs.length : Nat) : Int) != ((ys.length : Nat) : Int)) = true := by simp; omega
 have hL := hid hl
 clear hl
 go_enter func43, ntmps43
 go_wp2
 go_ret
 refine ⟨ret_bool ?_, 0, rfl⟩
 symm
 rw [decide_eq_false_iff_not]
 rintro rfl
 exact hL.o rfl
def fnEq (f g : Fn) : Bool := decide (f.params = g.params) && decide (f.results = g.results)
theorem kKL {f g : Fn} : fnEq f g = true ↔ f = g := by
 cases f; cases g
 simp [fnEq]
abbrev q6x12 (a0 a1 : Option Addr) (a2 : Fn) (a3 a4 : Nat) : Array Value := #[.slice a0 a2.params.length a3, .slice a1 a2.results.length a4]
abbrev q6x13 (a0 a1 : Option Addr) (a2 : Fn) (a3 a4 : Nat) : Array Value := #[.slice a0 a2.params.length a3, .slice a1 a2.results.length a4]
theorem kFb (f g : Fn) (A1 A2 B1 B2 : OA) (c1 c2 d1 d2 : Nat) (S T : Nat → Prop) (w : World) (hS : Lt S w) (hT : Lt T w) (h1 : tI.els w S A1 f.params) (h2 : tI.els w S A2 f.results) (h3 : tI.els w T B1 g.params) (h4 : tI.els w T B2 g.results)
    (b1 : f.params.length ≤ 140737488351232) (b2 : f.results.length ≤ 140737488351232) (b3 : g.params.length ≤ 140737488351232) (b4 : g.results.length ≤ 140737488351232) :
    Calls prog 57 #[.agg (q6x12 A1 A2 f c1 c2), .agg (q6x13 B1 B2 g d1 d2)] w fun e w' => e = .returned (.bool (fnEq f g)) ∧ Fr No w w' := by
 have F0 := hid (((Fr.refl No w).alloc (.cells (q6x12 A1 A2 f c1 c2) 78)).alloc (.cells (q6x13 B1 B2 g d1 d2) 78))
 have HP := hid (fun (X : World) (f0 : Fr No w X) => kDE A1 B1 f.params g.params c1 d1 S T X (h1.fr f0 (fun k hk => ⟨hS k hk, fun x => x⟩)) (h3.fr f0 (fun k hk => ⟨hT k hk, fun x => x⟩)) b1 b3)
 have HR := hid (fun (X : World) (f0 : Fr No w X) => kDE A2 B2 f.results g.results c2 d2 S T X (h2.fr f0 (fun k hk => ⟨hS k hk, fun x => x⟩)) (h4.fr f0 (fun k hk => ⟨hT k hk, fun x => x⟩)) b2 b4)
 have G0 := hid ((Blk.new w 78 (q6x12 A1 A2 f c1 c2)).alloc (.cells (q6x13 B1 B2 g d1 d2) 78))
 have G1 := hid (Blk.new1 w (.cells (q6x12 A1 A2 f c1 c2) 78) 78 (q6x13 B1 B2 g d1 d2))
 unfold fnEq
 obtain ⟨q1, e1⟩ : ∃ q, q = decide (f.params = g.params) := ⟨_, rfl⟩
 obtain ⟨q2, e2⟩ : ∃ q, q = decide (f.results = g.results) := ⟨_, rfl⟩
 rw [← e1] at HP ⊢
 rw [← e2] at HR ⊢
 clear e1 e2 h1 h2 h3 h4 hS hT
 go_enter func57, ntmps57
 exact yy11
theorem kKJ (f g : Fn) (A1 A2 B1 B2 : OA) (c1 c2 d1 d2 : Nat) (S T : Nat → Prop) (w : World) (hS : Lt S w) (hT : Lt T w) (h1 : tI.els w S A1 f.params) (h2 : tI.els w S A2 f.results) (h3 : tI.els w T B1 g.params) (h4 : tI.els w T B2 g.results)
    (b1 : f.params.length ≤ 140737488351232) (b2 : f.results.length ≤ 140737488351232) (b3 : g.params.length ≤ 140737488351232) (b4 : g.results.length ≤ 140737488351232) :
    Calls prog 17 #[.agg (q6x12 A1 A2 f c1 c2), .agg (q6x13 B1 B2 g d1 d2)] w fun e w' => e = .returned (.bool (fnEq f g)) ∧ Fr No w w' := by
 have F0 := hid (((Fr.refl No w).alloc (.cells (q6x12 A1 A2 f c1 c2) 78)).alloc (.cells (q6x13 B1 B2 g d1 d2) 78))
 have HP := hid (fun (X : World) (f0 : Fr No w X) => kKM A1 B1 f.params g.params c1 d1 S T X (h1.fr f0 (fun k hk => ⟨hS k hk, fun x => x⟩)) (h3.fr f0 (fun k hk => ⟨hT k hk, fun x => x⟩)) b1 b3)
 have HR := hid (fun (X : World) (f0 : Fr No w X) => kKM A2 B2 f.results g.results c2 d2 S T X (h2.fr f0 (fun k hk => ⟨hS k hk, fun x => x⟩)) (h4.fr f0 (fun k hk => ⟨hT k hk, fun x => x⟩)) b2 b4)
 have G0 := hid ((Blk.new w 78 (q6x12 A1 A2 f c1 c2)).alloc (.cells (q6x13 B1 B2 g d1 d2) 78))
 have G1 := hid (Blk.new1 w (.cells (q6x12 A1 A2 f c1 c2) 78) 78 (q6x13 B1 B2 g d1 d2))
 unfold fnEq
 obtain ⟨q1, e1⟩ : ∃ q, q = decide (f.params = g.params) := ⟨_, rfl⟩
 obtain ⟨q2, e2⟩ : ∃ q, q = decide (f.results = g.results) := ⟨_, rfl⟩
 rw [← e1] at HP ⊢
 rw [← e2] at HR ⊢
 clear e1 e2 h1 h2 h3 h4 hS hT
 go_enter func17, ntmps17
 exact yy11
def kAz (x : Rx) (f : Fi) : Bool := fnB f.ty && (decide (0 ≤ f.index) && (decide (-1 ≤ f.inst) && (!decide (f.inst = -1) || (match getI x.hosts f.index with | some h => fnEq h.ty f.ty | none => false))))
def kCR (x : Rx) (f : Fi) : Rx × Int := if kAz x f then ({ x with funcs := x.funcs ++ [f] }, x.funcs.length) else (x, -1)
theorem kBD {x : Rx} {f : Fi} (h : kAz x f = false) : kCR x f = (x, -1) := by rw [kCR, h]; rfl
theorem kCI {x : Rx} {f : Fi} (h : kAz x f = true) : kCR x f = ({ x with funcs := x.funcs ++ [f] }, ((x.funcs.length : Nat) : Int)) := by rw [kCR, h]; rfl
section
variable {w : World} {R : Nat → Prop} {V : Pl} {x : Rx}
abbrev q6x7 (a0 a1 : Option Addr) (a2 : Fi) (a3 a4 : Nat) : Array Value := #[.slice a0 a2.ty.params.length a3, .slice a1 a2.ty.results.length a4, .int .i64 a2.inst, .int .i64 a2.index]
abbrev q6x8 (a0 a1 : Option Addr) (a2 : Fi) (a3 a4 : Nat) : List Value := [.slice a0 a2.ty.params.length a3, .slice a1 a2.ty.results.length a4, .int .i64 a2.inst, .int .i64 a2.index]
theorem kEd (h : StIn w R V x) (f : Fi) (A1 A2 : OA) (c1 c2 : Nat) (h1 : tI.els w (· < w.heap.size) A1 f.ty.params) (h2 : tI.els w (· < w.heap.size) A2 f.ty.results) (hn : x.funcs.length ≤ 1000000)
    (b1 : f.ty.params.length * 8 ≤ 140737488351232) (b2 : f.ty.results.length * 8 ≤ 140737488351232) (wi : (Lit.int .i64 f.inst).wf = true) (wx : (Lit.int .i64 f.index).wf = true) (hh : ∀ a ∈ x.hosts, a.ty.params.length ≤ 140737488351232 ∧ a.ty.results.length ≤ 140737488351232) :
    Calls prog 25 #[.pointer (some ⟨V.P, 0, none⟩), .agg (q6x7 A1 A2 f c1 c2)] w (GrTo R V (.int .i64 (kCR x f).2) (kCR x f).1 w) := by
 have F0 := hid ((Fr.refl No w).alloc (.cells (q6x7 A1 A2 f c1 c2) 80))
 have G0 := hid (Blk.new w 80 (q6x7 A1 A2 f c1 c2))
 have H := hid h
 have HR := hid (fun (X : World) (f0 : Fr No w X) => kAh f.ty A1 A2 c1 c2 w.heap.size X f0.size (h1.fr f0 (fun k hk => ⟨hk, fun x => x⟩)) (h2.fr f0 (fun k hk => ⟨hk, fun x => x⟩)) om om)
 have HC := hid (fun (X : World) (f0 : Fr No w X) => kBQ f.ty A1 A2 c1 c2 (· < w.heap.size) X (fun k hk => ltl hk f0.size) (h1.fr f0 (fun k hk => ⟨hk, fun x => x⟩)) (h2.fr f0 (fun k hk => ⟨hk, fun x => x⟩)) b1 b2)
 have HE1 := hid h1
 have HE2 := hid h2
 clear h h1 h2
 cases hf : fnB f.ty with
 | false =>
  rw [kBD (by rw [kAz, hf]; rfl)]
  rw [hf] at HR
  exact yy14
 | true =>
  rw [hf] at HR
  by_cases hx : f.index < 0
  · rw [kBD (by rw [kAz, decide_eq_false (p := 0 ≤ f.index) (by omega)]; simp)]
    have d1 : decide (f.index < 0) = true := by simp [hx]
    exact yy14
  · have d1 : decide (f.index < 0) = false := by simp; omega
    by_cases hi : f.inst < -1
    · rw [kBD (by rw [kAz, decide_eq_false (p := -1 ≤ f.inst) (by omega)]; simp)]
      have d2 : decide (f.inst < -1) = true := by simp [hi]
      exact yy14
    have d2 : decide (f.inst < -1) = false := by simp; omega
    by_cases hm : f.inst = -1
    · have d3 : (f.inst == -1) = true := by simp [hm]
      obtain ⟨AH, cH, hvH, _, helH⟩ := H.o.sl_ho
      have HH : Hid (∀ X, Fr No w X → Ce X V.P 0 (.slice AH x.hosts.length cH)) := fun X f0 => by
       exact ((H.o.frNo f0).blk.cell 0).trans (by rw [← hvH]; rfl)
      have i0 : (0 : Int) ≤ f.index := om
      by_cases hlt : f.index < x.hosts.length
      · have i1 : decide ((x.hosts.length : Int) ≤ f.index) = false := by simp; omega
        have i2 : f.index < (x.hosts.length : Int) := hlt
        have hk : f.index.toNat < x.hosts.length := om
        obtain ⟨b, o, T1, t1, T2, t2, Q, qc, rfl, hb, -, -, y2, y3, -, -, -, -, -, e1, -, -, e2, -⟩ := kFU helH f.index.toNat hk
        have hhk := hh x.hosts[f.index.toNat] (List.getElem_mem hk)
        have hg : getI x.hosts f.index = some x.hosts[f.index.toNat] := by
         have := kAp hk
         rwa [Int.toNat_of_nonneg i0] at this
        have HY : Hid (∀ X, Fr No w X → Ce X b (o + f.index.toNat * 5 + 2) (.slice T1 (x.hosts[f.index.toNat]).ty.params.length t1) ∧ Ce X b (o + f.index.toNat * 5 + 3) (.slice T2 (x.hosts[f.index.toNat]).ty.results.length t2)) := fun X f0 => ⟨(f0.cell (p := ⟨b, o + f.index.toNat * 5 + 2, none⟩) hb id).trans y2, (f0.cell (p := ⟨b, o + f.index.toNat * 5 + 3, none⟩) hb id).trans y3⟩
        generalize x.hosts[f.index.toNat] = y at *
        have HSM := hid (fun (X : World) (f0 : Fr No w X) => kFb y.ty f.ty T1 T2 A1 A2 t1 t2 c1 c2 (· < w.heap.size) (· < w.heap.size) X (fun k hk => ltl hk f0.size) (fun k hk => ltl hk f0.size) (e1.fr f0 (fun k hk => ⟨hk, fun x => x⟩)) (e2.fr f0 (fun k hk => ⟨hk, fun x => x⟩)) (HE1.o.fr f0 (fun k hk => ⟨hk, fun x => x⟩)) (HE2.o.fr f0 (fun k hk => ⟨hk, fun x => x⟩)) hhk.1 hhk.2 om om)
        clear e1 e2 y2 y3 helH hvH
        cases hq : fnEq y.ty f.ty with
        | false =>
         rw [kBD (by rw [kAz, decide_eq_true hm, hg]; simp [hq])]
         rw [hq] at HSM
         clear hg hq hm
         go_enter func25, ntmps25
         go_wp2_with fail
         refine (HR.o _ F0.o).mono ?_
         rintro e w1 ⟨rfl, f1⟩
         have F1 := ftr F0 f1
         have G1 := hid (G0.o.fr f1 id)
         clear f1 HR
         have z0 := G1.o.cell 0
         have z1 := G1.o.cell 1
         have z2 := G1.o.cell 2
         have z3 := G1.o.cell 3
         have HX : Hid (∀ X, Fr No w1 X → Ce X w.heap.size 0 (.slice A1 f.ty.params.length c1) ∧ Ce X w.heap.size 1 (.slice A2 f.ty.results.length c2) ∧ Ce X w.heap.size 2 (.int .i64 f.inst) ∧ Ce X w.heap.size 3 (.int .i64 f.index) ∧ Ce X V.P 0 (.slice (some ⟨b, o, none⟩) x.hosts.length cH) ∧ Ce X b (o + f.index.toNat * 5 + 2) (.slice T1 y.ty.params.length t1) ∧ Ce X b (o + f.index.toNat * 5 + 3) (.slice T2 y.ty.results.length t2)) := fun X f0 => ⟨(G1.o.fr f0 id).cell 0, (G1.o.fr f0 id).cell 1, (G1.o.fr f0 id).cell 2, (G1.o.fr f0 id).cell 3, HH.o X (F1.o.trans f0 i3), HY.o X (F1.o.trans f0 i3)⟩
         go_wp2_with fail
         clear z0 z1 z2 z3
         refine rwO (fun X => Ce X w.heap.size 0 (.slice A1 f.ty.params.length c1) ∧ Ce X w.heap.size 1 (.slice A2 f.ty.results.length c2) ∧ Ce X w.heap.size 2 (.int .i64 f.inst) ∧ Ce X w.heap.size 3 (.int .i64 f.index) ∧ Ce X V.P 0 (.slice (some ⟨b, o, none⟩) x.hosts.length cH) ∧ Ce X b (o + f.index.toNat * 5 + 2) (.slice T1 y.ty.params.length t1) ∧ Ce X b (o + f.index.toNat * 5 + 3) (.slice T2 y.ty.results.length t2)) [] (List.range 28) [24] (HX.o _ (Fr.refl No _).drew) ?_
         refine rC ?_
         refine wpO_eff rfl rfl fun K hK => sz ?_
         refine (HSM.o _ F1.o.drew).mono ?_
         rintro e w2 ⟨rfl, f3⟩
         have F2 := hid (F1.o.drew.trans f3 i3)
         have G2 := hid (G1.o.drew.fr f3 id)
         refine hK _ _ (fun _ => HX.o _ ((Fr.refl No w1).drew.trans f3 i3)) ?_
         clear hK K f3
         refine rC ?_
         refine wpO_nil ?_
         clear F1 G1
         go_wp2
         go_ret
         exact GrTo.no H.o F2.o
        | true =>
         rw [kCI (by rw [kAz, hf, decide_eq_true (p := 0 ≤ f.index) (by omega), decide_eq_true (p := -1 ≤ f.inst) (by omega), decide_eq_true hm, hg]; simp [hq])]
         rw [hq] at HSM
         clear hg hq hm
         go_enter func25, ntmps25
         go_wp2_with fail
         refine (HR.o _ F0.o).mono ?_
         rintro e w1 ⟨rfl, f1⟩
         have F1 := ftr F0 f1
         have G1 := hid (G0.o.fr f1 id)
         clear f1 HR
         have z0 := G1.o.cell 0
         have z1 := G1.o.cell 1
         have z2 := G1.o.cell 2
         have z3 := G1.o.cell 3
         have HX : Hid (∀ X, Fr No w1 X → Ce X w.heap.size 0 (.slice A1 f.ty.params.length c1) ∧ Ce X w.heap.size 1 (.slice A2 f.ty.results.length c2) ∧ Ce X w.heap.size 2 (.int .i64 f.inst) ∧ Ce X w.heap.size 3 (.int .i64 f.index) ∧ Ce X V.P 0 (.slice (some ⟨b, o, none⟩) x.hosts.length cH) ∧ Ce X b (o + f.index.toNat * 5 + 2) (.slice T1 y.ty.params.length t1) ∧ Ce X b (o + f.index.toNat * 5 + 3) (.slice T2 y.ty.results.length t2)) := fun X f0 => ⟨(G1.o.fr f0 id).cell 0, (G1.o.fr f0 id).cell 1, (G1.o.fr f0 id).cell 2, (G1.o.fr f0 id).cell 3, HH.o X (F1.o.trans f0 i3), HY.o X (F1.o.trans f0 i3)⟩
         go_wp2_with fail
         clear z0 z1 z2 z3
         refine rwO (fun X => Ce X w.heap.size 0 (.slice A1 f.ty.params.length c1) ∧ Ce X w.heap.size 1 (.slice A2 f.ty.results.length c2) ∧ Ce X w.heap.size 2 (.int .i64 f.inst) ∧ Ce X w.heap.size 3 (.int .i64 f.index) ∧ Ce X V.P 0 (.slice (some ⟨b, o, none⟩) x.hosts.length cH) ∧ Ce X b (o + f.index.toNat * 5 + 2) (.slice T1 y.ty.params.length t1) ∧ Ce X b (o + f.index.toNat * 5 + 3) (.slice T2 y.ty.results.length t2)) [] (List.range 28) [24] (HX.o _ (Fr.refl No _).drew) ?_
         refine rC ?_
         refine wpO_eff rfl rfl fun K hK => sz ?_
         refine (HSM.o _ F1.o.drew).mono ?_
         rintro e w2 ⟨rfl, f3⟩
         have F2 := hid (F1.o.drew.trans f3 i3)
         have G2 := hid (G1.o.drew.fr f3 id)
         refine hK _ _ (fun _ => HX.o _ ((Fr.refl No w1).drew.trans f3 i3)) ?_
         clear hK K f3
         refine rC ?_
         refine wpO_nil ?_
         clear F1 G1
         exact yy0
      have i1 : decide ((x.hosts.length : Int) ≤ f.index) = true := by simp; omega
      have hg : getI x.hosts f.index = none := kFg (.inr om)
      rw [kBD (by rw [kAz, decide_eq_true hm, hg]; simp)]
      clear helH hvH hg hm
      go_enter func25, ntmps25
      go_wp2_with fail
      refine (HR.o _ F0.o).mono ?_
      rintro e w1 ⟨rfl, f1⟩
      have F1 := ftr F0 f1
      have G1 := hid (G0.o.fr f1 id)
      clear f1 HR
      have z0 := G1.o.cell 0
      have z1 := G1.o.cell 1
      have z2 := G1.o.cell 2
      have z3 := G1.o.cell 3
      have HX : Hid (∀ X, Fr No w1 X → Ce X w.heap.size 0 (.slice A1 f.ty.params.length c1) ∧ Ce X w.heap.size 1 (.slice A2 f.ty.results.length c2) ∧ Ce X w.heap.size 2 (.int .i64 f.inst) ∧ Ce X w.heap.size 3 (.int .i64 f.index) ∧ Ce X V.P 0 (.slice AH x.hosts.length cH)) := fun X f0 => ⟨(G1.o.fr f0 id).cell 0, (G1.o.fr f0 id).cell 1, (G1.o.fr f0 id).cell 2, (G1.o.fr f0 id).cell 3, HH.o X (F1.o.trans f0 i3)⟩
      go_wp2_with fail
      clear z0 z1 z2 z3
      refine rwO (fun X => Ce X w.heap.size 0 (.slice A1 f.ty.params.length c1) ∧ Ce X w.heap.size 1 (.slice A2 f.ty.results.length c2) ∧ Ce X w.heap.size 2 (.int .i64 f.inst) ∧ Ce X w.heap.size 3 (.int .i64 f.index) ∧ Ce X V.P 0 (.slice AH x.hosts.length cH)) [] (List.range 28) [24] (HX.o _ (Fr.refl No _).drew) ?_
      refine rC ?_
      refine kDC rfl rfl (HX.o _ (Fr.refl No _).drew) ?_
      simp only [zA, zC, Act.put]
      refine rC ?_
      refine wpO_nil ?_
      have F2 := hid F1.o.drew
      clear F1 G1
      generalize w1.drew = w2 at *
      go_wp2
      go_ret
      exact GrTo.no H.o F2.o
    rw [kCI (by rw [kAz, hf, decide_eq_true (p := 0 ≤ f.index) (by omega), decide_eq_true (p := -1 ≤ f.inst) (by omega), decide_eq_false hm]; rfl)]
    have d3 : (f.inst == -1) = false := by simp [hm]
    go_enter func25, ntmps25
    go_wp2_with fail
    refine (HR.o _ F0.o).mono ?_
    rintro e w1 ⟨rfl, f1⟩
    have F1 := ftr F0 f1
    have G1 := hid (G0.o.fr f1 id)
    clear f1 HR
    have z0 := G1.o.cell 0
    have z1 := G1.o.cell 1
    have z2 := G1.o.cell 2
    have z3 := G1.o.cell 3
    have HX : Hid (∀ X, Blk X w.heap.size 80 (q6x7 A1 A2 f c1 c2) → Ce X w.heap.size 0 (.slice A1 f.ty.params.length c1) ∧ Ce X w.heap.size 1 (.slice A2 f.ty.results.length c2) ∧ Ce X w.heap.size 2 (.int .i64 f.inst) ∧ Ce X w.heap.size 3 (.int .i64 f.index)) := fun X b => ⟨b.cell 0, b.cell 1, b.cell 2, b.cell 3⟩
    go_wp2_with fail
    clear z0 z1 z2 z3
    refine rwO (fun X => Ce X w.heap.size 0 (.slice A1 f.ty.params.length c1) ∧ Ce X w.heap.size 1 (.slice A2 f.ty.results.length c2) ∧ Ce X w.heap.size 2 (.int .i64 f.inst) ∧ Ce X w.heap.size 3 (.int .i64 f.index)) [] (List.range 28) [24] (HX.o _ G1.o.drew) ?_
    refine rC ?_
    refine kDC rfl rfl (HX.o _ G1.o.drew) ?_
    simp only [zA, zC, Act.put]
    refine rC ?_
    refine wpO_nil ?_
    have F2 := hid F1.o.drew
    have G2 := hid G1.o.drew
    clear F1 G1
    generalize w1.drew = w2 at *
    exact yy0
end
theorem kAv {α : Type} {t : Ty α} [hf : kAQ t] {w : World} {S T : Nat → Prop} {A : OA} {xs : List α} (h : t.els w S A xs) (hT : ∀ k o, A = some ⟨k, o, none⟩ → S k → T k) : t.els w T A xs := by
 rcases h with h | ⟨b, o, e, hb, h⟩
 · exact .inl h
 exact .inr ⟨b, o, e, hT b o e hb, fun i x hx => by obtain ⟨ds, h1, h2⟩ := h i x hx; exact ⟨ds, h1, hf.flat _ _ _ _ _ _ h2⟩⟩
def RaTo {α : Type} (t : Ty α) (S : Nat → Prop) (x : α) (ok : Bool) (w : World) (e : Ending) (w' : World) : Prop :=
 ∃ ds, e = .returned (.tuple #[.agg ds.toArray, .bool ok]) ∧ t.rd w' S ds x ∧ Fr No w w'
theorem kKK {w w' : World} {b o : Nat} {ds : LV} (h : w.rangeAt b o ds) (f : Fr No w w') (hb : b < w.heap.size) : w'.rangeAt b o ds := fun j v hv => (f.cell (p := ⟨b, o + j, none⟩) hb id).trans (h j v hv)
def zRt : Rt := ⟨⟨0, ⟨0, 0, false⟩⟩, []⟩
def zRm : Rm := ⟨⟨0, 0, false⟩, []⟩
theorem zFi_rdR (w : World) (S : Nat → Prop) : tFi.rd w S [.slice none 0 0, .slice none 0 0, .int .i64 0, .int .i64 0] zFi := Fi_mk (a := zFi) nz nz (.inl rfl) nz nz (.inl rfl) rfl rfl
abbrev q6x11 : List Value := [.int .i64 0, .int .i64 0, .int .i64 0, .bool false, .slice none 0 0]
theorem zRt_rdR (w : World) (S : Nat → Prop) : tRt.rd w S q6x11 zRt := kLR (a := zRt) rfl rfl rfl nz nz (.inl rfl)
theorem zRm_rdR (w : World) (S : Nat → Prop) : tRm.rd w S [.int .i64 0, .int .i64 0, .bool false, .slice none 0 0] zRm := kLS (a := zRm) rfl rfl nz nz (.inl rfl)
section
variable {α : Type} {t : Ty α} [TyOk t] [TyMore t] {w W : World} {S : Nat → Prop} {x : α} {T : TypeId} {d : TypeDesc} {n q : Nat} {ds : LV} {fn : Func} {act : Act} {s u : Tmp} {ok : Bool}
theorem rafin (hu : prog.underlying T = some d) (hi : (prog.info? T).map (·.size) = some n) (F : Fr No w W) (hq : w.heap.size ≤ q) (th : W.there q 0 n) (hl : ds.length = n) (hr : ∀ {X}, Fr No w X → t.rd X S ds x)
    (hd : d.isRow = true := by rfl) (hf : fn.results = #[.cell s T, .tmp u] := by rfl) (hp : act.tmps.getD s undef = .pointer (some ⟨q, 0, none⟩) := by rfl) (hv : act.tmps.getD u undef = .bool ok := by rfl) (hdd : act.defers = [] := by rfl) :
    bodyPost prog fn (RaTo t S x ok w) .ret act (W.setCells q 0 ds) := by
 have FT := Fr.setCells' (a := w) (b := q) (M := No) (fun h => absurd h om) ds 0 W F
 exact bodyPost_ret (v := .tuple #[.agg ds.toArray, .bool ok]) (by rw [← hv]; exact kHv hf _ _ q _ _ hp (World.rangeAt_setCells_same W q 0 ds (by rw [hl]; exact th)) hu hd (by rw [hl]; exact hi)) hdd ⟨ds, rfl, hr FT, FT⟩
end
theorem kKo {w : World} {S : Nat → Prop} {x : Rx} {cs : LV} (h : tRx.rd w S cs x) (hS : Lt S w) (i : Int) :
    Calls prog 35 #[.agg cs.toArray, .int .i64 i] w (RaTo tFi S (atD zFi x.funcs i).1 (atD zFi x.funcs i).2 w) := by
 obtain ⟨A, c, e, -, -, E⟩ := kLQ h
 obtain ⟨F0, G0, G1⟩ := bx0 w cs q6x14 80
 have z := G0.o.at_ e
 have HI : Hid ((prog.info? 80).map (·.size) = some 4) := by unfold Hid; kernel_rfl
 have HS := hid hS
 clear h hS e
 rcases kBC x.funcs i with ⟨k, hk, rfl⟩ | hi | ⟨hi0, hi⟩
 · rw [kCQ hk]
   have i0 := nki k
   have i1 : (k : Int) < x.funcs.length := om
   have d0 : decide ((k : Int) < 0) = false := by simp
   obtain ⟨b, o, ds, eA, hb, hc, hr⟩ := E.at_ k hk
   subst eA
   have HL : Hid (ds.length = 4) := TyOk.len _ _ _ _ hr
   have RQ : Hid (∀ {X}, Fr No w X → X.rangeAt b (o + k * 4) ds) := fun f => kKK (fun j u hu => by have := hc j u hu; rwa [← Nat.add_assoc] at this) f (HS.o _ hb)
   have HR := hid hr
   clear hc hr hb E
   go_enter func35, ntmps35
   go_upto_region 3 with fail
   generalize ((w.alloc (.cells cs.toArray 33)).alloc (.cells q6x14 80)) = W at *
   have HT : Hid (W.there (w.heap.size + 1) 0 4) := there_blk G1.o rfl
   go_wp2_with (first | refine ldG underlying80 HI.o (RQ.o F0.o) HL.o ?_ | refine stG HI.o HT.o HL.o (List.all_eq_true.2 ((inferInstance : kAG tFi).one _ _ _ _ HR.o)) ?_ | fail)
   exact rafin underlying80 HI.o F0.o om HT.o HL.o (fun f => kAO HR.o f HS.o i2)
 · rw [kBI (.inl hi)]
   have d0 : decide (i < 0) = true := by simp [hi]
   exact yy18
 rw [kBI (.inr hi)]
 have d0 : decide (i < 0) = false := by simp; omega
 have d1 : decide ((x.funcs.length : Int) ≤ i) = true := by simp; omega
 exact yy18
abbrev q6x10 : Array Value := #[.int .i64 0, .int .i64 0, .int .i64 0, .bool false, .slice none 0 0]
theorem kKd {w : World} {S : Nat → Prop} {x : Rx} {cs : LV} (h : tRx.rd w S cs x) (hS : Lt S w) (i : Int) :
    Calls prog 37 #[.agg cs.toArray, .int .i64 i] w (RaTo tRt S (atD zRt x.tabs i).1 (atD zRt x.tabs i).2 w) := by
 obtain ⟨A, c, e, -, -, E⟩ := kLP h
 obtain ⟨F0, G0, G1⟩ := bx0 w cs q6x10 126
 have z := G0.o.at_ e
 have HI : Hid ((prog.info? 126).map (·.size) = some 5) := by unfold Hid; kernel_rfl
 have HS := hid hS
 clear h hS e
 rcases kBC x.tabs i with ⟨k, hk, rfl⟩ | hi | ⟨hi0, hi⟩
 · rw [kCQ hk]
   have i0 := nki k
   have i1 : (k : Int) < x.tabs.length := om
   have d0 : decide ((k : Int) < 0) = false := by simp
   obtain ⟨b, o, ds, eA, hb, hc, hr⟩ := E.at_ k hk
   subst eA
   have HL : Hid (ds.length = 5) := TyOk.len _ _ _ _ hr
   have RQ : Hid (∀ {X}, Fr No w X → X.rangeAt b (o + k * 5) ds) := fun f => kKK (fun j u hu => by have := hc j u hu; rwa [← Nat.add_assoc] at this) f (HS.o _ hb)
   have HR := hid hr
   clear hc hr hb E
   go_enter func37, ntmps37
   go_upto_region 3 with fail
   generalize ((w.alloc (.cells cs.toArray 33)).alloc (.cells q6x10 126)) = W at *
   have HT : Hid (W.there (w.heap.size + 1) 0 5) := there_blk G1.o rfl
   go_wp2_with (first | refine ldG underlying126 HI.o (RQ.o F0.o) HL.o ?_ | refine stG HI.o HT.o HL.o (List.all_eq_true.2 ((inferInstance : kAG tRt).one _ _ _ _ HR.o)) ?_ | fail)
   exact rafin underlying126 HI.o F0.o om HT.o HL.o (fun f => kAO HR.o f HS.o i2)
 · rw [kBI (.inl hi)]
   have d0 : decide (i < 0) = true := by simp [hi]
   exact yy20
 rw [kBI (.inr hi)]
 have d0 : decide (i < 0) = false := by simp; omega
 have d1 : decide ((x.tabs.length : Int) ≤ i) = true := by simp; omega
 exact yy20
theorem kKw {w : World} {S : Nat → Prop} {x : Rx} {cs : LV} (h : tRx.rd w S cs x) (hS : Lt S w) (i : Int) :
    Calls prog 39 #[.agg cs.toArray, .int .i64 i] w (RaTo tRm S (atD zRm x.mems i).1 (atD zRm x.mems i).2 w) := by
 obtain ⟨A, c, e, -, -, E⟩ := kLO h
 obtain ⟨F0, G0, G1⟩ := bx0 w cs #[.int .i64 0, .int .i64 0, .bool false, .slice none 0 0] 89
 have z := G0.o.at_ e
 have HI : Hid ((prog.info? 89).map (·.size) = some 4) := by unfold Hid; kernel_rfl
 have HS := hid hS
 clear h hS e
 rcases kBC x.mems i with ⟨k, hk, rfl⟩ | hi | ⟨hi0, hi⟩
 · rw [kCQ hk]
   have i0 := nki k
   have i1 : (k : Int) < x.mems.length := om
   have d0 : decide ((k : Int) < 0) = false := by simp
   obtain ⟨b, o, ds, eA, hb, hc, hr⟩ := E.at_ k hk
   subst eA
   have HL : Hid (ds.length = 4) := TyOk.len _ _ _ _ hr
   have RQ : Hid (∀ {X}, Fr No w X → X.rangeAt b (o + k * 4) ds) := fun f => kKK (fun j u hu => by have := hc j u hu; rwa [← Nat.add_assoc] at this) f (HS.o _ hb)
   have HR := hid hr
   clear hc hr hb E
   go_enter func39, ntmps39
   go_upto_region 3 with fail
   generalize ((w.alloc (.cells cs.toArray 33)).alloc (.cells #[.int .i64 0, .int .i64 0, .bool false, .slice none 0 0] 89)) = W at *
   have HT : Hid (W.there (w.heap.size + 1) 0 4) := there_blk G1.o rfl
   go_wp2_with (first | refine ldG underlying89 HI.o (RQ.o F0.o) HL.o ?_ | refine stG HI.o HT.o HL.o (List.all_eq_true.2 ((inferInstance : kAG tRm).one _ _ _ _ HR.o)) ?_ | fail)
   exact rafin underlying89 HI.o F0.o om HT.o HL.o (fun f => kAO HR.o f HS.o i2)
 · rw [kBI (.inl hi)]
   have d0 : decide (i < 0) = true := by simp [hi]
   exact yy16
 rw [kBI (.inr hi)]
 have d0 : decide (i < 0) = false := by simp; omega
 have d1 : decide ((x.mems.length : Int) ≤ i) = true := by simp; omega
 exact yy16
def RqTo (y : Rg) (ok : Bool) (w : World) (e : Ending) (w' : World) : Prop :=
 e = .returned (.tuple #[.agg #[.int .i64 y.t.val, .bool y.t.mut_], .agg #[.int .i64 y.v.t, .int .u64 y.v.n], .bool ok]) ∧ Fr No w w'
theorem kKV {w : World} {S : Nat → Prop} {x : Rx} {cs : LV} (h : tRx.rd w S cs x) (hS : Lt S w) (k : Nat) (hk : k < x.globs.length) :
    Calls prog 41 #[.agg cs.toArray, .int .i64 (k : Nat)] w (RqTo x.globs[k] true w) := by
 obtain ⟨A6, c6, e6, -, -, E6⟩ := kKj h
 obtain ⟨F0, G0, G1, G2⟩ := bx1 w cs #[.int .i64 0, .bool false] 41 #[.int .i64 0, .int .u64 0] 84
 have z := G0.o.at_ e6
 have i0 := nki k
 have i1 : (k : Int) < x.globs.length := om
 have d0 : decide ((k : Int) < 0) = false := by simp
 have HE6 := hid e6
 obtain ⟨b, o, eA, hb, y0, y1, y2, y3, -⟩ := kHL E6 k hk
 subst eA
 generalize x.globs[k] = y at *
 have HB := hid (hS _ hb)
 have u0 := hid ((F0.o.cell (p := ⟨b, o + k * 4, none⟩) HB.o id).trans y0)
 have u1 := hid ((F0.o.cell (p := ⟨b, o + k * 4 + 1, none⟩) HB.o id).trans y1)
 have u2 := hid ((F0.o.cell (p := ⟨b, o + k * 4 + 2, none⟩) HB.o id).trans y2)
 have u3 := hid ((F0.o.cell (p := ⟨b, o + k * 4 + 3, none⟩) HB.o id).trans y3)
 clear y0 y1 y2 y3 h hS hb E6 e6
 go_enter func41, ntmps41
 go_upto_region 3 with fail
 generalize (((w.alloc (.cells cs.toArray 33)).alloc (.cells #[.int .i64 0, .bool false] 41)).alloc (.cells #[.int .i64 0, .int .u64 0] 84)) = W at *
 clear z
 have HNB : Hid (b < W.heap.size ∧ ¬ Two (w.heap.size + 1) (w.heap.size + 1 + 1) b) := ⟨ltl HB.o F0.o.size, by have := HB.o; rintro (h | h) <;> omega⟩
 have HX : Hid (∀ X, Fr (Two (w.heap.size + 1) (w.heap.size + 1 + 1)) W X → Ce X w.heap.size 6 (.slice (some ⟨b, o, none⟩) x.globs.length c6) ∧ Ce X b (o + k * 4) (.int .i64 y.t.val) ∧ Ce X b (o + k * 4 + 1) (.bool y.t.mut_) ∧ Ce X b (o + k * 4 + 2) (.int .i64 y.v.t) ∧ Ce X b (o + k * 4 + 3) (.int .u64 y.v.n)) := fun X f => ⟨(G0.o.fr f (by rintro (h | h) <;> omega)).at_ HE6.o, (f.cell (p := ⟨b, o + k * 4, none⟩) HNB.o.1 HNB.o.2).trans u0.o, (f.cell (p := ⟨b, o + k * 4 + 1, none⟩) HNB.o.1 HNB.o.2).trans u1.o, (f.cell (p := ⟨b, o + k * 4 + 2, none⟩) HNB.o.1 HNB.o.2).trans u2.o, (f.cell (p := ⟨b, o + k * 4 + 3, none⟩) HNB.o.1 HNB.o.2).trans u3.o⟩
 have T1 : Hid (W.drew.there (w.heap.size + 1) 0 2) := there_blk G1.o.drew rfl
 refine rwO (fun X => Ce X w.heap.size 6 (.slice (some ⟨b, o, none⟩) x.globs.length c6) ∧ Ce X b (o + k * 4) (.int .i64 y.t.val) ∧ Ce X b (o + k * 4 + 1) (.bool y.t.mut_) ∧ Ce X b (o + k * 4 + 2) (.int .i64 y.v.t) ∧ Ce X b (o + k * 4 + 3) (.int .u64 y.v.n)) [] (List.range 15) [12, 13] (HX.o _ (Fr.refl _ _).drew) ?_
 refine rC ?_
 refine wpO_eff rfl rfl (fun K hK => ?_)
 simp only [List.getElem_toArray, List.getElem_cons_succ, List.getElem_cons_zero]
 refine wp_store_mid 41 _ _ (by rfl) (w.heap.size + 1) 0 #[.int .i64 y.t.val, .bool y.t.mut_] (by rfl) (by rfl) T1.o kr (by simp [Value.oneCell']) ?_
 have FX1 := hid (Fr.setCells' (M := Two (w.heap.size + 1) (w.heap.size + 1 + 1)) (b := w.heap.size + 1) (fun _ => .inl rfl) [.int .i64 y.t.val, .bool y.t.mut_] 0 _ (Fr.refl _ W).drew)
 have FT1 := hid (Fr.setCells' (a := w) (M := No) (b := w.heap.size + 1) (fun h => absurd h om) [.int .i64 y.t.val, .bool y.t.mut_] 0 _ F0.o.drew)
 have N1 : Hid (Blk (W.drew.setCells (w.heap.size + 1) 0 [.int .i64 y.t.val, .bool y.t.mut_]) (w.heap.size + 1) 41 #[.int .i64 y.t.val, .bool y.t.mut_]) := (G1.o.drew.set_ 0 _).set_ 1 _
 have N2 : Hid (Blk (W.drew.setCells (w.heap.size + 1) 0 [.int .i64 y.t.val, .bool y.t.mut_]) (w.heap.size + 1 + 1) 84 #[.int .i64 0, .int .u64 0]) := (G2.o.drew.far (p := ⟨w.heap.size + 1, 0, none⟩) (by show w.heap.size + 1 + 1 ≠ w.heap.size + 1; omega) _).far (p := ⟨w.heap.size + 1, 1, none⟩) (by show w.heap.size + 1 + 1 ≠ w.heap.size + 1; omega) _
 generalize W.drew.setCells (w.heap.size + 1) 0 [.int .i64 y.t.val, .bool y.t.mut_] = X1 at *
 refine hK _ _ (fun _ => HX.o _ FX1.o) ?_
 clear hK K
 refine wpO_eff rfl rfl (fun K hK => ?_)
 simp only [List.getElem_toArray, List.getElem_cons_succ, List.getElem_cons_zero]
 refine wp_store_mid 84 _ _ (by rfl) (w.heap.size + 1 + 1) 0 #[.int .i64 y.v.t, .int .u64 y.v.n] (by rfl) (by rfl) (there_blk N2.o rfl) kr (by simp [Value.oneCell']) ?_
 have FX2 := hid (Fr.setCells' (M := Two (w.heap.size + 1) (w.heap.size + 1 + 1)) (b := w.heap.size + 1 + 1) (fun _ => .inr rfl) [.int .i64 y.v.t, .int .u64 y.v.n] 0 _ FX1.o)
 have FT2 := hid (Fr.setCells' (a := w) (M := No) (b := w.heap.size + 1 + 1) (fun h => absurd h om) [.int .i64 y.v.t, .int .u64 y.v.n] 0 _ FT1.o)
 have M2 : Hid (Blk (X1.setCells (w.heap.size + 1 + 1) 0 [.int .i64 y.v.t, .int .u64 y.v.n]) (w.heap.size + 1 + 1) 84 #[.int .i64 y.v.t, .int .u64 y.v.n]) := (N2.o.set_ 0 _).set_ 1 _
 have M1 : Hid (Blk (X1.setCells (w.heap.size + 1 + 1) 0 [.int .i64 y.v.t, .int .u64 y.v.n]) (w.heap.size + 1) 41 #[.int .i64 y.t.val, .bool y.t.mut_]) := (N1.o.far (p := ⟨w.heap.size + 1 + 1, 0, none⟩) (by show w.heap.size + 1 ≠ w.heap.size + 1 + 1; omega) _).far (p := ⟨w.heap.size + 1 + 1, 1, none⟩) (by show w.heap.size + 1 ≠ w.heap.size + 1 + 1; omega) _
 generalize X1.setCells (w.heap.size + 1 + 1) 0 [.int .i64 y.v.t, .int .u64 y.v.n] = X2 at *
 refine hK _ _ (fun _ => HX.o _ FX2.o) ?_
 clear hK K
 refine rC ?_
 refine wpO_nil ?_
 have v0 := M1.o.cell 0
 have v1 := M1.o.cell 1
 have v2 := M2.o.cell 0
 have v3 := M2.o.cell 1
 go_wp2
 exact bodyPost_ret (v := .tuple #[.agg #[.int .i64 y.t.val, .bool y.t.mut_], .agg #[.int .i64 y.v.t, .int .u64 y.v.n], .bool true]) (by simp [results, Tryz.results41, go_sem, v0, v1, v2, v3]) rfl ⟨rfl, FT2.o⟩
theorem kKf {w : World} {S : Nat → Prop} {x : Rx} {cs : LV} (h : tRx.rd w S cs x) (hS : Lt S w) (i : Int) (d0 : decide (i < 0) = true) :
    Calls prog 41 #[.agg cs.toArray, .int .i64 i] w (RqTo zRg false w) := by
 obtain ⟨A6, c6, e6, -, -, E6⟩ := kKj h
 exact yy6
theorem kKe {w : World} {S : Nat → Prop} {x : Rx} {cs : LV} (h : tRx.rd w S cs x) (hS : Lt S w) (i : Int) (d0 : decide (i < 0) = false) (d1 : decide ((x.globs.length : Int) ≤ i) = true) :
    Calls prog 41 #[.agg cs.toArray, .int .i64 i] w (RqTo zRg false w) := by
 obtain ⟨A6, c6, e6, -, -, E6⟩ := kKj h
 exact yy6
theorem kKW {w : World} {S : Nat → Prop} {x : Rx} {cs : LV} (h : tRx.rd w S cs x) (hS : Lt S w) (i : Int) :
    Calls prog 41 #[.agg cs.toArray, .int .i64 i] w (RqTo (atD zRg x.globs i).1 (atD zRg x.globs i).2 w) := by
 rcases kBC x.globs i with ⟨k, hk, rfl⟩ | hi | ⟨hi0, hi⟩
 · rw [kCQ hk]; exact kKV h hS k hk
 · rw [kBI (.inl hi)]; exact kKf h hS i (by simp [hi])
 rw [kBI (.inr hi)]; exact kKe h hS i (by simp; omega) (by simp; omega)
theorem kBO {P : Program} {ops : Array Oper} {Q : Exit → Act → World → Prop} {S : World → Prop} {d : Bool} {fins : List Nat} {i : Nat} {op : Oper} {r : List (Nat × Bool)} {a : Act} {w : World} (ho : ops[i]? = some op) (hw : Region.wanted op (yielded ops a.tmps) = true) (ty : TypeId) (x : Operand) (hop : op.op = .load ty x)
    (b q : Nat) (hx : a.eval x = .pointer (some ⟨b, q, none⟩)) (cs : LV) (dd : TypeDesc) (hc : ∀ X, S X → X.rangeAt b q cs) (hu : P.underlying ty = some dd) (hd : dd.isRow = true) (hi : (P.info? ty).map (·.size) = some cs.length)
    (h : wpO P ops Q S fins d r (a.put op.dst (.agg cs.toArray)) w) : wpO P ops Q S fins d ((i, true) :: r) a w :=
 kFZ ho hw (fun X hX => by unfold execOp; simp only [hop, hx, Instr.loadAt, Instr.sureAddr, Sem.run_bind, Sem.run_pure, Result.andThen_ok, run_loadVar_mid X b q ty cs dd (hc X hX) hu hd hi]) h
end Go.Proofs.YthggdemiddjlgaaGreat
