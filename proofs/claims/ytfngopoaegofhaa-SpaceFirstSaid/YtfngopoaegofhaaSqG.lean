/- The law SpaceFirst. -/
import Derived.Test.YtfngopoaegofhaaSqF
namespace Go.Proofs.Ytfngopoaegofhaa
open Go.RowKit

instance : TyFlat tIm := by unfold tIm tIm0; infer_instance
theorem elIms : ElemOk Try.prog 23 64 13 120 (.agg #[.string ⟨#[]⟩, .string ⟨#[]⟩, .int .i64 0, .int .i64 0, .int .i64 0, .int .i64 0, .int .i64 0, .bool false, .int .i64 0, .int .i64 0, .bool false, .int .i64 0, .bool false]) := ElemOk.mk' Try.underlying23 (by kernel_rfl) rfl (by decide)
/-- What the cells of an import are, and that they are in range. -/
theorem im_rd {w : World} {S : Nat → Prop} {x : Im} {cs : List Value} (h : tIm.rd w S cs x) : cs = [.string x.mod, .string x.name, .int .i64 x.kind, .int .i64 x.func, .int .i64 x.table.elem, .int .i64 x.table.lim.min, .int .i64 x.table.lim.max, .bool x.table.lim.has, .int .i64 x.mem.min, .int .i64 x.mem.max, .bool x.mem.has, .int .i64 x.glob.val, .bool x.glob.mut_] ∧ ∀ W S', tIm.rd W S' [.string x.mod, .string x.name, .int .i64 x.kind, .int .i64 x.func, .int .i64 x.table.elem, .int .i64 x.table.lim.min, .int .i64 x.table.lim.max, .bool x.table.lim.has, .int .i64 x.mem.min, .int .i64 x.mem.max, .bool x.mem.has, .int .i64 x.glob.val, .bool x.glob.mut_] x := by
  have := (Im_cells h).1
  subst this
  exact ⟨rfl, fun W S' => TyFlat.flat _ _ _ _ _ _ h⟩
/-- A function type in a variable, its lists below block B. -/
def FnV (f : Fn) (q : Nat) (A1 : Option Addr) (c1 : Nat) (A2 : Option Addr) (c2 : Nat) (B : Nat) (X : World) : Prop :=
  Blk X q 38 #[.slice A1 f.params.length c1, .slice A2 f.results.length c2] ∧ tI.els X (· < B) A1 f.params ∧ tI.els X (· < B) A2 f.results ∧ B ≤ X.heap.size ∧ q < B
theorem FnV.fr {X X' : World} {f : Fn} {q c1 c2 B : Nat} {A1 A2 : Option Addr} {M : Nat → Prop} (h : FnV f q A1 c1 A2 c2 B X) (g : Fr M X X') (hM : ∀ k, k < B → ¬ M k) : FnV f q A1 c1 A2 c2 B X' :=
  ⟨h.1.fr g (hM _ h.2.2.2.2), h.2.1.fr g (fun k hk => ⟨Nat.lt_of_lt_of_le hk h.2.2.2.1, hM k hk⟩), h.2.2.1.fr g (fun k hk => ⟨Nat.lt_of_lt_of_le hk h.2.2.2.1, hM k hk⟩), Nat.le_trans h.2.2.2.1 g.size, h.2.2.2.2⟩
theorem fnV_new {X : World} {base : Nat} {f : Fn} {A1 A2 : Option Addr} {c1 c2 : Nat} (h : FnNew X base A1 c1 A2 c2 f) : FnV f X.heap.size A1 c1 A2 c2 (X.heap.size + 1) (X.alloc (.cells #[.slice A1 f.params.length c1, .slice A2 f.results.length c2] 38)) := by
  have F := (Fr.refl No X).alloc (.cells #[.slice A1 f.params.length c1, .slice A2 f.results.length c2] 38)
  refine ⟨Blk.new X _ _, ?_, ?_, by simp, by omega⟩
  · exact (h.els.1.fr F (fun _ hk => ⟨hk, fun x => x⟩)).more (fun _ hk => Nat.lt_succ_of_lt hk)
  · exact (h.els.2.fr F (fun _ hk => ⟨hk, fun x => x⟩)).more (fun _ hk => Nat.lt_succ_of_lt hk)
/-- A function type in a variable, its lists in the blocks of S. -/
def FnW (f : Fn) (q : Nat) (A1 : Option Addr) (c1 : Nat) (A2 : Option Addr) (c2 : Nat) (S : Nat → Prop) (X : World) : Prop :=
  Blk X q 38 #[.slice A1 f.params.length c1, .slice A2 f.results.length c2] ∧ tI.els X S A1 f.params ∧ tI.els X S A2 f.results ∧ ∀ k, S k → k < X.heap.size
theorem FnW.fr {X X' : World} {f : Fn} {q c1 c2 : Nat} {A1 A2 : Option Addr} {S M : Nat → Prop} (h : FnW f q A1 c1 A2 c2 S X) (g : Fr M X X') (hq : ¬ M q) (hS : ∀ k, S k → ¬ M k) : FnW f q A1 c1 A2 c2 S X' :=
  ⟨h.1.fr g hq, h.2.1.fr g (fun k hk => ⟨h.2.2.2 k hk, hS k hk⟩), h.2.2.1.fr g (fun k hk => ⟨h.2.2.2 k hk, hS k hk⟩), fun k hk => Nat.lt_of_lt_of_le (h.2.2.2 k hk) g.size⟩
theorem FnV.toW {X : World} {f : Fn} {q c1 c2 B : Nat} {A1 A2 : Option Addr} (h : FnV f q A1 c1 A2 c2 B X) : FnW f q A1 c1 A2 c2 (· < B) X := ⟨h.1, h.2.1, h.2.2.1, fun _ hk => Nat.lt_of_lt_of_le hk h.2.2.2.1⟩
theorem fnW_set {X : World} {base q : Nat} {f : Fn} {A1 A2 : Option Addr} {c1 c2 : Nat} {u v : Value} (h : FnNew X base A1 c1 A2 c2 f) (hq : Blk X q 38 #[u, v]) (hb : q < base) : FnW f q A1 c1 A2 c2 (fun k => base ≤ k ∧ k < X.heap.size) ((X.setCell ⟨q, 0, none⟩ (.slice A1 f.params.length c1)).setCell ⟨q, 1, none⟩ (.slice A2 f.results.length c2)) := by
  have F := ((Fr.refl (One q) X).setCell ⟨q, 0, none⟩ (.slice A1 f.params.length c1) (fun _ => rfl)).setCell ⟨q, 1, none⟩ (.slice A2 f.results.length c2) (fun _ => rfl)
  have e1 := h.p.els' (S' := fun k => base ≤ k ∧ k < X.heap.size) (fun _ h => h.elim) (fun g hg => by obtain ⟨h0, _, hb⟩ := h.p.own hg; exact ⟨h0, hb.lt⟩)
  have e2 := h.r.els' (S' := fun k => base ≤ k ∧ k < X.heap.size) (fun _ h => h.elim) (fun g hg => by obtain ⟨h0, _, hb⟩ := h.r.own hg; exact ⟨h0, hb.lt⟩)
  refine ⟨?_, e1.fr F (fun k hk => ⟨hk.2, fun h => by simp only [One] at h; omega⟩), e2.fr F (fun k hk => ⟨hk.2, fun h => by simp only [One] at h; omega⟩), fun k hk => Nat.lt_of_lt_of_le hk.2 F.size⟩
  have := (hq.set_ 0 (.slice A1 f.params.length c1)).set_ 1 (.slice A2 f.results.length c2)
  simpa using this
theorem fnV_set {X : World} {base q : Nat} {f : Fn} {A1 A2 : Option Addr} {c1 c2 : Nat} {u v : Value} (h : FnNew X base A1 c1 A2 c2 f) (hq : Blk X q 38 #[u, v]) (hb : q < base) : FnV f q A1 c1 A2 c2 X.heap.size ((X.setCell ⟨q, 0, none⟩ (.slice A1 f.params.length c1)).setCell ⟨q, 1, none⟩ (.slice A2 f.results.length c2)) := by
  have F := ((Fr.refl (One q) X).setCell ⟨q, 0, none⟩ (.slice A1 f.params.length c1) (fun _ => rfl)).setCell ⟨q, 1, none⟩ (.slice A2 f.results.length c2) (fun _ => rfl)
  have e := (h.fr' F (fun k hk h => by simp only [One] at h; omega)).els
  have hs : ((X.setCell ⟨q, 0, none⟩ (.slice A1 f.params.length c1)).setCell ⟨q, 1, none⟩ (.slice A2 f.results.length c2)).heap.size = X.heap.size := by simp
  rw [hs] at e
  refine ⟨?_, e.1, e.2, Nat.le_of_eq hs.symm, hq.lt⟩
  have := (hq.set_ 0 (.slice A1 f.params.length c1)).set_ 1 (.slice A2 f.results.length c2)
  simpa using this
set_option maxRecDepth 100000 in
set_option maxHeartbeats 12800000 in
theorem sfirst_t (nt ni nf nta nm ng ne nel nd nc ct ci cf cta cm cg ce cel cd cc : Nat) (At Ai Af Ata Am Ag Ae Ael Ad Ac : Option Addr) (bst : Bool) (vst : Int) (w : World) (m : Md) (x : Im) (i : Int) (hw : -9223372036854775808 ≤ i ∧ i ≤ 9223372036854775807) (hx : ∀ W S', tIm.rd W S' [.string x.mod, .string x.name, .int .i64 x.kind, .int .i64 x.func, .int .i64 x.table.elem, .int .i64 x.table.lim.min, .int .i64 x.table.lim.max, .bool x.table.lim.has, .int .i64 x.mem.min, .int .i64 x.mem.max, .bool x.mem.has, .int .i64 x.glob.val, .bool x.glob.mut_] x) (hbst : m.hasStart = bst) (hvst : m.start = vst)
    (hIN : FewOk m.elems nt ni nf nta nm ng ne nel nd → MdIn w m At Ai Af Ata Am Ag Ae Ael) (hel : tEl.els w (· < w.heap.size) Ael m.elems) (hit : ∀ e ∈ m.elems, e.items.length ≤ 140737488351232) (him : tIm.els w (· < w.heap.size) Ai m.imports)
    (et : Hid (m.types.length = nt)) (ei : Hid (m.imports.length = ni)) (ef : Hid (m.funcs.length = nf)) (eta_ : Hid (m.tables.length = nta)) (em : Hid (m.mems.length = nm)) (eg : Hid (m.globals.length = ng)) (ee : Hid (m.exports.length = ne)) (eel : Hid (m.elems.length = nel)) (ed : Hid (m.datas = nd)) :
    Calls Try.prog 6 #[.agg #[.slice At nt ct, .slice Ai ni ci, .slice Af nf cf, .slice Ata nta cta, .slice Am nm cm, .slice Ag ng cg, .slice Ae ne ce, .bool bst, .int .i64 vst, .slice Ael nel cel, .slice Ad nd cd, .slice Ac nc cc], .agg #[.string x.mod, .string x.name, .int .i64 x.kind, .int .i64 x.func, .int .i64 x.table.elem, .int .i64 x.table.lim.min, .int .i64 x.table.lim.max, .bool x.table.lim.has, .int .i64 x.mem.min, .int .i64 x.mem.max, .bool x.mem.has, .int .i64 x.glob.val, .bool x.glob.mut_], .int .i64 i] w fun e w' => e = .returned (.bool true) ∧ Fr No w w' := by
  have F0 := hid (((Fr.refl No w).alloc (.cells #[.slice At nt ct, .slice Ai ni ci, .slice Af nf cf, .slice Ata nta cta, .slice Am nm cm, .slice Ag ng cg, .slice Ae ne ce, .bool bst, .int .i64 vst, .slice Ael nel cel, .slice Ad nd cd, .slice Ac nc cc] 33)).alloc (.cells #[.string x.mod, .string x.name, .int .i64 x.kind, .int .i64 x.func, .int .i64 x.table.elem, .int .i64 x.table.lim.min, .int .i64 x.table.lim.max, .bool x.table.lim.has, .int .i64 x.mem.min, .int .i64 x.mem.max, .bool x.mem.has, .int .i64 x.glob.val, .bool x.glob.mut_] 64))
  have G0 := hid ((Blk.new w 33 #[.slice At nt ct, .slice Ai ni ci, .slice Af nf cf, .slice Ata nta cta, .slice Am nm cm, .slice Ag ng cg, .slice Ae ne ce, .bool bst, .int .i64 vst, .slice Ael nel cel, .slice Ad nd cd, .slice Ac nc cc]).alloc (.cells #[.string x.mod, .string x.name, .int .i64 x.kind, .int .i64 x.func, .int .i64 x.table.elem, .int .i64 x.table.lim.min, .int .i64 x.table.lim.max, .bool x.table.lim.has, .int .i64 x.mem.min, .int .i64 x.mem.max, .bool x.mem.has, .int .i64 x.glob.val, .bool x.glob.mut_] 64))
  have GX0 := hid (Blk.new1 w (.cells #[.slice At nt ct, .slice Ai ni ci, .slice Af nf cf, .slice Ata nta cta, .slice Am nm cm, .slice Ag ng cg, .slice Ae ne ce, .bool bst, .int .i64 vst, .slice Ael nel cel, .slice Ad nd cd, .slice Ac nc cc] 33) 64 #[.string x.mod, .string x.name, .int .i64 x.kind, .int .i64 x.func, .int .i64 x.table.elem, .int .i64 x.table.lim.min, .int .i64 x.table.lim.max, .bool x.table.lim.has, .int .i64 x.mem.min, .int .i64 x.mem.max, .bool x.mem.has, .int .i64 x.glob.val, .bool x.glob.mut_])
  have HIN := hid hIN
  have HFW := hid (few_any nt ni nf nta nm ng ne nel nd nc ct ci cf cta cm cg ce cel cd cc At Ai Af Ata Am Ag Ae Ael Ad Ac bst vst ((w.alloc (.cells #[.slice At nt ct, .slice Ai ni ci, .slice Af nf cf, .slice Ata nta cta, .slice Am nm cm, .slice Ag ng cg, .slice Ae ne ce, .bool bst, .int .i64 vst, .slice Ael nel cel, .slice Ad nd cd, .slice Ac nc cc] 33)).alloc (.cells #[.string x.mod, .string x.name, .int .i64 x.kind, .int .i64 x.func, .int .i64 x.table.elem, .int .i64 x.table.lim.min, .int .i64 x.table.lim.max, .bool x.table.lim.has, .int .i64 x.mem.min, .int .i64 x.mem.max, .bool x.mem.has, .int .i64 x.glob.val, .bool x.glob.mut_] 64)) m.elems (· < w.heap.size) (hel.fr F0.out (fun k hk => ⟨hk, fun x => x⟩)) (fun k hk => Nat.lt_of_lt_of_le hk F0.out.size) eel hit)
  have HB := hid hbst
  have HV := hid hvst
  have HW := hid hw
  have HXX := hid hx
  have HIM := hid him
  clear hIN hel hit hbst hvst hw hx him
  go_enter Try.func6, Try.ntmps6
  go_wp2_with fail
  refine HFW.out.mono ?_
  rintro e w1 ⟨⟨r, rfl, hr⟩, f1⟩
  have F1 := hid (F0.out.trans f1 (fun _ _ h => h))
  have G1 := hid (G0.out.fr f1 (fun x => x))
  have GX := hid (GX0.out.fr f1 (fun x => x))
  have HR := hid hr
  clear hr f1 HFW G0 F0 GX0
  cases r with
  | false =>
    go_wp2_with fail
    refine (alive_any _).mono ?_
    rintro e w2 ⟨rfl, f2⟩
    have F2 := hid (F1.out.trans f2 (fun _ _ h => h))
    clear f2
    go_wp2
    go_ret
    exact ⟨rfl, F2.out⟩
  | true =>
    have HF := hid (HR.out rfl)
    have HM := hid (HIN.out HF.out)
    have HL := hid HF.out.li
    have HX : Hid (∀ X, Fr No w1 X → X.cell? ⟨w.heap.size, 0, none⟩ = some (.slice At nt ct) ∧ X.cell? ⟨w.heap.size, 1, none⟩ = some (.slice Ai ni ci) ∧ X.cell? ⟨w.heap.size, 2, none⟩ = some (.slice Af nf cf) ∧ X.cell? ⟨w.heap.size, 3, none⟩ = some (.slice Ata nta cta) ∧ X.cell? ⟨w.heap.size, 4, none⟩ = some (.slice Am nm cm) ∧ X.cell? ⟨w.heap.size, 5, none⟩ = some (.slice Ag ng cg) ∧ X.cell? ⟨w.heap.size, 6, none⟩ = some (.slice Ae ne ce) ∧ X.cell? ⟨w.heap.size, 7, none⟩ = some (.bool bst) ∧ X.cell? ⟨w.heap.size, 8, none⟩ = some (.int .i64 vst) ∧ X.cell? ⟨w.heap.size, 9, none⟩ = some (.slice Ael nel cel) ∧ X.cell? ⟨w.heap.size, 10, none⟩ = some (.slice Ad nd cd) ∧ X.cell? ⟨w.heap.size, 11, none⟩ = some (.slice Ac nc cc)) := fun X f => by
      have h := G1.out.fr f (fun x => x)
      exact ⟨h.cell 0, h.cell 1, h.cell 2, h.cell 3, h.cell 4, h.cell 5, h.cell 6, h.cell 7, h.cell 8, h.cell 9, h.cell 10, h.cell 11⟩
    have HXI : Hid (∀ X, Fr No w1 X → X.cell? ⟨w.heap.size + 1, 0, none⟩ = some (.string x.mod) ∧ X.cell? ⟨w.heap.size + 1, 1, none⟩ = some (.string x.name) ∧ X.cell? ⟨w.heap.size + 1, 2, none⟩ = some (.int .i64 x.kind) ∧ X.cell? ⟨w.heap.size + 1, 3, none⟩ = some (.int .i64 x.func) ∧ X.cell? ⟨w.heap.size + 1, 4, none⟩ = some (.int .i64 x.table.elem) ∧ X.cell? ⟨w.heap.size + 1, 5, none⟩ = some (.int .i64 x.table.lim.min) ∧ X.cell? ⟨w.heap.size + 1, 6, none⟩ = some (.int .i64 x.table.lim.max) ∧ X.cell? ⟨w.heap.size + 1, 7, none⟩ = some (.bool x.table.lim.has) ∧ X.cell? ⟨w.heap.size + 1, 8, none⟩ = some (.int .i64 x.mem.min) ∧ X.cell? ⟨w.heap.size + 1, 9, none⟩ = some (.int .i64 x.mem.max) ∧ X.cell? ⟨w.heap.size + 1, 10, none⟩ = some (.bool x.mem.has) ∧ X.cell? ⟨w.heap.size + 1, 11, none⟩ = some (.int .i64 x.glob.val) ∧ X.cell? ⟨w.heap.size + 1, 12, none⟩ = some (.bool x.glob.mut_)) := fun X f => by
      have h := GX.out.fr f (fun x => x)
      exact ⟨h.cell 0, h.cell 1, h.cell 2, h.cell 3, h.cell 4, h.cell 5, h.cell 6, h.cell 7, h.cell 8, h.cell 9, h.cell 10, h.cell 11, h.cell 12⟩
    have hxrd := hid (HXX.out)
    clear HR HIN G1 GX HXX
    obtain ⟨x0, x1, x2, x3, x4, x5, x6, x7, x8, x9, x10, x11⟩ := HX.out _ (Fr.refl No w1)
    have F1a := hid ((Fr.refl No w1).alloc (.cells #[.slice At nt ct, .slice Ai ni ci, .slice Af nf cf, .slice Ata nta cta, .slice Am nm cm, .slice Ag ng cg, .slice Ae ne ce, .bool bst, .int .i64 vst, .slice Ael nel cel, .slice Ad nd cd, .slice Ac nc cc] 33))
    have GN := hid (Blk.new w1 33 #[.slice At nt ct, .slice Ai ni ci, .slice Af nf cf, .slice Ata nta cta, .slice Am nm cm, .slice Ag ng cg, .slice Ae ne ce, .bool bst, .int .i64 vst, .slice Ael nel cel, .slice Ad nd cd, .slice Ac nc cc])
    have hnb := hid GN.out.lt
    have hWeq : Hid ((w1.alloc (.cells #[.slice At nt ct, .slice Ai ni ci, .slice Af nf cf, .slice Ata nta cta, .slice Am nm cm, .slice Ag ng cg, .slice Ae ne ce, .bool bst, .int .i64 vst, .slice Ael nel cel, .slice Ad nd cd, .slice Ac nc cc] 33)).heap.size = w1.heap.size + 1) := by rw [Hid]; simp
    have hnb1 := hid (Nat.le_refl w1.heap.size)
    obtain ⟨css, hcss, hrd⟩ := els_flat (HIM.out.fr F1.out (fun k hk => ⟨hk, fun x => x⟩)) (fun k hk => hk)
    go_upto_region 4 with fail
    clear x0 x1 x2 x3 x4 x5 x6 x7 x8 x9 x10 x11
    generalize hnbe : w1.heap.size = nb at *
    have hnbH := hid hnbe
    clear hnbe
    generalize hWe : w1.alloc (.cells #[.slice At nt ct, .slice Ai ni ci, .slice Af nf cf, .slice Ata nta cta, .slice Am nm cm, .slice Ag ng cg, .slice Ae ne ce, .bool bst, .int .i64 vst, .slice Ael nel cel, .slice Ad nd cd, .slice Ac nc cc] 33) = W at *
    clear hWe
    go_cut [] (fun wx => ∃ (AN : Option Addr) (cN : Nat), Blk wx nb 33 #[.slice At nt ct, .slice AN (ni + 1) cN, .slice Af nf cf, .slice Ata nta cta, .slice Am nm cm, .slice Ag ng cg, .slice Ae ne ce, .bool bst, .int .i64 vst, .slice Ael nel cel, .slice Ad nd cd, .slice Ac nc cc] ∧ tIm.els wx (· < wx.heap.size) AN (m.imports ++ [x]) ∧ Fr No w1 wx)
    case first =>
      have hnb1 : Hid (w1.heap.size ≤ nb) := by rw [Hid, hnbH.out]; exact Nat.le_refl _
      have HXW : Hid (∀ X, Fr (One nb) W X → X.cell? ⟨w.heap.size, 1, none⟩ = some (.slice Ai ni ci) ∧ X.cell? ⟨w.heap.size + 1, 0, none⟩ = some (.string x.mod) ∧ X.cell? ⟨w.heap.size + 1, 1, none⟩ = some (.string x.name) ∧ X.cell? ⟨w.heap.size + 1, 2, none⟩ = some (.int .i64 x.kind) ∧ X.cell? ⟨w.heap.size + 1, 3, none⟩ = some (.int .i64 x.func) ∧ X.cell? ⟨w.heap.size + 1, 4, none⟩ = some (.int .i64 x.table.elem) ∧ X.cell? ⟨w.heap.size + 1, 5, none⟩ = some (.int .i64 x.table.lim.min) ∧ X.cell? ⟨w.heap.size + 1, 6, none⟩ = some (.int .i64 x.table.lim.max) ∧ X.cell? ⟨w.heap.size + 1, 7, none⟩ = some (.bool x.table.lim.has) ∧ X.cell? ⟨w.heap.size + 1, 8, none⟩ = some (.int .i64 x.mem.min) ∧ X.cell? ⟨w.heap.size + 1, 9, none⟩ = some (.int .i64 x.mem.max) ∧ X.cell? ⟨w.heap.size + 1, 10, none⟩ = some (.bool x.mem.has) ∧ X.cell? ⟨w.heap.size + 1, 11, none⟩ = some (.int .i64 x.glob.val) ∧ X.cell? ⟨w.heap.size + 1, 12, none⟩ = some (.bool x.glob.mut_)) := fun X f => by
        have f' := F1a.out.trans f (fun i hi h => by simp only [One] at h; have := hnb1.out; omega)
        exact ⟨(HX.out X f').2.1, HXI.out X f'⟩
      have F4 := hid (Fr.refl No W).drew
      refine wp_region_ort (Fr (One nb) W) (.rd 1 (.rd 2 (.rd 4 (.alt 0 (.alt 3 (.eff 5 (.eff 6 (.rd 7 (.eff 8 .nil)))) 5 (.eff 3 (.eff 6 (.rd 7 (.eff 8 .nil))))) 5 (.eff 0 (.eff 3 (.eff 6 (.rd 7 (.eff 8 .nil))))))))) (by kernel_rfl) (by kernel_rfl) (by kernel_rfl) rfl ((Fr.refl _ _).drew) ?_
      repeat (first
        | (refine wpT_skip rfl rfl ?_; simp only [List.getElem_toArray, List.getElem_cons_succ, List.getElem_cons_zero, Act.put, List.setIfInBounds_toArray, List.set_cons_zero, List.set_cons_succ])
        | (refine wpT_call rfl rfl ?_; simp only [List.getElem_toArray, List.getElem_cons_succ, List.getElem_cons_zero]; apply Exists.intro; refine ⟨fun X hX => ?_, ?_⟩
           · (obtain ⟨s0, s1, s2, s3, s4, s5, s6, s7, s8, s9, s10, s11, s12, s13⟩ := HXW.out X hX; go_simp; exact stillUpon_value)
           simp only [Act.put, List.setIfInBounds_toArray, List.set_cons_zero, List.set_cons_succ]))
      refine wpT_alt ?_ ?_
      · skip
        refine wpT_eff rfl rfl (fun K hK => ?_)
        simp only [List.getElem_toArray, List.getElem_cons_succ, List.getElem_cons_zero]
        go_simp
        have F4n := hid (((Fr.refl No W).alloc (.cells #[] 64)).drew)
        have R0 := hid (Ty.row.lit (t := tIm) (S := Emp) (base := nb + 1) (css := []) (xs := []) (Blk.new W 64 #[]).drew (by have h1 : W.heap.size ≤ W.heap.size := F4.out.size; have := hWeq.out; omega) Css.nil (by decide))
        have g0 := hid (Blk.new W 64 #[]).drew.lt
        obtain ⟨q0, hq0⟩ : ∃ q, W.heap.size = q := ⟨_, rfl⟩
        have l5 : Hid (nb + 1 ≤ q0) := by have h1 : W.heap.size ≤ W.heap.size := F4.out.size; have := hWeq.out; rw [Hid]; omega
        rw [hq0] at R0 g0 ⊢
        have hq0 := hid hq0
        generalize (W.alloc (.cells #[] 64)).drew = Y1 at *
        clear F4
        have F4 := F4n
        clear F4n
        refine hK _ _ ((F4.out.mono (M := One nb) (fun _ _ h => h.elim))) ?_
        clear hK K
        repeat (first
          | (refine wpT_skip rfl rfl ?_; simp only [List.getElem_toArray, List.getElem_cons_succ, List.getElem_cons_zero, Act.put, List.setIfInBounds_toArray, List.set_cons_zero, List.set_cons_succ])
          | (refine wpT_call rfl rfl ?_; simp only [List.getElem_toArray, List.getElem_cons_succ, List.getElem_cons_zero]; apply Exists.intro; refine ⟨fun X hX => ?_, ?_⟩
             · (obtain ⟨s0, s1, s2, s3, s4, s5, s6, s7, s8, s9, s10, s11, s12, s13⟩ := HXW.out X hX; go_simp; exact stillUpon_value)
             simp only [Act.put, List.setIfInBounds_toArray, List.set_cons_zero, List.set_cons_succ]))
        refine wpT_alt ?_ ?_
        · skip
          refine wpT_eff rfl rfl (fun K hK => ?_)
          simp only [List.getElem_toArray, List.getElem_cons_succ, List.getElem_cons_zero]
          refine opwp_appC (t := tIm) (P := Try.prog) (base := nb + 1) (S := Emp) (v := .slice (some ⟨q0, 0, none⟩) 0 0) (xs := []) (ys := m.imports) (B2 := w.heap.size) (m := ni) elIms rfl rfl rfl R0.out (hcss _ _) (hrd.fr (F1a.out.trans F4.out (fun _ _ h => h)) (fun _ _ x => x)) ei.out (by have := HL.out; simp; omega) (by have := HL.out; simp; omega) (fun _ h => h.elim) (by have h1 := F4.out.size; have := hWeq.out; omega) ?_
          intro v1 Y2 hr1 fr1 hv1
          have F4n := hid (F4.out.trans fr1 (fun i hi h => by have h2 : i = q0 := (by simpa [Value.ownBlock] using h); have := l5.out; have := hWeq.out; omega))
          have R1 := hid hr1
          have u1 : Hid (∀ g, v1.ownBlock = some g → g < Y2.heap.size) := fun g hg => by obtain ⟨_, _, hb⟩ := hr1.own hg; exact hb.lt
          refine hK _ _ (F4n.out.mono (M := One nb) (fun _ _ h => h.elim)) ?_
          clear hK K hr1 fr1 hv1 F4
          have F4 := F4n
          clear F4n
          simp only [Act.put, List.setIfInBounds_toArray, List.set_cons_zero, List.set_cons_succ]
          repeat (first
            | (refine wpT_skip rfl rfl ?_; simp only [List.getElem_toArray, List.getElem_cons_succ, List.getElem_cons_zero, Act.put, List.setIfInBounds_toArray, List.set_cons_zero, List.set_cons_succ])
            | (refine wpT_call rfl rfl ?_; simp only [List.getElem_toArray, List.getElem_cons_succ, List.getElem_cons_zero]; apply Exists.intro; refine ⟨fun X hX => ?_, ?_⟩
               · (obtain ⟨s0, s1, s2, s3, s4, s5, s6, s7, s8, s9, s10, s11, s12, s13⟩ := HXW.out X hX; go_simp; exact stillUpon_value)
               simp only [Act.put, List.setIfInBounds_toArray, List.set_cons_zero, List.set_cons_succ]))
          refine wpT_eff rfl rfl (fun K hK => ?_)
          simp only [List.getElem_toArray, List.getElem_cons_succ, List.getElem_cons_zero]
          go_simp
          have F4n := hid (F4.out.alloc (.cells #[.string x.mod, .string x.name, .int .i64 x.kind, .int .i64 x.func, .int .i64 x.table.elem, .int .i64 x.table.lim.min, .int .i64 x.table.lim.max, .bool x.table.lim.has, .int .i64 x.mem.min, .int .i64 x.mem.max, .bool x.mem.has, .int .i64 x.glob.val, .bool x.glob.mut_] 64))
          have B5 := hid (Blk.new Y2 64 #[.string x.mod, .string x.name, .int .i64 x.kind, .int .i64 x.func, .int .i64 x.table.elem, .int .i64 x.table.lim.min, .int .i64 x.table.lim.max, .bool x.table.lim.has, .int .i64 x.mem.min, .int .i64 x.mem.max, .bool x.mem.has, .int .i64 x.glob.val, .bool x.glob.mut_])
          have R1 := hid (R1.out.fr ((Fr.refl No Y2).alloc (.cells #[.string x.mod, .string x.name, .int .i64 x.kind, .int .i64 x.func, .int .i64 x.table.elem, .int .i64 x.table.lim.min, .int .i64 x.table.lim.max, .bool x.table.lim.has, .int .i64 x.mem.min, .int .i64 x.mem.max, .bool x.mem.has, .int .i64 x.glob.val, .bool x.glob.mut_] 64)) (fun _ h => h.elim) (fun _ _ h => h))
          obtain ⟨q5, hq5⟩ : ∃ q, Y2.heap.size = q := ⟨_, rfl⟩
          rw [hq5] at B5 u1 ⊢
          have hq5 := hid hq5
          generalize Y2.alloc (.cells #[.string x.mod, .string x.name, .int .i64 x.kind, .int .i64 x.func, .int .i64 x.table.elem, .int .i64 x.table.lim.min, .int .i64 x.table.lim.max, .bool x.table.lim.has, .int .i64 x.mem.min, .int .i64 x.mem.max, .bool x.mem.has, .int .i64 x.glob.val, .bool x.glob.mut_] 64) = Y3 at *
          have n1 : Hid (∀ g, v1.ownBlock = some g → q5 ≠ g) := fun g hg => (Nat.ne_of_lt (u1.out g hg)).symm
          have B5o := B5
          clear F4
          have F4 := F4n
          clear F4n
          refine hK _ _ ((F4.out.mono (M := One nb) (fun _ _ h => h.elim))) ?_
          clear hK K
          repeat (first
            | (refine wpT_skip rfl rfl ?_; simp only [List.getElem_toArray, List.getElem_cons_succ, List.getElem_cons_zero, Act.put, List.setIfInBounds_toArray, List.set_cons_zero, List.set_cons_succ])
            | (refine wpT_call rfl rfl ?_; simp only [List.getElem_toArray, List.getElem_cons_succ, List.getElem_cons_zero]; apply Exists.intro; refine ⟨fun X hX => ?_, ?_⟩
               · (obtain ⟨s0, s1, s2, s3, s4, s5, s6, s7, s8, s9, s10, s11, s12, s13⟩ := HXW.out X hX; go_simp; exact stillUpon_value)
               simp only [Act.put, List.setIfInBounds_toArray, List.set_cons_zero, List.set_cons_succ]))
          refine wpT_eff rfl rfl (fun K hK => ?_)
          simp only [List.getElem_toArray, List.getElem_cons_succ, List.getElem_cons_zero]
          refine opwp_appC (t := tIm) (P := Try.prog) (base := nb + 1) (S := Emp) (v := v1) (xs := m.imports) (ys := [x]) (B2 := Y3.heap.size) (m := 1) (dss := [[.string x.mod, .string x.name, .int .i64 x.kind, .int .i64 x.func, .int .i64 x.table.elem, .int .i64 x.table.lim.min, .int .i64 x.table.lim.max, .bool x.table.lim.has, .int .i64 x.mem.min, .int .i64 x.mem.max, .bool x.mem.has, .int .i64 x.glob.val, .bool x.glob.mut_]]) elIms rfl rfl rfl (by simpa using R1.out) (Css.one (hxrd.out _ _)) (by simpa using Rd.blk B5.out B5.out.lt 0 (xs := [.string x.mod, .string x.name, .int .i64 x.kind, .int .i64 x.func, .int .i64 x.table.elem, .int .i64 x.table.lim.min, .int .i64 x.table.lim.max, .bool x.table.lim.has, .int .i64 x.mem.min, .int .i64 x.mem.max, .bool x.mem.has, .int .i64 x.glob.val, .bool x.glob.mut_]) (fun k u h => by rw [Nat.zero_add]; simpa using h)) rfl (by have := HL.out; have := ei.out; omega) (by have := HL.out; have := ei.out; omega) (fun _ h => h.elim) (by have h1 := F4.out.size; have := hWeq.out; omega) ?_
          intro v2 Y4 hr2 fr2 hv2
          have F4n := hid (F4.out.trans fr2 (fun i hi h => by have := (R1.out.own h.symm).1; have := hWeq.out; omega))
          obtain ⟨AN, cN, e2, _, _, k2⟩ := hr2.els (S' := fun k => nb + 1 ≤ k ∧ k < Y4.heap.size) (fun _ h => h.elim) (fun g hg => by obtain ⟨hb0, _, hb⟩ := hr2.own hg; exact ⟨hb0, hb.lt⟩)
          have e3 : (m.imports ++ [x]).length = ni + 1 := by rw [List.length_append, ei.out]; rfl
          rw [e3] at e2
          subst e2
          have K2 := hid k2
          have GNY := hid (GN.out.fr F4n.out (fun x => x))
          refine hK _ _ (F4n.out.mono (M := One nb) (fun _ _ h => h.elim)) ?_
          clear hK K hr2 fr2 hv2 F4 k2 e3
          have F4 := F4n
          clear F4n
          simp only [Act.put, List.setIfInBounds_toArray, List.set_cons_zero, List.set_cons_succ]
          repeat (first
            | (refine wpT_skip rfl rfl ?_; simp only [List.getElem_toArray, List.getElem_cons_succ, List.getElem_cons_zero, Act.put, List.setIfInBounds_toArray, List.set_cons_zero, List.set_cons_succ])
            | (refine wpT_call rfl rfl ?_; simp only [List.getElem_toArray, List.getElem_cons_succ, List.getElem_cons_zero]; apply Exists.intro; refine ⟨fun X hX => ?_, ?_⟩
               · (obtain ⟨s0, s1, s2, s3, s4, s5, s6, s7, s8, s9, s10, s11, s12, s13⟩ := HXW.out X hX; go_simp; exact stillUpon_value)
               simp only [Act.put, List.setIfInBounds_toArray, List.set_cons_zero, List.set_cons_succ]))
          have zf := GNY.out.frozen 1
          have zc := GNY.out.cell 1
          refine wpT_eff rfl rfl (fun K hK => ?_)
          simp only [List.getElem_toArray, List.getElem_cons_succ, List.getElem_cons_zero]
          go_simp
          have FS := hid ((Fr.refl (One nb) Y4).setCell ⟨nb, 1, none⟩ (.slice AN (ni + 1) cN) (fun _ => rfl))
          have GS := hid (GNY.out.set_ 1 (.slice AN (ni + 1) cN))
          have KS := hid ((K2.out.fr FS.out (fun k hk => ⟨hk.2, fun h => by have := hk.1; simp only [One] at h; omega⟩)).more (fun k hk => Nat.lt_of_lt_of_le hk.2 FS.out.size))
          have FT := hid ((F4.out.mono (M := One nb) (fun _ _ h => h.elim)).trans FS.out (fun _ _ h => h))
          have FN := hid (F1a.out.trans FT.out (fun i hi h => by simp only [One] at h; have := hnb1.out; omega))
          clear zf zc
          refine hK _ _ (FT.out) ?_
          clear hK K
          refine wpT_nil ?_
          go_wp2_with fail
          go_meet
          case rel => exact ⟨AN, cN, GS.out, KS.out, FN.out⟩
        · skip
          refine wpT_eff rfl rfl (fun K hK => ?_)
          simp only [List.getElem_toArray, List.getElem_cons_succ, List.getElem_cons_zero]
          go_simp
          have F4n := hid (F4.out.alloc (.cells #[.string x.mod, .string x.name, .int .i64 x.kind, .int .i64 x.func, .int .i64 x.table.elem, .int .i64 x.table.lim.min, .int .i64 x.table.lim.max, .bool x.table.lim.has, .int .i64 x.mem.min, .int .i64 x.mem.max, .bool x.mem.has, .int .i64 x.glob.val, .bool x.glob.mut_] 64))
          have B5 := hid (Blk.new Y1 64 #[.string x.mod, .string x.name, .int .i64 x.kind, .int .i64 x.func, .int .i64 x.table.elem, .int .i64 x.table.lim.min, .int .i64 x.table.lim.max, .bool x.table.lim.has, .int .i64 x.mem.min, .int .i64 x.mem.max, .bool x.mem.has, .int .i64 x.glob.val, .bool x.glob.mut_])
          have R0 := hid (R0.out.fr ((Fr.refl No Y1).alloc (.cells #[.string x.mod, .string x.name, .int .i64 x.kind, .int .i64 x.func, .int .i64 x.table.elem, .int .i64 x.table.lim.min, .int .i64 x.table.lim.max, .bool x.table.lim.has, .int .i64 x.mem.min, .int .i64 x.mem.max, .bool x.mem.has, .int .i64 x.glob.val, .bool x.glob.mut_] 64)) (fun _ h => h.elim) (fun _ _ h => h))
          obtain ⟨q5, hq5⟩ : ∃ q, Y1.heap.size = q := ⟨_, rfl⟩
          rw [hq5] at B5 g0 ⊢
          have hq5 := hid hq5
          generalize Y1.alloc (.cells #[.string x.mod, .string x.name, .int .i64 x.kind, .int .i64 x.func, .int .i64 x.table.elem, .int .i64 x.table.lim.min, .int .i64 x.table.lim.max, .bool x.table.lim.has, .int .i64 x.mem.min, .int .i64 x.mem.max, .bool x.mem.has, .int .i64 x.glob.val, .bool x.glob.mut_] 64) = Y2 at *
          have nq : Hid (q5 ≠ q0) := (Nat.ne_of_lt g0.out).symm
          have B5o := B5
          clear F4
          have F4 := F4n
          clear F4n
          refine hK _ _ ((F4.out.mono (M := One nb) (fun _ _ h => h.elim))) ?_
          clear hK K
          repeat (first
            | (refine wpT_skip rfl rfl ?_; simp only [List.getElem_toArray, List.getElem_cons_succ, List.getElem_cons_zero, Act.put, List.setIfInBounds_toArray, List.set_cons_zero, List.set_cons_succ])
            | (refine wpT_call rfl rfl ?_; simp only [List.getElem_toArray, List.getElem_cons_succ, List.getElem_cons_zero]; apply Exists.intro; refine ⟨fun X hX => ?_, ?_⟩
               · (obtain ⟨s0, s1, s2, s3, s4, s5, s6, s7, s8, s9, s10, s11, s12, s13⟩ := HXW.out X hX; go_simp; exact stillUpon_value)
               simp only [Act.put, List.setIfInBounds_toArray, List.set_cons_zero, List.set_cons_succ]))
          refine wpT_eff rfl rfl (fun K hK => ?_)
          simp only [List.getElem_toArray, List.getElem_cons_succ, List.getElem_cons_zero]
          refine opwp_appC (t := tIm) (P := Try.prog) (base := nb + 1) (S := Emp) (v := .slice (some ⟨q0, 0, none⟩) 0 0) (xs := []) (ys := m.imports) (B2 := w.heap.size) (m := ni) elIms rfl rfl rfl R0.out (hcss _ _) (hrd.fr (F1a.out.trans F4.out (fun _ _ h => h)) (fun _ _ x => x)) ei.out (by have := HL.out; simp; omega) (by have := HL.out; simp; omega) (fun _ h => h.elim) (by have h1 := F4.out.size; have := hWeq.out; omega) ?_
          intro v1 Y3 hr1 fr1 hv1
          have F4n := hid (F4.out.trans fr1 (fun i hi h => by have h2 : i = q0 := (by simpa [Value.ownBlock] using h); have := l5.out; have := hWeq.out; omega))
          have R1 := hid hr1
          have u1 : Hid (∀ g, v1.ownBlock = some g → g < Y3.heap.size) := fun g hg => by obtain ⟨_, _, hb⟩ := hr1.own hg; exact hb.lt
          have n1 : Hid (∀ g, v1.ownBlock = some g → q5 ≠ g) := fun g hg => by
            rcases hv1 with h | h
            · rw [h] at hg; have h2 : q0 = g := by simpa [Value.ownBlock] using hg
              exact h2 ▸ nq.out
            · rw [h] at hg; injection hg with hg; exact hg ▸ Nat.ne_of_lt B5.out.lt
          have B5 := hid (B5.out.fr fr1 (fun h => by have h2 : q5 = q0 := (by simpa [Value.ownBlock] using h); exact nq.out h2))
          refine hK _ _ (F4n.out.mono (M := One nb) (fun _ _ h => h.elim)) ?_
          clear hK K hr1 fr1 hv1 F4
          have F4 := F4n
          clear F4n
          simp only [Act.put, List.setIfInBounds_toArray, List.set_cons_zero, List.set_cons_succ]
          repeat (first
            | (refine wpT_skip rfl rfl ?_; simp only [List.getElem_toArray, List.getElem_cons_succ, List.getElem_cons_zero, Act.put, List.setIfInBounds_toArray, List.set_cons_zero, List.set_cons_succ])
            | (refine wpT_call rfl rfl ?_; simp only [List.getElem_toArray, List.getElem_cons_succ, List.getElem_cons_zero]; apply Exists.intro; refine ⟨fun X hX => ?_, ?_⟩
               · (obtain ⟨s0, s1, s2, s3, s4, s5, s6, s7, s8, s9, s10, s11, s12, s13⟩ := HXW.out X hX; go_simp; exact stillUpon_value)
               simp only [Act.put, List.setIfInBounds_toArray, List.set_cons_zero, List.set_cons_succ]))
          refine wpT_eff rfl rfl (fun K hK => ?_)
          simp only [List.getElem_toArray, List.getElem_cons_succ, List.getElem_cons_zero]
          refine opwp_appC (t := tIm) (P := Try.prog) (base := nb + 1) (S := Emp) (v := v1) (xs := m.imports) (ys := [x]) (B2 := Y3.heap.size) (m := 1) (dss := [[.string x.mod, .string x.name, .int .i64 x.kind, .int .i64 x.func, .int .i64 x.table.elem, .int .i64 x.table.lim.min, .int .i64 x.table.lim.max, .bool x.table.lim.has, .int .i64 x.mem.min, .int .i64 x.mem.max, .bool x.mem.has, .int .i64 x.glob.val, .bool x.glob.mut_]]) elIms rfl rfl rfl (by simpa using R1.out) (Css.one (hxrd.out _ _)) (by simpa using Rd.blk B5.out B5.out.lt 0 (xs := [.string x.mod, .string x.name, .int .i64 x.kind, .int .i64 x.func, .int .i64 x.table.elem, .int .i64 x.table.lim.min, .int .i64 x.table.lim.max, .bool x.table.lim.has, .int .i64 x.mem.min, .int .i64 x.mem.max, .bool x.mem.has, .int .i64 x.glob.val, .bool x.glob.mut_]) (fun k u h => by rw [Nat.zero_add]; simpa using h)) rfl (by have := HL.out; have := ei.out; omega) (by have := HL.out; have := ei.out; omega) (fun _ h => h.elim) (by have h1 := F4.out.size; have := hWeq.out; omega) ?_
          intro v2 Y4 hr2 fr2 hv2
          have F4n := hid (F4.out.trans fr2 (fun i hi h => by have := (R1.out.own h.symm).1; have := hWeq.out; omega))
          obtain ⟨AN, cN, e2, _, _, k2⟩ := hr2.els (S' := fun k => nb + 1 ≤ k ∧ k < Y4.heap.size) (fun _ h => h.elim) (fun g hg => by obtain ⟨hb0, _, hb⟩ := hr2.own hg; exact ⟨hb0, hb.lt⟩)
          have e3 : (m.imports ++ [x]).length = ni + 1 := by rw [List.length_append, ei.out]; rfl
          rw [e3] at e2
          subst e2
          have K2 := hid k2
          have GNY := hid (GN.out.fr F4n.out (fun x => x))
          refine hK _ _ (F4n.out.mono (M := One nb) (fun _ _ h => h.elim)) ?_
          clear hK K hr2 fr2 hv2 F4 k2 e3
          have F4 := F4n
          clear F4n
          simp only [Act.put, List.setIfInBounds_toArray, List.set_cons_zero, List.set_cons_succ]
          repeat (first
            | (refine wpT_skip rfl rfl ?_; simp only [List.getElem_toArray, List.getElem_cons_succ, List.getElem_cons_zero, Act.put, List.setIfInBounds_toArray, List.set_cons_zero, List.set_cons_succ])
            | (refine wpT_call rfl rfl ?_; simp only [List.getElem_toArray, List.getElem_cons_succ, List.getElem_cons_zero]; apply Exists.intro; refine ⟨fun X hX => ?_, ?_⟩
               · (obtain ⟨s0, s1, s2, s3, s4, s5, s6, s7, s8, s9, s10, s11, s12, s13⟩ := HXW.out X hX; go_simp; exact stillUpon_value)
               simp only [Act.put, List.setIfInBounds_toArray, List.set_cons_zero, List.set_cons_succ]))
          have zf := GNY.out.frozen 1
          have zc := GNY.out.cell 1
          refine wpT_eff rfl rfl (fun K hK => ?_)
          simp only [List.getElem_toArray, List.getElem_cons_succ, List.getElem_cons_zero]
          go_simp
          have FS := hid ((Fr.refl (One nb) Y4).setCell ⟨nb, 1, none⟩ (.slice AN (ni + 1) cN) (fun _ => rfl))
          have GS := hid (GNY.out.set_ 1 (.slice AN (ni + 1) cN))
          have KS := hid ((K2.out.fr FS.out (fun k hk => ⟨hk.2, fun h => by have := hk.1; simp only [One] at h; omega⟩)).more (fun k hk => Nat.lt_of_lt_of_le hk.2 FS.out.size))
          have FT := hid ((F4.out.mono (M := One nb) (fun _ _ h => h.elim)).trans FS.out (fun _ _ h => h))
          have FN := hid (F1a.out.trans FT.out (fun i hi h => by simp only [One] at h; have := hnb1.out; omega))
          clear zf zc
          refine hK _ _ (FT.out) ?_
          clear hK K
          refine wpT_nil ?_
          go_wp2_with fail
          go_meet
          case rel => exact ⟨AN, cN, GS.out, KS.out, FN.out⟩
      · skip
        refine wpT_eff rfl rfl (fun K hK => ?_)
        simp only [List.getElem_toArray, List.getElem_cons_succ, List.getElem_cons_zero]
        go_simp
        have F4n := hid (((Fr.refl No W).alloc (.cells #[.string x.mod, .string x.name, .int .i64 x.kind, .int .i64 x.func, .int .i64 x.table.elem, .int .i64 x.table.lim.min, .int .i64 x.table.lim.max, .bool x.table.lim.has, .int .i64 x.mem.min, .int .i64 x.mem.max, .bool x.mem.has, .int .i64 x.glob.val, .bool x.glob.mut_] 64)).drew)
        have B5 := hid (Blk.new W 64 #[.string x.mod, .string x.name, .int .i64 x.kind, .int .i64 x.func, .int .i64 x.table.elem, .int .i64 x.table.lim.min, .int .i64 x.table.lim.max, .bool x.table.lim.has, .int .i64 x.mem.min, .int .i64 x.mem.max, .bool x.mem.has, .int .i64 x.glob.val, .bool x.glob.mut_]).drew
        obtain ⟨q5, hq5⟩ : ∃ q, W.heap.size = q := ⟨_, rfl⟩
        rw [hq5] at B5 ⊢
        have hq5 := hid hq5
        generalize (W.alloc (.cells #[.string x.mod, .string x.name, .int .i64 x.kind, .int .i64 x.func, .int .i64 x.table.elem, .int .i64 x.table.lim.min, .int .i64 x.table.lim.max, .bool x.table.lim.has, .int .i64 x.mem.min, .int .i64 x.mem.max, .bool x.mem.has, .int .i64 x.glob.val, .bool x.glob.mut_] 64)).drew = Y1 at *
        have B5o := B5
        clear F4
        have F4 := F4n
        clear F4n
        refine hK _ _ ((F4.out.mono (M := One nb) (fun _ _ h => h.elim))) ?_
        clear hK K
        repeat (first
          | (refine wpT_skip rfl rfl ?_; simp only [List.getElem_toArray, List.getElem_cons_succ, List.getElem_cons_zero, Act.put, List.setIfInBounds_toArray, List.set_cons_zero, List.set_cons_succ])
          | (refine wpT_call rfl rfl ?_; simp only [List.getElem_toArray, List.getElem_cons_succ, List.getElem_cons_zero]; apply Exists.intro; refine ⟨fun X hX => ?_, ?_⟩
             · (obtain ⟨s0, s1, s2, s3, s4, s5, s6, s7, s8, s9, s10, s11, s12, s13⟩ := HXW.out X hX; go_simp; exact stillUpon_value)
             simp only [Act.put, List.setIfInBounds_toArray, List.set_cons_zero, List.set_cons_succ]))
        refine wpT_eff rfl rfl (fun K hK => ?_)
        simp only [List.getElem_toArray, List.getElem_cons_succ, List.getElem_cons_zero]
        go_simp
        have F4n := hid (F4.out.alloc (.cells #[] 64))
        have R0 := hid (Ty.row.lit (t := tIm) (S := Emp) (base := nb + 1) (css := []) (xs := []) (Blk.new Y1 64 #[]) (by have h1 : W.heap.size ≤ Y1.heap.size := F4.out.size; have := hWeq.out; omega) Css.nil (by decide))
        have g0 := hid (Blk.new Y1 64 #[]).lt
        have B5 := hid (B5.out.alloc (.cells #[] 64))
        have nq0 := hid B5o.out.lt
        obtain ⟨q0, hq0⟩ : ∃ q, Y1.heap.size = q := ⟨_, rfl⟩
        have l5 : Hid (nb + 1 ≤ q0) := by have h1 : W.heap.size ≤ Y1.heap.size := F4.out.size; have := hWeq.out; rw [Hid]; omega
        rw [hq0] at R0 g0 nq0 ⊢
        have hq0 := hid hq0
        generalize Y1.alloc (.cells #[] 64) = Y2 at *
        have nq : Hid (q5 ≠ q0) := Nat.ne_of_lt nq0.out
        clear F4
        have F4 := F4n
        clear F4n
        refine hK _ _ ((F4.out.mono (M := One nb) (fun _ _ h => h.elim))) ?_
        clear hK K
        repeat (first
          | (refine wpT_skip rfl rfl ?_; simp only [List.getElem_toArray, List.getElem_cons_succ, List.getElem_cons_zero, Act.put, List.setIfInBounds_toArray, List.set_cons_zero, List.set_cons_succ])
          | (refine wpT_call rfl rfl ?_; simp only [List.getElem_toArray, List.getElem_cons_succ, List.getElem_cons_zero]; apply Exists.intro; refine ⟨fun X hX => ?_, ?_⟩
             · (obtain ⟨s0, s1, s2, s3, s4, s5, s6, s7, s8, s9, s10, s11, s12, s13⟩ := HXW.out X hX; go_simp; exact stillUpon_value)
             simp only [Act.put, List.setIfInBounds_toArray, List.set_cons_zero, List.set_cons_succ]))
        refine wpT_eff rfl rfl (fun K hK => ?_)
        simp only [List.getElem_toArray, List.getElem_cons_succ, List.getElem_cons_zero]
        refine opwp_appC (t := tIm) (P := Try.prog) (base := nb + 1) (S := Emp) (v := .slice (some ⟨q0, 0, none⟩) 0 0) (xs := []) (ys := m.imports) (B2 := w.heap.size) (m := ni) elIms rfl rfl rfl R0.out (hcss _ _) (hrd.fr (F1a.out.trans F4.out (fun _ _ h => h)) (fun _ _ x => x)) ei.out (by have := HL.out; simp; omega) (by have := HL.out; simp; omega) (fun _ h => h.elim) (by have h1 := F4.out.size; have := hWeq.out; omega) ?_
        intro v1 Y3 hr1 fr1 hv1
        have F4n := hid (F4.out.trans fr1 (fun i hi h => by have h2 : i = q0 := (by simpa [Value.ownBlock] using h); have := l5.out; have := hWeq.out; omega))
        have R1 := hid hr1
        have u1 : Hid (∀ g, v1.ownBlock = some g → g < Y3.heap.size) := fun g hg => by obtain ⟨_, _, hb⟩ := hr1.own hg; exact hb.lt
        have n1 : Hid (∀ g, v1.ownBlock = some g → q5 ≠ g) := fun g hg => by
          rcases hv1 with h | h
          · rw [h] at hg; have h2 : q0 = g := by simpa [Value.ownBlock] using hg
            exact h2 ▸ nq.out
          · rw [h] at hg; injection hg with hg; exact hg ▸ Nat.ne_of_lt B5.out.lt
        have B5 := hid (B5.out.fr fr1 (fun h => by have h2 : q5 = q0 := (by simpa [Value.ownBlock] using h); exact nq.out h2))
        refine hK _ _ (F4n.out.mono (M := One nb) (fun _ _ h => h.elim)) ?_
        clear hK K hr1 fr1 hv1 F4
        have F4 := F4n
        clear F4n
        simp only [Act.put, List.setIfInBounds_toArray, List.set_cons_zero, List.set_cons_succ]
        repeat (first
          | (refine wpT_skip rfl rfl ?_; simp only [List.getElem_toArray, List.getElem_cons_succ, List.getElem_cons_zero, Act.put, List.setIfInBounds_toArray, List.set_cons_zero, List.set_cons_succ])
          | (refine wpT_call rfl rfl ?_; simp only [List.getElem_toArray, List.getElem_cons_succ, List.getElem_cons_zero]; apply Exists.intro; refine ⟨fun X hX => ?_, ?_⟩
             · (obtain ⟨s0, s1, s2, s3, s4, s5, s6, s7, s8, s9, s10, s11, s12, s13⟩ := HXW.out X hX; go_simp; exact stillUpon_value)
             simp only [Act.put, List.setIfInBounds_toArray, List.set_cons_zero, List.set_cons_succ]))
        refine wpT_eff rfl rfl (fun K hK => ?_)
        simp only [List.getElem_toArray, List.getElem_cons_succ, List.getElem_cons_zero]
        refine opwp_appC (t := tIm) (P := Try.prog) (base := nb + 1) (S := Emp) (v := v1) (xs := m.imports) (ys := [x]) (B2 := Y3.heap.size) (m := 1) (dss := [[.string x.mod, .string x.name, .int .i64 x.kind, .int .i64 x.func, .int .i64 x.table.elem, .int .i64 x.table.lim.min, .int .i64 x.table.lim.max, .bool x.table.lim.has, .int .i64 x.mem.min, .int .i64 x.mem.max, .bool x.mem.has, .int .i64 x.glob.val, .bool x.glob.mut_]]) elIms rfl rfl rfl (by simpa using R1.out) (Css.one (hxrd.out _ _)) (by simpa using Rd.blk B5.out B5.out.lt 0 (xs := [.string x.mod, .string x.name, .int .i64 x.kind, .int .i64 x.func, .int .i64 x.table.elem, .int .i64 x.table.lim.min, .int .i64 x.table.lim.max, .bool x.table.lim.has, .int .i64 x.mem.min, .int .i64 x.mem.max, .bool x.mem.has, .int .i64 x.glob.val, .bool x.glob.mut_]) (fun k u h => by rw [Nat.zero_add]; simpa using h)) rfl (by have := HL.out; have := ei.out; omega) (by have := HL.out; have := ei.out; omega) (fun _ h => h.elim) (by have h1 := F4.out.size; have := hWeq.out; omega) ?_
        intro v2 Y4 hr2 fr2 hv2
        have F4n := hid (F4.out.trans fr2 (fun i hi h => by have := (R1.out.own h.symm).1; have := hWeq.out; omega))
        obtain ⟨AN, cN, e2, _, _, k2⟩ := hr2.els (S' := fun k => nb + 1 ≤ k ∧ k < Y4.heap.size) (fun _ h => h.elim) (fun g hg => by obtain ⟨hb0, _, hb⟩ := hr2.own hg; exact ⟨hb0, hb.lt⟩)
        have e3 : (m.imports ++ [x]).length = ni + 1 := by rw [List.length_append, ei.out]; rfl
        rw [e3] at e2
        subst e2
        have K2 := hid k2
        have GNY := hid (GN.out.fr F4n.out (fun x => x))
        refine hK _ _ (F4n.out.mono (M := One nb) (fun _ _ h => h.elim)) ?_
        clear hK K hr2 fr2 hv2 F4 k2 e3
        have F4 := F4n
        clear F4n
        simp only [Act.put, List.setIfInBounds_toArray, List.set_cons_zero, List.set_cons_succ]
        repeat (first
          | (refine wpT_skip rfl rfl ?_; simp only [List.getElem_toArray, List.getElem_cons_succ, List.getElem_cons_zero, Act.put, List.setIfInBounds_toArray, List.set_cons_zero, List.set_cons_succ])
          | (refine wpT_call rfl rfl ?_; simp only [List.getElem_toArray, List.getElem_cons_succ, List.getElem_cons_zero]; apply Exists.intro; refine ⟨fun X hX => ?_, ?_⟩
             · (obtain ⟨s0, s1, s2, s3, s4, s5, s6, s7, s8, s9, s10, s11, s12, s13⟩ := HXW.out X hX; go_simp; exact stillUpon_value)
             simp only [Act.put, List.setIfInBounds_toArray, List.set_cons_zero, List.set_cons_succ]))
        have zf := GNY.out.frozen 1
        have zc := GNY.out.cell 1
        refine wpT_eff rfl rfl (fun K hK => ?_)
        simp only [List.getElem_toArray, List.getElem_cons_succ, List.getElem_cons_zero]
        go_simp
        have FS := hid ((Fr.refl (One nb) Y4).setCell ⟨nb, 1, none⟩ (.slice AN (ni + 1) cN) (fun _ => rfl))
        have GS := hid (GNY.out.set_ 1 (.slice AN (ni + 1) cN))
        have KS := hid ((K2.out.fr FS.out (fun k hk => ⟨hk.2, fun h => by have := hk.1; simp only [One] at h; omega⟩)).more (fun k hk => Nat.lt_of_lt_of_le hk.2 FS.out.size))
        have FT := hid ((F4.out.mono (M := One nb) (fun _ _ h => h.elim)).trans FS.out (fun _ _ h => h))
        have FN := hid (F1a.out.trans FT.out (fun i hi h => by simp only [One] at h; have := hnb1.out; omega))
        clear zf zc
        refine hK _ _ (FT.out) ?_
        clear hK K
        refine wpT_nil ?_
        go_wp2_with fail
        go_meet
        case rel => exact ⟨AN, cN, GS.out, KS.out, FN.out⟩
    case rest =>
      obtain ⟨AN, cN, gn, kn, fn⟩ := hcut
      have GN2 := hid gn
      have KN := hid kn
      have FC := hid fn
      have FWC := hid (F1.out.trans fn (fun _ _ h => h))
      clear gn kn fn GN hnb hnb1 hnbH F1a HIM hcss hrd
      have HXN : Hid (∀ X, Fr No wc X → X.cell? ⟨w.heap.size, 0, none⟩ = some (.slice At nt ct) ∧ X.cell? ⟨w.heap.size, 1, none⟩ = some (.slice Ai ni ci) ∧ X.cell? ⟨w.heap.size, 2, none⟩ = some (.slice Af nf cf) ∧ X.cell? ⟨w.heap.size, 3, none⟩ = some (.slice Ata nta cta) ∧ X.cell? ⟨w.heap.size, 4, none⟩ = some (.slice Am nm cm) ∧ X.cell? ⟨w.heap.size, 5, none⟩ = some (.slice Ag ng cg) ∧ X.cell? ⟨w.heap.size, 6, none⟩ = some (.slice Ae ne ce) ∧ X.cell? ⟨w.heap.size, 7, none⟩ = some (.bool bst) ∧ X.cell? ⟨w.heap.size, 8, none⟩ = some (.int .i64 vst) ∧ X.cell? ⟨w.heap.size, 9, none⟩ = some (.slice Ael nel cel) ∧ X.cell? ⟨w.heap.size, 10, none⟩ = some (.slice Ad nd cd) ∧ X.cell? ⟨w.heap.size, 11, none⟩ = some (.slice Ac nc cc) ∧ X.cell? ⟨nb, 0, none⟩ = some (.slice At nt ct) ∧ X.cell? ⟨nb, 1, none⟩ = some (.slice AN (ni + 1) cN) ∧ X.cell? ⟨nb, 2, none⟩ = some (.slice Af nf cf) ∧ X.cell? ⟨nb, 3, none⟩ = some (.slice Ata nta cta) ∧ X.cell? ⟨nb, 4, none⟩ = some (.slice Am nm cm) ∧ X.cell? ⟨nb, 5, none⟩ = some (.slice Ag ng cg) ∧ X.cell? ⟨nb, 6, none⟩ = some (.slice Ae ne ce) ∧ X.cell? ⟨nb, 7, none⟩ = some (.bool bst) ∧ X.cell? ⟨nb, 8, none⟩ = some (.int .i64 vst) ∧ X.cell? ⟨nb, 9, none⟩ = some (.slice Ael nel cel) ∧ X.cell? ⟨nb, 10, none⟩ = some (.slice Ad nd cd) ∧ X.cell? ⟨nb, 11, none⟩ = some (.slice Ac nc cc)) := fun X f => by
        have h := GN2.out.fr f (fun x => x)
        obtain ⟨x0, x1, x2, x3, x4, x5, x6, x7, x8, x9, x10, x11⟩ := HX.out X (FC.out.trans f (fun _ _ h => h))
        exact ⟨x0, x1, x2, x3, x4, x5, x6, x7, x8, x9, x10, x11, h.cell 0, h.cell 1, h.cell 2, h.cell 3, h.cell 4, h.cell 5, h.cell 6, h.cell 7, h.cell 8, h.cell 9, h.cell 10, h.cell 11⟩
      have HXJ := hid (fun X (f : Fr No wc X) => HXI.out X (FC.out.trans f (fun _ _ h => h)))
      clear HX HXI
      go_upto_region 5 with fail
      refine wp_region_ord (fun X => X.cell? ⟨w.heap.size, 0, none⟩ = some (.slice At nt ct) ∧ X.cell? ⟨w.heap.size, 1, none⟩ = some (.slice Ai ni ci) ∧ X.cell? ⟨w.heap.size, 2, none⟩ = some (.slice Af nf cf) ∧ X.cell? ⟨w.heap.size, 3, none⟩ = some (.slice Ata nta cta) ∧ X.cell? ⟨w.heap.size, 4, none⟩ = some (.slice Am nm cm) ∧ X.cell? ⟨w.heap.size, 5, none⟩ = some (.slice Ag ng cg) ∧ X.cell? ⟨w.heap.size, 6, none⟩ = some (.slice Ae ne ce) ∧ X.cell? ⟨w.heap.size, 7, none⟩ = some (.bool bst) ∧ X.cell? ⟨w.heap.size, 8, none⟩ = some (.int .i64 vst) ∧ X.cell? ⟨w.heap.size, 9, none⟩ = some (.slice Ael nel cel) ∧ X.cell? ⟨w.heap.size, 10, none⟩ = some (.slice Ad nd cd) ∧ X.cell? ⟨w.heap.size, 11, none⟩ = some (.slice Ac nc cc) ∧ X.cell? ⟨nb, 0, none⟩ = some (.slice At nt ct) ∧ X.cell? ⟨nb, 1, none⟩ = some (.slice AN (ni + 1) cN) ∧ X.cell? ⟨nb, 2, none⟩ = some (.slice Af nf cf) ∧ X.cell? ⟨nb, 3, none⟩ = some (.slice Ata nta cta) ∧ X.cell? ⟨nb, 4, none⟩ = some (.slice Am nm cm) ∧ X.cell? ⟨nb, 5, none⟩ = some (.slice Ag ng cg) ∧ X.cell? ⟨nb, 6, none⟩ = some (.slice Ae ne ce) ∧ X.cell? ⟨nb, 7, none⟩ = some (.bool bst) ∧ X.cell? ⟨nb, 8, none⟩ = some (.int .i64 vst) ∧ X.cell? ⟨nb, 9, none⟩ = some (.slice Ael nel cel) ∧ X.cell? ⟨nb, 10, none⟩ = some (.slice Ad nd cd) ∧ X.cell? ⟨nb, 11, none⟩ = some (.slice Ac nc cc)) [] [(0, true), (2, true), (1, false), (3, false), (4, true), (5, true)] (by kernel_rfl) (by kernel_rfl) (by kernel_rfl) rfl (HXN.out _ (Fr.refl _ _).drew) ?_
      repeat (first
        | (refine wpO_skip rfl rfl ?_; simp only [List.getElem_toArray, List.getElem_cons_succ, List.getElem_cons_zero, Act.put, List.setIfInBounds_toArray, List.set_cons_zero, List.set_cons_succ])
        | (refine wpO_call rfl rfl ?_; simp only [List.getElem_toArray, List.getElem_cons_succ, List.getElem_cons_zero]; apply Exists.intro; refine ⟨fun X hX => ?_, ?_⟩
           · (have s0 := hX.1; have s1 := hX.2.1; have s2 := hX.2.2.1; have s3 := hX.2.2.2.1; have s4 := hX.2.2.2.2.1; have s5 := hX.2.2.2.2.2.1; have s6 := hX.2.2.2.2.2.2.1; have s7 := hX.2.2.2.2.2.2.2.1; have s8 := hX.2.2.2.2.2.2.2.2.1; have s9 := hX.2.2.2.2.2.2.2.2.2.1; have s10 := hX.2.2.2.2.2.2.2.2.2.2.1; have s11 := hX.2.2.2.2.2.2.2.2.2.2.2.1; have s12 := hX.2.2.2.2.2.2.2.2.2.2.2.2.1; have s13 := hX.2.2.2.2.2.2.2.2.2.2.2.2.2.1; have s14 := hX.2.2.2.2.2.2.2.2.2.2.2.2.2.2.1; have s15 := hX.2.2.2.2.2.2.2.2.2.2.2.2.2.2.2.1; have s16 := hX.2.2.2.2.2.2.2.2.2.2.2.2.2.2.2.2.1; have s17 := hX.2.2.2.2.2.2.2.2.2.2.2.2.2.2.2.2.2.1; have s18 := hX.2.2.2.2.2.2.2.2.2.2.2.2.2.2.2.2.2.2.1; have s19 := hX.2.2.2.2.2.2.2.2.2.2.2.2.2.2.2.2.2.2.2.1; have s20 := hX.2.2.2.2.2.2.2.2.2.2.2.2.2.2.2.2.2.2.2.2.1; have s21 := hX.2.2.2.2.2.2.2.2.2.2.2.2.2.2.2.2.2.2.2.2.2.1; have s22 := hX.2.2.2.2.2.2.2.2.2.2.2.2.2.2.2.2.2.2.2.2.2.2.1; have s23 := hX.2.2.2.2.2.2.2.2.2.2.2.2.2.2.2.2.2.2.2.2.2.2.2; go_simp; exact stillUpon_value)
           simp only [Act.put, List.setIfInBounds_toArray, List.set_cons_zero, List.set_cons_succ]))
      refine wpO_eff rfl rfl (fun K hK => ?_)
      simp only [List.getElem_toArray, List.getElem_cons_succ, List.getElem_cons_zero]
      go_simp
      have HOF := of_any wc.drew m nt ni nf nta nm ng ne nel nd nc At Ai Af Ata Am Ag Ae Ael Ad Ac ct ci cf cta cm cg ce cel cd cc (HM.out.fr FWC.out.drew) et ei ef eta_ em eg ee eel ed HF.out.lt (Nat.le_succ_of_le HF.out.li) HF.out.lf HF.out.lta HF.out.lm HF.out.lg HF.out.le HF.out.lel HF.out.ld
      rw [HB.out, HV.out] at HOF
      refine HOF.mono ?_
      clear HOF
      rintro e w3 ⟨p, gx, gs, bi, bd, nI, nD, ST, v0, v1, v2, v3, v4, v5, rfl, hb, hs, f3⟩
      have F3 := hid ((Fr.refl No wc).drew.trans f3 (fun _ _ h => h))
      have HPs := hid (SpP.mk hb hs)
      clear hb hs f3
      refine hK _ _ (fun _ => HXN.out _ F3.out) ?_
      clear hK K
      repeat (first
        | (refine wpO_skip rfl rfl ?_; simp only [List.getElem_toArray, List.getElem_cons_succ, List.getElem_cons_zero, Act.put, List.setIfInBounds_toArray, List.set_cons_zero, List.set_cons_succ])
        | (refine wpO_call rfl rfl ?_; simp only [List.getElem_toArray, List.getElem_cons_succ, List.getElem_cons_zero]; apply Exists.intro; refine ⟨fun X hX => ?_, ?_⟩
           · (have s0 := hX.1; have s1 := hX.2.1; have s2 := hX.2.2.1; have s3 := hX.2.2.2.1; have s4 := hX.2.2.2.2.1; have s5 := hX.2.2.2.2.2.1; have s6 := hX.2.2.2.2.2.2.1; have s7 := hX.2.2.2.2.2.2.2.1; have s8 := hX.2.2.2.2.2.2.2.2.1; have s9 := hX.2.2.2.2.2.2.2.2.2.1; have s10 := hX.2.2.2.2.2.2.2.2.2.2.1; have s11 := hX.2.2.2.2.2.2.2.2.2.2.2.1; have s12 := hX.2.2.2.2.2.2.2.2.2.2.2.2.1; have s13 := hX.2.2.2.2.2.2.2.2.2.2.2.2.2.1; have s14 := hX.2.2.2.2.2.2.2.2.2.2.2.2.2.2.1; have s15 := hX.2.2.2.2.2.2.2.2.2.2.2.2.2.2.2.1; have s16 := hX.2.2.2.2.2.2.2.2.2.2.2.2.2.2.2.2.1; have s17 := hX.2.2.2.2.2.2.2.2.2.2.2.2.2.2.2.2.2.1; have s18 := hX.2.2.2.2.2.2.2.2.2.2.2.2.2.2.2.2.2.2.1; have s19 := hX.2.2.2.2.2.2.2.2.2.2.2.2.2.2.2.2.2.2.2.1; have s20 := hX.2.2.2.2.2.2.2.2.2.2.2.2.2.2.2.2.2.2.2.2.1; have s21 := hX.2.2.2.2.2.2.2.2.2.2.2.2.2.2.2.2.2.2.2.2.2.1; have s22 := hX.2.2.2.2.2.2.2.2.2.2.2.2.2.2.2.2.2.2.2.2.2.2.1; have s23 := hX.2.2.2.2.2.2.2.2.2.2.2.2.2.2.2.2.2.2.2.2.2.2.2; go_simp; exact stillUpon_value)
           simp only [Act.put, List.setIfInBounds_toArray, List.set_cons_zero, List.set_cons_succ]))
      refine wpO_eff rfl rfl (fun K hK => ?_)
      simp only [List.getElem_toArray, List.getElem_cons_succ, List.getElem_cons_zero]
      go_simp
      have HM2 : Hid (MdIn w3 (mdAdd m x) At AN Af Ata Am Ag Ae Ael) := by
        have a := HM.out.fr (FWC.out.trans F3.out (fun _ _ h => h))
        have hk := (KN.out.fr F3.out (fun _ hk => ⟨hk, fun x => x⟩)).more (fun _ hk => Nat.lt_of_lt_of_le hk F3.out.size)
        exact ⟨a.types, hk, a.funcs, a.tables, a.mems, a.globals, a.exports, a.elems, a.lt, by show (m.imports ++ [x]).length ≤ 101; have := HL.out; have := ei.out; simp; omega, a.lf, a.lta, a.lm, a.lg, a.le, a.lel, a.lit, a.lp, a.lgi, a.lii⟩
      have ei2 : Hid ((mdAdd m x).imports.length = ni + 1) := by show (m.imports ++ [x]).length = ni + 1; rw [List.length_append, ei.out]; rfl
      have HOF := of_any w3 (mdAdd m x) nt (ni + 1) nf nta nm ng ne nel nd nc At AN Af Ata Am Ag Ae Ael Ad Ac ct cN cf cta cm cg ce cel cd cc HM2 et ei2 ef eta_ em eg ee eel ed HF.out.lt (Nat.succ_le_succ HF.out.li) HF.out.lf HF.out.lta HF.out.lm HF.out.lg HF.out.le HF.out.lel HF.out.ld
      rw [show (mdAdd m x).hasStart = bst from HB.out, show (mdAdd m x).start = vst from HV.out] at HOF
      refine HOF.mono ?_
      clear HOF HM2
      rintro e w4 ⟨p', gx', gs', bi', bd', nI', nD', ST', v0', v1', v2', v3', v4', v5', rfl, hb, hs, f4⟩
      have F4 := hid (F3.out.trans f4 (fun _ _ h => h))
      have HPt := hid (SpP.mk hb hs)
      have HPs := hid (HPs.out.frNo f4)
      have FW4 := hid (FWC.out.trans F4.out (fun _ _ h => h))
      clear hb hs f4
      refine hK _ _ (fun _ => HXN.out _ F4.out) ?_
      clear hK K
      repeat (first
        | (refine wpO_skip rfl rfl ?_; simp only [List.getElem_toArray, List.getElem_cons_succ, List.getElem_cons_zero, Act.put, List.setIfInBounds_toArray, List.set_cons_zero, List.set_cons_succ])
        | (refine wpO_call rfl rfl ?_; simp only [List.getElem_toArray, List.getElem_cons_succ, List.getElem_cons_zero]; apply Exists.intro; refine ⟨fun X hX => ?_, ?_⟩
           · (have s0 := hX.1; have s1 := hX.2.1; have s2 := hX.2.2.1; have s3 := hX.2.2.2.1; have s4 := hX.2.2.2.2.1; have s5 := hX.2.2.2.2.2.1; have s6 := hX.2.2.2.2.2.2.1; have s7 := hX.2.2.2.2.2.2.2.1; have s8 := hX.2.2.2.2.2.2.2.2.1; have s9 := hX.2.2.2.2.2.2.2.2.2.1; have s10 := hX.2.2.2.2.2.2.2.2.2.2.1; have s11 := hX.2.2.2.2.2.2.2.2.2.2.2.1; have s12 := hX.2.2.2.2.2.2.2.2.2.2.2.2.1; have s13 := hX.2.2.2.2.2.2.2.2.2.2.2.2.2.1; have s14 := hX.2.2.2.2.2.2.2.2.2.2.2.2.2.2.1; have s15 := hX.2.2.2.2.2.2.2.2.2.2.2.2.2.2.2.1; have s16 := hX.2.2.2.2.2.2.2.2.2.2.2.2.2.2.2.2.1; have s17 := hX.2.2.2.2.2.2.2.2.2.2.2.2.2.2.2.2.2.1; have s18 := hX.2.2.2.2.2.2.2.2.2.2.2.2.2.2.2.2.2.2.1; have s19 := hX.2.2.2.2.2.2.2.2.2.2.2.2.2.2.2.2.2.2.2.1; have s20 := hX.2.2.2.2.2.2.2.2.2.2.2.2.2.2.2.2.2.2.2.2.1; have s21 := hX.2.2.2.2.2.2.2.2.2.2.2.2.2.2.2.2.2.2.2.2.2.1; have s22 := hX.2.2.2.2.2.2.2.2.2.2.2.2.2.2.2.2.2.2.2.2.2.2.1; have s23 := hX.2.2.2.2.2.2.2.2.2.2.2.2.2.2.2.2.2.2.2.2.2.2.2; go_simp; exact stillUpon_value)
           simp only [Act.put, List.setIfInBounds_toArray, List.set_cons_zero, List.set_cons_succ]))
      refine wpO_nil ?_
      have HXK : Hid (∀ X, Fr No w4 X → X.cell? ⟨w.heap.size + 1, 2, none⟩ = some (.int .i64 x.kind)) := fun X f => (HXJ.out X (F4.out.trans f (fun _ _ h => h))).2.2.1
      clear HXN HXJ
      have LP := hid HM.out.lp
      have l1 : m.types.length ≤ 100 := by have := et.out; have := HF.out.lt; omega
      have l2 : m.imports.length ≤ 100 := by have := ei.out; have := HF.out.li; omega
      have l3 : m.funcs.length ≤ 100 := by have := ef.out; have := HF.out.lf; omega
      have l4 : m.globals.length ≤ 100 := by have := eg.out; have := HF.out.lg; omega
      have l5 : m.tables.length ≤ 50 := by have := eta_.out; have := HF.out.lta; omega
      have l6 : m.mems.length ≤ 50 := by have := em.out; have := HF.out.lm; omega
      have tf := first_func m x i l2 l3
      have tg := first_glob m x i l2 l4
      have ta := first_all m x
      have tt := first_types m x
      have k0 := impN_le m.imports 0
      have k1 := impN_le m.imports 1
      have k2 := impN_le m.imports 2
      have k3 := impN_le m.imports 3
      have j0 := impN_le (mdAdd m x).imports 0
      have j1 := impN_le (mdAdd m x).imports 1
      have j2 := impN_le (mdAdd m x).imports 2
      have j3 := impN_le (mdAdd m x).imports 3
      have j4 : (mdAdd m x).imports.length = m.imports.length + 1 := by show (m.imports ++ [x]).length = _; simp
      have z1 : (SpV.of m).funcs.length ≤ 300 ∧ (SpV.of m).tables.length ≤ 300 ∧ (SpV.of m).mems.length ≤ 300 ∧ (SpV.of m).globals.length ≤ 300 := by
        obtain ⟨_, f2, f3, f4, f5, _⟩ := of_fields m
        rw [f2, f3, f4, f5, numLen, numLen, numLen, numLen, List.length_map, List.length_map]; omega
      have z2 : (SpV.of (mdAdd m x)).funcs.length ≤ 300 ∧ (SpV.of (mdAdd m x)).tables.length ≤ 300 ∧ (SpV.of (mdAdd m x)).mems.length ≤ 300 ∧ (SpV.of (mdAdd m x)).globals.length ≤ 300 := by
        obtain ⟨_, f2, f3, f4, f5, _⟩ := of_fields (mdAdd m x)
        rw [f2, f3, f4, f5, numLen, numLen, numLen, numLen, List.length_map, List.length_map, show (mdAdd m x).funcs = m.funcs from rfl, show (mdAdd m x).tables = m.tables from rfl, show (mdAdd m x).mems = m.mems from rfl, show (mdAdd m x).globals = m.globals from rfl]; omega
      have lt1 : (SpV.of m).types.length ≤ 1000000 := by rw [(of_fields m).1]; omega
      have hlp1 : ∀ f ∈ (SpV.of m).types, f.params.length * 8 ≤ 140737488351232 ∧ f.results.length * 8 ≤ 140737488351232 := by rw [(of_fields m).1]; exact LP.out
      have cSF := fun X (f : Fr No w4 X) => mFunc_any _ X p gx gs bi bd ST nI nD v0 v1 v2 v3 v4 v5 (SpV.of m) i lt1 (by omega) hlp1 (HPs.out.frNo f)
      have cTF := fun (j : Int) X (f : Fr No w4 X) => mFunc_any _ X p' gx' gs' bi' bd' ST' nI' nD' v0' v1' v2' v3' v4' v5' (SpV.of (mdAdd m x)) j (by rw [tt]; exact lt1) (by omega) (by rw [tt]; exact hlp1) (HPt.out.frNo f)
      have cSG := fun X (f : Fr No w4 X) => mGlobal_any _ X p gx gs bi bd ST nI nD v0 v1 v2 v3 v4 v5 (SpV.of m) i (by omega) (HPs.out.frNo f)
      have cTG := fun (j : Int) X (f : Fr No w4 X) => mGlobal_any _ X p' gx' gs' bi' bd' ST' nI' nD' v0' v1' v2' v3' v4' v5' (SpV.of (mdAdd m x)) j (by omega) (HPt.out.frNo f)
      have cI0 := fun X (f : Fr No w4 X) => imported_any _ X p gx gs bi bd ST nI nD v0 v1 v2 v3 v4 v5 (SpV.of m) 0 (by decide) (HPs.out.frNo f)
      have cI3 := fun X (f : Fr No w4 X) => imported_any _ X p gx gs bi bd ST nI nD v0 v1 v2 v3 v4 v5 (SpV.of m) 3 (by decide) (HPs.out.frNo f)
      simp only [(of_fields m).2.2.2.2.2.2.1] at cI0 cI3
      have hlen : (funcD (SpV.of m) i).1.params.length ≤ 140737488355328 ∧ (funcD (SpV.of m) i).1.results.length ≤ 140737488355328 := by
        rw [funcD, (of_fields m).1]
        split
        · rcases at_cases m.types (atD 0 (SpV.of m).funcs i).1 with ⟨k, hk, hi⟩ | hi | ⟨hi0, hi⟩
          · rw [hi, atD_yes hk]
            have := LP.out _ (List.getElem_mem hk)
            show m.types[k].params.length ≤ _ ∧ m.types[k].results.length ≤ _
            exact ⟨by omega, by omega⟩
          · rw [atD_no (.inl hi)]; exact ⟨by simp [zFn], by simp [zFn]⟩
          · rw [atD_no (.inr hi)]; exact ⟨by simp [zFn], by simp [zFn]⟩
        · exact ⟨by simp [zFn], by simp [zFn]⟩
      have SN := hid (fun X (f : Fr No w4 X) => nFuncs_any _ X p gx gs bi bd ST nI nD v0 v1 v2 v3 v4 v5 (SpV.of m) (HPs.out.frNo f))
      have ST1 := hid (fun X (f : Fr No w4 X) => nTables_any _ X p gx gs bi bd ST nI nD v0 v1 v2 v3 v4 v5 (SpV.of m) (HPs.out.frNo f))
      have SM := hid (fun X (f : Fr No w4 X) => nMems_any _ X p gx gs bi bd ST nI nD v0 v1 v2 v3 v4 v5 (SpV.of m) (HPs.out.frNo f))
      have SGl := hid (fun X (f : Fr No w4 X) => nGlobals_any _ X p gx gs bi bd ST nI nD v0 v1 v2 v3 v4 v5 (SpV.of m) (HPs.out.frNo f))
      have STy := hid (fun X (f : Fr No w4 X) => nTypes_any _ X p gx gs bi bd ST nI nD v0 v1 v2 v3 v4 v5 (SpV.of m) (HPs.out.frNo f))
      have TN := hid (fun X (f : Fr No w4 X) => nFuncs_any _ X p' gx' gs' bi' bd' ST' nI' nD' v0' v1' v2' v3' v4' v5' (SpV.of (mdAdd m x)) (HPt.out.frNo f))
      have TT := hid (fun X (f : Fr No w4 X) => nTables_any _ X p' gx' gs' bi' bd' ST' nI' nD' v0' v1' v2' v3' v4' v5' (SpV.of (mdAdd m x)) (HPt.out.frNo f))
      have TM := hid (fun X (f : Fr No w4 X) => nMems_any _ X p' gx' gs' bi' bd' ST' nI' nD' v0' v1' v2' v3' v4' v5' (SpV.of (mdAdd m x)) (HPt.out.frNo f))
      have TGl := hid (fun X (f : Fr No w4 X) => nGlobals_any _ X p' gx' gs' bi' bd' ST' nI' nD' v0' v1' v2' v3' v4' v5' (SpV.of (mdAdd m x)) (HPt.out.frNo f))
      have TTy := hid (fun X (f : Fr No w4 X) => nTypes_any _ X p' gx' gs' bi' bd' ST' nI' nD' v0' v1' v2' v3' v4' v5' (SpV.of (mdAdd m x)) (HPt.out.frNo f))
      rw [tt] at TTy
      rw [allN, allN] at ta
      generalize (SpV.of m).funcs.length = a0 at *
      generalize (SpV.of m).tables.length = a1 at *
      generalize (SpV.of m).mems.length = a2 at *
      generalize (SpV.of m).globals.length = a3 at *
      generalize (SpV.of (mdAdd m x)).funcs.length = b0 at *
      generalize (SpV.of (mdAdd m x)).tables.length = b1 at *
      generalize (SpV.of (mdAdd m x)).mems.length = b2 at *
      generalize (SpV.of (mdAdd m x)).globals.length = b3 at *
      generalize (SpV.of m).types.length = nty at *
      have cTF0 := cTF i
      have cTF1 := cTF (i + 1)
      have cTG0 := cTG i
      have cTG1 := cTG (i + 1)
      have tf0 : shK m x 0 i = false → funcD (SpV.of (mdAdd m x)) i = funcD (SpV.of m) i := fun h => by rw [← tf, h]; rfl
      have tf1 : shK m x 0 i = true → funcD (SpV.of (mdAdd m x)) (i + 1) = funcD (SpV.of m) i := fun h => by rw [← tf, h]; rfl
      have tg0 : shK m x 3 i = false → atD zGl (SpV.of (mdAdd m x)).globals i = atD zGl (SpV.of m).globals i := fun h => by rw [← tg, h]; rfl
      have tg1 : shK m x 3 i = true → atD zGl (SpV.of (mdAdd m x)).globals (i + 1) = atD zGl (SpV.of m).globals i := fun h => by rw [← tg, h]; rfl
      clear tf tg tt cTF cTG HPs HPt j0 j1 j2 j3 j4 l1 l2 l3 l4 l5 l6 k1 k2 lt1 hlp1 LP
      generalize funcD (SpV.of (mdAdd m x)) i = Q0 at *
      generalize funcD (SpV.of (mdAdd m x)) (i + 1) = Q1 at *
      generalize funcD (SpV.of m) i = Q at *
      generalize atD zGl (SpV.of (mdAdd m x)).globals i = U0 at *
      generalize atD zGl (SpV.of (mdAdd m x)).globals (i + 1) = U1 at *
      generalize atD zGl (SpV.of m).globals i = U at *
      obtain ⟨fq, okf⟩ := Q
      obtain ⟨fq0, okf0⟩ := Q0
      obtain ⟨fq1, okf1⟩ := Q1
      obtain ⟨zg, okg⟩ := U
      obtain ⟨zg0, okg0⟩ := U0
      obtain ⟨zg1, okg1⟩ := U1
      simp only [cGl] at cSG cTG0 cTG1
      have HSH0 : shK m x 0 i = decide (x.kind = 0 ∧ ((impN m.imports 0 : Nat) : Int) ≤ i ∧ i < 1099511627776) := rfl
      have HSH3 : shK m x 3 i = decide (x.kind = 3 ∧ ((impN m.imports 3 : Nat) : Int) ≤ i ∧ i < 1099511627776) := rfl
      generalize shK m x 0 i = sh0 at *
      generalize shK m x 3 i = sh3 at *
      generalize impN m.imports 0 = N0 at *
      generalize impN m.imports 3 = N3 at *
      have SF := hid cSF
      have TF0 := hid cTF0
      have TF1 := hid cTF1
      have SG := hid cSG
      have TG0 := hid cTG0
      have TG1 := hid cTG1
      have I0 := hid cI0
      have I3 := hid cI3
      have TA := hid ta
      have Z1 := hid z1
      have Z2 := hid z2
      have LEN := hid hlen
      replace tf0 := hid tf0
      replace tf1 := hid tf1
      replace tg0 := hid tg0
      replace tg1 := hid tg1
      replace HSH0 := hid HSH0
      replace HSH3 := hid HSH3
      clear cSF cTF0 cTF1 cSG cTG0 cTG1 cI0 cI3 ta z1 z2 hlen HM HL et ei ef eta_ em eg ee eel ed HB HV HF hxrd GN2 KN k0 k3 F1 FC FWC F3
      have F := hid (Fr.refl No w4)
      go_wp2_with fail
      refine (SF.out _ F.out).mono ?_
      rintro e w5 ⟨A1, c1, A2, c2, rfl, hn, f⟩
      replace F := hid ((F.out.trans f (fun _ _ h => h)).alloc (.cells #[.slice A1 fq.params.length c1, .slice A2 fq.results.length c2] 38))
      have V1 := hid (fnV_new hn)
      have h45 := f.size
      clear hn f SF
      go_wp2_with fail
      refine (TF0.out _ F.out).mono ?_
      rintro e w6 ⟨D1, d1, D2, d2, rfl, hn, f⟩
      replace V1 := hid ((V1.out.fr f (fun _ _ h => h)).fr ((Fr.refl No w6).alloc (.cells #[.slice D1 fq0.params.length d1, .slice D2 fq0.results.length d2] 38)) (fun _ _ h => h))
      have V2 := hid (fnV_new hn)
      have h45 : Hid (w4.heap.size ≤ w5.heap.size) := h45
      have h56 : Hid (w5.heap.size + 1 ≤ w6.heap.size) := by have := f.size; rw [Hid]; simpa using this
      replace F := hid ((F.out.trans f (fun _ _ h => h)).alloc (.cells #[.slice D1 fq0.params.length d1, .slice D2 fq0.results.length d2] 38))
      clear hn f TF0
      go_wp2_with fail
      refine (SG.out _ F.out).mono ?_
      rintro e w7 ⟨rfl, f⟩
      replace V1 := hid ((V1.out.fr f (fun _ _ h => h)).fr ((Fr.refl No w7).alloc (.cells #[.int .i64 zg.val, .bool zg.mut_] 62)) (fun _ _ h => h))
      replace V2 := hid ((V2.out.fr f (fun _ _ h => h)).fr ((Fr.refl No w7).alloc (.cells #[.int .i64 zg.val, .bool zg.mut_] 62)) (fun _ _ h => h))
      have GU := hid (Blk.new w7 62 #[.int .i64 zg.val, .bool zg.mut_])
      have h67 : Hid (w6.heap.size + 1 ≤ w7.heap.size) := by have := f.size; rw [Hid]; simpa using this
      replace F := hid ((F.out.trans f (fun _ _ h => h)).alloc (.cells #[.int .i64 zg.val, .bool zg.mut_] 62))
      clear f SG
      go_wp2_with fail
      refine (TG0.out _ F.out).mono ?_
      rintro e w8 ⟨rfl, f⟩
      replace V1 := hid ((V1.out.fr f (fun _ _ h => h)).fr ((Fr.refl No w8).alloc (.cells #[.int .i64 zg0.val, .bool zg0.mut_] 62)) (fun _ _ h => h))
      replace V2 := hid ((V2.out.fr f (fun _ _ h => h)).fr ((Fr.refl No w8).alloc (.cells #[.int .i64 zg0.val, .bool zg0.mut_] 62)) (fun _ _ h => h))
      replace GU := hid ((GU.out.fr f (fun x => x)).alloc (.cells #[.int .i64 zg0.val, .bool zg0.mut_] 62))
      have GV := hid (Blk.new w8 62 #[.int .i64 zg0.val, .bool zg0.mut_])
      have h78 : Hid (w7.heap.size + 1 ≤ w8.heap.size) := by have := f.size; rw [Hid]; simpa using this
      replace F := hid ((F.out.trans f (fun _ _ h => h)).alloc (.cells #[.int .i64 zg0.val, .bool zg0.mut_] 62))
      clear f TG0
      have yk := HXK.out _ F.out
      go_upto_region 10 with fail
      generalize w8.alloc (.cells #[.int .i64 zg0.val, .bool zg0.mut_] 62) = wk at *
      generalize w8.heap.size = qv at *
      generalize w7.heap.size = qu at *
      generalize w6.heap.size = qg at *
      generalize w5.heap.size = qf at *
      go_cut [74] (fun c wx => c = .bool sh0 ∧ wx = wk)
      case first => as_aux_lemma =>
        by_cases k0 : x.kind = 0
        · have kb : (x.kind == 0) = true := by simpa using k0
          by_cases h1 : (N0 : Int) ≤ i
          · by_cases h2 : i < 1099511627776
            · have hs : sh0 = true := by rw [HSH0.out]; exact decide_eq_true ⟨k0, h1, h2⟩
              have hsH := hid hs
              clear hs k0
              go_wp2_with fail
              refine (I0.out _ F.out).mono ?_
              rintro e w' ⟨rfl, rfl⟩
              go_wp2_with fail
              go_meet
              case rel => exact ⟨by rw [hsH.out] <;> first | rfl | (rw [decide_eq_true (by omega)]) | (rw [decide_eq_false (by omega)]), rfl⟩
            · have hs : sh0 = false := by rw [HSH0.out]; exact decide_eq_false (fun h => h2 h.2.2)
              have hsH := hid hs
              clear hs k0
              go_wp2_with fail
              refine (I0.out _ F.out).mono ?_
              rintro e w' ⟨rfl, rfl⟩
              go_wp2_with fail
              go_meet
              case rel => exact ⟨by rw [hsH.out] <;> first | rfl | (rw [decide_eq_true (by omega)]) | (rw [decide_eq_false (by omega)]), rfl⟩
          · have hs : sh0 = false := by rw [HSH0.out]; exact decide_eq_false (fun h => h1 h.2.1)
            have hsH := hid hs
            clear hs k0
            go_wp2_with fail
            refine (I0.out _ F.out).mono ?_
            rintro e w' ⟨rfl, rfl⟩
            go_wp2_with fail
            go_meet
            case rel => exact ⟨by rw [hsH.out] <;> first | rfl | (rw [decide_eq_true (by omega)]) | (rw [decide_eq_false (by omega)]), rfl⟩
        · have kb : (x.kind == 0) = false := by simpa using k0
          have hs : sh0 = false := by rw [HSH0.out]; exact decide_eq_false (fun h => k0 h.1)
          have hsH := hid hs
          clear hs k0
          go_wp2_with fail
          go_meet
          case rel => exact ⟨by rw [hsH.out] <;> first | rfl | (rw [decide_eq_true (by omega)]) | (rw [decide_eq_false (by omega)]), rfl⟩
      case rest =>
        obtain ⟨rfl, rfl⟩ := hcut
        clear I0 yk
        go_upto_if 74 with fail
        go_cut [13] (fun b wx => ∃ (E1 : Option Addr) (e1 : Nat) (E2 : Option Addr) (e2 : Nat) (S : Nat → Prop), b = .bool okf ∧ FnW fq qg E1 e1 E2 e2 S wx ∧ (∀ k, S k → k ≠ qv) ∧ Fr (One qg) wc wx)
        case first => as_aux_lemma =>
          cases sh0 with
          | false =>
            have ht := tf0.out rfl
            clear HSH0 tf0 tf1 TF1
            injection ht with ht1 ht2
            subst ht1 ht2
            go_wp2_with fail
            go_meet
            case rel => exact ⟨_, _, _, _, _, rfl, V2.out.toW, fun k hk => by have := h67.out; have := h78.out; omega, Fr.refl _ _⟩
          | true =>
            have ht := tf1.out rfl
            injection ht with ht1 ht2
            subst ht1 ht2
            have hb := of_decide_eq_true HSH0.out.symm
            have hwr : wrap64 (i + 1) = i + 1 := by simp only [wrap64]; omega
            clear hb HSH0 tf0 tf1
            go_wp2_with fail
            refine (TF1.out _ F.out).mono ?_
            rintro e w9 ⟨E1, e1, E2, e2, rfl, hn, f⟩
            have HN := hid hn
            have FF := hid f
            have V2n := hid (V2.out.fr f (fun _ _ h => h))
            clear hn f
            have z0 := V2n.out.1.cell 0
            have z1 := V2n.out.1.cell 1
            have q0 := V2n.out.1.frozen 0
            have q1 := V2n.out.1.frozen 1
            go_wp2_with fail
            go_meet
            case rel => exact ⟨E1, e1, E2, e2, _, rfl, fnW_set HN.out V2n.out.1 (Nat.lt_of_lt_of_le V2.out.2.2.2.2 V2.out.2.2.2.1), fun k hk => by have := GV.out.lt; have := hk.1; omega, (((FF.out.mono (M := One qg) (fun _ _ h => h.elim)).setCell ⟨qg, 0, none⟩ _ (fun _ => rfl)).setCell ⟨qg, 1, none⟩ _ (fun _ => rfl))⟩
        case rest =>
          obtain ⟨E1, e1, E2, e2, S2, rfl, hv2, hs2, fx⟩ := hcut
          have HS2 := hid hs2
          replace V2 := hid hv2
          replace V1 := hid (V1.out.fr fx (fun k hk h => by have := h56.out; simp only [One] at h; omega))
          replace GU := hid (GU.out.fr fx (fun h => by have := h67.out; simp only [One] at h; omega))
          replace GV := hid (GV.out.fr fx (fun h => by have := h67.out; have := h78.out; simp only [One] at h; omega))
          replace F := hid (F.out.trans fx (fun k hk h => by have := h45.out; have := h56.out; simp only [One] at h; omega))
          clear hv2 hs2 fx TF1 tf0 tf1 HSH0
          have yk := HXK.out _ F.out
          go_upto_region 12 with fail
          obtain ⟨wk2, hwk⟩ : ∃ z, z = wc := ⟨_, rfl⟩
          subst hwk
          go_cut [94] (fun c wx => c = .bool sh3 ∧ wx = wk2)
          case first => as_aux_lemma =>
            by_cases k0 : x.kind = 3
            · have kb : (x.kind == 3) = true := by simpa using k0
              by_cases h1 : (N3 : Int) ≤ i
              · by_cases h2 : i < 1099511627776
                · have hs : sh3 = true := by rw [HSH3.out]; exact decide_eq_true ⟨k0, h1, h2⟩
                  have hsH := hid hs
                  clear hs k0
                  go_wp2_with fail
                  refine (I3.out _ F.out).mono ?_
                  rintro e w' ⟨rfl, rfl⟩
                  go_wp2_with fail
                  go_meet
                  case rel => exact ⟨by rw [hsH.out] <;> first | rfl | (rw [decide_eq_true (by omega)]) | (rw [decide_eq_false (by omega)]), rfl⟩
                · have hs : sh3 = false := by rw [HSH3.out]; exact decide_eq_false (fun h => h2 h.2.2)
                  have hsH := hid hs
                  clear hs k0
                  go_wp2_with fail
                  refine (I3.out _ F.out).mono ?_
                  rintro e w' ⟨rfl, rfl⟩
                  go_wp2_with fail
                  go_meet
                  case rel => exact ⟨by rw [hsH.out] <;> first | rfl | (rw [decide_eq_true (by omega)]) | (rw [decide_eq_false (by omega)]), rfl⟩
              · have hs : sh3 = false := by rw [HSH3.out]; exact decide_eq_false (fun h => h1 h.2.1)
                have hsH := hid hs
                clear hs k0
                go_wp2_with fail
                refine (I3.out _ F.out).mono ?_
                rintro e w' ⟨rfl, rfl⟩
                go_wp2_with fail
                go_meet
                case rel => exact ⟨by rw [hsH.out] <;> first | rfl | (rw [decide_eq_true (by omega)]) | (rw [decide_eq_false (by omega)]), rfl⟩
            · have kb : (x.kind == 3) = false := by simpa using k0
              have hs : sh3 = false := by rw [HSH3.out]; exact decide_eq_false (fun h => k0 h.1)
              have hsH := hid hs
              clear hs k0
              go_wp2_with fail
              go_meet
              case rel => exact ⟨by rw [hsH.out], rfl⟩
          case rest =>
            obtain ⟨rfl, hwc⟩ := hcut
            subst hwc
            clear I3 yk
            go_upto_if 94 with fail
            obtain ⟨wk3, hwk⟩ : ∃ z, z = wc := ⟨_, rfl⟩
            subst hwk
            go_cut [17] (fun b wx => b = .bool okg ∧ Blk wx qv 62 #[.int .i64 zg.val, .bool zg.mut_] ∧ Fr (One qv) wk3 wx)
            case first => as_aux_lemma =>
              cases sh3 with
              | false =>
                have ht := tg0.out rfl
                clear HSH3 tg0 tg1 TG1
                injection ht with ht1 ht2
                subst ht1 ht2
                go_wp2_with fail
                go_meet
                case rel => exact ⟨rfl, GV.out, Fr.refl _ _⟩
              | true =>
                have ht := tg1.out rfl
                injection ht with ht1 ht2
                subst ht1 ht2
                have hb := of_decide_eq_true HSH3.out.symm
                have hwr : wrap64 (i + 1) = i + 1 := by simp only [wrap64]; omega
                clear hb HSH3 tg0 tg1
                go_wp2_with fail
                refine (TG1.out _ F.out).mono ?_
                rintro e w9 ⟨rfl, f⟩
                have FF := hid f
                have GVn := hid (GV.out.fr f (fun x => x))
                clear f
                have z0 := GVn.out.cell 0
                have z1 := GVn.out.cell 1
                have q0 := GVn.out.frozen 0
                have q1 := GVn.out.frozen 1
                go_wp2_with fail
                go_meet
                case rel => exact ⟨rfl, by simpa using (GVn.out.set_ 0 _).set_ 1 _, (((FF.out.mono (M := One qv) (fun _ _ h => h.elim)).setCell ⟨qv, 0, none⟩ _ (fun _ => rfl)).setCell ⟨qv, 1, none⟩ _ (fun _ => rfl))⟩
            case rest =>
              obtain ⟨rfl, hgv, fx⟩ := hcut
              replace GV := hid hgv
              replace V1 := hid (V1.out.fr fx (fun k hk h => by have := h56.out; have := h67.out; have := h78.out; simp only [One] at h; omega))
              replace V2 := hid (V2.out.fr fx (fun h => by have := h67.out; have := h78.out; simp only [One] at h; omega) (fun k hk h => HS2.out k hk h))
              replace GU := hid (GU.out.fr fx (fun h => by have := h78.out; simp only [One] at h; omega))
              replace F := hid (F.out.trans fx (fun k hk h => by have := h45.out; have := h56.out; have := h67.out; have := h78.out; simp only [One] at h; omega))
              clear hgv fx TG1 tg0 tg1 HSH3
              have HSM := hid (rSame_any A1 A2 E1 E2 fq fq c1 c2 e1 e2 (· < qf + 1) S2 wc (fun k hk => Nat.lt_of_lt_of_le hk V1.out.2.2.2.1) V2.out.2.2.2 V1.out.2.1 V1.out.2.2.1 V2.out.2.1 V2.out.2.2.1 LEN.out.1 LEN.out.2 LEN.out.1 LEN.out.2)
              have e0 : sameB fq fq = true := by simp [sameB]
              rw [e0] at HSM
              have y1 := V1.out.1.cell 0
              have y2 := V1.out.1.cell 1
              have y3 := V2.out.1.cell 0
              have y4 := V2.out.1.cell 1
              clear e0
              go_upto_region 14 with fail
              go_wp2_with fail
              refine HSM.out.mono ?_
              rintro e w10 ⟨rfl, f⟩
              replace GU := hid (GU.out.fr f (fun x => x))
              replace GV := hid (GV.out.fr f (fun x => x))
              replace F := hid (F.out.trans f (fun _ _ h => h))
              have z1 := GU.out.cell 0
              have z2 := GU.out.cell 1
              have z3 := GV.out.cell 0
              have z4 := GV.out.cell 1
              have hqG := fun W => neq_Gl zg W
              have b1 := Z1.out
              have b2 := Z2.out
              clear f HSM y1 y2 y3 y4 V1 V2 GU GV
              go_wp2_with fail
              clear z1 z2 z3 z4 hqG
              refine (SN.out _ F.out).mono ?_
              rintro e w' ⟨rfl, rfl⟩
              go_wp2_with fail
              refine (ST1.out _ F.out).mono ?_
              rintro e w' ⟨rfl, rfl⟩
              go_wp2_with fail
              refine (SM.out _ F.out).mono ?_
              rintro e w' ⟨rfl, rfl⟩
              go_wp2_with fail
              refine (SGl.out _ F.out).mono ?_
              rintro e w' ⟨rfl, rfl⟩
              go_wp2_with fail
              refine (TN.out _ F.out).mono ?_
              rintro e w' ⟨rfl, rfl⟩
              go_wp2_with fail
              refine (TT.out _ F.out).mono ?_
              rintro e w' ⟨rfl, rfl⟩
              go_wp2_with fail
              refine (TM.out _ F.out).mono ?_
              rintro e w' ⟨rfl, rfl⟩
              go_wp2_with fail
              refine (TGl.out _ F.out).mono ?_
              rintro e w' ⟨rfl, rfl⟩
              go_upto_region 18 with fail
              have yk := HXK.out _ F.out
              go_cut [18, 19, 20] (fun s18 s19 k wx => ∃ al mo : Int, s18 = .int .i64 al ∧ s19 = .int .i64 mo ∧ 0 ≤ al ∧ al ≤ 2000 ∧ mo = al + (if decide (0 ≤ x.kind ∧ x.kind ≤ 3) then 1 else 0) ∧ k = .bool (decide (0 ≤ x.kind ∧ x.kind ≤ 3)) ∧ wx = w10)
              case first => as_aux_lemma =>
                have ta := TA.out
                by_cases k0 : 0 ≤ x.kind
                · by_cases k1 : x.kind ≤ 3
                  · rw [if_pos ⟨k0, k1⟩] at ta
                    have TA2 := hid ta
                    clear ta TA
                    go_wp2_with fail
                    go_meet
                    case rel =>
                      have ta := TA2.out
                      refine ⟨_, _, rfl, rfl, ?_, ?_, ?_, ?_, rfl⟩
                      · first | omega | (simp only [wrap64]; omega)
                      · first | omega | (simp only [wrap64]; omega)
                      · rw [decide_eq_true (⟨k0, k1⟩ : 0 ≤ x.kind ∧ x.kind ≤ 3)]; simp only [if_true]; first | omega | (simp only [wrap64]; omega)
                      · rw [decide_eq_true (⟨k0, k1⟩ : 0 ≤ x.kind ∧ x.kind ≤ 3)]
                  · rw [if_neg (fun h => k1 h.2)] at ta
                    have TA2 := hid ta
                    clear ta TA
                    go_wp2_with fail
                    go_meet
                    case rel =>
                      have ta := TA2.out
                      have hk : ¬ (0 ≤ x.kind ∧ x.kind ≤ 3) := by omega
                      refine ⟨_, _, rfl, rfl, ?_, ?_, ?_, ?_, rfl⟩
                      · first | omega | (simp only [wrap64]; omega)
                      · first | omega | (simp only [wrap64]; omega)
                      · rw [decide_eq_false hk]; simp only [Bool.false_eq_true, if_false]; first | omega | (simp only [wrap64]; omega)
                      · rw [decide_eq_false hk]
                · rw [if_neg (fun h => k0 h.1)] at ta
                  have TA2 := hid ta
                  clear ta TA
                  go_wp2_with fail
                  go_meet
                  case rel =>
                    have ta := TA2.out
                    have hk : ¬ (0 ≤ x.kind ∧ x.kind ≤ 3) := by omega
                    refine ⟨_, _, rfl, rfl, ?_, ?_, ?_, ?_, rfl⟩
                    · first | omega | (simp only [wrap64]; omega)
                    · first | omega | (simp only [wrap64]; omega)
                    · rw [decide_eq_false hk]; simp only [Bool.false_eq_true, if_false]; first | omega | (simp only [wrap64]; omega)
                    · rw [decide_eq_false hk]
              case rest =>
                obtain ⟨al, mo, rfl, rfl, ha0, ha1, hmo, rfl, rfl⟩ := hcut
                clear yk TA
                generalize decide (0 ≤ x.kind ∧ x.kind ≤ 3) = kn at *
                cases kn with
                | true =>
                  simp only [if_true] at hmo
                  subst hmo
                  go_wp2_with fail
                  refine (TTy.out _ F.out).mono ?_
                  rintro e w' ⟨rfl, rfl⟩
                  go_wp2_with fail
                  refine (STy.out _ F.out).mono ?_
                  rintro e w' ⟨rfl, rfl⟩
                  go_wp2_with fail
                  refine (alive_any _).mono ?_
                  rintro e w11 ⟨rfl, f⟩
                  replace F := hid (F.out.trans f (fun _ _ h => h))
                  clear f
                  go_wp2
                  go_ret
                  exact ⟨rfl, FW4.out.trans F.out (fun _ _ h => h)⟩
                | false =>
                  simp only [Bool.false_eq_true, if_false, Int.add_zero] at hmo
                  subst hmo
                  go_wp2_with fail
                  refine (TTy.out _ F.out).mono ?_
                  rintro e w' ⟨rfl, rfl⟩
                  go_wp2_with fail
                  refine (STy.out _ F.out).mono ?_
                  rintro e w' ⟨rfl, rfl⟩
                  go_wp2_with fail
                  refine (alive_any _).mono ?_
                  rintro e w11 ⟨rfl, f⟩
                  replace F := hid (F.out.trans f (fun _ _ h => h))
                  clear f
                  go_wp2
                  go_ret
                  exact ⟨rfl, FW4.out.trans F.out (fun _ _ h => h)⟩
theorem spaceFirst_walk (w : World) (v0 v1 v2 : Value) (x0 : Md) (x1 : Im) (x2 : Int) (y0 : tMd.rd w (· < w.heap.size) v0.cells.toList x0) (y1 : tIm.rd w (· < w.heap.size) v1.cells.toList x1) (y2 : (Ty.int .i64).rd w (· < w.heap.size) v2.cells.toList x2) (u0 : tMd.lw 140737488351232 x0) (_u1 : tIm.lw 140737488351232 x1) (_u2 : (Ty.int .i64).lw 140737488351232 x2) (hv0 : ∃ cs, v0 = .agg cs) (hv1 : ∃ cs, v1 = .agg cs) (hv2 : ∃ n, v2 = .int .i64 n) :
    Calls Try.prog 6 #[v0, v1, v2] w fun e w' => e = .returned (.bool true) ∧ Below w.heap.size w w' := by
  obtain ⟨cs, rfl⟩ := hv0
  obtain ⟨cs', rfl⟩ := hv1
  obtain ⟨n, rfl⟩ := hv2
  obtain ⟨hy, hw⟩ := y2
  have hn : n = x2 := by have : [Value.int .i64 n] = [Value.int .i64 x2] := hy; simpa using this
  subst hn
  obtain ⟨hxc, hxr⟩ := im_rd y1
  have hcb : cs' = #[.string x1.mod, .string x1.name, .int .i64 x1.kind, .int .i64 x1.func, .int .i64 x1.table.elem, .int .i64 x1.table.lim.min, .int .i64 x1.table.lim.max, .bool x1.table.lim.has, .int .i64 x1.mem.min, .int .i64 x1.mem.max, .bool x1.mem.has, .int .i64 x1.glob.val, .bool x1.glob.mut_] := by
    have : cs'.toList = _ := hxc
    rw [← Array.toArray_toList (xs := cs'), this]
  subst hcb
  obtain ⟨At, ct, Ai, ci, Af, cf, Ata, cta, Am, cm, Ag, cg, Ae, ce, Ael, cel, Ad, cd, Ac, cc, hcs, _, _, h1, _, _, h2, _, _, h3, _, _, h4, _, _, h5, _, _, h6, _, _, h7, _, _, _, h8, _⟩ := Md_cells y0
  have hcs' : cs = #[.slice At x0.types.length ct, .slice Ai x0.imports.length ci, .slice Af x0.funcs.length cf, .slice Ata x0.tables.length cta, .slice Am x0.mems.length cm, .slice Ag x0.globals.length cg, .slice Ae x0.exports.length ce, .bool x0.hasStart, .int .i64 x0.start, .slice Ael x0.elems.length cel, .slice Ad x0.datas cd, .slice Ac x0.customs cc] := by
    have : cs.toList = _ := hcs
    rw [← Array.toArray_toList (xs := cs), this]
  subst hcs'
  exact (sfirst_t _ _ _ _ _ _ _ _ _ _ ct ci cf cta cm cg ce cel cd cc At Ai Af Ata Am Ag Ae Ael Ad Ac _ _ w x0 x1 n (wf_i64 hw) hxr rfl rfl (md_in h1 h2 h3 h4 h5 h6 h7 h8 u0) h8 (md_items u0) h2 rfl rfl rfl rfl rfl rfl rfl rfl rfl).mono fun e w' ⟨a, b⟩ => ⟨a, b.below⟩
end Go.Proofs.Ytfngopoaegofhaa
