/- Part 14 of the proof: lemmas and contracts of functions. No condition. -/
import Derived.Test.YthggdemiddjlgaaGreatS13
import Derived.Test.YthggdemiddjlgaaGreatS6
import Derived.Test.YthggdemiddjlgaaGreatS1
set_option maxRecDepth 100000
set_option maxHeartbeats 12800000
set_option linter.unusedVariables false
set_option linter.unusedSimpArgs false
set_option linter.unusedSectionVars false
namespace Go.Proofs.YthggdemiddjlgaaGreat
open Go.RowKit Go.Proofs.Tryz
theorem kJo {w : World} {m : Md} {At Ai Af Ata Am Ag Ae Ael : OA} (e0 : tFn.els w (· < w.heap.size) At m.types) (e1 : tIm.els w (· < w.heap.size) Ai m.imports) (e2 : tCd.els w (· < w.heap.size) Af m.funcs) (e3 : tTb.els w (· < w.heap.size) Ata m.tables) (e4 : tLim.els w (· < w.heap.size) Am m.mems) (e5 : tGd.els w (· < w.heap.size) Ag m.globals) (e6 : tEx.els w (· < w.heap.size) Ae m.exports) (e7 : tEl.els w (· < w.heap.size) Ael m.elems) (h : LtB m) : MdIn w m At Ai Af Ata Am Ag Ae Ael where
 types := e0
 imports := e1
 funcs := e2
 tables := e3
 mems := e4
 globals := e5
 exports := e6
 elems := e7
 lt := h.types
 li := by have := h.imports; omega
 lf := h.funcs
 lta := h.tables
 lm := h.mems
 lg := h.globals
 le := by have := h.exports; omega
 lel := h.elems
 lit := fun e he => (h.el e he).1
 lp := fun f hf => by have := h.fn f hf; unfold sFn at this; exact ⟨by omega, by omega⟩
 lgi := fun g hg => by have := (h.gd g hg).1; omega
 lii := fun e he l hl => by have := ((h.el e he).2.2 l hl).1; omega
theorem MdIn.imp {w : World} {m : Md} {At Ai Ai' Af Ata Am Ag Ae Ael : OA} (h : MdIn w m At Ai Af Ata Am Ag Ae Ael) (l : List Im) (hl : l.length ≤ 101) (he : tIm.els w (· < w.heap.size) Ai' l) : MdIn w { m with imports := l } At Ai' Af Ata Am Ag Ae Ael :=
 ⟨h.types, he, h.funcs, h.tables, h.mems, h.globals, h.exports, h.elems, h.lt, hl, h.lf, h.lta, h.lm, h.lg, h.le, h.lel, h.lit, h.lp, h.lgi, h.lii⟩
theorem kJK (x : Rx) {cs ms : LV} (m : Md) (l l2 : List Gv) (B B2 : OA) (cb cb2 : Nat) (w : World) (hx : tRx.rd w (· < w.heap.size) cs x) (hw : LxW x) (hk : RxK x) (hm : tMd.rd w (· < w.heap.size) ms m) (hmw : LtW m) (hE : tGv.els w (· < w.heap.size) B l) (hE2 : tGv.els w (· < w.heap.size) B2 l2) :
    Calls prog 5 #[.agg cs.toArray, .agg ms.toArray, .slice B l.length cb, .slice B2 l2.length cb2] w fun e w' => e = .returned (.bool true) ∧ Fr No w w' := by
 have HM := hid hm
 obtain ⟨At, ct, Ai, ci, Af, cf, Ata, cta, Am, cm, Ag, cg, Ae, ce, Ael, cel, Ad, cd, Ac, cc, hms, -, -, e0, hci, hci2, e1, -, -, e2, -, -, e3, -, -, e4, -, -, e5, -, -, e6, -, -, -, e7, -⟩ := kBS hm
 subst hms
 have HMI := hid (fun hb : LtB m => kJo e0 e1 e2 e3 e4 e5 e6 e7 hb)
 have HIMS := hid e1
 have HCI := hid (And.intro hci hci2)
 have HX := hid hx
 have HL : Hid (cs.length = 10) := TyOk.len _ _ _ _ hx
 have HI : Hid ((prog.info? 33).map (·.size) = some cs.length) := by unfold Hid; rw [HL.o]; kernel_rfl
 have HW := hid hw
 have HMW := hid hmw
 have HK := hid hk
 have HE := hid hE
 have HE2 := hid hE2
 have F0 := hid (((Fr.refl No w).alloc (.cells cs.toArray 33)).alloc (.cells #[.slice At m.types.length ct, .slice Ai m.imports.length ci, .slice Af m.funcs.length cf, .slice Ata m.tables.length cta, .slice Am m.mems.length cm, .slice Ag m.globals.length cg, .slice Ae m.exports.length ce, .bool m.hasStart, .int .i64 m.start, .slice Ael m.elems.length cel, .slice Ad m.datas.length cd, .slice Ac m.customs.length cc] 55))
 have B0 := hid ((Blk.new w 33 cs.toArray).alloc (.cells #[.slice At m.types.length ct, .slice Ai m.imports.length ci, .slice Af m.funcs.length cf, .slice Ata m.tables.length cta, .slice Am m.mems.length cm, .slice Ag m.globals.length cg, .slice Ae m.exports.length ce, .bool m.hasStart, .int .i64 m.start, .slice Ael m.elems.length cel, .slice Ad m.datas.length cd, .slice Ac m.customs.length cc] 55))
 have B1 := hid (Blk.new1 w (.cells cs.toArray 33) 55 #[.slice At m.types.length ct, .slice Ai m.imports.length ci, .slice Af m.funcs.length cf, .slice Ata m.tables.length cta, .slice Am m.mems.length cm, .slice Ag m.globals.length cg, .slice Ae m.exports.length ce, .bool m.hasStart, .int .i64 m.start, .slice Ael m.elems.length cel, .slice Ad m.datas.length cd, .slice Ac m.customs.length cc])
 have HAL := hid (fun X => kEb X)
 clear hx hw hk hm hmw hE hE2 e0 e1 e2 e3 e4 e5 e6 e7 hci hci2
 go_enter func5, ntmps5
 go_upto_region 1 with fail
 generalize (w.alloc (.cells cs.toArray 33)).alloc (.cells #[.slice At m.types.length ct, .slice Ai m.imports.length ci, .slice Af m.funcs.length cf, .slice Ata m.tables.length cta, .slice Am m.mems.length cm, .slice Ag m.globals.length cg, .slice Ae m.exports.length ce, .bool m.hasStart, .int .i64 m.start, .slice Ael m.elems.length cel, .slice Ad m.datas.length cd, .slice Ac m.customs.length cc] 55) = W at *
 obtain ⟨p, hp⟩ : ∃ p, p = w.heap.size := ⟨_, rfl⟩
 rw [← hp] at B0 B1 ⊢
 clear hp
 have HR : Hid (∀ X, Fr No W X → X.rangeAt p 0 cs) := fun X f => by simpa using kBJ (B0.o.fr f id)
 have HRD : Hid (∀ X, Fr No w X → tRx.rd X (· < X.heap.size) cs x) := fun X f => kAO HX.o f (fun _ h => h) (fun k hk => ltl hk f.size)
 have HMX : Hid (∀ X, Fr No W X → Ce X (p + 1) 0 (.slice At m.types.length ct) ∧ Ce X (p + 1) 1 (.slice Ai m.imports.length ci) ∧ Ce X (p + 1) 2 (.slice Af m.funcs.length cf) ∧ Ce X (p + 1) 3 (.slice Ata m.tables.length cta) ∧ Ce X (p + 1) 4 (.slice Am m.mems.length cm) ∧ Ce X (p + 1) 5 (.slice Ag m.globals.length cg) ∧ Ce X (p + 1) 6 (.slice Ae m.exports.length ce) ∧ Ce X (p + 1) 7 (.bool m.hasStart) ∧ Ce X (p + 1) 8 (.int .i64 m.start) ∧ Ce X (p + 1) 9 (.slice Ael m.elems.length cel) ∧ Ce X (p + 1) 10 (.slice Ad m.datas.length cd) ∧ Ce X (p + 1) 11 (.slice Ac m.customs.length cc)) := fun X f => by
  have h := B1.o.fr f id
  exact yy30
 have HMRD : Hid (∀ X, Fr No w X → tMd.rd X (· < X.heap.size) [.slice At m.types.length ct, .slice Ai m.imports.length ci, .slice Af m.funcs.length cf, .slice Ata m.tables.length cta, .slice Am m.mems.length cm, .slice Ag m.globals.length cg, .slice Ae m.exports.length ce, .bool m.hasStart, .int .i64 m.start, .slice Ael m.elems.length cel, .slice Ad m.datas.length cd, .slice Ac m.customs.length cc] m) := fun X f => kAO HM.o f (fun _ h => h) (fun k hk => ltl hk f.size)
 have r0 := hid (HR.o W (Fr.refl _ _))
 have HLI := hid (kFn x (cs := cs) W (HRD.o W F0.o) HW.o)
 clear B0 B1 HM
 go_wp2_with (first
  | (refine wpList_load_mid (by rfl) 33 _ (by rfl) p 0 (by rfl) _ _ r0.o underlying33 (by rfl) HI.o ?_)
  | fail)
 clear r0
 refine HLI.o.mono ?_
 rintro e w1 ⟨⟨r, rfl, hr⟩, f1⟩
 have FW1 := hid f1
 have F1 := hid (F0.o.trans f1 (fun _ _ h => h))
 have HLB := hid hr
 clear f1 hr HLI
 cases r with
 | false =>
  go_wp2_with fail
  refine (HAL.o _).mono ?_
  rintro e w2 ⟨rfl, f2⟩
  have F2 := hid (F1.o.trans f2 (fun _ _ h => h))
  clear f2
  go_wp2_with fail
  go_ret
  exact ⟨rfl, F2.o⟩
 | true =>
  replace HLB := hid (HLB.o rfl)
  obtain ⟨t0, t1, t2, t3, t4, t5, t6, t7, t8, t9, t10, t11⟩ := HMX.o w1 FW1.o
  have HL7 := hid (kES m (ms := [.slice At m.types.length ct, .slice Ai m.imports.length ci, .slice Af m.funcs.length cf, .slice Ata m.tables.length cta, .slice Am m.mems.length cm, .slice Ag m.globals.length cg, .slice Ae m.exports.length ce, .bool m.hasStart, .int .i64 m.start, .slice Ael m.elems.length cel, .slice Ad m.datas.length cd, .slice Ac m.customs.length cc]) w1 (HMRD.o w1 F1.o) HMW.o)
  go_wp2_with fail
  clear t0 t1 t2 t3 t4 t5 t6 t7 t8 t9 t10 t11
  refine HL7.o.mono ?_
  rintro e w2 ⟨⟨r, rfl, hr⟩, f2⟩
  have FW2 := hid (FW1.o.trans f2 (fun _ _ h => h))
  have F2 := hid (F1.o.trans f2 (fun _ _ h => h))
  have HLT := hid hr
  clear f2 hr HL7 FW1 F1
  cases r with
  | false =>
   exact yy24
  | true =>
   replace HLT := hid (HLT.o rfl)
   by_cases hl : 60 < l.length
   · have d1 : decide ((60 : Int) < (l.length : Nat)) = true := by simp; omega
     clear hl
     exact yy24
   have d1 : decide ((60 : Int) < (l.length : Nat)) = false := by simp; omega
   have HLL : Hid (l.length ≤ 60) := by unfold Hid; omega
   clear hl
   by_cases hl2 : 60 < l2.length
   · have d2 : decide ((60 : Int) < (l2.length : Nat)) = true := by simp; omega
     clear hl2
     exact yy24
   have d2 : decide ((60 : Int) < (l2.length : Nat)) = false := by simp; omega
   have HLL2 : Hid (l2.length ≤ 60) := by unfold Hid; omega
   clear hl2
   have r1 := hid (HR.o w2 FW2.o)
   have HMA := hid (kGk x (cs := cs) w2 (HRD.o w2 F2.o) (HLB.o.rxB HK.o))
   go_wp2_with (first
    | (refine wpList_load_mid (by rfl) 33 _ (by rfl) p 0 (by rfl) _ _ r1.o underlying33 (by rfl) HI.o ?_)
    | fail)
   clear r1 d1 d2
   refine HMA.o.mono ?_
   rintro e w3 (⟨rfl, f3⟩ | ⟨V, R, rfl, st, hown, f3, -, hq⟩)
   · have F3 := hid (F2.o.trans f3 (fun _ _ h => h))
     clear f3 HMA
     go_wp2_with fail
     refine (HAL.o _).mono ?_
     rintro e w4 ⟨rfl, f4⟩
     have F4 := hid (F3.o.trans f4 (fun _ _ h => h))
     clear f4
     go_wp2_with fail
     go_ret
     exact ⟨rfl, F4.o⟩
   have F3 := hid (F2.o.trans f3 (fun _ _ h => h))
   have FW3 := hid (FW2.o.trans f3 (fun _ _ h => h))
   have HST := hid st
   have HCB := hid (kJQ (HLB.o.rxB HK.o) hq)
   generalize kAE x x.funcs.length x.tabs.length x.mems.length x.globs.length x.insts.length = X0 at *
   have HMI3 := hid ((HMI.o HLT.o).fr F3.o)
   have HIL : Hid (m.imports.length ≤ 100) := HLT.o.imports
   have HDL : Hid (m.datas.length ≤ 100) := HLT.o.datas
   have HRS := hid (fun (X : World) (f : Fr No w3 X) (ims : List Im) (ni ci : Nat) (Ai' : OA) (l : List Gv) (B : OA) (cb : Nat) (he : tIm.els X (· < X.heap.size) Ai' ims) (hl : ims.length ≤ 101) (hn : ims.length = ni) (hl2 : l.length ≤ 1000000) (hE : tGv.els X (· < X.heap.size) B l) => kIk (HST.o.frNo f) { m with imports := ims } m.types.length ni m.funcs.length m.tables.length m.mems.length m.globals.length m.exports.length m.elems.length m.datas.length m.customs.length ct ci cf cta cm cg ce cel cd cc At Ai' Af Ata Am Ag Ae Ael Ad Ac m.hasStart m.start l B cb (hid ((HMI3.o.fr f).imp ims hl he)) (hid ⟨rfl, hn, rfl, rfl, rfl, rfl, rfl, rfl, rfl, rfl, rfl, HDL.o⟩) HCB.o hl2 hE)
   have HCK := hid (fun (X : World) (f : Fr No w3 X) (im : Im) (what : Et) => kHZ (HST.o.frNo f) im m what m.types.length m.imports.length m.funcs.length m.tables.length m.mems.length m.globals.length m.exports.length m.elems.length m.datas.length m.customs.length ct ci cf cta cm cg ce cel cd cc At Ai Af Ata Am Ag Ae Ael Ad Ac m.hasStart m.start (hid (HMI3.o.fr f)) (hid ⟨rfl, rfl, rfl, rfl, rfl, rfl, rfl, rfl, rfl, rfl, rfl, HDL.o⟩) HCB.o)
   have HGE : Hid (∀ X, Fr No w3 X → tGv.els X (· < X.heap.size) B l ∧ tGv.els X (· < X.heap.size) B2 l2) := fun X f => ⟨els_up HE.o (F3.o.trans f (fun _ _ h => h)) (fun _ h => h) (fun k hk => ltl hk (F3.o.trans f (fun _ _ h => h)).size), els_up HE2.o (F3.o.trans f (fun _ _ h => h)) (fun _ h => h) (fun k hk => ltl hk (F3.o.trans f (fun _ _ h => h)).size)⟩
   have HIE : Hid (∀ X, Fr No w3 X → tIm.els X (· < X.heap.size) Ai m.imports) := fun X f => els_up HIMS.o (F3.o.trans f (fun _ _ h => h)) (fun _ h => h) (fun k hk => ltl hk (F3.o.trans f (fun _ _ h => h)).size)
   clear f3 st HMA hown hq HMI HMI3 HCB HST HE HE2 HIMS HMRD HRD HX HK HLB
   obtain ⟨t0, t1, t2, t3, t4, t5, t6, t7, t8, t9, t10, t11⟩ := HMX.o w3 FW3.o
   have HR0 := hid (HRS.o w3 (Fr.refl _ _) m.imports m.imports.length ci Ai l B cb (HIE.o _ (Fr.refl _ _)) (by have := HIL.o; omega) rfl (by have := HLL.o; omega) (HGE.o _ (Fr.refl _ _)).1)
   go_wp2_with fail
   clear t0 t1 t2 t3 t4 t5 t6 t7 t8 t9 t10 t11
   refine HR0.o.mono ?_
   rintro e w4 ⟨f4, ⟨k, hk, hz, hne, rfl⟩ | ⟨hz, A, c, hcl, rfl, el⟩⟩
   · have F4 := hid (F3.o.trans f4 (fun _ _ h => h))
     have FW4 := hid (FW3.o.trans f4 (fun _ _ h => h))
     have F34 := hid f4
     have HK1 : Hid (k < m.imports.length) := hk
     have HZ := hid hz
     generalize hr : (kCL l (fun im what => chkS X0 im { m with imports := m.imports } what) m.imports[k]).2 = r at *
     have i0 := nki k
     have i1 : (k : Int) < (m.imports.length : Nat) := by have h : k < m.imports.length := hk; omega
     have i2 : (k : Int) ≤ (ci : Nat) := by have h := HCI.o.1; omega
     have d1 : (r == 0) = false := by simpa using hne
     have d2 : (r != 0) = true := by simpa using hne
     have d3 : decide ((k : Int) < 0) = false := by simp
     have d4 : decide (((m.imports.length : Nat) : Int) ≤ (k : Int)) = false := by simp; exact hk
     clear hr hne hz hk f4 HR0
     obtain ⟨t0, t1, t2, t3, t4, t5, t6, t7, t8, t9, t10, t11⟩ := HMX.o w4 FW4.o
     go_upto_region 11 with fail
     have HQW : Hid (w3.heap.size ≤ w4.heap.size ∧ W.heap.size ≤ w4.heap.size) := ⟨F34.o.size, FW4.o.size⟩
     have F5 := hid ((Fr.refl No w4).alloc (.cells #[.slice At m.types.length ct, .slice Ai m.imports.length ci, .slice Af m.funcs.length cf, .slice Ata m.tables.length cta, .slice Am m.mems.length cm, .slice Ag m.globals.length cg, .slice Ae m.exports.length ce, .bool m.hasStart, .int .i64 m.start, .slice Ael m.elems.length cel, .slice Ad m.datas.length cd, .slice Ac m.customs.length cc] 55))
     have B5 := hid (Blk.new w4 55 #[.slice At m.types.length ct, .slice Ai m.imports.length ci, .slice Af m.funcs.length cf, .slice Ata m.tables.length cta, .slice Am m.mems.length cm, .slice Ag m.globals.length cg, .slice Ae m.exports.length ce, .bool m.hasStart, .int .i64 m.start, .slice Ael m.elems.length cel, .slice Ad m.datas.length cd, .slice Ac m.customs.length cc])
     clear t0 t1 t2 t3 t4 t5 t6 t7 t8 t9 t10 t11
     generalize w4.alloc (.cells #[.slice At m.types.length ct, .slice Ai m.imports.length ci, .slice Af m.funcs.length cf, .slice Ata m.tables.length cta, .slice Am m.mems.length cm, .slice Ag m.globals.length cg, .slice Ae m.exports.length ce, .bool m.hasStart, .int .i64 m.start, .slice Ael m.elems.length cel, .slice Ad m.datas.length cd, .slice Ac m.customs.length cc] 55) = W5 at *
     obtain ⟨q, hq⟩ : ∃ q, q = w4.heap.size := ⟨_, rfl⟩
     rw [← hq] at B5 HQW ⊢
     clear hq
     have F35 := hid (F34.o.trans F5.o (fun _ _ h => h))
     have FW5 := hid (FW4.o.trans F5.o (fun _ _ h => h))
     obtain ⟨t0, t1, t2, t3, t4, t5, t6, t7, t8, t9, t10, t11⟩ := HMX.o W5 FW5.o
     have s1 := B5.o.cell 1
     have q1 := B5.o.frozen 1
     go_upto_region 12 with fail
     have F6 := hid (F35.o.setCell ⟨q, 1, none⟩ (.slice Ai k ci) (fun h => absurd h (by have := HQW.o.1; show ¬ q < w3.heap.size; omega)))
     have FW6 := hid (FW5.o.setCell ⟨q, 1, none⟩ (.slice Ai k ci) (fun h => absurd h (by have := HQW.o.2; show ¬ q < W.heap.size; omega)))
     have B6 := hid (B5.o.set_ 1 (.slice Ai k ci))
     simp only [List.setIfInBounds_toArray, List.set_cons_succ, List.set_cons_zero] at B6
     clear t0 t1 t2 t3 t4 t5 t6 t7 t8 t9 t10 t11 s1 q1 B5
     generalize W5.setCell ⟨q, 1, none⟩ (.slice Ai k ci) = W6 at *
     obtain ⟨t0, t1, t2, t3, t4, t5, t6, t7, t8, t9, t10, t11⟩ := (⟨B6.o.cell 0, B6.o.cell 1, B6.o.cell 2, B6.o.cell 3, B6.o.cell 4, B6.o.cell 5, B6.o.cell 6, B6.o.cell 7, B6.o.cell 8, B6.o.cell 9, B6.o.cell 10, B6.o.cell 11⟩ : _ ∧ _ ∧ _ ∧ _ ∧ _ ∧ _ ∧ _ ∧ _ ∧ _ ∧ _ ∧ _ ∧ _)
     have HR6 := hid (HRS.o W6 F6.o (m.imports.take k) k ci Ai l B cb (kJh (HIE.o _ F6.o) k) (by have := HIL.o; rw [List.length_take]; omega) (by have h : k < m.imports.length := HK1.o; rw [List.length_take]; omega) (by have := HLL.o; omega) (HGE.o _ F6.o).1)
     go_wp2_with fail
     clear t0 t1 t2 t3 t4 t5 t6 t7 t8 t9 t10 t11
     refine HR6.o.mono ?_
     rintro e w7 ⟨f7, ⟨j, hj, -, hne, -⟩ | ⟨-, A7, c7, -, rfl, -⟩⟩
     · exfalso
       have hj1 : j < k := by have h := hj; simp only [List.length_take] at h; omega
       have h := HZ.o j (by have h : k < m.imports.length := HK1.o; omega) hj1
       simp only [List.getElem_take] at hne
       exact hne h
     have F7 := hid (F3.o.trans (F6.o.trans f7 (fun _ _ h => h)) (fun _ _ h => h))
     clear f7 HR6
     go_wp2_with fail
     refine (HAL.o _).mono ?_
     rintro e w8 ⟨rfl, f8⟩
     have F8 := hid (F7.o.trans f8 (fun _ _ h => h))
     clear f8
     go_wp2_with fail
     go_ret
     exact ⟨rfl, F8.o⟩
   · have FW4 := hid (FW3.o.trans f4 (fun _ _ h => h))
     have F34 := hid f4
     have HZ := hid hz
     have EL := hid el
     have HCL := hid hcl
     clear hz el f4 HR0 hcl
     obtain ⟨t0, t1, t2, t3, t4, t5, t6, t7, t8, t9, t10, t11⟩ := HMX.o w4 FW4.o
     go_wp2_with fail
     clear t0 t1 t2 t3 t4 t5 t6 t7 t8 t9 t10 t11
     go_loopw [18] (fun i wr => ∃ k : Nat, k ≤ m.imports.length ∧ i = .int .i64 k ∧ Hid (Fr No w4 wr)) (fun i _ => m.imports.length - (intOf i).toNat)
     case atStart => exact ⟨0, by omega, rfl, Fr.refl _ _⟩
     case round =>
     obtain ⟨k, hk, rfl, F⟩ := hrel
     have hil := HIL.o
     by_cases hlt : k < m.imports.length
     · have d1 : decide ((k : Int) < (m.imports.length : Nat)) = true := by simp; omega
       have i0 := nki k
       have i1 : (k : Int) < (m.imports.length : Nat) := om
       have HLK : Hid (k < m.imports.length) := hlt
       have FW := hid (FW4.o.trans F.o (fun _ _ h => h))
       have F3r := hid (F34.o.trans F.o (fun _ _ h => h))
       obtain ⟨t0, t1, t2, t3, t4, t5, t6, t7, t8, t9, t10, t11⟩ := HMX.o wr FW.o
       go_upto_region 20 with fail
       have HQW : Hid (w3.heap.size ≤ wr.heap.size ∧ W.heap.size ≤ wr.heap.size ∧ w4.heap.size ≤ wr.heap.size) := ⟨F3r.o.size, FW.o.size, F.o.size⟩
       have F5 := hid ((Fr.refl No wr).alloc (.cells #[.slice At m.types.length ct, .slice Ai m.imports.length ci, .slice Af m.funcs.length cf, .slice Ata m.tables.length cta, .slice Am m.mems.length cm, .slice Ag m.globals.length cg, .slice Ae m.exports.length ce, .bool m.hasStart, .int .i64 m.start, .slice Ael m.elems.length cel, .slice Ad m.datas.length cd, .slice Ac m.customs.length cc] 55))
       have B5 := hid (Blk.new wr 55 #[.slice At m.types.length ct, .slice Ai m.imports.length ci, .slice Af m.funcs.length cf, .slice Ata m.tables.length cta, .slice Am m.mems.length cm, .slice Ag m.globals.length cg, .slice Ae m.exports.length ce, .bool m.hasStart, .int .i64 m.start, .slice Ael m.elems.length cel, .slice Ad m.datas.length cd, .slice Ac m.customs.length cc])
       clear t0 t1 t2 t3 t4 t5 t6 t7 t8 t9 t10 t11
       generalize wr.alloc (.cells #[.slice At m.types.length ct, .slice Ai m.imports.length ci, .slice Af m.funcs.length cf, .slice Ata m.tables.length cta, .slice Am m.mems.length cm, .slice Ag m.globals.length cg, .slice Ae m.exports.length ce, .bool m.hasStart, .int .i64 m.start, .slice Ael m.elems.length cel, .slice Ad m.datas.length cd, .slice Ac m.customs.length cc] 55) = W5 at *
       obtain ⟨q, hq⟩ : ∃ q, q = wr.heap.size := ⟨_, rfl⟩
       rw [← hq] at B5 HQW ⊢
       clear hq
       have F35 := hid (F3r.o.trans F5.o (fun _ _ h => h))
       have FW5 := hid (FW.o.trans F5.o (fun _ _ h => h))
       have F45 := hid (F.o.trans F5.o (fun _ _ h => h))
       obtain ⟨t0, t1, t2, t3, t4, t5, t6, t7, t8, t9, t10, t11⟩ := HMX.o W5 FW5.o
       have s1 := B5.o.cell 1
       have q1 := B5.o.frozen 1
       obtain ⟨b, o, eA, hbS, y0, y1, y2, y3, y4, y5, y6, y7, y8, y9, y10, y11, y12, -⟩ := kHM (HIE.o w3 (Fr.refl _ _)) k hlt
       subst eA
       have i2 : (k : Int) + 1 ≤ (ci : Nat) := by have h := HCI.o.1; omega
       have i3 : (k : Int) ≤ (k : Int) + 1 := om
       have i4 : (0 : Int) ≤ (k : Int) + 1 := om
       go_upto_region 21 with fail
       have hl1 : b < w3.heap.size := hbS
       have HZK := hid (kGl (HZ.o _ (List.getElem_mem hlt)))
       obtain ⟨ba, oa, eA, hbA, z0, z1, -⟩ := kHi (els_up EL.o F.o (fun _ h => h) (fun _ h => h)) k (by rw [List.length_map]; exact hlt)
       subst eA
       rw [List.getElem_map] at z0 z1
       have HEL1 : Hid (∀ X, Fr No w4 X → tEt.els X (· < X.heap.size) (some ⟨ba, oa + k * 2, none⟩) [(kCL l (fun im what => chkS X0 im { m with imports := m.imports } what) m.imports[k]).1]) := fun X f => by
        have h := kJH (els_up EL.o f (fun _ h => h) (fun k hk => ltl hk f.size)) k (by rw [List.length_map]; exact hlt)
        rw [List.getElem_map] at h
        exact h
       have HIE1 : Hid (∀ X, Fr No w3 X → tIm.els X (· < X.heap.size) (some ⟨b, o + k * 13, none⟩) [m.imports[k]]) := fun X f => kJH (HIE.o X f) k hlt
       generalize m.imports[k] = im at y0 y1 y2 y3 y4 y5 y6 y7 y8 y9 y10 y11 y12 z0 z1 HZK HEL1 HIE1
       have HKD := hid (kJW HZK.o.2.2)
       have F6 := hid (F35.o.setCell ⟨q, 1, none⟩ (.slice (some ⟨b, o + k * 13, none⟩) 1 (ci - k)) (fun h => absurd h (by have := HQW.o.1; show ¬ q < w3.heap.size; omega)))
       have F46 := hid (F45.o.setCell ⟨q, 1, none⟩ (.slice (some ⟨b, o + k * 13, none⟩) 1 (ci - k)) (fun h => absurd h (by have := HQW.o.2.2; show ¬ q < w4.heap.size; omega)))
       have FW6 := hid (FW5.o.setCell ⟨q, 1, none⟩ (.slice (some ⟨b, o + k * 13, none⟩) 1 (ci - k)) (fun h => absurd h (by have := HQW.o.2.1; show ¬ q < W.heap.size; omega)))
       have B6 := hid (B5.o.set_ 1 (.slice (some ⟨b, o + k * 13, none⟩) 1 (ci - k)))
       simp only [List.setIfInBounds_toArray, List.set_cons_succ, List.set_cons_zero] at B6
       have HYI : Hid (∀ X, Fr No w3 X → Ce X b (o + k * 13) (.string im.mod) ∧ Ce X b (o + k * 13 + 1) (.string im.name) ∧ Ce X b (o + k * 13 + 2) (.int .i64 im.kind) ∧ Ce X b (o + k * 13 + 3) (.int .i64 im.func) ∧ Ce X b (o + k * 13 + 4) (.int .i64 im.table.elem) ∧ Ce X b (o + k * 13 + 5) (.int .i64 im.table.lim.min) ∧ Ce X b (o + k * 13 + 6) (.int .i64 im.table.lim.max) ∧ Ce X b (o + k * 13 + 7) (.bool im.table.lim.has) ∧ Ce X b (o + k * 13 + 8) (.int .i64 im.mem.min) ∧ Ce X b (o + k * 13 + 9) (.int .i64 im.mem.max) ∧ Ce X b (o + k * 13 + 10) (.bool im.mem.has) ∧ Ce X b (o + k * 13 + 11) (.int .i64 im.glob.val) ∧ Ce X b (o + k * 13 + 12) (.bool im.glob.mut_)) := fun X f => by
        have h1 : b < w3.heap.size := hl1
        exact ⟨(f.cell (p := ⟨b, o + k * 13, none⟩) h1 id).trans y0, (f.cell (p := ⟨b, o + k * 13 + 1, none⟩) h1 id).trans y1, (f.cell (p := ⟨b, o + k * 13 + 2, none⟩) h1 id).trans y2, (f.cell (p := ⟨b, o + k * 13 + 3, none⟩) h1 id).trans y3, (f.cell (p := ⟨b, o + k * 13 + 4, none⟩) h1 id).trans y4, (f.cell (p := ⟨b, o + k * 13 + 5, none⟩) h1 id).trans y5, (f.cell (p := ⟨b, o + k * 13 + 6, none⟩) h1 id).trans y6, (f.cell (p := ⟨b, o + k * 13 + 7, none⟩) h1 id).trans y7, (f.cell (p := ⟨b, o + k * 13 + 8, none⟩) h1 id).trans y8, (f.cell (p := ⟨b, o + k * 13 + 9, none⟩) h1 id).trans y9, (f.cell (p := ⟨b, o + k * 13 + 10, none⟩) h1 id).trans y10, (f.cell (p := ⟨b, o + k * 13 + 11, none⟩) h1 id).trans y11, (f.cell (p := ⟨b, o + k * 13 + 12, none⟩) h1 id).trans y12⟩
       have HYA : Hid (∀ X, Fr No w4 X → Ce X ba (oa + k * 2) (.int .i64 (kCL l (fun im what => chkS X0 im { m with imports := m.imports } what) im).1.kind) ∧ Ce X ba (oa + k * 2 + 1) (.int .i64 (kCL l (fun im what => chkS X0 im { m with imports := m.imports } what) im).1.addr)) := fun X f => by
        obtain ⟨b', o', e', hb', u0, u1, -⟩ := kHi (HEL1.o X f) 0 sm
        injection e' with e'
        injection e' with e1 e2
        subst e1 e2
        simp only [List.getElem_cons_zero, Nat.zero_mul, Nat.add_zero] at u0 u1
        exact ⟨u0, u1⟩
       clear t0 t1 t2 t3 t4 t5 t6 t7 t8 t9 t10 t11 s1 q1 B5 y0 y1 y2 y3 y4 y5 y6 y7 y8 y9 y10 y11 y12 z0 z1 hl1 hbS hbA hlt
       generalize W5.setCell ⟨q, 1, none⟩ (.slice (some ⟨b, o + k * 13, none⟩) 1 (ci - k)) = W6 at *
       obtain ⟨t0, t1, t2, t3, t4, t5, t6, t7, t8, t9, t10, t11⟩ := (⟨B6.o.cell 0, B6.o.cell 1, B6.o.cell 2, B6.o.cell 3, B6.o.cell 4, B6.o.cell 5, B6.o.cell 6, B6.o.cell 7, B6.o.cell 8, B6.o.cell 9, B6.o.cell 10, B6.o.cell 11⟩ : _ ∧ _ ∧ _ ∧ _ ∧ _ ∧ _ ∧ _ ∧ _ ∧ _ ∧ _ ∧ _ ∧ _)
       have HR6 := hid (HRS.o W6 F6.o [im] 1 (ci - k) (some ⟨b, o + k * 13, none⟩) l B cb (HIE1.o _ F6.o) sm rfl (by have := HLL.o; omega) (HGE.o _ F6.o).1)
       go_wp2_with fail
       clear t0 t1 t2 t3 t4 t5 t6 t7 t8 t9 t10 t11
       refine HR6.o.mono ?_
       rintro e w7 ⟨f7, ⟨j, hj, -, hne, -⟩ | ⟨hz7, A7, c7, -, rfl, el7⟩⟩
       · exfalso
         have hj0 : j = 0 := by simp at hj; exact hj
         subst hj0
         exact hne (by show (kCL l (fun im what => chkS X0 im { m with imports := m.imports } what) im).2 = 0; unfold kCL; rw [if_pos HZK.o.1]; exact HZK.o.2.1 ▸ HZK.o.2.2)
       have F37 := hid (F6.o.trans f7 (fun _ _ h => h))
       have F47 := hid (F46.o.trans f7 (fun _ _ h => h))
       have FW7 := hid (FW6.o.trans f7 (fun _ _ h => h))
       have E7 : Hid (tEt.els w7 (· < w7.heap.size) A7 [(kCL l (fun im what => chkS X0 im { m with imports := m.imports } what) im).1]) := el7
       obtain ⟨et, het⟩ : ∃ et, et = (kCL l (fun im what => chkS X0 im { m with imports := m.imports } what) im).1 := ⟨_, rfl⟩
       rw [← het] at HYA HEL1 E7 HKD HZK
       have HCZ : Hid (chkS X0 im m et = 0) := HZK.o.2.2
       clear f7 HR6 het el7 hz7
       go_upto_region 22 with fail
       have HY : Hid (∀ X, Fr No w7 X → Ce X ba (oa + k * 2) (.int .i64 im.kind) ∧ Ce X ba (oa + k * 2 + 1) (.int .i64 et.addr) ∧ Ce X (p + 1) 0 (.slice At m.types.length ct) ∧ Ce X (p + 1) 1 (.slice (some ⟨b, o, none⟩) m.imports.length ci) ∧ Ce X (p + 1) 2 (.slice Af m.funcs.length cf) ∧ Ce X (p + 1) 3 (.slice Ata m.tables.length cta) ∧ Ce X (p + 1) 4 (.slice Am m.mems.length cm) ∧ Ce X (p + 1) 5 (.slice Ag m.globals.length cg) ∧ Ce X (p + 1) 6 (.slice Ae m.exports.length ce) ∧ Ce X (p + 1) 7 (.bool m.hasStart) ∧ Ce X (p + 1) 8 (.int .i64 m.start) ∧ Ce X (p + 1) 9 (.slice Ael m.elems.length cel) ∧ Ce X (p + 1) 10 (.slice Ad m.datas.length cd) ∧ Ce X (p + 1) 11 (.slice Ac m.customs.length cc) ∧ Ce X b (o + k * 13) (.string im.mod) ∧ Ce X b (o + k * 13 + 1) (.string im.name) ∧ Ce X b (o + k * 13 + 2) (.int .i64 im.kind) ∧ Ce X b (o + k * 13 + 3) (.int .i64 im.func) ∧ Ce X b (o + k * 13 + 4) (.int .i64 im.table.elem) ∧ Ce X b (o + k * 13 + 5) (.int .i64 im.table.lim.min) ∧ Ce X b (o + k * 13 + 6) (.int .i64 im.table.lim.max) ∧ Ce X b (o + k * 13 + 7) (.bool im.table.lim.has) ∧ Ce X b (o + k * 13 + 8) (.int .i64 im.mem.min) ∧ Ce X b (o + k * 13 + 9) (.int .i64 im.mem.max) ∧ Ce X b (o + k * 13 + 10) (.bool im.mem.has) ∧ Ce X b (o + k * 13 + 11) (.int .i64 im.glob.val) ∧ Ce X b (o + k * 13 + 12) (.bool im.glob.mut_)) := fun X f => by
        obtain ⟨u0, u1⟩ := HYA.o X (F47.o.trans f (fun _ _ h => h))
        obtain ⟨t0, t1, t2, t3, t4, t5, t6, t7, t8, t9, t10, t11⟩ := HMX.o X (FW7.o.trans f (fun _ _ h => h))
        obtain ⟨y0, y1, y2, y3, y4, y5, y6, y7, y8, y9, y10, y11, y12⟩ := HYI.o X (F37.o.trans f (fun _ _ h => h))
        exact ⟨by rw [HKD.o]; exact u0, u1, t0, t1, t2, t3, t4, t5, t6, t7, t8, t9, t10, t11, y0, y1, y2, y3, y4, y5, y6, y7, y8, y9, y10, y11, y12⟩
       have j2 : (k : Int) + 1 ≤ (c : Nat) := by have h := HCL.o; have h2 : k < m.imports.length := HLK.o; omega
       have wk : IntKind.i64.wrap ((k : Int) + 1) = (k : Int) + 1 := by rw [IntKind.wrap_i64]; have h2 : k < m.imports.length := HLK.o; omega
       have wt : ((k : Int) + 1).toNat = k + 1 := om
       have wt2 : k + 1 - k = 1 := om
       have wne : ¬ c = k := om
       refine rwO (Fr No w7) [] (List.range 41) [24, 38] (Fr.refl _ _).drew ?_
       refine rO HY.o ?_
       refine wpO_eff rfl rfl fun K hK => sz ?_
       have hck := HCK.o _ (F37.o.trans (Fr.refl No w7).drew (fun _ _ h => h)) im et
       rw [HCZ.o, ← HKD.o] at hck
       refine hck.mono ?_
       rintro e w8 ⟨rfl, f8⟩
       have F78 := hid (((Fr.refl No w7).drew).trans f8 (fun _ _ h => h))
       refine hK _ _ (fun _ => F78.o) ?_
       clear hK K f8
       refine rO HY.o ?_
       refine wpO_eff rfl rfl fun K hK => sz ?_
       refine (kFr [et] A7 (some ⟨ba, oa + k * 2, none⟩) c7 (c - k) 1 1 w8 rfl rfl (els_up E7.o F78.o (fun _ h => h) (fun k hk => ltl hk F78.o.size)) (HEL1.o _ (F47.o.trans F78.o (fun _ _ h => h))) sm).mono ?_
       rintro e w9 ⟨rfl, f9⟩
       have F79 := hid (F78.o.trans f9 (fun _ _ h => h))
       have F49 := hid (F47.o.trans F79.o (fun _ _ h => h))
       refine hK _ _ (fun _ => F79.o) ?_
       clear hK K f9
       refine rO HY.o ?_
       refine wpO_nil ?_
       go_wp2_with fail
       go_roundw
       case rel => exact ⟨k + 1, HLK.o, by go_num, F49.o⟩
       exact meas0 HLK.o
     have hkn : k = m.imports.length := om
     subst hkn
     have FW := hid (FW4.o.trans F.o (fun _ _ h => h))
     have F3r := hid (F34.o.trans F.o (fun _ _ h => h))
     have HEr := hid (els_up EL.o F.o (fun _ h => h) (fun k hk => ltl hk F.o.size))
     go_upto_region 24 with fail
     generalize wr = w9 at *
     obtain ⟨css, hcs, hrd⟩ := kEu (HGE.o w9 F3r.o).1 (B := w9.heap.size) (fun _ h => h)
     obtain ⟨css2, hcs2, hrd2⟩ := kEu (HGE.o w9 F3r.o).2 (B := w9.heap.size) (fun _ h => h)
     have HC1 := hid (And.intro hcs hrd)
     have HC2 := hid (And.intro hcs2 hrd2)
     clear hcs hrd hcs2 hrd2 hlt hk
     refine rwO (fun X => Fr No w9 X) [] [0, 1, 3, 5, 2, 4, 6, 7, 8, 9, 10, 11, 12, 13, 14] [2, 4, 6, 7] (Fr.refl _ _).drew ?_
     repeat (first | refine oS ?_ | refine oX (fun X f => HMX.o X (FW.o.trans f (fun _ _ h => h))) ?_)
     refine wpO_eff rfl rfl fun K hK => sz ?_
     have F10 := hid ((Fr.refl No w9).drew.alloc (.cells #[] 94))
     have R10 := hid (Ty.row.lit (t := tGv) (S := Emp) (base := w9.heap.size) (css := []) (xs := []) (Blk.new w9.drew 94 #[]) nr Css.nil dc)
     refine hK _ _ (fun _ => F10.o) ?_
     clear hK K
     refine wpO_eff rfl rfl (fun K hK => ?_)
     simp only [List.getElem_toArray, List.getElem_cons_succ, List.getElem_cons_zero]
     refine kBV (t := tGv) (P := prog) (base := w9.heap.size) (S := Emp) (xs := []) (ys := l2) (dss := css2) (B2 := w9.heap.size) elGv rfl rfl rfl R10.o (HC2.o.1 _ _) (HC2.o.2.frNo F10.o) rfl (by have := HLL2.o; simp; omega) (by have := HLL2.o; simp; omega) (fun _ h => h.elim) F10.o.size ?_
     intro v1 w11 hr1 fr1 _
     have R11 := hid hr1
     have F11 : Hid (Fr No w9 w11) := F10.o.trans fr1 (fun i hi hh => by have h1 := (R10.o.own hh.symm).1; omega)
     refine hK _ _ (fun _ => F11.o) ?_
     clear hK K hr1 fr1
     simp only [Act.put, List.setIfInBounds_toArray, List.set_cons_zero, List.set_cons_succ]
     refine wpO_eff rfl rfl (fun K hK => ?_)
     simp only [List.getElem_toArray, List.getElem_cons_succ, List.getElem_cons_zero]
     refine kBV (t := tGv) (P := prog) (base := w9.heap.size) (S := Emp) (xs := [] ++ l2) (ys := l) (dss := css) (B2 := w9.heap.size) elGv rfl rfl rfl R11.o (HC1.o.1 _ _) (HC1.o.2.frNo F11.o) rfl (by have := HLL.o; have := HLL2.o; simp; omega) (by have := HLL.o; have := HLL2.o; simp; omega) (fun _ h => h.elim) F11.o.size ?_
     intro v2 w12 hr1 fr1 _
     have R12 := hid hr1
     have F12 : Hid (Fr No w9 w12) := F11.o.trans fr1 (fun i hi hh => by have h1 := (R11.o.own hh.symm).1; omega)
     refine hK _ _ (fun _ => F12.o) ?_
     clear hK K hr1 fr1
     simp only [Act.put, List.setIfInBounds_toArray, List.set_cons_zero, List.set_cons_succ]
     rw [List.nil_append] at R12
     obtain ⟨A5, c5, e5, l5, l6, E5⟩ := R12.o.els (S' := (· < w12.heap.size)) (fun _ h => h.elim) (fun g hg => by obtain ⟨_, cs, hb⟩ := R12.o.own hg; exact hb.lt)
     subst e5
     have F3t := hid (F3r.o.trans F12.o (fun _ _ h => h))
     have HRT := hid (HRS.o w12 F3t.o m.imports m.imports.length ci Ai (l2 ++ l) A5 c5 (HIE.o _ F3t.o) (by have := HIL.o; omega) rfl (by have := HLL.o; have := HLL2.o; rw [List.length_append]; omega) E5)
     rw [List.length_append] at HRT
     have HRTc := hid HRT.o
     clear HRT E5 R11 R12 R10 l5 l6
     refine wpO_eff rfl rfl fun K hK => sz ?_
     refine HRTc.o.mono ?_
     rintro e w13 ⟨f13, ⟨j, hj, -, hne, -⟩ | ⟨-, A13, c13, -, rfl, el13⟩⟩
     · exfalso
       have h := HZ.o _ (List.getElem_mem hj)
       exact hne ((congrArg Prod.snd (kGm h)).trans h)
     have F13 := hid (F12.o.trans f13 (fun _ _ h => h))
     have E13 : Hid (tEt.els w13 (· < w13.heap.size) A13 (m.imports.map fun im => (kCL l (fun im what => chkS X0 im { m with imports := m.imports } what) im).1)) := by
      have e : (m.imports.map fun im => (kCL (l2 ++ l) (fun im what => chkS X0 im { m with imports := m.imports } what) im).1) = m.imports.map fun im => (kCL l (fun im what => chkS X0 im { m with imports := m.imports } what) im).1 := List.map_congr_left (fun im him => by rw [kGm (HZ.o im him)])
      rw [← e]
      exact el13
     refine hK _ _ (fun _ => F13.o) ?_
     clear hK K f13 el13 HRTc
     repeat (first | refine oS ?_ | refine oX (fun X f => HMX.o X (FW.o.trans f (fun _ _ h => h))) ?_)
     refine wpO_nil ?_
     have FX := hid (F3.o.trans (F3r.o.trans F13.o (fun _ _ h => h)) (fun _ _ h => h))
     have HEX := hid (kFr (m.imports.map fun im => (kCL l (fun im what => chkS X0 im { m with imports := m.imports } what) im).1) A A13 c c13 m.imports.length m.imports.length w13 (by rw [List.length_map]) (by rw [List.length_map]) (els_up HEr.o F13.o (fun _ h => h) (fun k hk => ltl hk F13.o.size)) E13.o (by have := HIL.o; rw [List.length_map]; omega))
     clear E13 HEr HC1 HC2 HRS HCK HGE HIE HZ EL
     go_wp2_with fail
     refine HEX.o.mono ?_
     rintro e w14 ⟨rfl, f14⟩
     have F14 := hid (FX.o.trans f14 (fun _ _ h => h))
     clear f14 HEX
     go_wp2_with fail
     refine (HAL.o _).mono ?_
     rintro e w15 ⟨rfl, f15⟩
     have F15 := hid (F14.o.trans f15 (fun _ _ h => h))
     clear f15
     go_wp2_with fail
     go_ret
     exact ⟨rfl, F15.o⟩
theorem kJq (w : World) (v0 v1 v2 v3 : Value) (x0 : Rx) (x1 : Md) (x2 x3 : List Gv) (y0 : tRx.rd w (· < w.heap.size) v0.cells.toList x0) (y1 : tMd.rd w (· < w.heap.size) v1.cells.toList x1) (y2 : tGv.slice.rd w (· < w.heap.size) v2.cells.toList x2) (y3 : tGv.slice.rd w (· < w.heap.size) v3.cells.toList x3)
    (u0 : tRx.lw 140737488351232 x0) (u1 : tMd.lw 140737488351232 x1) (_ : tGv.slice.lw 140737488351232 x2) (_ : tGv.slice.lw 140737488351232 x3) (hv0 : ∃ cs, v0 = .agg cs) (hv1 : ∃ cs, v1 = .agg cs) (hv2 : ∃ A l c, v2 = .slice A l c) (hv3 : ∃ A l c, v3 = .slice A l c) :
    Calls prog 5 #[v0, v1, v2, v3] w fun e w' => e = .returned (.bool true) ∧ Below w.heap.size w w' := by
 obtain ⟨cs, rfl⟩ := hv0
 obtain ⟨ms, rfl⟩ := hv1
 obtain ⟨A, l, c, rfl⟩ := hv2
 obtain ⟨A2, l2, c2, rfl⟩ := hv3
 obtain ⟨A', c', e, _, _, h2⟩ := y2
 obtain ⟨A2', c2', e2, _, _, h3⟩ := y3
 simp only [Value.cells, List.cons.injEq, and_true, Value.slice.injEq] at e e2
 obtain ⟨rfl, rfl, rfl⟩ := e
 obtain ⟨rfl, rfl, rfl⟩ := e2
 have h0 : tRx.rd w (· < w.heap.size) cs.toList x0 := y0
 have h1 : tMd.rd w (· < w.heap.size) ms.toList x1 := y1
 have h := kJK x0 (cs := cs.toList) (ms := ms.toList) x1 x2 x3 A A2 c c2 w h0 (kHJ u0).1 (kHJ u0).2 h1 (kIB u1) h2 h3
 exact yy41
theorem kKn (nt ni nf nta nm ng ne nel nd nc ct ci cf cta cm cg ce cel cd cc : Nat) (At Ai Af Ata Am Ag Ae Ael Ad Ac : OA) (bst : Bool) (vst : Int) (w : World) (tys : List Fn) (i : Int) (S : Nat → Prop) (h : tFn.els w S At tys) (hS : Lt S w) (hn : Hid (tys.length = nt)) (hl : nt ≤ 100) :
    Calls prog 34 #[.agg #[.slice At nt ct, .slice Ai ni ci, .slice Af nf cf, .slice Ata nta cta, .slice Am nm cm, .slice Ag ng cg, .slice Ae ne ce, .bool bst, .int .i64 vst, .slice Ael nel cel, .slice Ad nd cd, .slice Ac nc cc], .int .i64 i] w (AtFn (atD zFn tys i).1 (atD zFn tys i).2 S w) := by
 have F1 := hid (((Fr.refl No w).alloc (.cells #[.slice At nt ct, .slice Ai ni ci, .slice Af nf cf, .slice Ata nta cta, .slice Am nm cm, .slice Ag ng cg, .slice Ae ne ce, .bool bst, .int .i64 vst, .slice Ael nel cel, .slice Ad nd cd, .slice Ac nc cc] 55)).alloc (.cells #[.slice none 0 0, .slice none 0 0] 78))
 rcases kBC tys i with ⟨k, hk, rfl⟩ | hi | ⟨hi0, hi⟩
 · obtain ⟨b, o, A1, c1, A2, c2, rfl, hb, y0, y1, _, _, e1, _, _, e2⟩ := kIq h k hk
   have hbx := hS b hb
   rw [kCQ hk]
   have i0 := nki k
   have i1 : (k : Int) < nt := by have := hn.o; omega
   have HS := hid hS
   have E1 := hid e1
   have E2 := hid e2
   generalize tys[k] = y at *
   clear h hS e1 e2 hk
   go_enter func34, ntmps34
   go_wp2
   refine bodyPost_ret (v := .tuple #[.agg #[.slice A1 y.params.length c1, .slice A2 y.results.length c2], .bool true]) (by simp [results, Tryz.results34, go_sem]) rfl ⟨A1, c1, A2, c2, rfl, ?_, ?_, ?_⟩
   · exact E1.o.fr (((Fr.refl No w).alloc _).alloc _) (fun k hk => ⟨HS.o k hk, fun x => x⟩)
   · exact E2.o.fr (((Fr.refl No w).alloc _).alloc _) (fun k hk => ⟨HS.o k hk, fun x => x⟩)
   exact ((Fr.refl No w).alloc _).alloc _
 · rw [kBI (.inl hi)]
   clear h hS
   exact yy36
 rw [kBI (.inr hi)]
 have hi1 : (nt : Int) ≤ i := by have := hn.o; omega
 clear h hS hi
 exact yy36
theorem Blk.at2 (w : World) (o1 o2 : Obj) (t : TypeId) (cs : Array Value) : Blk (((w.alloc o1).alloc o2).alloc (.cells cs t)) (w.heap.size + 1 + 1) t cs := by
 have := Blk.new ((w.alloc o1).alloc o2) t cs
 simpa using this
theorem Blk.at3 (w : World) (o1 o2 o3 : Obj) (t : TypeId) (cs : Array Value) : Blk ((((w.alloc o1).alloc o2).alloc o3).alloc (.cells cs t)) (w.heap.size + 1 + 1 + 1) t cs := by
 have := Blk.new (((w.alloc o1).alloc o2).alloc o3) t cs
 simpa using this
def fitE (b : Bool) : Int := if b then 0 else 26
theorem kBf (b : Bool) (w : World) : Calls prog 36 #[.bool b] w fun e w' => e = .returned (.int .i64 (fitE b)) ∧ w = w' := by
 cases b
 all_goals
  go_enter func36, ntmps36
  go_wp2
  go_ret
  exact ⟨rfl, rfl⟩
theorem kKI (n : Int) (a b : Lim) (w : World) :
    Calls prog 38 #[.int .i64 n, .agg #[.int .i64 a.min, .int .i64 a.max, .bool a.has], .agg #[.int .i64 b.min, .int .i64 b.max, .bool b.has]] w fun e w' => e = .returned (.bool (kDX n a b)) ∧ Fr No w w' := by
 go_enter func38, ntmps38
 go_wp2
 all_goals
  go_ret
  refine ⟨kAM ?_, ((Fr.refl No w).alloc _).alloc _⟩
  rw [Bool.eq_iff_iff]
  simp_all [kDX] <;> omega
theorem kKt (x : Rx) (t : Tb) (addr : Int) : kFh x t addr = if (atD zRt x.tabs addr).2 = true then fitE ((atD zRt x.tabs addr).1.t.elem == t.elem && kDX (atD zRt x.tabs addr).1.l.length (atD zRt x.tabs addr).1.t.lim t.lim) else 27 := by
 unfold kFh
 rcases kBC x.tabs addr with ⟨k, hk, rfl⟩ | hi | ⟨hi0, hi⟩
 · rw [kAp hk, kCQ hk]; rfl
 · rw [kFg (.inl hi), kBI (.inl hi)]; rfl
 rw [kFg (.inr hi), kBI (.inr hi)]; rfl
theorem kKu (x : Rx) (l : Lim) (addr : Int) : kCj x l addr = if (atD zRm x.mems addr).2 = true then fitE (kDX (((atD zRm x.mems addr).1.b.length / 256 : Nat) : Int) (atD zRm x.mems addr).1.lim l) else 27 := by
 unfold kCj
 rcases kBC x.mems addr with ⟨k, hk, rfl⟩ | hi | ⟨hi0, hi⟩
 · rw [kAp hk, kCQ hk]; rfl
 · rw [kFg (.inl hi), kBI (.inl hi)]; rfl
 rw [kFg (.inr hi), kBI (.inr hi)]; rfl
theorem kKa (x : Rx) (g : Gl) (addr : Int) : kCk x g addr = if (atD zRg x.globs addr).2 = true then fitE ((atD zRg x.globs addr).1.t.val == g.val && (atD zRg x.globs addr).1.t.mut_ == g.mut_) else 27 := by
 rw [kFc]
 cases (atD zRg x.globs addr).2 <;> rfl
theorem kKN (x : Rx) {cs : LV} (im : Im) (m : Md) (what : Et) (nt ni nf nta nm ng ne nel nd nc ct ci cf cta cm cg ce cel cd cc : Nat) (At Ai Af Ata Am Ag Ae Ael Ad Ac : OA) (bst : Bool) (vst : Int) (w : World) (hx : tRx.rd w (· < w.heap.size) cs x) (ht : tFn.els w (· < w.heap.size) At m.types) (hN : Hid (m.types.length = nt)) (hl : nt ≤ 100) (hlp : ∀ f ∈ m.types, f.params.length ≤ 140737488351232 ∧ f.results.length ≤ 140737488351232) (hlf : ∀ f ∈ x.funcs, f.ty.params.length ≤ 140737488351232 ∧ f.ty.results.length ≤ 140737488351232) (hlt : ∀ t ∈ x.tabs, t.l.length ≤ 140737488351232) (hlm : ∀ m ∈ x.mems, m.b.length ≤ 1000000) :
    Calls prog 13 #[.agg cs.toArray, .agg #[.string im.mod, .string im.name, .int .i64 im.kind, .int .i64 im.func, .int .i64 im.table.elem, .int .i64 im.table.lim.min, .int .i64 im.table.lim.max, .bool im.table.lim.has, .int .i64 im.mem.min, .int .i64 im.mem.max, .bool im.mem.has, .int .i64 im.glob.val, .bool im.glob.mut_], .agg #[.slice At nt ct, .slice Ai ni ci, .slice Af nf cf, .slice Ata nta cta, .slice Am nm cm, .slice Ag ng cg, .slice Ae ne ce, .bool bst, .int .i64 vst, .slice Ael nel cel, .slice Ad nd cd, .slice Ac nc cc], .agg #[.int .i64 what.kind, .int .i64 what.addr]] w fun e w' => e = .returned (.int .i64 (chkS x im m what)) ∧ Fr No w w' := by
 have F0 := hid (((((Fr.refl No w).alloc (.cells cs.toArray 33)).alloc (.cells #[.string im.mod, .string im.name, .int .i64 im.kind, .int .i64 im.func, .int .i64 im.table.elem, .int .i64 im.table.lim.min, .int .i64 im.table.lim.max, .bool im.table.lim.has, .int .i64 im.mem.min, .int .i64 im.mem.max, .bool im.mem.has, .int .i64 im.glob.val, .bool im.glob.mut_] 43)).alloc (.cells #[.slice At nt ct, .slice Ai ni ci, .slice Af nf cf, .slice Ata nta cta, .slice Am nm cm, .slice Ag ng cg, .slice Ae ne ce, .bool bst, .int .i64 vst, .slice Ael nel cel, .slice Ad nd cd, .slice Ac nc cc] 55)).alloc (.cells #[.int .i64 what.kind, .int .i64 what.addr] 57))
 have B0 := hid ((((Blk.new w 33 cs.toArray).alloc (.cells #[.string im.mod, .string im.name, .int .i64 im.kind, .int .i64 im.func, .int .i64 im.table.elem, .int .i64 im.table.lim.min, .int .i64 im.table.lim.max, .bool im.table.lim.has, .int .i64 im.mem.min, .int .i64 im.mem.max, .bool im.mem.has, .int .i64 im.glob.val, .bool im.glob.mut_] 43)).alloc (.cells #[.slice At nt ct, .slice Ai ni ci, .slice Af nf cf, .slice Ata nta cta, .slice Am nm cm, .slice Ag ng cg, .slice Ae ne ce, .bool bst, .int .i64 vst, .slice Ael nel cel, .slice Ad nd cd, .slice Ac nc cc] 55)).alloc (.cells #[.int .i64 what.kind, .int .i64 what.addr] 57))
 have B1 := hid (((Blk.new1 w (.cells cs.toArray 33) 43 #[.string im.mod, .string im.name, .int .i64 im.kind, .int .i64 im.func, .int .i64 im.table.elem, .int .i64 im.table.lim.min, .int .i64 im.table.lim.max, .bool im.table.lim.has, .int .i64 im.mem.min, .int .i64 im.mem.max, .bool im.mem.has, .int .i64 im.glob.val, .bool im.glob.mut_]).alloc (.cells #[.slice At nt ct, .slice Ai ni ci, .slice Af nf cf, .slice Ata nta cta, .slice Am nm cm, .slice Ag ng cg, .slice Ae ne ce, .bool bst, .int .i64 vst, .slice Ael nel cel, .slice Ad nd cd, .slice Ac nc cc] 55)).alloc (.cells #[.int .i64 what.kind, .int .i64 what.addr] 57))
 have B2 := hid ((Blk.at2 w (.cells cs.toArray 33) (.cells #[.string im.mod, .string im.name, .int .i64 im.kind, .int .i64 im.func, .int .i64 im.table.elem, .int .i64 im.table.lim.min, .int .i64 im.table.lim.max, .bool im.table.lim.has, .int .i64 im.mem.min, .int .i64 im.mem.max, .bool im.mem.has, .int .i64 im.glob.val, .bool im.glob.mut_] 43) 55 #[.slice At nt ct, .slice Ai ni ci, .slice Af nf cf, .slice Ata nta cta, .slice Am nm cm, .slice Ag ng cg, .slice Ae ne ce, .bool bst, .int .i64 vst, .slice Ael nel cel, .slice Ad nd cd, .slice Ac nc cc]).alloc (.cells #[.int .i64 what.kind, .int .i64 what.addr] 57))
 have B3 := hid (Blk.at3 w (.cells cs.toArray 33) (.cells #[.string im.mod, .string im.name, .int .i64 im.kind, .int .i64 im.func, .int .i64 im.table.elem, .int .i64 im.table.lim.min, .int .i64 im.table.lim.max, .bool im.table.lim.has, .int .i64 im.mem.min, .int .i64 im.mem.max, .bool im.mem.has, .int .i64 im.glob.val, .bool im.glob.mut_] 43) (.cells #[.slice At nt ct, .slice Ai ni ci, .slice Af nf cf, .slice Ata nta cta, .slice Am nm cm, .slice Ag ng cg, .slice Ae ne ce, .bool bst, .int .i64 vst, .slice Ael nel cel, .slice Ad nd cd, .slice Ac nc cc] 55) 57 #[.int .i64 what.kind, .int .i64 what.addr])
 have HL : Hid (cs.length = 10) := TyOk.len _ _ _ _ hx
 have HI : Hid ((prog.info? 33).map (·.size) = some cs.length) := by unfold Hid; rw [HL.o]; kernel_rfl
 have HRD : Hid (∀ X, Fr No w X → tRx.rd X (· < X.heap.size) cs x) := fun X f => kAO hx f i2 (fun k hk => ltl hk f.size)
 have HTY : Hid (∀ X, Fr No w X → Calls prog 34 #[.agg #[.slice At nt ct, .slice Ai ni ci, .slice Af nf cf, .slice Ata nta cta, .slice Am nm cm, .slice Ag ng cg, .slice Ae ne ce, .bool bst, .int .i64 vst, .slice Ael nel cel, .slice Ad nd cd, .slice Ac nc cc], .int .i64 im.func] X (AtFn (atD zFn m.types im.func).1 (atD zFn m.types im.func).2 (· < X.heap.size) X)) := fun X f => kKn nt ni nf nta nm ng ne nel nd nc ct ci cf cta cm cg ce cel cd cc At Ai Af Ata Am Ag Ae Ael Ad Ac bst vst X m.types im.func (· < X.heap.size) (els_up ht f i2 (fun k hk => ltl hk f.size)) i2 hN hl
 have HLT : Hid ((atD zFn m.types im.func).1.params.length ≤ 140737488351232 ∧ (atD zFn m.types im.func).1.results.length ≤ 140737488351232) := kBn (p := fun a : Fn => a.params.length ≤ 140737488351232 ∧ a.results.length ≤ 140737488351232) (d := zFn) (i := im.func) ⟨by simp [zFn], by simp [zFn]⟩ hlp
 have HLF : Hid ((atD zFi x.funcs what.addr).1.ty.params.length ≤ 140737488351232 ∧ (atD zFi x.funcs what.addr).1.ty.results.length ≤ 140737488351232) := kBn (p := fun a : Fi => a.ty.params.length ≤ 140737488351232 ∧ a.ty.results.length ≤ 140737488351232) (d := zFi) (i := what.addr) ⟨by simp [zFi, zFn], by simp [zFi, zFn]⟩ hlf
 have HLM : Hid ((atD zRm x.mems what.addr).1.b.length ≤ 1000000) := kBn (p := fun a : Rm => a.b.length ≤ 1000000) (d := zRm) (i := what.addr) (by simp [zRm]) hlm
 have HTL : Hid ((atD zRt x.tabs what.addr).1.l.length ≤ 140737488351232) := kBn (p := fun a : Rt => a.l.length ≤ 140737488351232) (d := zRt) (i := what.addr) (by simp [zRt]) hlt
 clear hx ht hN hl hlp hlf hlm hlt
 obtain ⟨rx, hrx⟩ : ∃ r, r = chkS x im m what := ⟨_, rfl⟩
 rw [← hrx]
 have HRX := hid hrx
 clear hrx
 go_enter func13, ntmps13
 go_upto_region 1 with fail
 generalize (((w.alloc (.cells cs.toArray 33)).alloc (.cells #[.string im.mod, .string im.name, .int .i64 im.kind, .int .i64 im.func, .int .i64 im.table.elem, .int .i64 im.table.lim.min, .int .i64 im.table.lim.max, .bool im.table.lim.has, .int .i64 im.mem.min, .int .i64 im.mem.max, .bool im.mem.has, .int .i64 im.glob.val, .bool im.glob.mut_] 43)).alloc (.cells #[.slice At nt ct, .slice Ai ni ci, .slice Af nf cf, .slice Ata nta cta, .slice Am nm cm, .slice Ag ng cg, .slice Ae ne ce, .bool bst, .int .i64 vst, .slice Ael nel cel, .slice Ad nd cd, .slice Ac nc cc] 55)).alloc (.cells #[.int .i64 what.kind, .int .i64 what.addr] 57) = W at *
 obtain ⟨p, hp⟩ : ∃ p, p = w.heap.size := ⟨_, rfl⟩
 rw [← hp] at B0 B1 B2 B3 ⊢
 clear hp
 have HR : Hid (∀ X, Fr No W X → X.rangeAt p 0 cs) := fun X f => by simpa using kBJ (B0.o.fr f id)
 have HX : Hid (∀ X, Fr No W X → (Ce X (p + 1) 0 (.string im.mod) ∧ Ce X (p + 1) 1 (.string im.name) ∧ Ce X (p + 1) 2 (.int .i64 im.kind) ∧ Ce X (p + 1) 3 (.int .i64 im.func) ∧ Ce X (p + 1) 4 (.int .i64 im.table.elem) ∧ Ce X (p + 1) 5 (.int .i64 im.table.lim.min) ∧ Ce X (p + 1) 6 (.int .i64 im.table.lim.max) ∧ Ce X (p + 1) 7 (.bool im.table.lim.has) ∧ Ce X (p + 1) 8 (.int .i64 im.mem.min) ∧ Ce X (p + 1) 9 (.int .i64 im.mem.max) ∧ Ce X (p + 1) 10 (.bool im.mem.has) ∧ Ce X (p + 1) 11 (.int .i64 im.glob.val) ∧ Ce X (p + 1) 12 (.bool im.glob.mut_)) ∧ (Ce X (p + 1 + 1) 0 (.slice At nt ct) ∧ Ce X (p + 1 + 1) 1 (.slice Ai ni ci) ∧ Ce X (p + 1 + 1) 2 (.slice Af nf cf) ∧ Ce X (p + 1 + 1) 3 (.slice Ata nta cta) ∧ Ce X (p + 1 + 1) 4 (.slice Am nm cm) ∧ Ce X (p + 1 + 1) 5 (.slice Ag ng cg) ∧ Ce X (p + 1 + 1) 6 (.slice Ae ne ce) ∧ Ce X (p + 1 + 1) 7 (.bool bst) ∧ Ce X (p + 1 + 1) 8 (.int .i64 vst) ∧ Ce X (p + 1 + 1) 9 (.slice Ael nel cel) ∧ Ce X (p + 1 + 1) 10 (.slice Ad nd cd) ∧ Ce X (p + 1 + 1) 11 (.slice Ac nc cc)) ∧ Ce X (p + 1 + 1 + 1) 0 (.int .i64 what.kind) ∧ Ce X (p + 1 + 1 + 1) 1 (.int .i64 what.addr)) := fun X f => by
  have h1 := B1.o.fr f id
  have h2 := B2.o.fr f id
  have h3 := B3.o.fr f id
  exact ⟨⟨h1.cell 0, h1.cell 1, h1.cell 2, h1.cell 3, h1.cell 4, h1.cell 5, h1.cell 6, h1.cell 7, h1.cell 8, h1.cell 9, h1.cell 10, h1.cell 11, h1.cell 12⟩, ⟨h2.cell 0, h2.cell 1, h2.cell 2, h2.cell 3, h2.cell 4, h2.cell 5, h2.cell 6, h2.cell 7, h2.cell 8, h2.cell 9, h2.cell 10, h2.cell 11⟩, h3.cell 0, h3.cell 1⟩
 clear B0 B1 B2 B3
 obtain ⟨⟨i0_, i1_, i2_, i3_, i4_, i5_, i6_, i7_, i8_, i9_, i10_, i11_, i12_⟩, ⟨m0_, m1_, m2_, m3_, m4_, m5_, m6_, m7_, m8_, m9_, m10_, m11_⟩, t0, t1⟩ := HX.o  W (Fr.refl _ _)
 by_cases hk : im.kind = what.kind
 case neg =>
  have hr := HRX.o
  unfold chkS at hr
  rw [if_pos (.inl hk)] at hr
  subst hr
  have d1 : (im.kind == what.kind) = false := by simpa using hk
  have d2 : (im.kind != what.kind) = true := by simpa using hk
  clear hk
  go_wp2_with fail
  go_ret
  exact ⟨rfl, F0.o⟩
 have hr := HRX.o
 unfold chkS at hr
 rw [← hk] at t0
 have HKW := hid hk
 clear hk
 by_cases k0 : im.kind = 0
 · rw [if_neg (by rw [← HKW.o, k0]; omega), if_pos k0] at hr
   replace HRX := hid hr
   have d0 : (im.kind == 0) = true := by simpa using k0
   clear hr k0
   unfold fnS at HRX
   have rST := hid (HR.o W (Fr.refl _ _))
   have HT0 := hid (HTY.o W F0.o)
   generalize (atD zFn m.types im.func).1 = f at *
   generalize (atD zFn m.types im.func).2 = ok1 at *
   go_wp2_with fail
   clear i0_ i1_ i2_ i3_ i4_ i5_ i6_ i7_ i8_ i9_ i10_ i11_ i12_ m0_ m1_ m2_ m3_ m4_ m5_ m6_ m7_ m8_ m9_ m10_ m11_ t0 t1
   refine HT0.o.mono ?_
   rintro e w1 ⟨A1, c1, A2, c2, rfl, k1, k2, f1⟩
   have FW1 := hid f1
   have F1 := ftr F0 f1
   have K1 := hid k1
   have K2 := hid k2
   clear k1 k2 f1 HT0 rST
   obtain ⟨⟨i0_, i1_, i2_, i3_, i4_, i5_, i6_, i7_, i8_, i9_, i10_, i11_, i12_⟩, ⟨m0_, m1_, m2_, m3_, m4_, m5_, m6_, m7_, m8_, m9_, m10_, m11_⟩, t0, t1⟩ := HX.o  w1 FW1.o
   cases ok1 with
   | false =>
    exact yy39
   | true =>
    have hr := HRX.o
    rw [if_pos rfl] at hr
    replace HRX := hid hr
    clear hr
    have F2a := hid ((Fr.refl No w1).alloc (.cells #[.slice A1 f.params.length c1, .slice A2 f.results.length c2] 78))
    have B2 := hid (Blk.new w1 78 #[.slice A1 f.params.length c1, .slice A2 f.results.length c2])
    go_upto_region 6 with fail
    clear i0_ i1_ i2_ i3_ i4_ i5_ i6_ i7_ i8_ i9_ i10_ i11_ i12_ m0_ m1_ m2_ m3_ m4_ m5_ m6_ m7_ m8_ m9_ m10_ m11_ t0 t1
    generalize w1.alloc (.cells #[.slice A1 f.params.length c1, .slice A2 f.results.length c2] 78) = W2 at *
    obtain ⟨q2, hq2⟩ : ∃ q, q = w1.heap.size := ⟨_, rfl⟩
    rw [← hq2] at B2 ⊢
    clear hq2
    have FW2 := ftr FW1 F2a.o
    have F2 := ftr F1 F2a.o
    have rST := hid (HR.o W2 FW2.o)
    have HF := hid (kKo (HRD.o W2 F2.o) i2 what.addr)
    generalize (atD zFi x.funcs what.addr).1 = g at *
    generalize (atD zFi x.funcs what.addr).2 = ok2 at *
    obtain ⟨⟨i0_, i1_, i2_, i3_, i4_, i5_, i6_, i7_, i8_, i9_, i10_, i11_, i12_⟩, ⟨m0_, m1_, m2_, m3_, m4_, m5_, m6_, m7_, m8_, m9_, m10_, m11_⟩, t0, t1⟩ := HX.o  W2 FW2.o
    go_wp2_with (first
   | (refine wpList_load_mid (by rfl) 33 _ (by rfl) p 0 (by rfl) _ _ rST.o underlying33 (by rfl) HI.o ?_)
   | fail)
    clear i0_ i1_ i2_ i3_ i4_ i5_ i6_ i7_ i8_ i9_ i10_ i11_ i12_ m0_ m1_ m2_ m3_ m4_ m5_ m6_ m7_ m8_ m9_ m10_ m11_ t0 t1 rST
    refine HF.o.mono ?_
    rintro e w3 ⟨ds, rfl, hrd, f3⟩
    obtain ⟨D1, d1, D2, d2, rfl, -, -, h1, -, -, h2, -⟩ := kCe hrd
    have F3 := ftr F2 f3
    have B3 := hid (B2.o.fr f3 id)
    have KF1 := hid (els_up K1.o (F2a.o.trans f3 i3) (fun k hk => ltl hk FW1.o.size) (fun k hk => ltl hk (FW2.o.trans f3 i3).size))
    have KF2 := hid (els_up K2.o (F2a.o.trans f3 i3) (fun k hk => ltl hk FW1.o.size) (fun k hk => ltl hk (FW2.o.trans f3 i3).size))
    have HS2 : Hid (∀ k, k < W2.heap.size → k < w3.heap.size) := fun k hk => ltl hk f3.size
    have G1 := hid h1
    have G2 := hid h2
    clear h1 h2 hrd f3 HF
    cases ok2 with
    | false =>
     have hr := HRX.o
     rw [if_neg dc] at hr
     subst hr
     clear HRX
     go_wp2_with fail
     go_ret
     exact ⟨rfl, F3.o.alloc _⟩
    | true =>
     have hr := HRX.o
     rw [if_pos rfl] at hr
     replace HRX := hid hr
     clear hr
     have F4a := hid ((Fr.refl No w3).alloc (.cells #[.slice D1 g.ty.params.length d1, .slice D2 g.ty.results.length d2, .int .i64 g.inst, .int .i64 g.index] 80))
     have y0 := (B3.o.alloc (.cells #[.slice D1 g.ty.params.length d1, .slice D2 g.ty.results.length d2, .int .i64 g.inst, .int .i64 g.index] 80)).cell 0
     have y1 := (B3.o.alloc (.cells #[.slice D1 g.ty.params.length d1, .slice D2 g.ty.results.length d2, .int .i64 g.inst, .int .i64 g.index] 80)).cell 1
     have HSM := hid (kKJ g.ty f D1 D2 A1 A2 d1 d2 c1 c2 (fun k => k < w3.heap.size) (fun k => k < w3.heap.size) (w3.alloc (.cells #[.slice D1 g.ty.params.length d1, .slice D2 g.ty.results.length d2, .int .i64 g.inst, .int .i64 g.index] 80)) (fun k hk => ltl hk F4a.o.size) (fun k hk => ltl hk F4a.o.size) (els_up G1.o F4a.o HS2.o HS2.o) (els_up G2.o F4a.o HS2.o HS2.o) (els_up KF1.o F4a.o i2 i2) (els_up KF2.o F4a.o i2 i2) HLF.o.1 HLF.o.2 HLT.o.1 HLT.o.2)
     go_wp2_with fail
     refine HSM.o.mono ?_
     rintro e w5 ⟨rfl, f5⟩
     have F5 := hid ((F3.o.trans F4a.o i3).trans f5 i3)
     clear f5 y0 y1 HSM
     go_wp2_with fail
     refine (kBf _ _).mono ?_
     rintro e w6 ⟨rfl, rfl⟩
     go_wp2_with fail
     go_ret
     exact ⟨by rw [HRX.o]; rfl, F5.o⟩
 have d0 : (im.kind == 0) = false := by simpa using k0
 by_cases k1 : im.kind = 1
 · rw [if_neg (by rw [← HKW.o, k1]; omega), if_neg k0, if_pos k1, kKt] at hr
   replace HRX := hid hr
   have d1 : (im.kind == 1) = true := by simpa using k1
   clear hr k0 k1
   have rST := hid (HR.o W (Fr.refl _ _))
   have HF := hid (kKd (HRD.o W F0.o) i2 what.addr)
   generalize (atD zRt x.tabs what.addr).1 = y at *
   generalize (atD zRt x.tabs what.addr).2 = ok1 at *
   go_wp2_with (first
   | (refine wpList_load_mid (by rfl) 33 _ (by rfl) p 0 (by rfl) _ _ rST.o underlying33 (by rfl) HI.o ?_)
   | fail)
   clear i0_ i1_ i2_ i3_ i4_ i5_ i6_ i7_ i8_ i9_ i10_ i11_ i12_ m0_ m1_ m2_ m3_ m4_ m5_ m6_ m7_ m8_ m9_ m10_ m11_ t0 t1 rST
   refine HF.o.mono ?_
   rintro e w1 ⟨ds, rfl, hrd, f1⟩
   obtain ⟨A1, c1, rfl, -⟩ := kHA hrd
   have F1 := ftr F0 f1
   have FW1 := hid f1
   clear hrd f1 HF
   cases ok1 with
   | false =>
    exact yy39
   | true =>
    have hr := HRX.o
    rw [if_pos rfl] at hr
    replace HRX := hid hr
    clear hr
    have F2a := hid ((Fr.refl No w1).alloc (.cells #[.int .i64 y.t.elem, .int .i64 y.t.lim.min, .int .i64 y.t.lim.max, .bool y.t.lim.has, .slice A1 y.l.length c1] 126))
    have B2 := hid (Blk.new w1 126 #[.int .i64 y.t.elem, .int .i64 y.t.lim.min, .int .i64 y.t.lim.max, .bool y.t.lim.has, .slice A1 y.l.length c1])
    go_upto_region 14 with fail
    generalize w1.alloc (.cells #[.int .i64 y.t.elem, .int .i64 y.t.lim.min, .int .i64 y.t.lim.max, .bool y.t.lim.has, .slice A1 y.l.length c1] 126) = W2 at *
    obtain ⟨q2, hq2⟩ : ∃ q, q = w1.heap.size := ⟨_, rfl⟩
    rw [← hq2] at B2 ⊢
    clear hq2
    have FW2 := ftr FW1 F2a.o
    have F2 := ftr F1 F2a.o
    obtain ⟨⟨i0_, i1_, i2_, i3_, i4_, i5_, i6_, i7_, i8_, i9_, i10_, i11_, i12_⟩, ⟨m0_, m1_, m2_, m3_, m4_, m5_, m6_, m7_, m8_, m9_, m10_, m11_⟩, t0, t1⟩ := HX.o  W2 FW2.o
    have b0 := B2.o.cell 0
    have b1 := B2.o.cell 1
    have b2 := B2.o.cell 2
    have b3 := B2.o.cell 3
    have b4 := B2.o.cell 4
    cases he : (y.t.elem == im.table.elem) with
    | false =>
     have HHE := hid he
     go_wp2_with fail
     refine (kBf _ _).mono ?_
     rintro e w3 ⟨rfl, rfl⟩
     clear i0_ i1_ i2_ i3_ i4_ i5_ i6_ i7_ i8_ i9_ i10_ i11_ i12_ m0_ m1_ m2_ m3_ m4_ m5_ m6_ m7_ m8_ m9_ m10_ m11_ t0 t1 b0 b1 b2 b3 b4 he
     go_wp2_with fail
     go_ret
     exact ⟨by rw [HRX.o, HHE.o]; rfl, F2.o⟩
    | true =>
     have HHE := hid he
     have HFI := hid (kKI (y.l.length : Int) y.t.lim im.table.lim W2)
     go_wp2_with fail
     refine HFI.o.mono ?_
     rintro e w3 ⟨rfl, f3⟩
     have F3 := ftr F2 f3
     clear f3 i0_ i1_ i2_ i3_ i4_ i5_ i6_ i7_ i8_ i9_ i10_ i11_ i12_ m0_ m1_ m2_ m3_ m4_ m5_ m6_ m7_ m8_ m9_ m10_ m11_ t0 t1 b0 b1 b2 b3 b4 he HFI
     go_wp2_with fail
     refine (kBf _ _).mono ?_
     rintro e w4 ⟨rfl, rfl⟩
     go_wp2_with fail
     go_ret
     exact ⟨by rw [HRX.o, HHE.o, Bool.true_and]; rfl, F3.o⟩
 have d1 : (im.kind == 1) = false := by simpa using k1
 by_cases k2 : im.kind = 2
 · rw [if_neg (by rw [← HKW.o, k2]; omega), if_neg k0, if_neg k1, if_pos k2, kKu] at hr
   replace HRX := hid hr
   have d2 : (im.kind == 2) = true := by simpa using k2
   clear hr k0 k1 k2
   have rST := hid (HR.o W (Fr.refl _ _))
   have HF := hid (kKw (HRD.o W F0.o) i2 what.addr)
   generalize (atD zRm x.mems what.addr).1 = y at *
   generalize (atD zRm x.mems what.addr).2 = ok1 at *
   go_wp2_with (first
   | (refine wpList_load_mid (by rfl) 33 _ (by rfl) p 0 (by rfl) _ _ rST.o underlying33 (by rfl) HI.o ?_)
   | fail)
   clear i0_ i1_ i2_ i3_ i4_ i5_ i6_ i7_ i8_ i9_ i10_ i11_ i12_ m0_ m1_ m2_ m3_ m4_ m5_ m6_ m7_ m8_ m9_ m10_ m11_ t0 t1 rST
   refine HF.o.mono ?_
   rintro e w1 ⟨ds, rfl, hrd, f1⟩
   obtain ⟨A1, c1, rfl, -⟩ := kHB hrd
   have F1 := ftr F0 f1
   have FW1 := hid f1
   clear hrd f1 HF
   cases ok1 with
   | false =>
    exact yy39
   | true =>
    have hr := HRX.o
    rw [if_pos rfl] at hr
    replace HRX := hid hr
    clear hr
    have F2a := hid ((Fr.refl No w1).alloc (.cells #[.int .i64 y.lim.min, .int .i64 y.lim.max, .bool y.lim.has, .slice A1 y.b.length c1] 89))
    have B2 := hid (Blk.new w1 89 #[.int .i64 y.lim.min, .int .i64 y.lim.max, .bool y.lim.has, .slice A1 y.b.length c1])
    go_upto_region 19 with fail
    generalize w1.alloc (.cells #[.int .i64 y.lim.min, .int .i64 y.lim.max, .bool y.lim.has, .slice A1 y.b.length c1] 89) = W2 at *
    obtain ⟨q2, hq2⟩ : ∃ q, q = w1.heap.size := ⟨_, rfl⟩
    rw [← hq2] at B2 ⊢
    clear hq2
    have FW2 := ftr FW1 F2a.o
    have F2 := ftr F1 F2a.o
    go_upto_region 21 with fail
    have HY : Hid (∀ X, Fr No W2 X → Ce X q2 0 (.int .i64 y.lim.min) ∧ Ce X q2 1 (.int .i64 y.lim.max) ∧ Ce X q2 2 (.bool y.lim.has) ∧ Ce X q2 3 (.slice A1 y.b.length c1) ∧ Ce X (p + 1) 8 (.int .i64 im.mem.min) ∧ Ce X (p + 1) 9 (.int .i64 im.mem.max) ∧ Ce X (p + 1) 10 (.bool im.mem.has)) := fun X f => by
     have h := B2.o.fr f id
     obtain ⟨⟨i0_, i1_, i2_, i3_, i4_, i5_, i6_, i7_, i8_, i9_, i10_, i11_, i12_⟩, ⟨m0_, m1_, m2_, m3_, m4_, m5_, m6_, m7_, m8_, m9_, m10_, m11_⟩, t0, t1⟩ := HX.o  X (FW2.o.trans f i3)
     exact ⟨h.cell 0, h.cell 1, h.cell 2, h.cell 3, i8_, i9_, i10_⟩
    refine rwO (Fr No W2) [] [0, 2, 3, 4, 5, 1, 6, 7, 8] [1, 6, 7] (Fr.refl _ _).drew ?_
    refine rO HY.o ?_
    refine wpO_eff rfl rfl fun K hK => sz ?_
    refine (kKb y.lim A1 y.b.length c1 _ HLM.o).mono ?_
    rintro e w3 ⟨rfl, f3⟩
    have F3 := hid ((Fr.refl No W2).drew.trans f3 i3)
    refine hK _ _ (fun _ => F3.o) ?_
    clear hK K f3
    refine wpO_eff rfl rfl fun K hK => sz ?_
    refine (kKI _ y.lim im.mem _).mono ?_
    rintro e w4 ⟨rfl, f4⟩
    have F4 := ftr F3 f4
    refine hK _ _ (fun _ => F4.o) ?_
    clear hK K f4
    refine wpO_eff rfl rfl fun K hK => sz ?_
    refine (kBf _ _).mono ?_
    rintro e w5 ⟨rfl, rfl⟩
    refine hK _ _ (fun _ => F4.o) ?_
    clear hK K
    refine rO HY.o ?_
    refine wpO_nil ?_
    have FF := ftr F2 F4.o
    go_wp2_with fail
    go_ret
    exact ⟨by rw [HRX.o]; rfl, FF.o⟩
 have d2 : (im.kind == 2) = false := by simpa using k2
 by_cases k3 : im.kind = 3
 · rw [if_neg (by rw [← HKW.o, k3]; omega), if_neg k0, if_neg k1, if_neg k2, kKa] at hr
   replace HRX := hid hr
   have d3 : (im.kind == 3) = true := by simpa using k3
   clear hr k0 k1 k2 k3
   have rST := hid (HR.o W (Fr.refl _ _))
   have HF := hid (kKW (HRD.o W F0.o) i2 what.addr)
   generalize (atD zRg x.globs what.addr).1 = y at *
   generalize (atD zRg x.globs what.addr).2 = ok1 at *
   go_wp2_with (first
   | (refine wpList_load_mid (by rfl) 33 _ (by rfl) p 0 (by rfl) _ _ rST.o underlying33 (by rfl) HI.o ?_)
   | fail)
   clear i0_ i1_ i2_ i3_ i4_ i5_ i6_ i7_ i8_ i9_ i10_ i11_ i12_ m0_ m1_ m2_ m3_ m4_ m5_ m6_ m7_ m8_ m9_ m10_ m11_ t0 t1 rST
   refine HF.o.mono ?_
   rintro e w1 ⟨rfl, f1⟩
   have F1 := ftr F0 f1
   have FW1 := hid f1
   clear f1 HF
   cases ok1 with
   | false =>
    have hr := HRX.o
    rw [if_neg dc] at hr
    subst hr
    clear HRX
    go_wp2_with fail
    go_ret
    exact ⟨rfl, (F1.o.alloc _).alloc _⟩
   | true =>
    have hr := HRX.o
    rw [if_pos rfl] at hr
    replace HRX := hid hr
    clear hr
    have F2a := hid (((Fr.refl No w1).alloc (.cells #[.int .i64 y.t.val, .bool y.t.mut_] 41)).alloc (.cells #[.int .i64 y.v.t, .int .u64 y.v.n] 84))
    have B2 := hid ((Blk.new w1 41 #[.int .i64 y.t.val, .bool y.t.mut_]).alloc (.cells #[.int .i64 y.v.t, .int .u64 y.v.n] 84))
    go_upto_region 24 with fail
    generalize (w1.alloc (.cells #[.int .i64 y.t.val, .bool y.t.mut_] 41)).alloc (.cells #[.int .i64 y.v.t, .int .u64 y.v.n] 84) = W2 at *
    obtain ⟨q2, hq2⟩ : ∃ q, q = w1.heap.size := ⟨_, rfl⟩
    rw [← hq2] at B2 ⊢
    clear hq2
    have FW2 := ftr FW1 F2a.o
    have F2 := ftr F1 F2a.o
    obtain ⟨⟨i0_, i1_, i2_, i3_, i4_, i5_, i6_, i7_, i8_, i9_, i10_, i11_, i12_⟩, ⟨m0_, m1_, m2_, m3_, m4_, m5_, m6_, m7_, m8_, m9_, m10_, m11_⟩, t0, t1⟩ := HX.o  W2 FW2.o
    have b0 := B2.o.cell 0
    have b1 := B2.o.cell 1
    have q := fun X => kFi y.t.val im.glob.val y.t.mut_ im.glob.mut_ X
    go_wp2_with fail
    refine (kBf _ _).mono ?_
    rintro e w3 ⟨rfl, rfl⟩
    clear i0_ i1_ i2_ i3_ i4_ i5_ i6_ i7_ i8_ i9_ i10_ i11_ i12_ m0_ m1_ m2_ m3_ m4_ m5_ m6_ m7_ m8_ m9_ m10_ m11_ t0 t1 b0 b1 q
    go_wp2_with fail
    go_ret
    exact ⟨by rw [HRX.o]; cases (y.t.val == im.glob.val) <;> cases (y.t.mut_ == im.glob.mut_) <;> rfl, F2.o⟩
 have d3 : (im.kind == 3) = false := by simpa using k3
 rw [if_pos (.inr (by omega))] at hr
 subst hr
 clear k0 k1 k2 k3 HRX
 go_wp2_with fail
 go_ret
 exact ⟨rfl, F0.o⟩
end Go.Proofs.YthggdemiddjlgaaGreat
