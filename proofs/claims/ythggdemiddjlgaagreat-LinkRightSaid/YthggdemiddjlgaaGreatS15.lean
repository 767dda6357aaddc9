/- Part 15 of the proof: lemmas and contracts of functions. No condition. -/
import Derived.Test.YthggdemiddjlgaaGreatS14
import Derived.Test.YthggdemiddjlgaaGreatS1
set_option maxRecDepth 100000
set_option maxHeartbeats 12800000
set_option linter.unusedVariables false
set_option linter.unusedSimpArgs false
set_option linter.unusedSectionVars false
namespace Go.Proofs.YthggdemiddjlgaaGreat
open Go.RowKit Go.Proofs.Tryz
structure RxU (x : Rx) : Prop where
 t : ∀ t ∈ x.tabs, t.l.length ≤ 1048576
 m : ∀ m ∈ x.mems, m.b.length ≤ 1048576
theorem kKh {m : Md} (u : tMd.le 1048576 m) : LtW m := by
 obtain ⟨u0, u1, u2, -, -, u5, u6, -, -, u9, u10, u11⟩ := u
 have b {n : Nat} (h : n ≤ 1048576) : n ≤ 140737488351232 := Nat.le_trans h dc
 exact ⟨fun a ha => ⟨b (u0.2 a ha).1.1, b (u0.2 a ha).2.1⟩, fun a ha => ⟨b (u1.2 a ha).1, b (u1.2 a ha).2.1⟩, fun a ha => ⟨b (u2.2 a ha).2.1.1, b (u2.2 a ha).2.2.1⟩, fun a ha => b (u5.2 a ha).2.1, fun a ha => b (u6.2 a ha).1,
  fun a ha => ⟨b (u9.2 a ha).2.2.1.1, fun l hl => b ((u9.2 a ha).2.2.2.2.2 l hl).1⟩, fun a ha => ⟨b (u10.2 a ha).2.2.2.1, b (u10.2 a ha).2.2.1.1⟩, fun a ha => ⟨b (u11.2 a ha).2.2.1, b (u11.2 a ha).2.1⟩⟩
theorem kCO {x : Rx} (u : tRx.le 1048576 x) : LxW x ∧ RxK x ∧ RxU x := by
 obtain ⟨uh, -, -, uf, ut, um, -, -, -, ui⟩ := u
 have b {n : Nat} (h : n ≤ 1048576) : n ≤ 140737488351232 := Nat.le_trans h dc
 exact ⟨⟨fun h hh => ⟨b (uh.2 h hh).2.2.1.1.1, b (uh.2 h hh).2.2.1.2.1⟩, fun f hf => ⟨b (uf.2 f hf).1.1.1, b (uf.2 f hf).1.2.1⟩, fun i hi => ⟨kKh (ui.2 i hi).1, by
     obtain ⟨a0, a1, a2, a3, a4, a5⟩ := (ui.2 i hi).2
     exact ⟨b a0.1, b a1.1, b a2.1, b a3.1, b a4.1, b a5.1⟩⟩⟩,
  ⟨fun h hh a ha => by have h1 : a.vals.length ≤ 1048576 := ((uh.2 h hh).2.2.2.2 a ha).2.1.1; omega, fun t ht => b (ut.2 t ht).2.1, fun m hm => b (um.2 m hm).2.1⟩, ⟨fun t ht => (ut.2 t ht).2.1, fun m hm => (um.2 m hm).2.1⟩⟩
theorem kKv {x : Rx} {b c : Nat} (q : MkQ x b c) {t : Rt} (ht : t ∈ x.tabs.take b) (hl : t.l.length ≤ 1048576) : (tabN t).l.length = t.l.length := by
 have h := q.t t ht
 unfold tabN
 simp only [List.length_replicate]
 omega
theorem kDT {x : Rx} {b c : Nat} (q : MkQ x b c) {m : Rm} (hm : m ∈ x.mems.take c) (hl : m.b.length ≤ 1048576) : (memN m).b.length / 256 = m.b.length / 256 ∧ m.b.length ≤ 1000000 := by
 have h := q.m m hm
 unfold memN at *
 simp only [List.length_replicate] at *
 omega
theorem kKQ {x : Rx} (q : MkQ x x.tabs.length x.mems.length) (u : RxU x) (im : Im) (m : Md) (what : Et) : chkS (kAE x x.funcs.length x.tabs.length x.mems.length x.globs.length x.insts.length) im m what = chkS x im m what := by
 have e1 : fnS (kAE x x.funcs.length x.tabs.length x.mems.length x.globs.length x.insts.length) im.func m what.addr = fnS x im.func m what.addr := by
  unfold fnS kAE
  simp only [List.take_length]
 have e2 : kFh (kAE x x.funcs.length x.tabs.length x.mems.length x.globs.length x.insts.length) im.table what.addr = kFh x im.table what.addr := by
  unfold kFh kAE
  simp only [List.take_length, kDo]
  cases h : getI x.tabs what.addr with
  | none => rfl
  | some y =>
   have hy : y ∈ x.tabs := List.mem_of_getElem? (kDI h).2
   show kCr true ((tabN y).t.elem == im.table.elem && kDX ((tabN y).l.length : Int) (tabN y).t.lim im.table.lim) = _
   rw [kKv q (by rw [List.take_length]; exact hy) (u.t y hy)]
   rfl
 have e3 : kCj (kAE x x.funcs.length x.tabs.length x.mems.length x.globs.length x.insts.length) im.mem what.addr = kCj x im.mem what.addr := by
  unfold kCj kAE
  simp only [List.take_length, kDo]
  cases h : getI x.mems what.addr with
  | none => rfl
  | some y =>
   have hy : y ∈ x.mems := List.mem_of_getElem? (kDI h).2
   show kCr true (kDX (((memN y).b.length / 256 : Nat) : Int) (memN y).lim im.mem) = _
   rw [(kDT q (by rw [List.take_length]; exact hy) (u.m y hy)).1]
   rfl
 have e4 : kCk (kAE x x.funcs.length x.tabs.length x.mems.length x.globs.length x.insts.length) im.glob what.addr = kCk x im.glob what.addr := by
  unfold kCk kAE
  simp only [List.take_length]
 unfold chkS
 rw [e1, e2, e3, e4]
theorem kKr (im : Im) (v w0 : Array Value) (what : Et) (hv : v.size = 12) (w : World) : Calls prog 12 #[.pointer none, .agg #[.string im.mod, .string im.name, .int .i64 im.kind, .int .i64 im.func, .int .i64 im.table.elem, .int .i64 im.table.lim.min, .int .i64 im.table.lim.max, .bool im.table.lim.has, .int .i64 im.mem.min, .int .i64 im.mem.max, .bool im.mem.has, .int .i64 im.glob.val, .bool im.glob.mut_], .agg v, .agg #[.int .i64 what.kind, .int .i64 what.addr]] w fun e w' => e = .returned (.int .i64 2) ∧ Fr No w w' := by
 have F0 := hid ((((Fr.refl No w).alloc (.cells #[.string im.mod, .string im.name, .int .i64 im.kind, .int .i64 im.func, .int .i64 im.table.elem, .int .i64 im.table.lim.min, .int .i64 im.table.lim.max, .bool im.table.lim.has, .int .i64 im.mem.min, .int .i64 im.mem.max, .bool im.mem.has, .int .i64 im.glob.val, .bool im.glob.mut_] 43)).alloc (.cells v 55)).alloc (.cells #[.int .i64 what.kind, .int .i64 what.addr] 57))
 exact yy53
theorem kKX (x : Rx) {cs ms : LV} (im : Im) (m : Md) (what : Et) (w : World) (hx : tRx.rd w (· < w.heap.size) cs x) (hw : LxW x) (hk : RxK x) (hu : RxU x) (hm : tMd.rd w (· < w.heap.size) ms m) (hmw : LtW m) :
    Calls prog 3 #[.agg cs.toArray, .agg #[.string im.mod, .string im.name, .int .i64 im.kind, .int .i64 im.func, .int .i64 im.table.elem, .int .i64 im.table.lim.min, .int .i64 im.table.lim.max, .bool im.table.lim.has, .int .i64 im.mem.min, .int .i64 im.mem.max, .bool im.mem.has, .int .i64 im.glob.val, .bool im.glob.mut_], .agg ms.toArray, .agg #[.int .i64 what.kind, .int .i64 what.addr]] w fun e w' => e = .returned (.bool true) ∧ Fr No w w' := by
 have HM := hid hm
 obtain ⟨At, ct, Ai, ci, Af, cf, Ata, cta, Am, cm, Ag, cg, Ae, ce, Ael, cel, Ad, cd, Ac, cc, hms, -, -, e0, -, -, e1, -, -, e2, -, -, e3, -, -, e4, -, -, e5, -, -, e6, -, -, -, e7, -⟩ := kBS hm
 subst hms
 have HMI := hid (fun hb : LtB m => kJo e0 e1 e2 e3 e4 e5 e6 e7 hb)
 have HTE := hid e0
 have HL : Hid (cs.length = 10) := TyOk.len _ _ _ _ hx
 have HI : Hid ((prog.info? 33).map (·.size) = some cs.length) := by unfold Hid; rw [HL.o]; kernel_rfl
 have HRD : Hid (∀ X, Fr No w X → tRx.rd X (· < X.heap.size) cs x) := fun X f => kAO hx f i2 (fun k hk => ltl hk f.size)
 have HMRD : Hid (∀ X, Fr No w X → tMd.rd X (· < X.heap.size) [.slice At m.types.length ct, .slice Ai m.imports.length ci, .slice Af m.funcs.length cf, .slice Ata m.tables.length cta, .slice Am m.mems.length cm, .slice Ag m.globals.length cg, .slice Ae m.exports.length ce, .bool m.hasStart, .int .i64 m.start, .slice Ael m.elems.length cel, .slice Ad m.datas.length cd, .slice Ac m.customs.length cc] m) := fun X f => kAO HM.o f i2 (fun k hk => ltl hk f.size)
 have HW := hid hw
 have HMW := hid hmw
 have HK := hid hk
 have HU := hid hu
 have F0 := hid (((((Fr.refl No w).alloc (.cells cs.toArray 33)).alloc (.cells #[.string im.mod, .string im.name, .int .i64 im.kind, .int .i64 im.func, .int .i64 im.table.elem, .int .i64 im.table.lim.min, .int .i64 im.table.lim.max, .bool im.table.lim.has, .int .i64 im.mem.min, .int .i64 im.mem.max, .bool im.mem.has, .int .i64 im.glob.val, .bool im.glob.mut_] 43)).alloc (.cells #[.slice At m.types.length ct, .slice Ai m.imports.length ci, .slice Af m.funcs.length cf, .slice Ata m.tables.length cta, .slice Am m.mems.length cm, .slice Ag m.globals.length cg, .slice Ae m.exports.length ce, .bool m.hasStart, .int .i64 m.start, .slice Ael m.elems.length cel, .slice Ad m.datas.length cd, .slice Ac m.customs.length cc] 55)).alloc (.cells #[.int .i64 what.kind, .int .i64 what.addr] 57))
 have B0 := hid ((((Blk.new w 33 cs.toArray).alloc (.cells #[.string im.mod, .string im.name, .int .i64 im.kind, .int .i64 im.func, .int .i64 im.table.elem, .int .i64 im.table.lim.min, .int .i64 im.table.lim.max, .bool im.table.lim.has, .int .i64 im.mem.min, .int .i64 im.mem.max, .bool im.mem.has, .int .i64 im.glob.val, .bool im.glob.mut_] 43)).alloc (.cells #[.slice At m.types.length ct, .slice Ai m.imports.length ci, .slice Af m.funcs.length cf, .slice Ata m.tables.length cta, .slice Am m.mems.length cm, .slice Ag m.globals.length cg, .slice Ae m.exports.length ce, .bool m.hasStart, .int .i64 m.start, .slice Ael m.elems.length cel, .slice Ad m.datas.length cd, .slice Ac m.customs.length cc] 55)).alloc (.cells #[.int .i64 what.kind, .int .i64 what.addr] 57))
 have B1 := hid (((Blk.new1 w (.cells cs.toArray 33) 43 #[.string im.mod, .string im.name, .int .i64 im.kind, .int .i64 im.func, .int .i64 im.table.elem, .int .i64 im.table.lim.min, .int .i64 im.table.lim.max, .bool im.table.lim.has, .int .i64 im.mem.min, .int .i64 im.mem.max, .bool im.mem.has, .int .i64 im.glob.val, .bool im.glob.mut_]).alloc (.cells #[.slice At m.types.length ct, .slice Ai m.imports.length ci, .slice Af m.funcs.length cf, .slice Ata m.tables.length cta, .slice Am m.mems.length cm, .slice Ag m.globals.length cg, .slice Ae m.exports.length ce, .bool m.hasStart, .int .i64 m.start, .slice Ael m.elems.length cel, .slice Ad m.datas.length cd, .slice Ac m.customs.length cc] 55)).alloc (.cells #[.int .i64 what.kind, .int .i64 what.addr] 57))
 have B2 := hid ((Blk.at2 w (.cells cs.toArray 33) (.cells #[.string im.mod, .string im.name, .int .i64 im.kind, .int .i64 im.func, .int .i64 im.table.elem, .int .i64 im.table.lim.min, .int .i64 im.table.lim.max, .bool im.table.lim.has, .int .i64 im.mem.min, .int .i64 im.mem.max, .bool im.mem.has, .int .i64 im.glob.val, .bool im.glob.mut_] 43) 55 #[.slice At m.types.length ct, .slice Ai m.imports.length ci, .slice Af m.funcs.length cf, .slice Ata m.tables.length cta, .slice Am m.mems.length cm, .slice Ag m.globals.length cg, .slice Ae m.exports.length ce, .bool m.hasStart, .int .i64 m.start, .slice Ael m.elems.length cel, .slice Ad m.datas.length cd, .slice Ac m.customs.length cc]).alloc (.cells #[.int .i64 what.kind, .int .i64 what.addr] 57))
 have B3 := hid (Blk.at3 w (.cells cs.toArray 33) (.cells #[.string im.mod, .string im.name, .int .i64 im.kind, .int .i64 im.func, .int .i64 im.table.elem, .int .i64 im.table.lim.min, .int .i64 im.table.lim.max, .bool im.table.lim.has, .int .i64 im.mem.min, .int .i64 im.mem.max, .bool im.mem.has, .int .i64 im.glob.val, .bool im.glob.mut_] 43) (.cells #[.slice At m.types.length ct, .slice Ai m.imports.length ci, .slice Af m.funcs.length cf, .slice Ata m.tables.length cta, .slice Am m.mems.length cm, .slice Ag m.globals.length cg, .slice Ae m.exports.length ce, .bool m.hasStart, .int .i64 m.start, .slice Ael m.elems.length cel, .slice Ad m.datas.length cd, .slice Ac m.customs.length cc] 55) 57 #[.int .i64 what.kind, .int .i64 what.addr])
 have HAL := hid (fun X => kEb X)
 clear hx hw hk hu hm hmw e0 e1 e2 e3 e4 e5 e6 e7 HM
 go_enter func3, ntmps3
 go_upto_region 1 with fail
 generalize (((w.alloc (.cells cs.toArray 33)).alloc (.cells #[.string im.mod, .string im.name, .int .i64 im.kind, .int .i64 im.func, .int .i64 im.table.elem, .int .i64 im.table.lim.min, .int .i64 im.table.lim.max, .bool im.table.lim.has, .int .i64 im.mem.min, .int .i64 im.mem.max, .bool im.mem.has, .int .i64 im.glob.val, .bool im.glob.mut_] 43)).alloc (.cells #[.slice At m.types.length ct, .slice Ai m.imports.length ci, .slice Af m.funcs.length cf, .slice Ata m.tables.length cta, .slice Am m.mems.length cm, .slice Ag m.globals.length cg, .slice Ae m.exports.length ce, .bool m.hasStart, .int .i64 m.start, .slice Ael m.elems.length cel, .slice Ad m.datas.length cd, .slice Ac m.customs.length cc] 55)).alloc (.cells #[.int .i64 what.kind, .int .i64 what.addr] 57) = W at *
 obtain ⟨p, hp⟩ : ∃ p, p = w.heap.size := ⟨_, rfl⟩
 rw [← hp] at B0 B1 B2 B3 ⊢
 clear hp
 have HR : Hid (∀ X, Fr No W X → X.rangeAt p 0 cs) := fun X f => by simpa using kBJ (B0.o.fr f id)
 have HX : Hid (∀ X, Fr No W X → Ce X (p + 1) 0 (.string im.mod) ∧ Ce X (p + 1) 1 (.string im.name) ∧ Ce X (p + 1) 2 (.int .i64 im.kind) ∧ Ce X (p + 1) 3 (.int .i64 im.func) ∧ Ce X (p + 1) 4 (.int .i64 im.table.elem) ∧ Ce X (p + 1) 5 (.int .i64 im.table.lim.min) ∧ Ce X (p + 1) 6 (.int .i64 im.table.lim.max) ∧ Ce X (p + 1) 7 (.bool im.table.lim.has) ∧ Ce X (p + 1) 8 (.int .i64 im.mem.min) ∧ Ce X (p + 1) 9 (.int .i64 im.mem.max) ∧ Ce X (p + 1) 10 (.bool im.mem.has) ∧ Ce X (p + 1) 11 (.int .i64 im.glob.val) ∧ Ce X (p + 1) 12 (.bool im.glob.mut_) ∧ Ce X (p + 1 + 1) 0 (.slice At m.types.length ct) ∧ Ce X (p + 1 + 1) 1 (.slice Ai m.imports.length ci) ∧ Ce X (p + 1 + 1) 2 (.slice Af m.funcs.length cf) ∧ Ce X (p + 1 + 1) 3 (.slice Ata m.tables.length cta) ∧ Ce X (p + 1 + 1) 4 (.slice Am m.mems.length cm) ∧ Ce X (p + 1 + 1) 5 (.slice Ag m.globals.length cg) ∧ Ce X (p + 1 + 1) 6 (.slice Ae m.exports.length ce) ∧ Ce X (p + 1 + 1) 7 (.bool m.hasStart) ∧ Ce X (p + 1 + 1) 8 (.int .i64 m.start) ∧ Ce X (p + 1 + 1) 9 (.slice Ael m.elems.length cel) ∧ Ce X (p + 1 + 1) 10 (.slice Ad m.datas.length cd) ∧ Ce X (p + 1 + 1) 11 (.slice Ac m.customs.length cc) ∧ Ce X (p + 1 + 1 + 1) 0 (.int .i64 what.kind) ∧ Ce X (p + 1 + 1 + 1) 1 (.int .i64 what.addr)) := fun X f => by
  have h1 := B1.o.fr f id
  have h2 := B2.o.fr f id
  have h3 := B3.o.fr f id
  exact ⟨h1.cell 0, h1.cell 1, h1.cell 2, h1.cell 3, h1.cell 4, h1.cell 5, h1.cell 6, h1.cell 7, h1.cell 8, h1.cell 9, h1.cell 10, h1.cell 11, h1.cell 12, h2.cell 0, h2.cell 1, h2.cell 2, h2.cell 3, h2.cell 4, h2.cell 5, h2.cell 6, h2.cell 7, h2.cell 8, h2.cell 9, h2.cell 10, h2.cell 11, h3.cell 0, h3.cell 1⟩
 clear B0 B1 B2 B3
 have r0 := hid (HR.o W (Fr.refl _ _))
 have HLI := hid (kFn x (cs := cs) W (HRD.o W F0.o) HW.o)
 go_wp2_with (first | (refine wpList_load_mid (by rfl) 33 _ (by rfl) p 0 (by rfl) _ _ r0.o underlying33 (by rfl) HI.o ?_) | fail)
 clear r0
 refine HLI.o.mono ?_
 rintro e w1 ⟨⟨r, rfl, hr⟩, f1⟩
 have FW1 := hid f1
 have F1 := ftr F0 f1
 have HLB := hid hr
 clear f1 hr HLI
 cases r with
 | false =>
  exact yy56
 | true =>
  replace HLB := hid (HLB.o rfl)
  obtain ⟨y0, y1, y2, y3, y4, y5, y6, y7, y8, y9, y10, y11, y12, y13, y14, y15, y16, y17, y18, y19, y20, y21, y22, y23, y24, y25, y26⟩ := HX.o  w1 FW1.o
  have HL7 := hid (kES m (ms := [.slice At m.types.length ct, .slice Ai m.imports.length ci, .slice Af m.funcs.length cf, .slice Ata m.tables.length cta, .slice Am m.mems.length cm, .slice Ag m.globals.length cg, .slice Ae m.exports.length ce, .bool m.hasStart, .int .i64 m.start, .slice Ael m.elems.length cel, .slice Ad m.datas.length cd, .slice Ac m.customs.length cc]) w1 (HMRD.o w1 F1.o) HMW.o)
  go_wp2_with fail
  clear y0 y1 y2 y3 y4 y5 y6 y7 y8 y9 y10 y11 y12 y13 y14 y15 y16 y17 y18 y19 y20 y21 y22 y23 y24 y25 y26
  refine HL7.o.mono ?_
  rintro e w2 ⟨⟨r, rfl, hr⟩, f2⟩
  have FW2 := ftr FW1 f2
  have F2 := ftr F1 f2
  have HLT := hid hr
  clear f2 hr HL7 FW1 F1
  cases r with
  | false =>
   exact yy28
  | true =>
   replace HLT := hid (HLT.o rfl)
   have r1 := hid (HR.o w2 FW2.o)
   have HMA := hid (kGk x (cs := cs) w2 (HRD.o w2 F2.o) (HLB.o.rxB HK.o))
   go_wp2_with (first | (refine wpList_load_mid (by rfl) 33 _ (by rfl) p 0 (by rfl) _ _ r1.o underlying33 (by rfl) HI.o ?_) | fail)
   clear r1
   refine HMA.o.mono ?_
   rintro e w3 (⟨rfl, f3⟩ | ⟨V, R, rfl, st, hown, f3, -, hq⟩)
   · exact yy46
   have F3 := ftr F2 f3
   have FW3 := ftr FW2 f3
   have HST := hid st
   have HCB := hid (kJQ (HLB.o.rxB HK.o) hq)
   have HQ := hid hq
   have HMI3 := hid ((HMI.o HLT.o).fr F3.o)
   have HDL : Hid (m.datas.length ≤ 100) := HLT.o.datas
   have HCK : Hid (∀ X, Fr No w3 X → Calls prog 12 #[.pointer (some ⟨V.P, 0, none⟩), .agg #[.string im.mod, .string im.name, .int .i64 im.kind, .int .i64 im.func, .int .i64 im.table.elem, .int .i64 im.table.lim.min, .int .i64 im.table.lim.max, .bool im.table.lim.has, .int .i64 im.mem.min, .int .i64 im.mem.max, .bool im.mem.has, .int .i64 im.glob.val, .bool im.glob.mut_], .agg #[.slice At m.types.length ct, .slice Ai m.imports.length ci, .slice Af m.funcs.length cf, .slice Ata m.tables.length cta, .slice Am m.mems.length cm, .slice Ag m.globals.length cg, .slice Ae m.exports.length ce, .bool m.hasStart, .int .i64 m.start, .slice Ael m.elems.length cel, .slice Ad m.datas.length cd, .slice Ac m.customs.length cc], .agg #[.int .i64 what.kind, .int .i64 what.addr]] X fun e w' => e = .returned (.int .i64 (chkS x im m what)) ∧ Fr No X w') := fun X f => by
    have h := kHZ (HST.o.frNo f) im m what m.types.length m.imports.length m.funcs.length m.tables.length m.mems.length m.globals.length m.exports.length m.elems.length m.datas.length m.customs.length ct ci cf cta cm cg ce cel cd cc At Ai Af Ata Am Ag Ae Ael Ad Ac m.hasStart m.start (hid (HMI3.o.fr f)) (hid ⟨rfl, rfl, rfl, rfl, rfl, rfl, rfl, rfl, rfl, rfl, rfl, HDL.o⟩) HCB.o
    rw [kKQ HQ.o HU.o] at h
    exact h
   have HRC := hid (fun (X : World) (f : Fr No w3 X) => kKN x (cs := cs) im m what m.types.length m.imports.length m.funcs.length m.tables.length m.mems.length m.globals.length m.exports.length m.elems.length m.datas.length m.customs.length ct ci cf cta cm cg ce cel cd cc At Ai Af Ata Am Ag Ae Ael Ad Ac m.hasStart m.start X (HRD.o X (F3.o.trans f i3)) (els_up HTE.o (F3.o.trans f i3) i2 (fun k hk => ltl hk (F3.o.trans f i3).size)) (hid rfl) HLT.o.types (fun a ha => by have h := HLT.o.fn a ha; unfold sFn at h; exact ⟨by omega, by omega⟩) (fun a ha => by have h := HLB.o.fb a ha; exact ⟨by omega, by omega⟩) HK.o.t (fun a ha => (kDT HQ.o (by rw [List.take_length]; exact ha) (HU.o.m a ha)).2))
   have HNI := hid (fun (X : World) => kKr im #[.slice At m.types.length ct, .slice Ai m.imports.length ci, .slice Af m.funcs.length cf, .slice Ata m.tables.length cta, .slice Am m.mems.length cm, .slice Ag m.globals.length cg, .slice Ae m.exports.length ce, .bool m.hasStart, .int .i64 m.start, .slice Ael m.elems.length cel, .slice Ad m.datas.length cd, .slice Ac m.customs.length cc] #[] what rfl X)
   generalize chkS x im m what = r at HCK HRC
   clear f3 st HMA hown hq HMI HMI3 HCB HST HMRD HRD HLB HLT HTE
   go_upto_region 6 with fail
   refine rwO (Fr No w3) [] [0, 1, 2, 3, 5, 6, 7, 8, 4, 9, 10, 11, 12, 13, 14, 15, 16, 17, 18, 19, 20, 21] [4, 9, 15, 19] (Fr.refl _ _).drew ?_
   have HY := hid (fun (X : World) (f : Fr No w3 X) => HX.o X (FW3.o.trans f i3))
   refine rO HY.o ?_
   refine kBO rfl rfl 33 _ rfl p 0 (by rfl) cs _ (fun X hX => HR.o X (FW3.o.trans hX i3)) underlying33 (by rfl) HI.o ?_
   simp only [zA, zC, Act.put]
   refine rO HY.o ?_
   refine wpO_eff rfl rfl fun K hK => sz ?_
   refine (HCK.o _ (Fr.refl No w3).drew).mono ?_
   rintro e w4 ⟨rfl, f4⟩
   have F4 := hid ((Fr.refl No w3).drew.trans f4 i3)
   refine hK _ _ (fun _ => F4.o) ?_
   clear hK K f4
   refine wpO_eff rfl rfl fun K hK => sz ?_
   refine (HRC.o _ F4.o).mono ?_
   rintro e w5 ⟨rfl, f5⟩
   have F5 := ftr F4 f5
   refine hK _ _ (fun _ => F5.o) ?_
   clear hK K f5
   refine rO HY.o ?_
   refine wpO_eff rfl rfl fun K hK => sz ?_
   refine (HNI.o _).mono ?_
   rintro e w6 ⟨rfl, f6⟩
   have F6 := ftr F5 f6
   refine hK _ _ (fun _ => F6.o) ?_
   clear hK K f6
   refine rO HY.o ?_
   refine wpO_eff rfl rfl fun K hK => sz ?_
   refine (HAL.o _).mono ?_
   rintro e w7 ⟨rfl, f7⟩
   have F7 := ftr F6 f7
   refine hK _ _ (fun _ => F7.o) ?_
   clear hK K f7
   refine rO HY.o ?_
   refine wpO_nil ?_
   have FF := ftr F3 F7.o
   go_wp2_with fail
   go_ret
   exact ⟨rfl, FF.o⟩
theorem kKy (w : World) (v0 v1 v2 v3 : Value) (x0 : Rx) (x1 : Im) (x2 : Md) (x3 : Et) (y0 : tRx.rd w (· < w.heap.size) v0.cells.toList x0) (y1 : tIm.rd w (· < w.heap.size) v1.cells.toList x1) (y2 : tMd.rd w (· < w.heap.size) v2.cells.toList x2) (y3 : tEt.rd w (· < w.heap.size) v3.cells.toList x3)
    (u0 : tRx.le 1048576 x0) (_ : tIm.le 1048576 x1) (u2 : tMd.le 1048576 x2) (_ : tEt.le 1048576 x3) (hv0 : ∃ cs, v0 = .agg cs) (hv1 : ∃ cs, v1 = .agg cs) (hv2 : ∃ cs, v2 = .agg cs) (hv3 : ∃ cs, v3 = .agg cs) :
    Calls prog 3 #[v0, v1, v2, v3] w fun e w' => e = .returned (.bool true) ∧ Below w.heap.size w w' := by
 obtain ⟨cs, rfl⟩ := hv0
 obtain ⟨is, rfl⟩ := hv1
 obtain ⟨ms, rfl⟩ := hv2
 obtain ⟨es, rfl⟩ := hv3
 have h0 : tRx.rd w (· < w.heap.size) cs.toList x0 := y0
 have h1 : tIm.rd w (· < w.heap.size) is.toList x1 := y1
 have h2 : tMd.rd w (· < w.heap.size) ms.toList x2 := y2
 have h3 : tEt.rd w (· < w.heap.size) es.toList x3 := y3
 have e1 := (kHC h1).1
 have e3 := (kHF h3).1
 have e1' := congrArg List.toArray e1
 have e3' := congrArg List.toArray e3
 rw [Array.toArray_toList] at e1' e3'
 subst e1' e3'
 have h := kKX x0 (cs := cs.toList) (ms := ms.toList) x1 x2 x3 w h0 (kCO u0).1 (kCO u0).2.1 (kCO u0).2.2 h2 (kKh u2)
 exact yy41
theorem kKT (x : Rx) {cs : LV} (m : Md) (l : List Gv) (B : OA) (cb : Nat) (ct ci cf cta cm cg ce cel cd cc : Nat) (At Ai Af Ata Am Ag Ae Ael Ad Ac : OA) (w : World) (hx : tRx.rd w (· < w.heap.size) cs x) (ht : tFn.els w (· < w.heap.size) At m.types) (hi : tIm.els w (· < w.heap.size) Ai m.imports) (hl : m.types.length ≤ 100) (hil : m.imports.length ≤ 101) (hlp : ∀ f ∈ m.types, f.params.length ≤ 140737488351232 ∧ f.results.length ≤ 140737488351232) (hlf : ∀ f ∈ x.funcs, f.ty.params.length ≤ 140737488351232 ∧ f.ty.results.length ≤ 140737488351232) (hlt : ∀ t ∈ x.tabs, t.l.length ≤ 140737488351232) (hlm : ∀ m ∈ x.mems, m.b.length ≤ 1000000) (hll : l.length ≤ 1000000) (hE : tGv.els w (· < w.heap.size) B l) :
    Calls prog 15 #[.agg cs.toArray, .agg #[.slice At m.types.length ct, .slice Ai m.imports.length ci, .slice Af m.funcs.length cf, .slice Ata m.tables.length cta, .slice Am m.mems.length cm, .slice Ag m.globals.length cg, .slice Ae m.exports.length ce, .bool m.hasStart, .int .i64 m.start, .slice Ael m.elems.length cel, .slice Ad m.datas.length cd, .slice Ac m.customs.length cc], .slice B l.length cb] w (kKA (kCL l (fun im what => chkS x im m what)) m.imports w) := by
 have F0 := hid (((Fr.refl No w).alloc (.cells cs.toArray 33)).alloc (.cells #[.slice At m.types.length ct, .slice Ai m.imports.length ci, .slice Af m.funcs.length cf, .slice Ata m.tables.length cta, .slice Am m.mems.length cm, .slice Ag m.globals.length cg, .slice Ae m.exports.length ce, .bool m.hasStart, .int .i64 m.start, .slice Ael m.elems.length cel, .slice Ad m.datas.length cd, .slice Ac m.customs.length cc] 55))
 have B0 := hid ((Blk.new w 33 cs.toArray).alloc (.cells #[.slice At m.types.length ct, .slice Ai m.imports.length ci, .slice Af m.funcs.length cf, .slice Ata m.tables.length cta, .slice Am m.mems.length cm, .slice Ag m.globals.length cg, .slice Ae m.exports.length ce, .bool m.hasStart, .int .i64 m.start, .slice Ael m.elems.length cel, .slice Ad m.datas.length cd, .slice Ac m.customs.length cc] 55))
 have B1 := hid (Blk.new1 w (.cells cs.toArray 33) 55 #[.slice At m.types.length ct, .slice Ai m.imports.length ci, .slice Af m.funcs.length cf, .slice Ata m.tables.length cta, .slice Am m.mems.length cm, .slice Ag m.globals.length cg, .slice Ae m.exports.length ce, .bool m.hasStart, .int .i64 m.start, .slice Ael m.elems.length cel, .slice Ad m.datas.length cd, .slice Ac m.customs.length cc])
 have HL : Hid (cs.length = 10) := TyOk.len _ _ _ _ hx
 have HI : Hid ((prog.info? 33).map (·.size) = some cs.length) := by unfold Hid; rw [HL.o]; kernel_rfl
 have HE := hid hE
 have HLL := hid hll
 have HIL := hid hil
 have HIM := hid hi
 have HCH := hid (fun (X : World) (f : Fr No w X) (im : Im) (what : Et) => kKN x (cs := cs) im m what m.types.length m.imports.length m.funcs.length m.tables.length m.mems.length m.globals.length m.exports.length m.elems.length m.datas.length m.customs.length ct ci cf cta cm cg ce cel cd cc At Ai Af Ata Am Ag Ae Ael Ad Ac m.hasStart m.start X (kAO hx f i2 (fun k hk => ltl hk f.size)) (els_up ht f i2 (fun k hk => ltl hk f.size)) (hid rfl) hl hlp hlf hlt hlm)
 clear hx ht hi hl hil hlp hlf hlt hlm hll hE
 generalize hg : (fun im what => chkS x im m what) = g at *
 have HG := hid (fun im what => congrFun (congrFun hg im) what)
 clear hg
 go_enter func15, ntmps15
 go_upto_region 1 with fail
 generalize (w.alloc (.cells cs.toArray 33)).alloc (.cells #[.slice At m.types.length ct, .slice Ai m.imports.length ci, .slice Af m.funcs.length cf, .slice Ata m.tables.length cta, .slice Am m.mems.length cm, .slice Ag m.globals.length cg, .slice Ae m.exports.length ce, .bool m.hasStart, .int .i64 m.start, .slice Ael m.elems.length cel, .slice Ad m.datas.length cd, .slice Ac m.customs.length cc] 55) = W at *
 obtain ⟨p, hp⟩ : ∃ p, p = w.heap.size := ⟨_, rfl⟩
 rw [← hp] at B0 B1 ⊢
 clear hp
 have HR : Hid (∀ X, Fr No W X → X.rangeAt p 0 cs) := fun X f => by simpa using kBJ (B0.o.fr f id)
 have HX : Hid (∀ X, Fr No W X → Ce X (p + 1) 0 (.slice At m.types.length ct) ∧ Ce X (p + 1) 1 (.slice Ai m.imports.length ci) ∧ Ce X (p + 1) 2 (.slice Af m.funcs.length cf) ∧ Ce X (p + 1) 3 (.slice Ata m.tables.length cta) ∧ Ce X (p + 1) 4 (.slice Am m.mems.length cm) ∧ Ce X (p + 1) 5 (.slice Ag m.globals.length cg) ∧ Ce X (p + 1) 6 (.slice Ae m.exports.length ce) ∧ Ce X (p + 1) 7 (.bool m.hasStart) ∧ Ce X (p + 1) 8 (.int .i64 m.start) ∧ Ce X (p + 1) 9 (.slice Ael m.elems.length cel) ∧ Ce X (p + 1) 10 (.slice Ad m.datas.length cd) ∧ Ce X (p + 1) 11 (.slice Ac m.customs.length cc)) := fun X f => by
  exact yy48
 clear B0 B1
 go_wp2_with fail
 have ROW0 : Hid (tEt.row W W.heap.size Emp 57 (.slice none 0 0) []) := Ty.row.nil _ _ _ _
 go_loopw [9, 10] (fun al i wr => ∃ k : Nat, k ≤ m.imports.length ∧ i = .int .i64 k ∧ Hid (tEt.row wr W.heap.size Emp 57 al ((m.imports.take k).map fun im => (kCL l g im).1)) ∧ Hid (∀ j (h : j < m.imports.length), j < k → (kCL l g m.imports[j]).2 = 0) ∧ Hid (Fr No W wr)) (fun _ i _ => m.imports.length - (intOf i).toNat)
 case atStart => exact ⟨0, by omega, rfl, ROW0.o, fun j h h' => by omega, Fr.refl _ _⟩
 case round =>
 clear ROW0
 obtain ⟨k, hk, rfl, ROW, HZ, F⟩ := hrel
 have hil := HIL.o
 obtain ⟨y0, y1, y2, y3, y4, y5, y6, y7, y8, y9, y10, y11⟩ := HX.o  wr F.o
 by_cases hlt : k < m.imports.length
 · have d1 : decide ((k : Int) < (m.imports.length : Nat)) = true := by simp; omega
   have i0 := nki k
   have i1 : (k : Int) < (m.imports.length : Nat) := om
   have HLT := hid hlt
   have FW := ftr F0 F.o
   obtain ⟨b, o, eA, hbS, i0_, i1_, i2_, i3_, i4_, i5_, i6_, i7_, i8_, i9_, i10_, i11_, i12_, -⟩ := kHM (els_up HIM.o FW.o i2 i2) k hlt
   subst eA
   have hbl : b < wr.heap.size := ltl hbS FW.o.size
   obtain ⟨ri, hri⟩ : ∃ r, r = kCL l g m.imports[k] := ⟨_, rfl⟩
   have HRK : Hid (ri = kCL l g (m.imports[k]'HLT.o)) := hri
   have HTK : Hid ((m.imports.take (k + 1)).map (fun im => (kCL l g im).1) = (m.imports.take k).map (fun im => (kCL l g im).1) ++ [ri.1]) := by unfold Hid; rw [List.take_succ_eq_append_getElem hlt, List.map_append, hri]; rfl
   generalize m.imports[k] = im at i0_ i1_ i2_ i3_ i4_ i5_ i6_ i7_ i8_ i9_ i10_ i11_ i12_ hri
   have HXL : Hid (((m.imports.take k).map (fun im => (kCL l g im).1)).length ≤ 101) := hid (by rw [List.length_map, List.length_take]; omega)
   generalize (m.imports.take k).map (fun im => (kCL l g im).1) = xs at *
   have HY : Hid (∀ X, Fr No wr X → Ce X (p + 1) 0 (.slice At m.types.length ct) ∧ Ce X (p + 1) 1 (.slice (some ⟨b, o, none⟩) m.imports.length ci) ∧ Ce X (p + 1) 2 (.slice Af m.funcs.length cf) ∧ Ce X (p + 1) 3 (.slice Ata m.tables.length cta) ∧ Ce X (p + 1) 4 (.slice Am m.mems.length cm) ∧ Ce X (p + 1) 5 (.slice Ag m.globals.length cg) ∧ Ce X (p + 1) 6 (.slice Ae m.exports.length ce) ∧ Ce X (p + 1) 7 (.bool m.hasStart) ∧ Ce X (p + 1) 8 (.int .i64 m.start) ∧ Ce X (p + 1) 9 (.slice Ael m.elems.length cel) ∧ Ce X (p + 1) 10 (.slice Ad m.datas.length cd) ∧ Ce X (p + 1) 11 (.slice Ac m.customs.length cc) ∧ Ce X b (o + k * 13) (.string im.mod) ∧ Ce X b (o + k * 13 + 1) (.string im.name) ∧ Ce X b (o + k * 13 + 2) (.int .i64 im.kind) ∧ Ce X b (o + k * 13 + 3) (.int .i64 im.func) ∧ Ce X b (o + k * 13 + 4) (.int .i64 im.table.elem) ∧ Ce X b (o + k * 13 + 5) (.int .i64 im.table.lim.min) ∧ Ce X b (o + k * 13 + 6) (.int .i64 im.table.lim.max) ∧ Ce X b (o + k * 13 + 7) (.bool im.table.lim.has) ∧ Ce X b (o + k * 13 + 8) (.int .i64 im.mem.min) ∧ Ce X b (o + k * 13 + 9) (.int .i64 im.mem.max) ∧ Ce X b (o + k * 13 + 10) (.bool im.mem.has) ∧ Ce X b (o + k * 13 + 11) (.int .i64 im.glob.val) ∧ Ce X b (o + k * 13 + 12) (.bool im.glob.mut_)) := fun X f => by
    obtain ⟨y0, y1, y2, y3, y4, y5, y6, y7, y8, y9, y10, y11⟩ := HX.o  X (F.o.trans f i3)
    exact ⟨y0, y1, y2, y3, y4, y5, y6, y7, y8, y9, y10, y11, (f.cell (p := ⟨b, o + k * 13, none⟩) hbl id).trans i0_, (f.cell (p := ⟨b, o + k * 13 + 1, none⟩) hbl id).trans i1_, (f.cell (p := ⟨b, o + k * 13 + 2, none⟩) hbl id).trans i2_, (f.cell (p := ⟨b, o + k * 13 + 3, none⟩) hbl id).trans i3_, (f.cell (p := ⟨b, o + k * 13 + 4, none⟩) hbl id).trans i4_, (f.cell (p := ⟨b, o + k * 13 + 5, none⟩) hbl id).trans i5_, (f.cell (p := ⟨b, o + k * 13 + 6, none⟩) hbl id).trans i6_, (f.cell (p := ⟨b, o + k * 13 + 7, none⟩) hbl id).trans i7_, (f.cell (p := ⟨b, o + k * 13 + 8, none⟩) hbl id).trans i8_, (f.cell (p := ⟨b, o + k * 13 + 9, none⟩) hbl id).trans i9_, (f.cell (p := ⟨b, o + k * 13 + 10, none⟩) hbl id).trans i10_, (f.cell (p := ⟨b, o + k * 13 + 11, none⟩) hbl id).trans i11_, (f.cell (p := ⟨b, o + k * 13 + 12, none⟩) hbl id).trans i12_⟩
   clear hbS hlt hbl i0_ i1_ i2_ i3_ i4_ i5_ i6_ i7_ i8_ i9_ i10_ i11_ i12_
   have HWF := hid (kJe HE.o im.mod im.name)
   have HFI := hid (fun (X : World) (f : Fr No wr X) => kKm l B cb im.mod im.name X HLL.o (els_up HE.o (FW.o.trans f i3) i2 (fun k hk => ltl hk (FW.o.trans f i3).size)))
   have HRI : Hid (ri = if (lastF im.mod im.name l).2 = true then ((lastF im.mod im.name l).1, g im (lastF im.mod im.name l).1) else (⟨0, 0⟩, 25)) := by rw [hri]; rfl
   clear hri
   generalize (lastF im.mod im.name l).1 = et at *
   generalize (lastF im.mod im.name l).2 = ok at *
   go_upto_region 5 with fail
   clear y0 y1 y2 y3 y4 y5 y6 y7 y8 y9 y10 y11
   go_cut [11, 12] (fun p11 b12 wx => ∃ (q : Nat), p11 = .pointer (some ⟨q, 0, none⟩) ∧ b12 = .bool ok ∧ Hid (Blk wx q 57 #[.int .i64 et.kind, .int .i64 et.addr]) ∧ Hid (Fr No wr wx))
   case first =>
    refine kFj (Fr No wr) (.rd 0 (.rd 1 (.rd 2 (.rd 3 (.rd 4 (.rd 5 (.rd 6 (.rd 7 (.rd 8 (.rd 9 (.rd 10 (.rd 11 (.rd 12 (.alt 13 (.rd 14 (.rd 15 (.rd 16 (.eff 17 (.eff 18 (.rd 19 .nil)))))) 17 (.eff 13 (.rd 14 (.rd 15 (.rd 16 (.eff 18 (.rd 19 .nil)))))))))))))))))))) kr kr kr rfl ((Fr.refl _ _).drew) ?_
    refine rT HY.o ?_
    refine kJG ?_ ?_
    · refine wpT_eff rfl rfl fun K hK => sz ?_
      refine (HFI.o _ (Fr.refl No wr).drew).mono ?_
      rintro e w2 ⟨rfl, f2⟩
      have F2 := hid (((Fr.refl No wr).drew).trans f2 i3)
      clear f2
      refine hK _ _ (F2.o) ?_
      clear hK K
      refine rT HY.o ?_
      refine wpT_eff rfl rfl fun K hK => sz ?_
      refine hK _ _ (F2.o.alloc _) ?_
      clear hK K
      refine wpT_eff rfl rfl fun K hK => sz ?_
      refine hK _ _ (F2.o.alloc _) ?_
      clear hK K
      refine rT HY.o ?_
      refine wpT_nil ?_
      go_wp2_with fail
      go_meet
      exact ⟨_, rfl, rfl, Blk.new _ _ _, F2.o.alloc _⟩
    · refine wpT_eff rfl rfl fun K hK => sz ?_
      refine hK _ _ (((Fr.refl No wr).alloc _).drew) ?_
      clear hK K
      have Fz := hid ((Fr.refl No wr).alloc (.cells #[.int .i64 0, .int .i64 0] 57)).drew
      have Gz := hid (Blk.new wr 57 #[.int .i64 0, .int .i64 0]).drew
      generalize hWz : (wr.alloc (.cells #[.int .i64 0, .int .i64 0] 57)).drew = Wz at *
      clear hWz
      refine wpT_eff rfl rfl fun K hK => sz ?_
      refine (HFI.o _ Fz.o).mono ?_
      rintro e w2 ⟨rfl, f2⟩
      have F2 := ftr Fz f2
      have G2 := hid (Gz.o.fr f2 id)
      clear f2
      refine hK _ _ (F2.o) ?_
      clear hK K
      refine rT HY.o ?_
      obtain ⟨z0, z1⟩ := (⟨G2.o.cell 0, G2.o.cell 1⟩ : _ ∧ _)
      obtain ⟨q0, q1⟩ := (⟨G2.o.frozen 0, G2.o.frozen 1⟩ : _ ∧ _)
      have F3 := hid ((F2.o.setCell ⟨wr.heap.size, 0, none⟩ (.int .i64 et.kind) (fun h => absurd h (Nat.lt_irrefl _))).setCell ⟨wr.heap.size, 1, none⟩ (.int .i64 et.addr) (fun h => absurd h (Nat.lt_irrefl _)))
      have G3 := hid ((G2.o.set_ 0 (.int .i64 et.kind)).set_ 1 (.int .i64 et.addr))
      simp only [List.setIfInBounds_toArray, List.set_cons_succ, List.set_cons_zero] at G3
      refine wpT_eff rfl rfl fun K hK => sz ?_
      refine hK _ _ (F3.o) ?_
      clear hK K
      refine rT HY.o ?_
      refine wpT_nil ?_
      go_wp2_with fail
      go_meet
      exact ⟨_, rfl, rfl, G3.o, F3.o⟩
   obtain ⟨q, rfl, rfl, B5, F5⟩ := hcut
   have FX5 := ftr F F5.o
   have FX5w := ftr F0 FX5.o
   have ROW5 : Hid (tEt.row wc W.heap.size Emp 57 u9 xs) := ROW.o.fr F5.o (fun _ h => h.elim) (fun _ _ x => x)
   clear HFI ROW
   cases ok with
   | false =>
    exact yy42
   | true =>
    have hr : ri = (et, g im et) := HRI.o.trans (if_pos rfl)
    have HR1 := hid hr
    clear hr HRI
    have HC5 := hid (fun (X : World) (f : Fr No wc X) => HCH.o X (FX5w.o.trans f i3) im et)
    rw [HG.o im et] at HC5
    generalize g im et = r at *
    go_upto_region 8 with fail
    have HY2 : Hid (∀ X, Fr No wc X → Ce X (p + 1) 0 (.slice At m.types.length ct) ∧ Ce X (p + 1) 1 (.slice (some ⟨b, o, none⟩) m.imports.length ci) ∧ Ce X (p + 1) 2 (.slice Af m.funcs.length cf) ∧ Ce X (p + 1) 3 (.slice Ata m.tables.length cta) ∧ Ce X (p + 1) 4 (.slice Am m.mems.length cm) ∧ Ce X (p + 1) 5 (.slice Ag m.globals.length cg) ∧ Ce X (p + 1) 6 (.slice Ae m.exports.length ce) ∧ Ce X (p + 1) 7 (.bool m.hasStart) ∧ Ce X (p + 1) 8 (.int .i64 m.start) ∧ Ce X (p + 1) 9 (.slice Ael m.elems.length cel) ∧ Ce X (p + 1) 10 (.slice Ad m.datas.length cd) ∧ Ce X (p + 1) 11 (.slice Ac m.customs.length cc) ∧ Ce X b (o + k * 13) (.string im.mod) ∧ Ce X b (o + k * 13 + 1) (.string im.name) ∧ Ce X b (o + k * 13 + 2) (.int .i64 im.kind) ∧ Ce X b (o + k * 13 + 3) (.int .i64 im.func) ∧ Ce X b (o + k * 13 + 4) (.int .i64 im.table.elem) ∧ Ce X b (o + k * 13 + 5) (.int .i64 im.table.lim.min) ∧ Ce X b (o + k * 13 + 6) (.int .i64 im.table.lim.max) ∧ Ce X b (o + k * 13 + 7) (.bool im.table.lim.has) ∧ Ce X b (o + k * 13 + 8) (.int .i64 im.mem.min) ∧ Ce X b (o + k * 13 + 9) (.int .i64 im.mem.max) ∧ Ce X b (o + k * 13 + 10) (.bool im.mem.has) ∧ Ce X b (o + k * 13 + 11) (.int .i64 im.glob.val) ∧ Ce X b (o + k * 13 + 12) (.bool im.glob.mut_) ∧ Ce X q 0 (.int .i64 et.kind) ∧ Ce X q 1 (.int .i64 et.addr)) := fun X f => by
     obtain ⟨y0, y1, y2, y3, y4, y5, y6, y7, y8, y9, y10, y11, y12, y13, y14, y15, y16, y17, y18, y19, y20, y21, y22, y23, y24⟩ := HY.o X (F5.o.trans f i3)
     exact ⟨y0, y1, y2, y3, y4, y5, y6, y7, y8, y9, y10, y11, y12, y13, y14, y15, y16, y17, y18, y19, y20, y21, y22, y23, y24, (B5.o.fr f id).cell 0, (B5.o.fr f id).cell 1⟩
    refine rwO (Fr No wc) [] (List.range 10) [8] (Fr.refl _ _).drew ?_
    refine kBO rfl rfl 33 _ rfl p 0 (by rfl) cs _ (fun X hX => HR.o X (FX5.o.trans hX i3)) underlying33 (by rfl) HI.o ?_
    simp only [zA, zC, Act.put]
    refine rO HY2.o ?_
    refine wpO_eff rfl rfl fun K hK => sz ?_
    refine (HC5.o _ (Fr.refl No wc).drew).mono ?_
    rintro e w6 ⟨rfl, f6⟩
    have F6 := hid ((Fr.refl No wc).drew.trans f6 i3)
    refine hK _ _ (fun _ => F6.o) ?_
    clear hK K f6
    refine rO HY2.o ?_
    refine wpO_nil ?_
    have FX6 := ftr FX5 F6.o
    have FX6w := ftr F0 FX6.o
    have ROW6 : Hid (tEt.row w6 W.heap.size Emp 57 u9 xs) := ROW5.o.fr F6.o (fun _ h => h.elim) (fun _ _ x => x)
    have B6 := hid (B5.o.fr F6.o id)
    clear HC5 ROW5 HY HY2
    by_cases hr0 : r = 0
    case neg =>
     have d5 : (r == 0) = false := by simpa using hr0
     have d6 : (r != 0) = true := by simpa using hr0
     have HR0 := hid hr0
     clear hr0
     go_wp2_with fail
     go_ret3
     exact ⟨FX6w.o, .inl ⟨k, HLT.o, HZ.o, by rw [← HRK.o, HR1.o]; exact HR0.o, by rw [← HRK.o, HR1.o]; rfl⟩⟩
    have HR0 := hid hr0
    subst hr0
    have v0 := B6.o.cell 0
    have v1 := B6.o.cell 1
    have F7 := hid ((Fr.refl No w6).alloc (.cells #[.int .i64 et.kind, .int .i64 et.addr] 57))
    have FX7 := ftr FX6 F7.o
    have ROW7 : Hid (tEt.row (w6.alloc (.cells #[.int .i64 et.kind, .int .i64 et.addr] 57)) W.heap.size Emp 57 u9 xs) := ROW6.o.fr F7.o (fun _ h => h.elim) (fun _ _ x => x)
    have HMK := hid (fun (X : World) => kKC (w := X) (S := Emp) (a := et) HWF.o.1 HWF.o.2)
    have hrd := hid (kEQ w6 [.int .i64 et.kind, .int .i64 et.addr] 57)
    go_wp2_with (at_builtin; refine kAK (t := tEt) (P := prog) (base := W.heap.size) (S := Emp) (xs := xs) (ys := [et]) (dss := [[.int .i64 et.kind, .int .i64 et.addr]]) elEt rfl rfl rfl rfl ROW7.o (Css.one (HMK.o _)) hrd.o rfl (by have := HXL.o; simp; omega) (by have := HXL.o; simp; omega) (fun _ h => h.elim) FX7.o.size ?_; intro v1 w8 hr1 fr1 hv1; have ROW8 := hid hr1; have FX8 : Hid (Fr No W w8) := FX7.o.trans fr1 (fun i hi hh => by have h1 := (ROW7.o.own hh.symm).1; omega); clear hr1 fr1 hv1)
    go_roundw
    case rel =>
     refine ⟨k + 1, HLT.o, by go_num, by rw [HTK.o, HR1.o]; exact ROW8.o, fun j h h' => ?_, FX8.o⟩
     rcases Nat.lt_or_ge j k with h1 | h1
     · exact HZ.o j h h1
     have e : j = k := om
     subst e
     rw [← HRK.o, HR1.o]
    case measure => exact meas HLT.o
 have hkn : k = m.imports.length := om
 subst hkn
 rw [List.take_length] at ROW
 obtain ⟨A9, c9, rfl, hc9, -, el9⟩ := ROW.o.els (S' := (· < wr.heap.size)) (fun _ h => h.elim) (fun g hg => by obtain ⟨_, cs, hb⟩ := ROW.o.own hg; exact hb.lt)
 have EL9 := hid el9
 have HC9 : Hid (m.imports.length ≤ c9) := by rw [List.length_map] at hc9; exact hc9
 exact yy37
theorem kKc {g : Im → Et × Int} {ims : List Im} {k j : Nat} (hk : k < ims.length) (hj : j < ims.length) (h1 : ∀ i (h : i < ims.length), i < k → (g ims[i]).2 = 0) (h2 : (g ims[k]).2 ≠ 0) (h3 : ∀ i (h : i < ims.length), i < j → (g ims[i]).2 = 0) (h4 : (g ims[j]).2 ≠ 0) : k = j := by
 rcases Nat.lt_trichotomy k j with h | h | h
 · exact absurd (h3 k hk h) h2
 · exact h
 exact absurd (h1 j hj h) h4
theorem kKR (x : Rx) {cs ms : LV} (m : Md) (l : List Gv) (B : OA) (cb : Nat) (w : World) (hx : tRx.rd w (· < w.heap.size) cs x) (hw : LxW x) (hk : RxK x) (hu : RxU x) (hm : tMd.rd w (· < w.heap.size) ms m) (hmw : LtW m) (hE : tGv.els w (· < w.heap.size) B l) :
    Calls prog 4 #[.agg cs.toArray, .agg ms.toArray, .slice B l.length cb] w fun e w' => e = .returned (.bool true) ∧ Fr No w w' := by
 have HM := hid hm
 obtain ⟨At, ct, Ai, ci, Af, cf, Ata, cta, Am, cm, Ag, cg, Ae, ce, Ael, cel, Ad, cd, Ac, cc, hms, -, -, e0, -, -, e1, -, -, e2, -, -, e3, -, -, e4, -, -, e5, -, -, e6, -, -, -, e7, -⟩ := kBS hm
 subst hms
 have HMI := hid (fun hb : LtB m => kJo e0 e1 e2 e3 e4 e5 e6 e7 hb)
 have HTE := hid e0
 have HIE := hid e1
 have HL : Hid (cs.length = 10) := TyOk.len _ _ _ _ hx
 have HI : Hid ((prog.info? 33).map (·.size) = some cs.length) := by unfold Hid; rw [HL.o]; kernel_rfl
 have HRD : Hid (∀ X, Fr No w X → tRx.rd X (· < X.heap.size) cs x) := fun X f => kAO hx f i2 (fun k hk => ltl hk f.size)
 have HMRD : Hid (∀ X, Fr No w X → tMd.rd X (· < X.heap.size) [.slice At m.types.length ct, .slice Ai m.imports.length ci, .slice Af m.funcs.length cf, .slice Ata m.tables.length cta, .slice Am m.mems.length cm, .slice Ag m.globals.length cg, .slice Ae m.exports.length ce, .bool m.hasStart, .int .i64 m.start, .slice Ael m.elems.length cel, .slice Ad m.datas.length cd, .slice Ac m.customs.length cc] m) := fun X f => kAO HM.o f i2 (fun k hk => ltl hk f.size)
 have HGE : Hid (∀ X, Fr No w X → tGv.els X (· < X.heap.size) B l) := fun X f => els_up hE f i2 (fun k hk => ltl hk f.size)
 have HW := hid hw
 have HMW := hid hmw
 have HK := hid hk
 have HU := hid hu
 have F0 := hid (((Fr.refl No w).alloc (.cells cs.toArray 33)).alloc (.cells #[.slice At m.types.length ct, .slice Ai m.imports.length ci, .slice Af m.funcs.length cf, .slice Ata m.tables.length cta, .slice Am m.mems.length cm, .slice Ag m.globals.length cg, .slice Ae m.exports.length ce, .bool m.hasStart, .int .i64 m.start, .slice Ael m.elems.length cel, .slice Ad m.datas.length cd, .slice Ac m.customs.length cc] 55))
 have B0 := hid ((Blk.new w 33 cs.toArray).alloc (.cells #[.slice At m.types.length ct, .slice Ai m.imports.length ci, .slice Af m.funcs.length cf, .slice Ata m.tables.length cta, .slice Am m.mems.length cm, .slice Ag m.globals.length cg, .slice Ae m.exports.length ce, .bool m.hasStart, .int .i64 m.start, .slice Ael m.elems.length cel, .slice Ad m.datas.length cd, .slice Ac m.customs.length cc] 55))
 have B1 := hid (Blk.new1 w (.cells cs.toArray 33) 55 #[.slice At m.types.length ct, .slice Ai m.imports.length ci, .slice Af m.funcs.length cf, .slice Ata m.tables.length cta, .slice Am m.mems.length cm, .slice Ag m.globals.length cg, .slice Ae m.exports.length ce, .bool m.hasStart, .int .i64 m.start, .slice Ael m.elems.length cel, .slice Ad m.datas.length cd, .slice Ac m.customs.length cc])
 have HAL := hid (fun X => kEb X)
 clear hx hw hk hu hm hmw hE e0 e1 e2 e3 e4 e5 e6 e7 HM
 go_enter func4, ntmps4
 go_upto_region 1 with fail
 generalize (w.alloc (.cells cs.toArray 33)).alloc (.cells #[.slice At m.types.length ct, .slice Ai m.imports.length ci, .slice Af m.funcs.length cf, .slice Ata m.tables.length cta, .slice Am m.mems.length cm, .slice Ag m.globals.length cg, .slice Ae m.exports.length ce, .bool m.hasStart, .int .i64 m.start, .slice Ael m.elems.length cel, .slice Ad m.datas.length cd, .slice Ac m.customs.length cc] 55) = W at *
 obtain ⟨p, hp⟩ : ∃ p, p = w.heap.size := ⟨_, rfl⟩
 rw [← hp] at B0 B1 ⊢
 clear hp
 have HR : Hid (∀ X, Fr No W X → X.rangeAt p 0 cs) := fun X f => by simpa using kBJ (B0.o.fr f id)
 have HX : Hid (∀ X, Fr No W X → Ce X (p + 1) 0 (.slice At m.types.length ct) ∧ Ce X (p + 1) 1 (.slice Ai m.imports.length ci) ∧ Ce X (p + 1) 2 (.slice Af m.funcs.length cf) ∧ Ce X (p + 1) 3 (.slice Ata m.tables.length cta) ∧ Ce X (p + 1) 4 (.slice Am m.mems.length cm) ∧ Ce X (p + 1) 5 (.slice Ag m.globals.length cg) ∧ Ce X (p + 1) 6 (.slice Ae m.exports.length ce) ∧ Ce X (p + 1) 7 (.bool m.hasStart) ∧ Ce X (p + 1) 8 (.int .i64 m.start) ∧ Ce X (p + 1) 9 (.slice Ael m.elems.length cel) ∧ Ce X (p + 1) 10 (.slice Ad m.datas.length cd) ∧ Ce X (p + 1) 11 (.slice Ac m.customs.length cc)) := fun X f => by
  exact yy48
 clear B0 B1
 have r0 := hid (HR.o W (Fr.refl _ _))
 have HLI := hid (kFn x (cs := cs) W (HRD.o W F0.o) HW.o)
 go_wp2_with (first | (refine wpList_load_mid (by rfl) 33 _ (by rfl) p 0 (by rfl) _ _ r0.o underlying33 (by rfl) HI.o ?_) | fail)
 clear r0
 refine HLI.o.mono ?_
 rintro e w1 ⟨⟨r, rfl, hr⟩, f1⟩
 have FW1 := hid f1
 have F1 := ftr F0 f1
 have HLB := hid hr
 clear f1 hr HLI
 cases r with
 | false =>
  exact yy56
 | true =>
  replace HLB := hid (HLB.o rfl)
  obtain ⟨y0, y1, y2, y3, y4, y5, y6, y7, y8, y9, y10, y11⟩ := HX.o  w1 FW1.o
  have HL7 := hid (kES m (ms := [.slice At m.types.length ct, .slice Ai m.imports.length ci, .slice Af m.funcs.length cf, .slice Ata m.tables.length cta, .slice Am m.mems.length cm, .slice Ag m.globals.length cg, .slice Ae m.exports.length ce, .bool m.hasStart, .int .i64 m.start, .slice Ael m.elems.length cel, .slice Ad m.datas.length cd, .slice Ac m.customs.length cc]) w1 (HMRD.o w1 F1.o) HMW.o)
  go_wp2_with fail
  clear y0 y1 y2 y3 y4 y5 y6 y7 y8 y9 y10 y11
  refine HL7.o.mono ?_
  rintro e w2 ⟨⟨r, rfl, hr⟩, f2⟩
  have FW2 := ftr FW1 f2
  have F2 := ftr F1 f2
  have HLT := hid hr
  clear f2 hr HL7 FW1 F1
  cases r with
  | false =>
   exact yy28
  | true =>
   replace HLT := hid (HLT.o rfl)
   by_cases hl : 60 < l.length
   · have d1 : decide ((60 : Int) < (l.length : Nat)) = true := by simp; omega
     clear hl
     exact yy28
   have d1 : decide ((60 : Int) < (l.length : Nat)) = false := by simp; omega
   have HLL : Hid (l.length ≤ 60) := by unfold Hid; omega
   clear hl
   have r1 := hid (HR.o w2 FW2.o)
   have HMA := hid (kGk x (cs := cs) w2 (HRD.o w2 F2.o) (HLB.o.rxB HK.o))
   go_wp2_with (first | (refine wpList_load_mid (by rfl) 33 _ (by rfl) p 0 (by rfl) _ _ r1.o underlying33 (by rfl) HI.o ?_) | fail)
   clear r1 d1
   refine HMA.o.mono ?_
   rintro e w3 (⟨rfl, f3⟩ | ⟨V, R, rfl, st, hown, f3, -, hq⟩)
   · exact yy46
   have F3 := ftr F2 f3
   have FW3 := ftr FW2 f3
   have HCB := hid (kJQ (HLB.o.rxB HK.o) hq)
   have HQ := hid hq
   have HMI3 := hid ((HMI.o HLT.o).fr F3.o)
   have HDL : Hid (m.datas.length ≤ 100) := HLT.o.datas
   have HIL : Hid (m.imports.length ≤ 100) := HLT.o.imports
   have hrs := kIk st m m.types.length m.imports.length m.funcs.length m.tables.length m.mems.length m.globals.length m.exports.length m.elems.length m.datas.length m.customs.length ct ci cf cta cm cg ce cel cd cc At Ai Af Ata Am Ag Ae Ael Ad Ac m.hasStart m.start l B cb HMI3 (hid ⟨rfl, rfl, rfl, rfl, rfl, rfl, rfl, rfl, rfl, rfl, rfl, HDL.o⟩) HCB.o (by have := HLL.o; omega) (HGE.o w3 F3.o)
   rw [show (fun im what => chkS (kAE x x.funcs.length x.tabs.length x.mems.length x.globs.length x.insts.length) im m what) = (fun im what => chkS x im m what) from funext fun im => funext fun what => kKQ HQ.o HU.o im m what] at hrs
   have HRS := hid hrs
   have HRR := hid (fun (X : World) (f : Fr No w3 X) => kKT x (cs := cs) m l B cb ct ci cf cta cm cg ce cel cd cc At Ai Af Ata Am Ag Ae Ael Ad Ac X (HRD.o X (F3.o.trans f i3)) (els_up HTE.o (F3.o.trans f i3) i2 (fun k hk => ltl hk (F3.o.trans f i3).size)) (els_up HIE.o (F3.o.trans f i3) i2 (fun k hk => ltl hk (F3.o.trans f i3).size)) HLT.o.types (by have := HIL.o; omega) (fun a ha => by have h := HLT.o.fn a ha; unfold sFn at h; exact ⟨by omega, by omega⟩) (fun a ha => by have h := HLB.o.fb a ha; exact ⟨by omega, by omega⟩) HK.o.t (fun a ha => (kDT HQ.o (by rw [List.take_length]; exact ha) (HU.o.m a ha)).2) (by have := HLL.o; omega) (HGE.o X (F3.o.trans f i3)))
   generalize kCL l (fun im what => chkS x im m what) = g at HRS HRR
   clear hrs f3 st HMA hown hq HMI HMI3 HCB HMRD HRD HLB HLT HTE HIE HGE
   obtain ⟨y0, y1, y2, y3, y4, y5, y6, y7, y8, y9, y10, y11⟩ := HX.o  w3 FW3.o
   go_wp2_with fail
   clear y0 y1 y2 y3 y4 y5 y6 y7 y8 y9 y10 y11
   refine HRS.o.mono ?_
   rintro e w4 ⟨f4, ho⟩
   have FW4 := ftr FW3 f4
   have F4 := ftr F3 f4
   have HR4 := hid (HRR.o w4 f4)
   have HO := hid ho
   clear f4 HRS HRR
   have r4 := hid (HR.o w4 FW4.o)
   obtain ⟨y0, y1, y2, y3, y4, y5, y6, y7, y8, y9, y10, y11⟩ := HX.o  w4 FW4.o
   rcases ho with ⟨k, hk, hz, hne, rfl⟩ | ⟨hz, A, c, -, rfl, el⟩
   · have HKS := hid (And.intro hz hne)
     have HKL := hid hk
     clear hz hne HO
     generalize hr : (g m.imports[k]).2 = r at *
     have HRE := hid hr
     clear hr hk
     go_wp2_with (first | (refine wpList_load_mid (by rfl) 33 _ (by rfl) p 0 (by rfl) _ _ r4.o underlying33 (by rfl) HI.o ?_) | fail)
     clear y0 y1 y2 y3 y4 y5 y6 y7 y8 y9 y10 y11 r4
     refine HR4.o.mono ?_
     rintro e w5 ⟨f5, ⟨j, hj, hz2, hne2, rfl⟩ | ⟨hz2, -⟩⟩
     · have hkj : k = j := kKc HKL.o hj HKS.o.1 (by have := HKS.o.2; rw [← HRE.o] at this; exact this) hz2 hne2
       subst hkj
       have e9 : (g m.imports[k]).2 = r := HRE.o
       rw [e9]
       have F5 := ftr F4 f5
       have HEX := hid (kFr [] none none 0 0 0 0 w5 rfl rfl (.inl rfl) (.inl rfl) dc)
       clear f5 hz2 hne2 hj e9 HR4
       exact yy31
     exfalso
     have h := hz2 _ (List.getElem_mem HKL.o)
     exact HKS.o.2 (HRE.o ▸ h)
   · have HKS := hid hz
     have EL := hid el
     clear hz el HO
     go_wp2_with (first | (refine wpList_load_mid (by rfl) 33 _ (by rfl) p 0 (by rfl) _ _ r4.o underlying33 (by rfl) HI.o ?_) | fail)
     clear y0 y1 y2 y3 y4 y5 y6 y7 y8 y9 y10 y11 r4
     refine HR4.o.mono ?_
     rintro e w5 ⟨f5, ⟨j, hj, -, hne2, -⟩ | ⟨-, A2, c2, -, rfl, el2⟩⟩
     · exact absurd (HKS.o _ (List.getElem_mem hj)) hne2
     have F5 := ftr F4 f5
     have HEX := hid (kFr (m.imports.map fun im => (g im).1) A A2 c c2 m.imports.length m.imports.length w5 (by rw [List.length_map]) (by rw [List.length_map]) (els_up EL.o f5 i2 (fun k hk => ltl hk f5.size)) el2 (by have := HIL.o; rw [List.length_map]; omega))
     clear f5 el2 HR4 EL
     exact yy31
theorem kKs (w : World) (v0 v1 v2 : Value) (x0 : Rx) (x1 : Md) (x2 : List Gv) (y0 : tRx.rd w (· < w.heap.size) v0.cells.toList x0) (y1 : tMd.rd w (· < w.heap.size) v1.cells.toList x1) (y2 : tGv.slice.rd w (· < w.heap.size) v2.cells.toList x2)
    (u0 : tRx.le 1048576 x0) (u1 : tMd.le 1048576 x1) (_ : tGv.slice.le 1048576 x2) (hv0 : ∃ cs, v0 = .agg cs) (hv1 : ∃ cs, v1 = .agg cs) (hv2 : ∃ A l c, v2 = .slice A l c) :
    Calls prog 4 #[v0, v1, v2] w fun e w' => e = .returned (.bool true) ∧ Below w.heap.size w w' := by
 obtain ⟨cs, rfl⟩ := hv0
 obtain ⟨ms, rfl⟩ := hv1
 obtain ⟨A, l, c, rfl⟩ := hv2
 obtain ⟨A', c', e, _, _, h2⟩ := y2
 simp only [Value.cells, List.cons.injEq, and_true, Value.slice.injEq] at e
 obtain ⟨rfl, rfl, rfl⟩ := e
 have h0 : tRx.rd w (· < w.heap.size) cs.toList x0 := y0
 have h1 : tMd.rd w (· < w.heap.size) ms.toList x1 := y1
 have h := kKR x0 (cs := cs.toList) (ms := ms.toList) x1 x2 A c w h0 (kCO u0).1 (kCO u0).2.1 (kCO u0).2.2 h1 (kKh u1) h2
 exact yy41
def m0 : Md := ⟨[], [], [], [], [], [], [], false, 0, [], [], []⟩
theorem kLM (w : World) : MdIn w m0 none none none none none none none none := by
 refine ⟨.inl rfl, .inl rfl, .inl rfl, .inl rfl, .inl rfl, .inl rfl, .inl rfl, .inl rfl, ?_, ?_, ?_, ?_, ?_, ?_, ?_, ?_, ?_, ?_, ?_, ?_⟩ <;> simp [m0]
def m2 (f g : Fn) : Md := ⟨[f, g], [], [], [], [], [], [], false, 0, [], [], []⟩
theorem kLL {w : World} {f g : Fn} {A : OA} (h : tFn.els w (· < w.heap.size) A [f, g]) (hf : f.params.length ≤ 1048576 ∧ f.results.length ≤ 1048576) (hg : g.params.length ≤ 1048576 ∧ g.results.length ≤ 1048576) : MdIn w (m2 f g) A none none none none none none none := by
 refine ⟨h, .inl rfl, .inl rfl, .inl rfl, .inl rfl, .inl rfl, .inl rfl, .inl rfl, ?_, ?_, ?_, ?_, ?_, ?_, ?_, ?_, ?_, ?_, ?_, ?_⟩ <;> simp [m2]
 omega
theorem kLC {w : World} {R : Nat → Prop} {V : Pl} {x : Rx} (h : StIn w R V x) (im : Im) (what : Et) (hb : ChB x) :
    Calls prog 12 #[.pointer (some ⟨V.P, 0, none⟩), .agg #[.string im.mod, .string im.name, .int .i64 im.kind, .int .i64 im.func, .int .i64 im.table.elem, .int .i64 im.table.lim.min, .int .i64 im.table.lim.max, .bool im.table.lim.has, .int .i64 im.mem.min, .int .i64 im.mem.max, .bool im.mem.has, .int .i64 im.glob.val, .bool im.glob.mut_], .agg #[.slice none 0 0, .slice none 0 0, .slice none 0 0, .slice none 0 0, .slice none 0 0, .slice none 0 0, .slice none 0 0, .bool false, .int .i64 0, .slice none 0 0, .slice none 0 0, .slice none 0 0], .agg #[.int .i64 what.kind, .int .i64 what.addr]] w fun e w' => e = .returned (.int .i64 (chkS x im m0 what)) ∧ Fr No w w' :=
 kHZ h im m0 what 0 0 0 0 0 0 0 0 0 0 0 0 0 0 0 0 0 0 0 0 none none none none none none none none none none false 0 (kLM w) ⟨rfl, rfl, rfl, rfl, rfl, rfl, rfl, rfl, rfl, rfl, rfl, by decide⟩ hb
theorem kKq (f g : Fn) : fnEq f g = fnEq g f := by
 rw [Bool.eq_iff_iff, kKL, kKL]
 exact eq_comm
theorem kLH {x : Rx} {k : Nat} {f : Fi} {g : Fn} (h : atD zFi x.funcs (k : Int) = (f, true)) : chkS x ⟨⟨#[]⟩, ⟨#[]⟩, 0, 0, ⟨0, ⟨0, 0, false⟩⟩, ⟨0, 0, false⟩, ⟨0, false⟩⟩ (m2 f.ty g) ⟨0, k⟩ = 0 := by
 show fnS x 0 (m2 f.ty g) k = 0
 unfold fnS
 rw [h, show atD zFn (m2 f.ty g).types 0 = (f.ty, true) from rfl, if_pos rfl, if_pos rfl, if_pos (kKL.2 rfl)]
theorem kLG {x : Rx} {k : Nat} {f : Fi} {g : Fn} (h : atD zFi x.funcs (k : Int) = (f, true)) : (chkS x ⟨⟨#[]⟩, ⟨#[]⟩, 0, 1, ⟨0, ⟨0, 0, false⟩⟩, ⟨0, 0, false⟩, ⟨0, false⟩⟩ (m2 f.ty g) ⟨0, k⟩ == 0) = fnEq g f.ty := by
 show (fnS x 1 (m2 f.ty g) k == 0) = _
 unfold fnS
 rw [h, show atD zFn (m2 f.ty g).types 1 = (g, true) from rfl, if_pos rfl, if_pos rfl, kKq g f.ty]
 cases fnEq f.ty g <;> rfl
theorem kLF {x : Rx} {k : Nat} {f : Fi} {g : Fn} : chkS x ⟨⟨#[]⟩, ⟨#[]⟩, 0, 2, ⟨0, ⟨0, 0, false⟩⟩, ⟨0, 0, false⟩, ⟨0, false⟩⟩ (m2 f.ty g) ⟨0, k⟩ = 11 := by
 show fnS x 2 (m2 f.ty g) k = 11
 unfold fnS
 rw [show atD zFn (m2 f.ty g).types 2 = (zFn, false) from rfl, if_neg dc]
theorem kLE {x : Rx} {k : Nat} {y : Rg} (h : getI x.globs (k : Int) = some y) : chkS x ⟨⟨#[]⟩, ⟨#[]⟩, 3, 0, ⟨0, ⟨0, 0, false⟩⟩, ⟨0, 0, false⟩, ⟨y.t.val, y.t.mut_⟩⟩ m0 ⟨3, k⟩ = 0 := by
 show kCk x ⟨y.t.val, y.t.mut_⟩ k = 0
 unfold kCk
 rw [h]
 show kCr true (y.t.val == y.t.val && y.t.mut_ == y.t.mut_) = 0
 rw [beq_self_eq_true, beq_self_eq_true]
 rfl
theorem kLD {x : Rx} {k : Nat} {y : Rg} (h : getI x.globs (k : Int) = some y) : chkS x ⟨⟨#[]⟩, ⟨#[]⟩, 3, 0, ⟨0, ⟨0, 0, false⟩⟩, ⟨0, 0, false⟩, ⟨y.t.val, (!y.t.mut_)⟩⟩ m0 ⟨3, k⟩ = 26 := by
 show kCk x ⟨y.t.val, !y.t.mut_⟩ k = 26
 unfold kCk
 rw [h]
 show kCr true (y.t.val == y.t.val && y.t.mut_ == !y.t.mut_) = 26
 rw [beq_self_eq_true]
 cases y.t.mut_ <;> rfl
theorem kLB {x : Rx} {k n : Nat} {y : Rm} (h : getI x.mems (k : Int) = some y) (hn : y.b.length / 256 = n) : chkS x ⟨⟨#[]⟩, ⟨#[]⟩, 2, 0, ⟨0, ⟨0, 0, false⟩⟩, ⟨(n : Int), 0, false⟩, ⟨0, false⟩⟩ m0 ⟨2, k⟩ = 0 := by
 show kCj x ⟨n, 0, false⟩ k = 0
 unfold kCj
 rw [h]
 show kCr true (kDX ((y.b.length / 256 : Nat) : Int) y.lim ⟨n, 0, false⟩) = 0
 rw [hn]
 simp [kDX, kCr]
theorem kLA {x : Rx} {k n : Nat} {y : Rm} (h : getI x.mems (k : Int) = some y) (hn : y.b.length / 256 = n) : chkS x ⟨⟨#[]⟩, ⟨#[]⟩, 2, 0, ⟨0, ⟨0, 0, false⟩⟩, ⟨((n : Int) + 1), 0, false⟩, ⟨0, false⟩⟩ m0 ⟨2, k⟩ = 26 := by
 show kCj x ⟨(n : Int) + 1, 0, false⟩ k = 26
 unfold kCj
 rw [h]
 show kCr true (kDX ((y.b.length / 256 : Nat) : Int) y.lim ⟨(n : Int) + 1, 0, false⟩) = 26
 rw [hn]
 have d : decide ((n : Int) < (n : Int) + 1) = true := by simp; omega
 simp [kDX, kCr]
 omega
theorem kLN {x : Rx} : chkS x ⟨⟨#[]⟩, ⟨#[]⟩, 1, 0, ⟨0, ⟨0, 0, false⟩⟩, ⟨0, 0, false⟩, ⟨0, false⟩⟩ m0 ⟨1, (x.tabs.length : Nat)⟩ = 27 := by
 show kFh x ⟨0, ⟨0, 0, false⟩⟩ ((x.tabs.length : Nat) : Int) = 27
 unfold kFh
 rw [kFg (.inr (Int.le_refl _))]
theorem kKi (x : Rx) {cs : LV} (other : Fn) (O1 O2 : OA) (o1 o2 : Nat) (w : World) (hx : tRx.rd w (· < w.heap.size) cs x) (hw : LxW x) (hk : RxK x) (hu : RxU x) (hf1 : other.params.length ≤ 1048576 ∧ other.results.length ≤ 1048576) (hfr : tFn.rd w (· < w.heap.size) [.slice O1 other.params.length o1, .slice O2 other.results.length o2] other) :
    Calls prog 6 #[.agg cs.toArray, .agg #[.slice O1 other.params.length o1, .slice O2 other.results.length o2]] w fun e w' => e = .returned (.bool true) ∧ Fr No w w' := by
 obtain ⟨A0, c0, A1, c1, A2, c2, A3, c3, A4, c4, A5, c5, A6, c6, A7, c7, A8, c8, A9, c9, hcs, -, -, -, -, -, -, -, -, -, -, -, e3, -, -, e4, -, -, e5, -, -, e6, -⟩ := kBz hx
 have E3 := hid e3
 have E5 := hid e5
 have E6 := hid e6
 have HCS := hid hcs
 have HL : Hid (cs.length = 10) := TyOk.len _ _ _ _ hx
 have HI : Hid ((prog.info? 33).map (·.size) = some cs.length) := by unfold Hid; rw [HL.o]; kernel_rfl
 have HRD : Hid (∀ X, Fr No w X → tRx.rd X (· < X.heap.size) cs x) := fun X f => kAO hx f i2 (fun k hk => ltl hk f.size)
 have HFR := hid hfr
 have HFL := hid hf1
 have HW := hid hw
 have HK := hid hk
 have HU := hid hu
 have F0 := hid (((Fr.refl No w).alloc (.cells cs.toArray 33)).alloc (.cells #[.slice O1 other.params.length o1, .slice O2 other.results.length o2] 78))
 have B0 := hid ((Blk.new w 33 cs.toArray).alloc (.cells #[.slice O1 other.params.length o1, .slice O2 other.results.length o2] 78))
 have B1 := hid (Blk.new1 w (.cells cs.toArray 33) 78 #[.slice O1 other.params.length o1, .slice O2 other.results.length o2])
 have HAL := hid (fun X => kEb X)
 clear hx hw hk hu hf1 hfr hcs e3 e4 e5 e6
 go_enter func6, ntmps6
 go_upto_region 1 with fail
 generalize (w.alloc (.cells cs.toArray 33)).alloc (.cells #[.slice O1 other.params.length o1, .slice O2 other.results.length o2] 78) = W at *
 obtain ⟨p, hp⟩ : ∃ p, p = w.heap.size := ⟨_, rfl⟩
 rw [← hp] at B0 B1 ⊢
 clear hp
 have HR : Hid (∀ X, Fr No W X → X.rangeAt p 0 cs) := fun X f => by simpa using kBJ (B0.o.fr f id)
 have HX : Hid (∀ X, Fr No W X → Ce X p 3 (.slice A3 x.funcs.length c3) ∧ Ce X p 4 (.slice A4 x.tabs.length c4) ∧ Ce X p 5 (.slice A5 x.mems.length c5) ∧ Ce X p 6 (.slice A6 x.globs.length c6) ∧ Ce X (p + 1) 0 (.slice O1 other.params.length o1) ∧ Ce X (p + 1) 1 (.slice O2 other.results.length o2)) := fun X f => by
  have h := B0.o.fr f id
  have h2 := B1.o.fr f id
  rw [HCS.o] at h
  exact ⟨h.cell 3, h.cell 4, h.cell 5, h.cell 6, h2.cell 0, h2.cell 1⟩
 clear B0 B1 HCS
 have r0 := hid (HR.o W (Fr.refl _ _))
 have HLI := hid (kFn x (cs := cs) W (HRD.o W F0.o) HW.o)
 go_wp2_with (first | (refine wpList_load_mid (by rfl) 33 _ (by rfl) p 0 (by rfl) _ _ r0.o underlying33 (by rfl) HI.o ?_) | fail)
 clear r0
 refine HLI.o.mono ?_
 rintro e w1 ⟨⟨r, rfl, hr⟩, f1⟩
 have FW1 := hid f1
 have F1 := ftr F0 f1
 have HLB := hid hr
 clear f1 hr HLI
 cases r with
 | false =>
  exact yy55
 | true =>
  replace HLB := hid (HLB.o rfl)
  obtain ⟨y0, y1, y2, y3, y4, y5⟩ := HX.o w1 FW1.o
  obtain ⟨u0, u1⟩ := HFL.o
  by_cases hs : 40 < other.params.length + other.results.length
  · have d1 : decide ((40 : Int) < (other.params.length : Nat) + (other.results.length : Nat)) = true := by simp; omega
    clear hs
    exact yy55
  have d1 : decide ((40 : Int) < (other.params.length : Nat) + (other.results.length : Nat)) = false := by simp; omega
  clear hs
  have r1 := hid (HR.o w1 FW1.o)
  have HMA := hid (kGk x (cs := cs) w1 (HRD.o w1 F1.o) (HLB.o.rxB HK.o))
  go_wp2_with (first | (refine wpList_load_mid (by rfl) 33 _ (by rfl) p 0 (by rfl) _ _ r1.o underlying33 (by rfl) HI.o ?_) | fail)
  clear r1 d1 y0 y1 y2 y3 y4 y5 u0 u1
  refine HMA.o.mono ?_
  rintro e w3 (⟨rfl, f3⟩ | ⟨V, R, rfl, st, hown, f3, -, hq⟩)
  · have F3 := ftr F1 f3
    clear f3 HMA
    go_wp2_with fail
    refine (HAL.o _).mono ?_
    rintro e wa ⟨rfl, fa⟩
    have FA := ftr F3 fa
    clear fa
    go_wp2_with fail
    go_ret
    exact ⟨rfl, FA.o⟩
  have F3 := ftr F1 f3
  have FW3 := ftr FW1 f3
  have HST := hid st
  have HQ := hid hq
  have HCB := hid (kJQ (HLB.o.rxB HK.o) hq)
  have HMF : Hid ((kAE x x.funcs.length x.tabs.length x.mems.length x.globs.length x.insts.length).funcs = x.funcs ∧ (kAE x x.funcs.length x.tabs.length x.mems.length x.globs.length x.insts.length).globs = x.globs ∧ (kAE x x.funcs.length x.tabs.length x.mems.length x.globs.length x.insts.length).mems = x.mems.map memN ∧ (kAE x x.funcs.length x.tabs.length x.mems.length x.globs.length x.insts.length).tabs.length = x.tabs.length) := by
   unfold kAE
   simp [Hid]
  generalize kAE x x.funcs.length x.tabs.length x.mems.length x.globs.length x.insts.length = X0 at *
  have HC0 := hid (fun (X : World) (f : Fr No w3 X) (im : Im) (what : Et) => kLC (HST.o.frNo f) im what HCB.o)
  have HC2 := hid (fun (X : World) (f : Fr No w3 X) (b : Nat) (g : Fn) (hg : g.params.length ≤ 1048576 ∧ g.results.length ≤ 1048576) (he : tFn.els X (· < X.heap.size) (some ⟨b, 0, none⟩) [g, other]) (im : Im) (what : Et) => kHZ (HST.o.frNo f) im (m2 g other) what 2 0 0 0 0 0 0 0 0 0 2 0 0 0 0 0 0 0 0 0 (some ⟨b, 0, none⟩) none none none none none none none none none false 0 (hid (kLL he hg HFL.o)) (hid ⟨rfl, rfl, rfl, rfl, rfl, rfl, rfl, rfl, rfl, rfl, rfl, nz⟩) HCB.o)
  clear f3 st hown hq HMA
  obtain ⟨y0, y1, y2, y3, y4, y5⟩ := HX.o w3 FW3.o
  go_wp2_with fail
  clear y0 y1 y2 y3 y4 y5
  go_loopw [7] (fun i wr => ∃ k : Nat, k ≤ x.funcs.length ∧ i = .int .i64 k ∧ Hid (Fr No w3 wr)) (fun i _ => x.funcs.length - (intOf i).toNat)
  case atStart => exact ⟨0, by omega, rfl, Fr.refl _ _⟩
  case round =>
  obtain ⟨k, hk, rfl, F⟩ := hrel
  have hfl := HLB.o.fl
  have FW := ftr FW3 F.o
  have F3r := ftr F3 F.o
  obtain ⟨y0, y1, y2, y3, y4, y5⟩ := HX.o wr FW.o
  by_cases hlt : k < x.funcs.length
  · have d1 : decide ((k : Int) < (x.funcs.length : Nat)) = true := by simp; omega
    have i0 := nki k
    have i1 : (k : Int) < (x.funcs.length : Nat) := om
    have HLT : Hid (k + 1 ≤ x.funcs.length) := hlt
    obtain ⟨b, o, P1, p1, P2, p2, eA, hbS, z0, z1, -, -, g3, g4, g1, g5, g6, g2, -⟩ := kFW (els_up E3.o F3r.o i2 (fun k hk => ltl hk F3r.o.size)) k hlt
    subst eA
    have hbl : b < wr.heap.size := hbS
    have HFB := hid (HLB.o.fb _ (List.getElem_mem hlt))
    have HAT : Hid (atD zFi X0.funcs (k : Int) = (x.funcs[k], true)) := by unfold Hid; rw [HMF.o.1]; exact kCQ hlt
    have HG : Hid (tFn.rd wr (· < wr.heap.size) [.slice P1 x.funcs[k].ty.params.length p1, .slice P2 x.funcs[k].ty.results.length p2] x.funcs[k].ty ∧ tI.els wr (· < wr.heap.size) P1 x.funcs[k].ty.params ∧ tI.els wr (· < wr.heap.size) P2 x.funcs[k].ty.results) := ⟨kHN g3 g4 g1 g5 g6 g2, g1, g2⟩
    clear g1 g2 g3 g4 g5 g6
    generalize x.funcs[k] = y at z0 z1 HG HFB HAT
    have HY : Hid (∀ X, Fr No wr X → Ce X p 3 (.slice (some ⟨b, o, none⟩) x.funcs.length c3) ∧ Ce X (p + 1) 0 (.slice O1 other.params.length o1) ∧ Ce X (p + 1) 1 (.slice O2 other.results.length o2) ∧ Ce X b (o + k * 4) (.slice P1 y.ty.params.length p1) ∧ Ce X b (o + k * 4 + 1) (.slice P2 y.ty.results.length p2)) := fun X f => by
     obtain ⟨t0, t1, t2, t3, t4, t5⟩ := HX.o X (FW.o.trans f i3)
     exact ⟨t0, t4, t5, (f.cell (p := ⟨b, o + k * 4, none⟩) hbl id).trans z0, (f.cell (p := ⟨b, o + k * 4 + 1, none⟩) hbl id).trans z1⟩
    clear z0 z1 hbl hbS hlt
    go_upto_region 9 with fail
    clear y0 y1 y2 y3 y4 y5
    go_cut [8] (fun p8 wx => ∃ (q b8 : Nat), p8 = .pointer (some ⟨q, 0, none⟩) ∧ Hid (wx.rangeAt q 0 [.slice (some ⟨b8, 0, none⟩) 2 2, .slice none 0 0, .slice none 0 0, .slice none 0 0, .slice none 0 0, .slice none 0 0, .slice none 0 0, .bool false, .int .i64 0, .slice none 0 0, .slice none 0 0, .slice none 0 0]) ∧ Hid (q < wx.heap.size) ∧ Hid (Blk wx b8 78 #[.slice P1 y.ty.params.length p1, .slice P2 y.ty.results.length p2, .slice O1 other.params.length o1, .slice O2 other.results.length o2]) ∧ Hid (Fr No wr wx))
    case first =>
     refine kFj (Fr No wr) (.rd 0 (.rd 1 (.rd 2 (.rd 3 (.rd 4 (.rd 5 (.rd 6 (.alt 7 (.rd 8 (.eff 9 (.eff 10 .nil))) 9 (.eff 7 (.rd 8 (.eff 10 .nil))))))))))) kr kr kr rfl ((Fr.refl _ _).drew) ?_
     refine rT HY.o ?_
     refine kJG ?_ ?_
     · refine wpT_eff rfl rfl fun K hK => sz ?_
       refine hK _ _ (((Fr.refl No wr).alloc _).drew) ?_
       clear hK K
       refine rT HY.o ?_
       refine wpT_eff rfl rfl fun K hK => sz ?_
       refine hK _ _ ((((Fr.refl No wr).alloc _).alloc _).drew) ?_
       clear hK K
       refine wpT_eff rfl rfl fun K hK => sz ?_
       refine hK _ _ ((((Fr.refl No wr).alloc _).alloc _).drew) ?_
       clear hK K
       refine wpT_nil ?_
       have B1 := (Blk.new1 wr (.cells #[.slice P1 y.ty.params.length p1, .slice P2 y.ty.results.length p2, .slice O1 other.params.length o1, .slice O2 other.results.length o2] 78) 55 #[.slice (some ⟨wr.heap.size, 0, none⟩) 2 2, .slice none 0 0, .slice none 0 0, .slice none 0 0, .slice none 0 0, .slice none 0 0, .slice none 0 0, .bool false, .int .i64 0, .slice none 0 0, .slice none 0 0, .slice none 0 0]).drew
       have B8 := ((Blk.new wr 78 #[.slice P1 y.ty.params.length p1, .slice P2 y.ty.results.length p2, .slice O1 other.params.length o1, .slice O2 other.results.length o2]).alloc (.cells #[.slice (some ⟨wr.heap.size, 0, none⟩) 2 2, .slice none 0 0, .slice none 0 0, .slice none 0 0, .slice none 0 0, .slice none 0 0, .slice none 0 0, .bool false, .int .i64 0, .slice none 0 0, .slice none 0 0, .slice none 0 0] 55)).drew
       have F5 := (((Fr.refl No wr).alloc (.cells #[.slice P1 y.ty.params.length p1, .slice P2 y.ty.results.length p2, .slice O1 other.params.length o1, .slice O2 other.results.length o2] 78)).alloc (.cells #[.slice (some ⟨wr.heap.size, 0, none⟩) 2 2, .slice none 0 0, .slice none 0 0, .slice none 0 0, .slice none 0 0, .slice none 0 0, .slice none 0 0, .bool false, .int .i64 0, .slice none 0 0, .slice none 0 0, .slice none 0 0] 55)).drew
       have HB1 := hid B1
       have HB8 := hid B8
       have HF5 := hid F5
       clear B1 B8 F5
       go_wp2_with fail
       go_meet
       exact ⟨wr.heap.size + 1, wr.heap.size, rfl, by simpa [Hid] using kBJ HB1.o, HB1.o.lt, HB8.o, HF5.o⟩
     · refine wpT_eff rfl rfl fun K hK => sz ?_
       refine hK _ _ (((Fr.refl No wr).alloc _).drew) ?_
       clear hK K
       refine wpT_eff rfl rfl fun K hK => sz ?_
       refine hK _ _ ((((Fr.refl No wr).alloc _).alloc _).drew) ?_
       clear hK K
       refine rT HY.o ?_
       have GZ := hid ((Blk.new wr 55 #[.slice none 0 0, .slice none 0 0, .slice none 0 0, .slice none 0 0, .slice none 0 0, .slice none 0 0, .slice none 0 0, .bool false, .int .i64 0, .slice none 0 0, .slice none 0 0, .slice none 0 0]).alloc (.cells #[.slice P1 y.ty.params.length p1, .slice P2 y.ty.results.length p2, .slice O1 other.params.length o1, .slice O2 other.results.length o2] 78)).drew
       have G8 := hid (Blk.new1 wr (.cells #[.slice none 0 0, .slice none 0 0, .slice none 0 0, .slice none 0 0, .slice none 0 0, .slice none 0 0, .slice none 0 0, .bool false, .int .i64 0, .slice none 0 0, .slice none 0 0, .slice none 0 0] 55) 78 #[.slice P1 y.ty.params.length p1, .slice P2 y.ty.results.length p2, .slice O1 other.params.length o1, .slice O2 other.results.length o2]).drew
       have FZ := hid (((Fr.refl No wr).alloc (.cells #[.slice none 0 0, .slice none 0 0, .slice none 0 0, .slice none 0 0, .slice none 0 0, .slice none 0 0, .slice none 0 0, .bool false, .int .i64 0, .slice none 0 0, .slice none 0 0, .slice none 0 0] 55)).alloc (.cells #[.slice P1 y.ty.params.length p1, .slice P2 y.ty.results.length p2, .slice O1 other.params.length o1, .slice O2 other.results.length o2] 78)).drew
       generalize hWz : ((wr.alloc (.cells #[.slice none 0 0, .slice none 0 0, .slice none 0 0, .slice none 0 0, .slice none 0 0, .slice none 0 0, .slice none 0 0, .bool false, .int .i64 0, .slice none 0 0, .slice none 0 0, .slice none 0 0] 55)).alloc (.cells #[.slice P1 y.ty.params.length p1, .slice P2 y.ty.results.length p2, .slice O1 other.params.length o1, .slice O2 other.results.length o2] 78)).drew = Wz at *
       clear hWz
       have T := hid (there_blk (n := 12) GZ.o rfl)
       have FS := hid (Fr.setCells' (a := wr) (M := No) (b := wr.heap.size) (fun h => absurd h (Nat.lt_irrefl _)) [.slice (some ⟨wr.heap.size + 1, 0, none⟩) 2 2, .slice none 0 0, .slice none 0 0, .slice none 0 0, .slice none 0 0, .slice none 0 0, .slice none 0 0, .bool false, .int .i64 0, .slice none 0 0, .slice none 0 0, .slice none 0 0] 0 _ FZ.o)
       have FS2 := hid (Fr.setCells' (M := fun q => q = wr.heap.size) (b := wr.heap.size) (fun _ => rfl) [.slice (some ⟨wr.heap.size + 1, 0, none⟩) 2 2, .slice none 0 0, .slice none 0 0, .slice none 0 0, .slice none 0 0, .slice none 0 0, .slice none 0 0, .bool false, .int .i64 0, .slice none 0 0, .slice none 0 0, .slice none 0 0] 0 _ (Fr.refl _ Wz))
       have NS := hid (World.rangeAt_setCells_same Wz wr.heap.size 0 [.slice (some ⟨wr.heap.size + 1, 0, none⟩) 2 2, .slice none 0 0, .slice none 0 0, .slice none 0 0, .slice none 0 0, .slice none 0 0, .slice none 0 0, .bool false, .int .i64 0, .slice none 0 0, .slice none 0 0, .slice none 0 0] T.o)
       have B8 := hid (G8.o.fr FS2.o om)
       have QL : Hid (wr.heap.size < (Wz.setCells wr.heap.size 0 [.slice (some ⟨wr.heap.size + 1, 0, none⟩) 2 2, .slice none 0 0, .slice none 0 0, .slice none 0 0, .slice none 0 0, .slice none 0 0, .slice none 0 0, .bool false, .int .i64 0, .slice none 0 0, .slice none 0 0, .slice none 0 0]).heap.size) := ltl GZ.o.lt FS2.o.size
       refine wpT_eff rfl rfl (fun K hK => ?_)
       simp only [List.getElem_toArray, List.getElem_cons_succ, List.getElem_cons_zero]
       refine wp_store_mid 55 _ _ (by rfl) wr.heap.size 0 #[.slice (some ⟨wr.heap.size + 1, 0, none⟩) 2 2, .slice none 0 0, .slice none 0 0, .slice none 0 0, .slice none 0 0, .slice none 0 0, .slice none 0 0, .bool false, .int .i64 0, .slice none 0 0, .slice none 0 0, .slice none 0 0] (by rfl) (by rfl) T.o kr (by simp [Value.oneCell']) ?_
       refine hK _ _ FS.o ?_
       clear hK K
       refine wpT_nil ?_
       go_wp2_with fail
       go_meet
       exact ⟨wr.heap.size, wr.heap.size + 1, rfl, NS.o, QL.o, B8.o, FS.o⟩
    obtain ⟨q, b8, rfl, RQ, HQL, B8, F5⟩ := hcut
    have F6a := hid ((Fr.refl No wc).alloc (.cells #[.int .i64 0, .int .i64 (k : Nat)] 57))
    have B6 := hid (Blk.new wc 57 #[.int .i64 0, .int .i64 (k : Nat)])
    go_upto_region 11 with fail
    generalize wc.alloc (.cells #[.int .i64 0, .int .i64 (k : Nat)] 57) = W6 at *
    obtain ⟨q6, hq6⟩ : ∃ q, q = wc.heap.size := ⟨_, rfl⟩
    rw [← hq6] at B6 ⊢
    clear hq6
    have F6 := ftr F5 F6a.o
    have F36 := ftr F F6.o
    have HYQ : Hid (∀ X, Fr No W6 X → Ce X q 0 (.slice (some ⟨b8, 0, none⟩) 2 2) ∧ Ce X q 1 (.slice none 0 0) ∧ Ce X q 2 (.slice none 0 0) ∧ Ce X q 3 (.slice none 0 0) ∧ Ce X q 4 (.slice none 0 0) ∧ Ce X q 5 (.slice none 0 0) ∧ Ce X q 6 (.slice none 0 0) ∧ Ce X q 7 (.bool false) ∧ Ce X q 8 (.int .i64 0) ∧ Ce X q 9 (.slice none 0 0) ∧ Ce X q 10 (.slice none 0 0) ∧ Ce X q 11 (.slice none 0 0) ∧ Ce X q6 0 (.int .i64 0) ∧ Ce X q6 1 (.int .i64 (k : Nat)) ∧ Ce X p 3 (.slice (some ⟨b, o, none⟩) x.funcs.length c3) ∧ Ce X (p + 1) 0 (.slice O1 other.params.length o1) ∧ Ce X (p + 1) 1 (.slice O2 other.results.length o2) ∧ Ce X b (o + k * 4) (.slice P1 y.ty.params.length p1) ∧ Ce X b (o + k * 4 + 1) (.slice P2 y.ty.results.length p2)) := fun X f => by
     obtain ⟨t0, t1, t2, t3, t4⟩ := HY.o X (F6.o.trans f i3)
     have hc : ∀ (i : Nat) (v : Value), [.slice (some ⟨b8, 0, none⟩) 2 2, .slice none 0 0, .slice none 0 0, .slice none 0 0, .slice none 0 0, .slice none 0 0, .slice none 0 0, .bool false, .int .i64 0, .slice none 0 0, .slice none 0 0, .slice none 0 0][i]? = some v → Ce X q i v := fun i v hv => by
      have h1 := RQ.o i v hv
      rw [Nat.zero_add] at h1
      exact ((F6a.o.trans f i3).cell (p := ⟨q, i, none⟩) HQL.o id).trans h1
     exact ⟨hc 0 _ rfl, hc 1 _ rfl, hc 2 _ rfl, hc 3 _ rfl, hc 4 _ rfl, hc 5 _ rfl, hc 6 _ rfl, hc 7 _ rfl, hc 8 _ rfl, hc 9 _ rfl, hc 10 _ rfl, hc 11 _ rfl, (B6.o.fr f id).cell 0, (B6.o.fr f id).cell 1, t0, t1, t2, t3, t4⟩
    have HEL : Hid (∀ X, Fr No W6 X → tFn.els X (· < X.heap.size) (some ⟨b8, 0, none⟩) [y.ty, other]) := fun X f => by
     have h8 := B8.o.fr (F6a.o.trans f i3) id
     have g1 := kAO HG.o.1 (F6.o.trans f i3) i2 (fun k hk => ltl hk (F6.o.trans f i3).size)
     have g2 := kAO HFR.o (F3r.o.trans (F6.o.trans f i3) i3) i2 (fun k hk => ltl hk (F3r.o.trans (F6.o.trans f i3) i3).size)
     exact lel (css := [[.slice P1 y.ty.params.length p1, .slice P2 y.ty.results.length p2], [.slice O1 other.params.length o1, .slice O2 other.results.length o2]]) h8 (Css.two g1 g2) (by show 2 ≤ maxLen; decide)
    have HYB : Hid (y.ty.params.length ≤ 1048576 ∧ y.ty.results.length ≤ 1048576) := hid (by have := HFB.o; exact ⟨by omega, by omega⟩)
    have HK0 : Hid (∀ X, Fr No W6 X → Calls prog 12 #[.pointer (some ⟨V.P, 0, none⟩), .agg #[.string ⟨#[]⟩, .string ⟨#[]⟩, .int .i64 0, .int .i64 0, .int .i64 0, .int .i64 0, .int .i64 0, .bool false, .int .i64 0, .int .i64 0, .bool false, .int .i64 0, .bool false], .agg #[.slice (some ⟨b8, 0, none⟩) 2 2, .slice none 0 0, .slice none 0 0, .slice none 0 0, .slice none 0 0, .slice none 0 0, .slice none 0 0, .bool false, .int .i64 0, .slice none 0 0, .slice none 0 0, .slice none 0 0], .agg #[.int .i64 0, .int .i64 (k : Nat)]] X fun e w' => e = .returned (.int .i64 0) ∧ Fr No X w') := fun X f => by
     have h := HC2.o X (F36.o.trans f i3) b8 y.ty HYB.o (HEL.o X f) ⟨⟨#[]⟩, ⟨#[]⟩, 0, 0, ⟨0, ⟨0, 0, false⟩⟩, ⟨0, 0, false⟩, ⟨0, false⟩⟩ ⟨0, (k : Nat)⟩
     rw [kLH HAT.o] at h
     exact h
    have HK1 : Hid (∀ X, Fr No W6 X → Calls prog 12 #[.pointer (some ⟨V.P, 0, none⟩), .agg #[.string ⟨#[]⟩, .string ⟨#[]⟩, .int .i64 0, .int .i64 1, .int .i64 0, .int .i64 0, .int .i64 0, .bool false, .int .i64 0, .int .i64 0, .bool false, .int .i64 0, .bool false], .agg #[.slice (some ⟨b8, 0, none⟩) 2 2, .slice none 0 0, .slice none 0 0, .slice none 0 0, .slice none 0 0, .slice none 0 0, .slice none 0 0, .bool false, .int .i64 0, .slice none 0 0, .slice none 0 0, .slice none 0 0], .agg #[.int .i64 0, .int .i64 (k : Nat)]] X fun e w' => e = .returned (.int .i64 (chkS X0 ⟨⟨#[]⟩, ⟨#[]⟩, 0, 1, ⟨0, ⟨0, 0, false⟩⟩, ⟨0, 0, false⟩, ⟨0, false⟩⟩ (m2 y.ty other) ⟨0, (k : Nat)⟩)) ∧ Fr No X w') := fun X f => HC2.o X (F36.o.trans f i3) b8 y.ty HYB.o (HEL.o X f) ⟨⟨#[]⟩, ⟨#[]⟩, 0, 1, ⟨0, ⟨0, 0, false⟩⟩, ⟨0, 0, false⟩, ⟨0, false⟩⟩ ⟨0, (k : Nat)⟩
    have HK2 : Hid (∀ X, Fr No W6 X → Calls prog 12 #[.pointer (some ⟨V.P, 0, none⟩), .agg #[.string ⟨#[]⟩, .string ⟨#[]⟩, .int .i64 0, .int .i64 2, .int .i64 0, .int .i64 0, .int .i64 0, .bool false, .int .i64 0, .int .i64 0, .bool false, .int .i64 0, .bool false], .agg #[.slice (some ⟨b8, 0, none⟩) 2 2, .slice none 0 0, .slice none 0 0, .slice none 0 0, .slice none 0 0, .slice none 0 0, .slice none 0 0, .bool false, .int .i64 0, .slice none 0 0, .slice none 0 0, .slice none 0 0], .agg #[.int .i64 0, .int .i64 (k : Nat)]] X fun e w' => e = .returned (.int .i64 11) ∧ Fr No X w') := fun X f => by
     have h := HC2.o X (F36.o.trans f i3) b8 y.ty HYB.o (HEL.o X f) ⟨⟨#[]⟩, ⟨#[]⟩, 0, 2, ⟨0, ⟨0, 0, false⟩⟩, ⟨0, 0, false⟩, ⟨0, false⟩⟩ ⟨0, (k : Nat)⟩
     rw [kLF] at h
     exact h
    have hr1 : (chkS X0 ⟨⟨#[]⟩, ⟨#[]⟩, 0, 1, ⟨0, ⟨0, 0, false⟩⟩, ⟨0, 0, false⟩, ⟨0, false⟩⟩ (m2 y.ty other) ⟨0, (k : Nat)⟩ == 0) = fnEq other y.ty := kLG HAT.o
    generalize chkS X0 ⟨⟨#[]⟩, ⟨#[]⟩, 0, 1, ⟨0, ⟨0, 0, false⟩⟩, ⟨0, 0, false⟩, ⟨0, false⟩⟩ (m2 y.ty other) ⟨0, (k : Nat)⟩ = r1 at HK1 hr1
    have HSM : Hid (∀ X, Fr No W6 X → Calls prog 17 #[.agg #[.slice O1 other.params.length o1, .slice O2 other.results.length o2], .agg #[.slice P1 y.ty.params.length p1, .slice P2 y.ty.results.length p2]] X fun e w' => e = .returned (.bool (fnEq other y.ty)) ∧ Fr No X w') := fun X f => by
     have F6X := F6.o.trans f i3
     obtain ⟨_, _, _, _, e0, -, -, k1, -, -, k2⟩ := Fn_cells (kAO HFR.o (F3r.o.trans F6X i3) i2 (fun k hk => ltl hk (F3r.o.trans F6X i3).size) : tFn.rd X (· < X.heap.size) _ other)
     simp only [List.cons.injEq, Value.slice.injEq, and_true, true_and] at e0
     obtain ⟨⟨rfl, rfl⟩, rfl, rfl⟩ := e0
     have u := HFL.o
     have v := HYB.o
     exact kKJ other y.ty _ _ P1 P2 _ _ p1 p2 (· < X.heap.size) (· < X.heap.size) X i2 i2 k1 k2 (els_up HG.o.2.1 F6X i2 (fun k hk => ltl hk F6X.size)) (els_up HG.o.2.2 F6X i2 (fun k hk => ltl hk F6X.size)) om om om om
    generalize fnEq other y.ty = sm at HSM hr1
    clear HEL HAT
    refine rwO (Fr No W6) [] [0, 1, 2, 3, 4, 5, 6, 7, 8, 9, 10, 13, 14, 15, 16, 17, 18, 19, 11, 12, 20, 21, 22, 23, 24, 25, 26, 27, 28, 29, 30] [4, 11, 20, 28] (Fr.refl _ _).drew ?_
    refine rO HYQ.o ?_
    refine wpO_eff rfl rfl fun K hK => sz ?_
    refine (HK0.o _ (Fr.refl No W6).drew).mono ?_
    rintro e w7 ⟨rfl, f7⟩
    have F7 := hid ((Fr.refl No W6).drew.trans f7 i3)
    refine hK _ _ (fun _ => F7.o) ?_
    clear hK K f7
    refine rO HYQ.o ?_
    refine wpO_eff rfl rfl fun K hK => sz ?_
    refine (HK1.o _ F7.o).mono ?_
    rintro e w8 ⟨rfl, f8⟩
    have F8 := ftr F7 f8
    refine hK _ _ (fun _ => F8.o) ?_
    clear hK K f8
    refine rO HYQ.o ?_
    refine wpO_eff rfl rfl fun K hK => sz ?_
    refine (HSM.o _ F8.o).mono ?_
    rintro e w9 ⟨rfl, f9⟩
    have F9 := ftr F8 f9
    refine hK _ _ (fun _ => F9.o) ?_
    clear hK K f9
    refine rO HYQ.o ?_
    refine wpO_eff rfl rfl fun K hK => sz ?_
    refine (HK2.o _ F9.o).mono ?_
    rintro e w10 ⟨rfl, f10⟩
    have F10 := ftr F9 f10
    refine hK _ _ (fun _ => F10.o) ?_
    clear hK K f10
    refine rO HYQ.o ?_
    refine wpO_nil ?_
    have FX := ftr F36 F10.o
    go_wp2_with fail
    go_roundw
    case rel => exact ⟨k + 1, HLT.o, by go_num, FX.o⟩
    exact meas0 HLT.o
  · have hkn : k = x.funcs.length := om
    subst hkn
    obtain ⟨W1, hY⟩ : ∃ Y, Y = wr := ⟨_, rfl⟩
    subst hY
    have FA1 := hid F.o
    clear F hk hlt hfl
    go_wp2_with fail
    clear y0 y1 y2 y3 y4 y5 FW F3r
    go_loopw [10] (fun i wr => ∃ k : Nat, k ≤ x.globs.length ∧ i = .int .i64 k ∧ Hid (Fr No w3 wr)) (fun i _ => x.globs.length - (intOf i).toNat)
    case atStart => exact ⟨0, by omega, rfl, FA1.o⟩
    case round =>
    obtain ⟨k, hk, rfl, F⟩ := hrel
    have hgl := HLB.o.gl
    have FW := ftr FW3 F.o
    have F3r := ftr F3 F.o
    obtain ⟨y0, y1, y2, y3, y4, y5⟩ := HX.o wr FW.o
    by_cases hlt : k < x.globs.length
    · have d1 : decide ((k : Int) < (x.globs.length : Nat)) = true := by simp; omega
      have i0 := nki k
      have i1 : (k : Int) < (x.globs.length : Nat) := om
      have HLT : Hid (k + 1 ≤ x.globs.length) := hlt
      obtain ⟨b, o, eA, hbS, z0, z1, -⟩ := kHL (els_up E6.o F3r.o i2 (fun k hk => ltl hk F3r.o.size)) k hlt
      subst eA
      have HGT : Hid (getI X0.globs (k : Int) = some x.globs[k]) := by unfold Hid; rw [HMF.o.2.1]; exact kAp hlt
      generalize x.globs[k] = y at z0 z1 HGT
      clear hbS hlt
      have F4a := hid ((((Fr.refl No wr).alloc (.cells #[.int .i64 y.t.val, .bool y.t.mut_] 41)).alloc (.cells #[.int .i64 y.t.val, .bool (!y.t.mut_)] 41)).alloc (.cells #[.int .i64 3, .int .i64 (k : Nat)] 57))
      have B1 := hid (((Blk.new wr 41 #[.int .i64 y.t.val, .bool y.t.mut_]).alloc (.cells #[.int .i64 y.t.val, .bool (!y.t.mut_)] 41)).alloc (.cells #[.int .i64 3, .int .i64 (k : Nat)] 57))
      have B2 := hid ((Blk.new1 wr (.cells #[.int .i64 y.t.val, .bool y.t.mut_] 41) 41 #[.int .i64 y.t.val, .bool (!y.t.mut_)]).alloc (.cells #[.int .i64 3, .int .i64 (k : Nat)] 57))
      have B3 := hid (Blk.at2 wr (.cells #[.int .i64 y.t.val, .bool y.t.mut_] 41) (.cells #[.int .i64 y.t.val, .bool (!y.t.mut_)] 41) 57 #[.int .i64 3, .int .i64 (k : Nat)])
      go_upto_region 19 with fail
      clear y0 y1 y2 y3 y4 y5 z0 z1
      generalize ((wr.alloc (.cells #[.int .i64 y.t.val, .bool y.t.mut_] 41)).alloc (.cells #[.int .i64 y.t.val, .bool (!y.t.mut_)] 41)).alloc (.cells #[.int .i64 3, .int .i64 (k : Nat)] 57) = W4 at *
      obtain ⟨q, hq⟩ : ∃ q, q = wr.heap.size := ⟨_, rfl⟩
      rw [← hq] at B1 B2 B3 ⊢
      clear hq
      have F34 := ftr F F4a.o
      have z0 := B1.o.cell 0
      have z1 := B1.o.cell 1
      have z2 := B2.o.cell 0
      have z3 := B2.o.cell 1
      have z4 := B3.o.cell 0
      have z5 := B3.o.cell 1
      have hc0 := HC0.o W4 F34.o ⟨⟨#[]⟩, ⟨#[]⟩, 3, 0, ⟨0, ⟨0, 0, false⟩⟩, ⟨0, 0, false⟩, ⟨y.t.val, y.t.mut_⟩⟩ ⟨3, (k : Nat)⟩
      rw [kLE HGT.o] at hc0
      have HK0 := hid hc0
      clear hc0
      go_wp2_with fail
      clear z0 z1 z2 z3 z4 z5
      refine HK0.o.mono ?_
      rintro e w5 ⟨rfl, f5⟩
      have F35 := ftr F34 f5
      have z0 := (B1.o.fr f5 id).cell 0
      have z1 := (B1.o.fr f5 id).cell 1
      have z2 := (B2.o.fr f5 id).cell 0
      have z3 := (B2.o.fr f5 id).cell 1
      have z4 := (B3.o.fr f5 id).cell 0
      have z5 := (B3.o.fr f5 id).cell 1
      have hc0 := HC0.o w5 F35.o ⟨⟨#[]⟩, ⟨#[]⟩, 3, 0, ⟨0, ⟨0, 0, false⟩⟩, ⟨0, 0, false⟩, ⟨y.t.val, (!y.t.mut_)⟩⟩ ⟨3, (k : Nat)⟩
      rw [kLD HGT.o] at hc0
      have HK1 := hid hc0
      clear hc0 f5 HK0
      go_wp2_with fail
      clear z0 z1 z2 z3 z4 z5
      exact yy43
    have hkn : k = x.globs.length := om
    subst hkn
    obtain ⟨W1, hY⟩ : ∃ Y, Y = wr := ⟨_, rfl⟩
    subst hY
    have FA2 := hid F.o
    clear F hk hlt hgl
    go_wp2_with fail
    clear y0 y1 y2 y3 y4 y5 FW F3r
    go_loopw [14] (fun i wr => ∃ k : Nat, k ≤ x.mems.length ∧ i = .int .i64 k ∧ Hid (Fr No w3 wr)) (fun i _ => x.mems.length - (intOf i).toNat)
    case atStart => exact ⟨0, by omega, rfl, FA2.o⟩
    case round =>
    obtain ⟨k, hk, rfl, F⟩ := hrel
    have hml := HLB.o.ml
    have FW := ftr FW3 F.o
    have F3r := ftr F3 F.o
    obtain ⟨y0, y1, y2, y3, y4, y5⟩ := HX.o wr FW.o
    by_cases hlt : k < x.mems.length
    · have d1 : decide ((k : Int) < (x.mems.length : Nat)) = true := by simp; omega
      have i0 := nki k
      have i1 : (k : Int) < (x.mems.length : Nat) := om
      have HLT : Hid (k + 1 ≤ x.mems.length) := hlt
      obtain ⟨b, o, P1, p1, eA, hbS, -, -, -, z3, -⟩ := kIj (els_up E5.o F3r.o i2 (fun k hk => ltl hk F3r.o.size)) k hlt
      subst eA
      have HGT : Hid (getI X0.mems (k : Int) = some (memN x.mems[k])) := by unfold Hid; rw [HMF.o.2.2.1, kDo, kAp hlt]; rfl
      have HML := hid (kDT HQ.o (m := x.mems[k]) (by rw [List.take_length]; exact List.getElem_mem hlt) (HU.o.m _ (List.getElem_mem hlt)))
      generalize x.mems[k] = y at z3 HGT HML
      have hyl := HML.o.2
      obtain ⟨n, hn⟩ : ∃ n, n = y.b.length / 256 := ⟨_, rfl⟩
      have HN := hid hn
      clear hbS hlt hn
      go_upto_region 25 with fail
      have hdiv : ((y.b.length : Nat) : Int) / 256 = (n : Int) := by have := HN.o; omega
      have hn4 : n ≤ 4000 := by have := HN.o; omega
      rw [hdiv]
      have HN2 : Hid ((memN y).b.length / 256 = n) := by unfold Hid; rw [HML.o.1, HN.o]
      clear hdiv hyl y0 y1 y2 y3 y4 y5 z3
      have F4a := hid ((Fr.refl No wr).alloc (.cells #[.int .i64 2, .int .i64 (k : Nat)] 57))
      have B3 := hid (Blk.new wr 57 #[.int .i64 2, .int .i64 (k : Nat)])
      go_upto_region 26 with fail
      generalize wr.alloc (.cells #[.int .i64 2, .int .i64 (k : Nat)] 57) = W4 at *
      obtain ⟨q, hq⟩ : ∃ q, q = wr.heap.size := ⟨_, rfl⟩
      rw [← hq] at B3 ⊢
      clear hq
      have F34 := ftr F F4a.o
      have z4 := B3.o.cell 0
      have z5 := B3.o.cell 1
      have hc0 := HC0.o W4 F34.o ⟨⟨#[]⟩, ⟨#[]⟩, 2, 0, ⟨0, ⟨0, 0, false⟩⟩, ⟨(n : Int), 0, false⟩, ⟨0, false⟩⟩ ⟨2, (k : Nat)⟩
      rw [kLB HGT.o HN2.o] at hc0
      have HK0 := hid hc0
      clear hc0
      go_wp2_with fail
      clear z4 z5
      refine HK0.o.mono ?_
      rintro e w5 ⟨rfl, f5⟩
      have F35 := ftr F34 f5
      have z4 := (B3.o.fr f5 id).cell 0
      have z5 := (B3.o.fr f5 id).cell 1
      have hc0 := HC0.o w5 F35.o ⟨⟨#[]⟩, ⟨#[]⟩, 2, 0, ⟨0, ⟨0, 0, false⟩⟩, ⟨((n : Int) + 1), 0, false⟩, ⟨0, false⟩⟩ ⟨2, (k : Nat)⟩
      rw [kLA HGT.o HN2.o] at hc0
      have HK1 := hid hc0
      clear hc0 f5 HK0
      go_wp2_with fail
      clear z4 z5
      exact yy43
    have hkn : k = x.mems.length := om
    subst hkn
    have htl := HLB.o.tl
    have hc0 := HC0.o wr F.o ⟨⟨#[]⟩, ⟨#[]⟩, 1, 0, ⟨0, ⟨0, 0, false⟩⟩, ⟨0, 0, false⟩, ⟨0, false⟩⟩ ⟨1, (X0.tabs.length : Nat)⟩
    rw [kLN, HMF.o.2.2.2] at hc0
    have HK0 := hid hc0
    clear hc0
    go_wp2_with fail
    clear y0 y1 y2 y3 y4 y5
    refine HK0.o.mono ?_
    rintro e w5 ⟨rfl, f5⟩
    have F5 := ftr F3r f5
    clear f5 HK0
    go_wp2_with fail
    refine (HAL.o _).mono ?_
    rintro e wa ⟨rfl, fa⟩
    have FA := ftr F5 fa
    clear fa
    go_wp2_with fail
    go_ret
    exact ⟨rfl, FA.o⟩
theorem kKz (w : World) (v0 v1 : Value) (x0 : Rx) (x1 : Fn) (y0 : tRx.rd w (· < w.heap.size) v0.cells.toList x0) (y1 : tFn.rd w (· < w.heap.size) v1.cells.toList x1)
    (u0 : tRx.le 1048576 x0) (u1 : tFn.le 1048576 x1) (hv0 : ∃ cs, v0 = .agg cs) (hv1 : ∃ cs, v1 = .agg cs) :
    Calls prog 6 #[v0, v1] w fun e w' => e = .returned (.bool true) ∧ Below w.heap.size w w' := by
 obtain ⟨cs, rfl⟩ := hv0
 obtain ⟨fs, rfl⟩ := hv1
 have h0 : tRx.rd w (· < w.heap.size) cs.toList x0 := y0
 have h1 : tFn.rd w (· < w.heap.size) fs.toList x1 := y1
 obtain ⟨O1, o1, O2, o2, e1, -⟩ := Fn_cells h1
 rw [e1] at h1
 have e1' := congrArg List.toArray e1
 rw [Array.toArray_toList] at e1'
 subst e1'
 have hf : x1.params.length ≤ 1048576 ∧ x1.results.length ≤ 1048576 := ⟨u1.1.1, u1.2.1⟩
 have h := kKi x0 (cs := cs.toList) x1 O1 O2 o1 o2 w h0 (kCO u0).1 (kCO u0).2.1 (kCO u0).2.2 hf h1
 rw [Array.toArray_toList] at h
 exact h.mono fun e w' h => ⟨h.1, h.2.below⟩
end Go.Proofs.YthggdemiddjlgaaGreat
