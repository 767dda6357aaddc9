/- The law SpaceThings. -/
import Derived.Test.YtfngopoaegofhaaSpX
import Derived.Test.YtfngopoaegofhaaSpU
namespace Go.Proofs.Ytfngopoaegofhaa
open Go.RowKit

theorem run_partM {P : Program} {t : TypeId} {w : World} {cs : Array Value} {off n : Nat} (h : (isAgg t).run P w = .ok true w) (hi : (P.info? t).map (·.size) = some n) : (part t cs off).run P w = .ok (.agg (cs.extract off (off + n))) w := by
  obtain ⟨i, h1, h2⟩ := Option.map_eq_some_iff.1 hi
  exact run_partN h h1 h2
set_option maxRecDepth 100000 in
theorem eq_Lim (z : Lim) (d : Nat) (w : World) : (Op.equalIn (d + 1 + 1) 58 (.agg #[.int .i64 z.min, .int .i64 z.max, .bool z.has]) (.agg #[.int .i64 z.min, .int .i64 z.max, .bool z.has])).run Try.prog w = .ok true w := by
  have h := eq_st (P := Try.prog) (t := 58) (w := w) (d := d + 1) (xs := #[.int .i64 z.min, .int .i64 z.max, .bool z.has]) (ys := #[.int .i64 z.min, .int .i64 z.max, .bool z.has]) (by kernel_rfl) (by kernel_rfl) (eqf_cons (by decide) (run_part1 (isAgg_int Try.underlying3) rfl) (run_part1 (isAgg_int Try.underlying3) rfl) (run_equalIn_int w d _ _ _ _ _ Try.underlying3)
    (eqf_cons (by decide) (run_part1 (isAgg_int Try.underlying3) rfl) (run_part1 (isAgg_int Try.underlying3) rfl) (run_equalIn_int w d _ _ _ _ _ Try.underlying3)
    (eqf_cons (by decide) (run_part1 (isAgg_bool Try.underlying4) rfl) (run_part1 (isAgg_bool Try.underlying4) rfl) (run_equalIn_bool w d _ _ _ Try.underlying4) eqf_nil)))
  simpa using h
set_option maxRecDepth 100000 in
theorem eq_Gl (z : Gl) (d : Nat) (w : World) : (Op.equalIn (d + 1 + 1) 62 (.agg #[.int .i64 z.val, .bool z.mut_]) (.agg #[.int .i64 z.val, .bool z.mut_])).run Try.prog w = .ok true w := by
  have h := eq_st (P := Try.prog) (t := 62) (w := w) (d := d + 1) (xs := #[.int .i64 z.val, .bool z.mut_]) (ys := #[.int .i64 z.val, .bool z.mut_]) (by kernel_rfl) (by kernel_rfl) (eqf_cons (by decide) (run_part1 (isAgg_int Try.underlying50) rfl) (run_part1 (isAgg_int Try.underlying50) rfl) (run_equalIn_int w d _ _ _ _ _ Try.underlying50)
    (eqf_cons (by decide) (run_part1 (isAgg_bool Try.underlying4) rfl) (run_part1 (isAgg_bool Try.underlying4) rfl) (run_equalIn_bool w d _ _ _ Try.underlying4) eqf_nil))
  simpa using h
set_option maxRecDepth 100000 in
theorem eq_Tb (z : Tb) (d : Nat) (w : World) : (Op.equalIn (d + 1 + 1 + 1) 60 (.agg #[.int .i64 z.elem, .int .i64 z.lim.min, .int .i64 z.lim.max, .bool z.lim.has]) (.agg #[.int .i64 z.elem, .int .i64 z.lim.min, .int .i64 z.lim.max, .bool z.lim.has])).run Try.prog w = .ok true w := by
  have h := eq_st (P := Try.prog) (t := 60) (w := w) (d := d + 1 + 1) (xs := #[.int .i64 z.elem, .int .i64 z.lim.min, .int .i64 z.lim.max, .bool z.lim.has]) (ys := #[.int .i64 z.elem, .int .i64 z.lim.min, .int .i64 z.lim.max, .bool z.lim.has]) (by kernel_rfl) (by kernel_rfl) (eqf_cons (by decide) (run_part1 (isAgg_int Try.underlying50) rfl) (run_part1 (isAgg_int Try.underlying50) rfl) (run_equalIn_int w (d + 1) _ _ _ _ _ Try.underlying50)
    (eqf_cons (by decide) (run_partM (n := 3) (isAgg_st (fs := (Try.prog.fieldsOf 58)) (by kernel_rfl)) (by kernel_rfl)) (run_partM (n := 3) (isAgg_st (fs := (Try.prog.fieldsOf 58)) (by kernel_rfl)) (by kernel_rfl)) (eq_Lim z.lim d w) eqf_nil))
  simpa using h
theorem neq_Tb (z : Tb) (w : World) : (binOp .neq 60 (.agg #[.int .i64 z.elem, .int .i64 z.lim.min, .int .i64 z.lim.max, .bool z.lim.has]) (.agg #[.int .i64 z.elem, .int .i64 z.lim.min, .int .i64 z.lim.max, .bool z.lim.has])).run Try.prog w = .ok (.bool false) w := run_neq_ag (r := true) (eq_Tb z 9997 w)
theorem neq_Lim (z : Lim) (w : World) : (binOp .neq 58 (.agg #[.int .i64 z.min, .int .i64 z.max, .bool z.has]) (.agg #[.int .i64 z.min, .int .i64 z.max, .bool z.has])).run Try.prog w = .ok (.bool false) w := run_neq_ag (r := true) (eq_Lim z 9998 w)
theorem neq_Gl (z : Gl) (w : World) : (binOp .neq 62 (.agg #[.int .i64 z.val, .bool z.mut_]) (.agg #[.int .i64 z.val, .bool z.mut_])).run Try.prog w = .ok (.bool false) w := run_neq_ag (r := true) (eq_Gl z 9998 w)
set_option maxRecDepth 100000 in
set_option maxHeartbeats 6400000 in
theorem sthings_t (nt ni nf nta nm ng ne nel nd nc ct ci cf cta cm cg ce cel cd cc : Nat) (At Ai Af Ata Am Ag Ae Ael Ad Ac : Option Addr) (bst : Bool) (vst : Int) (w : World) (m : Md) (i k : Int) (hw : -9223372036854775808 ≤ i ∧ i ≤ 9223372036854775807) (hkw : (Lit.int .i64 k).wf = true) (hbst : m.hasStart = bst) (hvst : m.start = vst)
    (hIN : FewOk m.elems nt ni nf nta nm ng ne nel nd → MdIn w m At Ai Af Ata Am Ag Ae Ael) (hel : tEl.els w (· < w.heap.size) Ael m.elems) (hit : ∀ e ∈ m.elems, e.items.length ≤ 140737488351232)
    (et : Hid (m.types.length = nt)) (ei : Hid (m.imports.length = ni)) (ef : Hid (m.funcs.length = nf)) (eta_ : Hid (m.tables.length = nta)) (em : Hid (m.mems.length = nm)) (eg : Hid (m.globals.length = ng)) (ee : Hid (m.exports.length = ne)) (eel : Hid (m.elems.length = nel)) (ed : Hid (m.datas = nd)) :
    Calls Try.prog 8 #[.agg #[.slice At nt ct, .slice Ai ni ci, .slice Af nf cf, .slice Ata nta cta, .slice Am nm cm, .slice Ag ng cg, .slice Ae ne ce, .bool bst, .int .i64 vst, .slice Ael nel cel, .slice Ad nd cd, .slice Ac nc cc], .int .i64 i, .int .i64 k] w fun e w' => e = .returned (.bool true) ∧ Fr No w w' := by
  have F0 := hid ((Fr.refl No w).alloc (.cells #[.slice At nt ct, .slice Ai ni ci, .slice Af nf cf, .slice Ata nta cta, .slice Am nm cm, .slice Ag ng cg, .slice Ae ne ce, .bool bst, .int .i64 vst, .slice Ael nel cel, .slice Ad nd cd, .slice Ac nc cc] 33))
  have G0 := hid (Blk.new w 33 #[.slice At nt ct, .slice Ai ni ci, .slice Af nf cf, .slice Ata nta cta, .slice Am nm cm, .slice Ag ng cg, .slice Ae ne ce, .bool bst, .int .i64 vst, .slice Ael nel cel, .slice Ad nd cd, .slice Ac nc cc])
  have HIN := hid hIN
  have HFW := hid (few_any nt ni nf nta nm ng ne nel nd nc ct ci cf cta cm cg ce cel cd cc At Ai Af Ata Am Ag Ae Ael Ad Ac bst vst (w.alloc (.cells #[.slice At nt ct, .slice Ai ni ci, .slice Af nf cf, .slice Ata nta cta, .slice Am nm cm, .slice Ag ng cg, .slice Ae ne ce, .bool bst, .int .i64 vst, .slice Ael nel cel, .slice Ad nd cd, .slice Ac nc cc] 33)) m.elems (· < w.heap.size) (hel.fr F0.out (fun k hk => ⟨hk, fun x => x⟩)) (fun k hk => Nat.lt_of_lt_of_le hk F0.out.size) eel hit)
  have HB := hid hbst
  have HV := hid hvst
  have HW := hid hw
  have HKW := hid hkw
  clear hIN hel hit hbst hvst hw hkw
  go_enter Try.func8, Try.ntmps8
  go_wp2_with fail
  refine HFW.out.mono ?_
  rintro e w1 ⟨⟨r, rfl, hr⟩, f1⟩
  have F1 := hid (F0.out.trans f1 (fun _ _ h => h))
  have G1 := hid (G0.out.fr f1 (fun x => x))
  have HR := hid hr
  clear hr f1 HFW G0 F0
  cases r with
  | false =>
    go_wp2_with fail
    refine (alive_any _).mono ?_
    rintro e w2 ⟨rfl, f2⟩
    have F2 := hid (F1.out.trans f2 (fun _ _ h => h))
    clear f2
    go_wp2
    go_ret
    exact ⟨rfl, F2.out⟩
  | true =>
    have HF := hid (HR.out rfl)
    have HM := hid (HIN.out HF.out)
    have HX : Hid (∀ X, Fr No w1 X → X.cell? ⟨w.heap.size, 0, none⟩ = some (.slice At nt ct) ∧ X.cell? ⟨w.heap.size, 1, none⟩ = some (.slice Ai ni ci) ∧ X.cell? ⟨w.heap.size, 2, none⟩ = some (.slice Af nf cf) ∧ X.cell? ⟨w.heap.size, 3, none⟩ = some (.slice Ata nta cta) ∧ X.cell? ⟨w.heap.size, 4, none⟩ = some (.slice Am nm cm) ∧ X.cell? ⟨w.heap.size, 5, none⟩ = some (.slice Ag ng cg) ∧ X.cell? ⟨w.heap.size, 6, none⟩ = some (.slice Ae ne ce) ∧ X.cell? ⟨w.heap.size, 7, none⟩ = some (.bool bst) ∧ X.cell? ⟨w.heap.size, 8, none⟩ = some (.int .i64 vst) ∧ X.cell? ⟨w.heap.size, 9, none⟩ = some (.slice Ael nel cel) ∧ X.cell? ⟨w.heap.size, 10, none⟩ = some (.slice Ad nd cd) ∧ X.cell? ⟨w.heap.size, 11, none⟩ = some (.slice Ac nc cc)) := fun X f => by
      have h := G1.out.fr f (fun x => x)
      exact ⟨h.cell 0, h.cell 1, h.cell 2, h.cell 3, h.cell 4, h.cell 5, h.cell 6, h.cell 7, h.cell 8, h.cell 9, h.cell 10, h.cell 11⟩
    clear HR HIN G1
    obtain ⟨x0, x1, x2, x3, x4, x5, x6, x7, x8, x9, x10, x11⟩ := HX.out _ (Fr.refl No w1)
    have HOF := of_any w1 m nt ni nf nta nm ng ne nel nd nc At Ai Af Ata Am Ag Ae Ael Ad Ac ct ci cf cta cm cg ce cel cd cc (HM.out.fr F1.out) et ei ef eta_ em eg ee eel ed HF.out.lt (Nat.le_succ_of_le HF.out.li) HF.out.lf HF.out.lta HF.out.lm HF.out.lg HF.out.le HF.out.lel HF.out.ld
    rw [HB.out, HV.out] at HOF
    have HOF := hid HOF
    go_wp2_with fail
    refine HOF.out.mono ?_
    clear HOF x0 x1 x2 x3 x4 x5 x6 x7 x8 x9 x10 x11
    rintro e w2 ⟨p, gx, gs, bi, bd, nI, nD, ST, v0, v1, v2, v3, v4, v5, rfl, hb, hs, f2⟩
    have F2 := hid f2
    have HP := hid (SpP.mk hb hs)
    have FW := hid (F1.out.trans F2.out (fun _ _ h => h))
    clear hb hs f2
    have HFF := of_fields m
    obtain ⟨f1, f2, f3, f4, f5, f6, f7, f8⟩ := HFF
    have HO := hid (fun X (f : Fr No w2 X) => HP.out.frNo f)
    have HI := hid (fun X (f : Fr No w2 X) => (HM.out.fr FW.out).fr f)
    have HXX := hid (fun X (f : Fr No w2 X) => HX.out X (F2.out.trans f (fun _ _ h => h)))
    have L1 : ni ≤ 101 := Nat.le_succ_of_le HF.out.li
    have n2 : (SpV.of m).tables.length = impN m.imports 1 + nta := by rw [f3, numLen, eta_.out]
    have n3 : (SpV.of m).mems.length = impN m.imports 2 + nm := by rw [f4, numLen, em.out]
    have n4 : (SpV.of m).globals.length = impN m.imports 3 + ng := by rw [f5, numLen, List.length_map, eg.out]
    have n5 : (SpV.of m).elems.length = nel := by rw [f8, List.length_map, eel.out]
    have hI1 := impN_le m.imports 1
    have hI2 := impN_le m.imports 2
    have hI3 := impN_le m.imports 3
    have hei := ei.out
    have q2 := HF.out.lta
    have q3 := HF.out.lm
    have q4 := HF.out.lg
    have q5 := HF.out.lel
    have cT := fun X (f : Fr No w2 X) => mTable_any _ X p gx gs bi bd ST nI nD v0 v1 v2 v3 v4 v5 (SpV.of m) i (by omega) (HO.out X f)
    have rT := fun X (f : Fr No w2 X) => rTable_any nt ni nf nta nm ng ne nel nd nc ct ci cf cta cm cg ce cel cd cc At Ai Af Ata Am Ag Ae Ael Ad Ac bst vst X m.imports m.tables i (· < X.heap.size) (HI.out X f).imports (HI.out X f).tables (fun _ h => h) ei eta_ L1 HF.out.lta HW.out
    have cL := fun X (f : Fr No w2 X) => mMem_any _ X p gx gs bi bd ST nI nD v0 v1 v2 v3 v4 v5 (SpV.of m) i (by omega) (HO.out X f)
    have rL := fun X (f : Fr No w2 X) => rMem_any nt ni nf nta nm ng ne nel nd nc ct ci cf cta cm cg ce cel cd cc At Ai Af Ata Am Ag Ae Ael Ad Ac bst vst X m.imports m.mems i (· < X.heap.size) (HI.out X f).imports (HI.out X f).mems (fun _ h => h) ei em L1 HF.out.lm HW.out
    have cG := fun X (f : Fr No w2 X) => mGlobal_any _ X p gx gs bi bd ST nI nD v0 v1 v2 v3 v4 v5 (SpV.of m) i (by omega) (HO.out X f)
    have rG := fun X (f : Fr No w2 X) => rGlobal_any nt ni nf nta nm ng ne nel nd nc ct ci cf cta cm cg ce cel cd cc At Ai Af Ata Am Ag Ae Ael Ad Ac bst vst X m.imports m.globals i (· < X.heap.size) (HI.out X f).imports (HI.out X f).globals (fun _ h => h) ei eg L1 HF.out.lg HW.out
    have cE := fun X (f : Fr No w2 X) => mElem_any _ X p gx gs bi bd ST nI nD v0 v1 v2 v3 v4 v5 (SpV.of m) i (by omega) (HO.out X f)
    have rE := fun X (f : Fr No w2 X) => rElem_any nt ni nf nta nm ng ne nel nd nc ct ci cf cta cm cg ce cel cd cc At Ai Af Ata Am Ag Ae Ael Ad Ac bst vst X m.elems i (· < X.heap.size) (HI.out X f).elems (fun _ h => h) eel HF.out.lel
    have kT := fun X (f : Fr No w2 X) => nTables_any _ X p gx gs bi bd ST nI nD v0 v1 v2 v3 v4 v5 (SpV.of m) (HO.out X f)
    have sT := fun X (f : Fr No w2 X) => rTables_any nt ni nf nta nm ng ne nel nd nc ct ci cf cta cm cg ce cel cd cc At Ai Af Ata Am Ag Ae Ael Ad Ac bst vst X m.imports (· < X.heap.size) (HI.out X f).imports (fun _ h => h) ei L1 HF.out.lta
    have kL := fun X (f : Fr No w2 X) => nMems_any _ X p gx gs bi bd ST nI nD v0 v1 v2 v3 v4 v5 (SpV.of m) (HO.out X f)
    have sL := fun X (f : Fr No w2 X) => rMems_any nt ni nf nta nm ng ne nel nd nc ct ci cf cta cm cg ce cel cd cc At Ai Af Ata Am Ag Ae Ael Ad Ac bst vst X m.imports (· < X.heap.size) (HI.out X f).imports (fun _ h => h) ei L1 HF.out.lm
    have kG := fun X (f : Fr No w2 X) => nGlobals_any _ X p gx gs bi bd ST nI nD v0 v1 v2 v3 v4 v5 (SpV.of m) (HO.out X f)
    have sG := fun X (f : Fr No w2 X) => rGlobals_any nt ni nf nta nm ng ne nel nd nc ct ci cf cta cm cg ce cel cd cc At Ai Af Ata Am Ag Ae Ael Ad Ac bst vst X m.imports (· < X.heap.size) (HI.out X f).imports (fun _ h => h) ei L1 HF.out.lg
    have kD := fun X (f : Fr No w2 X) => nDatas_any _ X p gx gs bi bd ST nI nD v0 v1 v2 v3 v4 v5 (SpV.of m) (HO.out X f)
    have sD := fun X (f : Fr No w2 X) => rDatas_any nt ni nf nta nm ng ne nel nd nc ct ci cf cta cm cg ce cel cd cc At Ai Af Ata Am Ag Ae Ael Ad Ac bst vst X
    have kI := fun X (f : Fr No w2 X) => imported_any _ X p gx gs bi bd ST nI nD v0 v1 v2 v3 v4 v5 (SpV.of m) k HKW.out (HO.out X f)
    have sI := fun X (f : Fr No w2 X) => rImp_any nt ni nf nta nm ng ne nel nd nc ct ci cf cta cm cg ce cel cd cc At Ai Af Ata Am Ag Ae Ael Ad Ac bst vst X m.imports k (· < X.heap.size) (HI.out X f).imports (fun _ h => h) ei L1
    simp only [f3, numLen] at cT kT
    simp only [f4, numLen] at cL kL
    simp only [f5, numLen, List.length_map] at cG kG
    simp only [f8] at cE
    simp only [f6] at kD
    simp only [f7] at kI
    have eta2 : m.tables.length = nta := eta_.out
    have em2 : m.mems.length = nm := em.out
    have eg2 : m.globals.length = ng := eg.out
    have ed2 : m.datas = nd := ed.out
    simp only [eta2, Int.natCast_add] at kT
    simp only [em2, Int.natCast_add] at kL
    simp only [eg2, Int.natCast_add] at kG
    rw [ed2] at kD
    generalize (ofKind m.imports 1).map (·.table) ++ m.tables = lT at *
    generalize (ofKind m.imports 2).map (·.mem) ++ m.mems = lL at *
    generalize (ofKind m.imports 3).map (·.glob) ++ m.globals.map (·.type) = lG at *
    generalize m.elems.map (·.type) = lE at *
    generalize atD zTb lT i = qT at *
    generalize atD zLim lL i = qL at *
    generalize atD zGl lG i = qG at *
    generalize atD 0 lE i = qE at *
    obtain ⟨zt, bt⟩ := qT
    obtain ⟨zl, bl⟩ := qL
    obtain ⟨zg, bg⟩ := qG
    obtain ⟨ze, be⟩ := qE
    generalize ((impN m.imports 1 : Nat) : Int) + (nta : Int) = NT at *
    generalize ((impN m.imports 2 : Nat) : Int) + (nm : Int) = NL at *
    generalize ((impN m.imports 3 : Nat) : Int) + (ng : Int) = NG at *
    generalize ((impN m.imports k : Nat) : Int) = NI at *
    simp only [cTb, cLim, cGl] at cT rT cL rL cG rG
    have CT := hid cT
    have RT := hid rT
    have CL := hid cL
    have RL := hid rL
    have CG := hid cG
    have RG := hid rG
    have CE := hid cE
    have RE := hid rE
    have KT := hid kT
    have KST := hid sT
    have KL := hid kL
    have KSL := hid sL
    have KG := hid kG
    have KSG := hid sG
    have KD := hid kD
    have KSD := hid sD
    have KI := hid kI
    have KSI := hid sI
    clear cT rT cL rL cG rG cE rE kT sT kL sL kG sG kD sD kI sI f1 f2 f3 f4 f5 f6 f7 f8 n2 n3 n4 n5 hI1 hI2 hI3 hei q2 q3 q4 q5 L1 HO HI HP eta2 em2 eg2 ed2
    have F := hid (Fr.refl No w2)
    go_wp2_with fail
    refine (CT.out _ F.out).mono ?_
    rintro e w3 ⟨rfl, f⟩
    have F := hid ((F.out.trans f (fun _ _ h => h)).alloc (.cells #[.int .i64 zt.elem, .int .i64 zt.lim.min, .int .i64 zt.lim.max, .bool zt.lim.has] 60))
    have GV3 := hid (Blk.new w3 60 #[.int .i64 zt.elem, .int .i64 zt.lim.min, .int .i64 zt.lim.max, .bool zt.lim.has])
    clear f
    obtain ⟨x0, x1, x2, x3, x4, x5, x6, x7, x8, x9, x10, x11⟩ := HXX.out _ F.out
    go_wp2_with fail
    refine (RT.out _ F.out).mono ?_
    rintro e w4 ⟨rfl, f⟩
    clear x0 x1 x2 x3 x4 x5 x6 x7 x8 x9 x10 x11
    have F := hid ((F.out.trans f (fun _ _ h => h)).alloc (.cells #[.int .i64 zt.elem, .int .i64 zt.lim.min, .int .i64 zt.lim.max, .bool zt.lim.has] 60))
    have GV3 := hid ((GV3.out.fr f (fun x => x)).alloc (.cells #[.int .i64 zt.elem, .int .i64 zt.lim.min, .int .i64 zt.lim.max, .bool zt.lim.has] 60))
    have GV4 := hid (Blk.new w4 60 #[.int .i64 zt.elem, .int .i64 zt.lim.min, .int .i64 zt.lim.max, .bool zt.lim.has])
    clear f
    go_wp2_with fail
    refine (CL.out _ F.out).mono ?_
    rintro e w5 ⟨rfl, f⟩
    have F := hid ((F.out.trans f (fun _ _ h => h)).alloc (.cells #[.int .i64 zl.min, .int .i64 zl.max, .bool zl.has] 58))
    have GV3 := hid ((GV3.out.fr f (fun x => x)).alloc (.cells #[.int .i64 zl.min, .int .i64 zl.max, .bool zl.has] 58))
    have GV4 := hid ((GV4.out.fr f (fun x => x)).alloc (.cells #[.int .i64 zl.min, .int .i64 zl.max, .bool zl.has] 58))
    have GV5 := hid (Blk.new w5 58 #[.int .i64 zl.min, .int .i64 zl.max, .bool zl.has])
    clear f
    obtain ⟨x0, x1, x2, x3, x4, x5, x6, x7, x8, x9, x10, x11⟩ := HXX.out _ F.out
    go_wp2_with fail
    refine (RL.out _ F.out).mono ?_
    rintro e w6 ⟨rfl, f⟩
    clear x0 x1 x2 x3 x4 x5 x6 x7 x8 x9 x10 x11
    have F := hid ((F.out.trans f (fun _ _ h => h)).alloc (.cells #[.int .i64 zl.min, .int .i64 zl.max, .bool zl.has] 58))
    have GV3 := hid ((GV3.out.fr f (fun x => x)).alloc (.cells #[.int .i64 zl.min, .int .i64 zl.max, .bool zl.has] 58))
    have GV4 := hid ((GV4.out.fr f (fun x => x)).alloc (.cells #[.int .i64 zl.min, .int .i64 zl.max, .bool zl.has] 58))
    have GV5 := hid ((GV5.out.fr f (fun x => x)).alloc (.cells #[.int .i64 zl.min, .int .i64 zl.max, .bool zl.has] 58))
    have GV6 := hid (Blk.new w6 58 #[.int .i64 zl.min, .int .i64 zl.max, .bool zl.has])
    clear f
    go_wp2_with fail
    refine (CG.out _ F.out).mono ?_
    rintro e w7 ⟨rfl, f⟩
    have F := hid ((F.out.trans f (fun _ _ h => h)).alloc (.cells #[.int .i64 zg.val, .bool zg.mut_] 62))
    have GV3 := hid ((GV3.out.fr f (fun x => x)).alloc (.cells #[.int .i64 zg.val, .bool zg.mut_] 62))
    have GV4 := hid ((GV4.out.fr f (fun x => x)).alloc (.cells #[.int .i64 zg.val, .bool zg.mut_] 62))
    have GV5 := hid ((GV5.out.fr f (fun x => x)).alloc (.cells #[.int .i64 zg.val, .bool zg.mut_] 62))
    have GV6 := hid ((GV6.out.fr f (fun x => x)).alloc (.cells #[.int .i64 zg.val, .bool zg.mut_] 62))
    have GV7 := hid (Blk.new w7 62 #[.int .i64 zg.val, .bool zg.mut_])
    clear f
    obtain ⟨x0, x1, x2, x3, x4, x5, x6, x7, x8, x9, x10, x11⟩ := HXX.out _ F.out
    go_wp2_with fail
    refine (RG.out _ F.out).mono ?_
    rintro e w8 ⟨rfl, f⟩
    clear x0 x1 x2 x3 x4 x5 x6 x7 x8 x9 x10 x11
    have F := hid ((F.out.trans f (fun _ _ h => h)).alloc (.cells #[.int .i64 zg.val, .bool zg.mut_] 62))
    have GV3 := hid ((GV3.out.fr f (fun x => x)).alloc (.cells #[.int .i64 zg.val, .bool zg.mut_] 62))
    have GV4 := hid ((GV4.out.fr f (fun x => x)).alloc (.cells #[.int .i64 zg.val, .bool zg.mut_] 62))
    have GV5 := hid ((GV5.out.fr f (fun x => x)).alloc (.cells #[.int .i64 zg.val, .bool zg.mut_] 62))
    have GV6 := hid ((GV6.out.fr f (fun x => x)).alloc (.cells #[.int .i64 zg.val, .bool zg.mut_] 62))
    have GV7 := hid ((GV7.out.fr f (fun x => x)).alloc (.cells #[.int .i64 zg.val, .bool zg.mut_] 62))
    have GV8 := hid (Blk.new w8 62 #[.int .i64 zg.val, .bool zg.mut_])
    clear f
    go_wp2_with fail
    refine (CE.out _ F.out).mono ?_
    rintro e w' ⟨rfl, rfl⟩
    obtain ⟨x0, x1, x2, x3, x4, x5, x6, x7, x8, x9, x10, x11⟩ := HXX.out _ F.out
    go_wp2_with fail
    refine (RE.out _ F.out).mono ?_
    rintro e w9 ⟨rfl, f⟩
    clear x0 x1 x2 x3 x4 x5 x6 x7 x8 x9 x10 x11
    have F := hid (F.out.trans f (fun _ _ h => h))
    have GV3 := hid (GV3.out.fr f (fun x => x))
    have GV4 := hid (GV4.out.fr f (fun x => x))
    have GV5 := hid (GV5.out.fr f (fun x => x))
    have GV6 := hid (GV6.out.fr f (fun x => x))
    have GV7 := hid (GV7.out.fr f (fun x => x))
    have GV8 := hid (GV8.out.fr f (fun x => x))
    clear f
    clear CT RT CL RL CG RG CE RE
    have y0_0 := GV3.out.cell 0
    have y0_1 := GV3.out.cell 1
    have y0_2 := GV3.out.cell 2
    have y0_3 := GV3.out.cell 3
    have y1_0 := GV4.out.cell 0
    have y1_1 := GV4.out.cell 1
    have y1_2 := GV4.out.cell 2
    have y1_3 := GV4.out.cell 3
    have y2_0 := GV5.out.cell 0
    have y2_1 := GV5.out.cell 1
    have y2_2 := GV5.out.cell 2
    have y3_0 := GV6.out.cell 0
    have y3_1 := GV6.out.cell 1
    have y3_2 := GV6.out.cell 2
    have y4_0 := GV7.out.cell 0
    have y4_1 := GV7.out.cell 1
    have y5_0 := GV8.out.cell 0
    have y5_1 := GV8.out.cell 1
    have hqT := fun W => neq_Tb zt W
    have hqL := fun W => neq_Lim zl W
    have hqG := fun W => neq_Gl zg W
    go_wp2
    refine wp_region_ord (fun X => X.cell? ⟨w.heap.size, 0, none⟩ = some (.slice At nt ct) ∧ X.cell? ⟨w.heap.size, 1, none⟩ = some (.slice Ai ni ci) ∧ X.cell? ⟨w.heap.size, 2, none⟩ = some (.slice Af nf cf) ∧ X.cell? ⟨w.heap.size, 3, none⟩ = some (.slice Ata nta cta) ∧ X.cell? ⟨w.heap.size, 4, none⟩ = some (.slice Am nm cm) ∧ X.cell? ⟨w.heap.size, 5, none⟩ = some (.slice Ag ng cg) ∧ X.cell? ⟨w.heap.size, 6, none⟩ = some (.slice Ae ne ce) ∧ X.cell? ⟨w.heap.size, 7, none⟩ = some (.bool bst) ∧ X.cell? ⟨w.heap.size, 8, none⟩ = some (.int .i64 vst) ∧ X.cell? ⟨w.heap.size, 9, none⟩ = some (.slice Ael nel cel) ∧ X.cell? ⟨w.heap.size, 10, none⟩ = some (.slice Ad nd cd) ∧ X.cell? ⟨w.heap.size, 11, none⟩ = some (.slice Ac nc cc)) [] [(0, true), (2, true), (1, false), (3, false), (4, true), (5, true), (6, true), (8, true), (7, false), (9, false), (10, true), (11, true), (12, true), (13, true), (15, true), (14, false), (16, false), (17, true), (18, true), (19, true), (20, true), (22, true), (21, false), (23, false), (24, true), (25, true), (26, true), (27, true), (28, true), (30, true), (31, true), (29, false), (32, false), (33, true), (34, true), (35, true), (36, false), (37, true), (38, true)] (by kernel_rfl) (by kernel_rfl) (by kernel_rfl) rfl (HXX.out _ F.out.drew) ?_
    have F := hid F.out.drew
    repeat (first
      | (refine wpO_skip rfl rfl ?_; simp only [List.getElem_toArray, List.getElem_cons_succ, List.getElem_cons_zero, Act.put, List.setIfInBounds_toArray, List.set_cons_zero, List.set_cons_succ])
      | (refine wpO_call rfl rfl ?_; simp only [List.getElem_toArray, List.getElem_cons_succ, List.getElem_cons_zero]; apply Exists.intro; refine ⟨fun X hX => ?_, ?_⟩
         · (have s0 := hX.1; have s1 := hX.2.1; have s2 := hX.2.2.1; have s3 := hX.2.2.2.1; have s4 := hX.2.2.2.2.1; have s5 := hX.2.2.2.2.2.1; have s6 := hX.2.2.2.2.2.2.1; have s7 := hX.2.2.2.2.2.2.2.1; have s8 := hX.2.2.2.2.2.2.2.2.1; have s9 := hX.2.2.2.2.2.2.2.2.2.1; have s10 := hX.2.2.2.2.2.2.2.2.2.2.1; have s11 := hX.2.2.2.2.2.2.2.2.2.2.2; go_simp; exact stillUpon_value)
         simp only [Act.put, List.setIfInBounds_toArray, List.set_cons_zero, List.set_cons_succ]))
    refine wpO_eff rfl rfl (fun K hK => ?_)
    simp only [List.getElem_toArray, List.getElem_cons_succ, List.getElem_cons_zero]
    go_simp
    refine (KT.out _ F.out).mono ?_
    rintro e w' ⟨rfl, rfl⟩
    refine hK _ _ (fun _ => HXX.out _ F.out) ?_
    clear hK K
    repeat (first
      | (refine wpO_skip rfl rfl ?_; simp only [List.getElem_toArray, List.getElem_cons_succ, List.getElem_cons_zero, Act.put, List.setIfInBounds_toArray, List.set_cons_zero, List.set_cons_succ])
      | (refine wpO_call rfl rfl ?_; simp only [List.getElem_toArray, List.getElem_cons_succ, List.getElem_cons_zero]; apply Exists.intro; refine ⟨fun X hX => ?_, ?_⟩
         · (have s0 := hX.1; have s1 := hX.2.1; have s2 := hX.2.2.1; have s3 := hX.2.2.2.1; have s4 := hX.2.2.2.2.1; have s5 := hX.2.2.2.2.2.1; have s6 := hX.2.2.2.2.2.2.1; have s7 := hX.2.2.2.2.2.2.2.1; have s8 := hX.2.2.2.2.2.2.2.2.1; have s9 := hX.2.2.2.2.2.2.2.2.2.1; have s10 := hX.2.2.2.2.2.2.2.2.2.2.1; have s11 := hX.2.2.2.2.2.2.2.2.2.2.2; go_simp; exact stillUpon_value)
         simp only [Act.put, List.setIfInBounds_toArray, List.set_cons_zero, List.set_cons_succ]))
    refine wpO_eff rfl rfl (fun K hK => ?_)
    simp only [List.getElem_toArray, List.getElem_cons_succ, List.getElem_cons_zero]
    go_simp
    refine (KST.out _ F.out).mono ?_
    rintro e w10 ⟨rfl, f⟩
    have F := hid (F.out.trans f (fun _ _ h => h))
    clear f
    refine hK _ _ (fun _ => HXX.out _ F.out) ?_
    clear hK K
    repeat (first
      | (refine wpO_skip rfl rfl ?_; simp only [List.getElem_toArray, List.getElem_cons_succ, List.getElem_cons_zero, Act.put, List.setIfInBounds_toArray, List.set_cons_zero, List.set_cons_succ])
      | (refine wpO_call rfl rfl ?_; simp only [List.getElem_toArray, List.getElem_cons_succ, List.getElem_cons_zero]; apply Exists.intro; refine ⟨fun X hX => ?_, ?_⟩
         · (have s0 := hX.1; have s1 := hX.2.1; have s2 := hX.2.2.1; have s3 := hX.2.2.2.1; have s4 := hX.2.2.2.2.1; have s5 := hX.2.2.2.2.2.1; have s6 := hX.2.2.2.2.2.2.1; have s7 := hX.2.2.2.2.2.2.2.1; have s8 := hX.2.2.2.2.2.2.2.2.1; have s9 := hX.2.2.2.2.2.2.2.2.2.1; have s10 := hX.2.2.2.2.2.2.2.2.2.2.1; have s11 := hX.2.2.2.2.2.2.2.2.2.2.2; go_simp; exact stillUpon_value)
         simp only [Act.put, List.setIfInBounds_toArray, List.set_cons_zero, List.set_cons_succ]))
    refine wpO_eff rfl rfl (fun K hK => ?_)
    simp only [List.getElem_toArray, List.getElem_cons_succ, List.getElem_cons_zero]
    go_simp
    refine (KL.out _ F.out).mono ?_
    rintro e w' ⟨rfl, rfl⟩
    refine hK _ _ (fun _ => HXX.out _ F.out) ?_
    clear hK K
    repeat (first
      | (refine wpO_skip rfl rfl ?_; simp only [List.getElem_toArray, List.getElem_cons_succ, List.getElem_cons_zero, Act.put, List.setIfInBounds_toArray, List.set_cons_zero, List.set_cons_succ])
      | (refine wpO_call rfl rfl ?_; simp only [List.getElem_toArray, List.getElem_cons_succ, List.getElem_cons_zero]; apply Exists.intro; refine ⟨fun X hX => ?_, ?_⟩
         · (have s0 := hX.1; have s1 := hX.2.1; have s2 := hX.2.2.1; have s3 := hX.2.2.2.1; have s4 := hX.2.2.2.2.1; have s5 := hX.2.2.2.2.2.1; have s6 := hX.2.2.2.2.2.2.1; have s7 := hX.2.2.2.2.2.2.2.1; have s8 := hX.2.2.2.2.2.2.2.2.1; have s9 := hX.2.2.2.2.2.2.2.2.2.1; have s10 := hX.2.2.2.2.2.2.2.2.2.2.1; have s11 := hX.2.2.2.2.2.2.2.2.2.2.2; go_simp; exact stillUpon_value)
         simp only [Act.put, List.setIfInBounds_toArray, List.set_cons_zero, List.set_cons_succ]))
    refine wpO_eff rfl rfl (fun K hK => ?_)
    simp only [List.getElem_toArray, List.getElem_cons_succ, List.getElem_cons_zero]
    go_simp
    refine (KSL.out _ F.out).mono ?_
    rintro e w11 ⟨rfl, f⟩
    have F := hid (F.out.trans f (fun _ _ h => h))
    clear f
    refine hK _ _ (fun _ => HXX.out _ F.out) ?_
    clear hK K
    repeat (first
      | (refine wpO_skip rfl rfl ?_; simp only [List.getElem_toArray, List.getElem_cons_succ, List.getElem_cons_zero, Act.put, List.setIfInBounds_toArray, List.set_cons_zero, List.set_cons_succ])
      | (refine wpO_call rfl rfl ?_; simp only [List.getElem_toArray, List.getElem_cons_succ, List.getElem_cons_zero]; apply Exists.intro; refine ⟨fun X hX => ?_, ?_⟩
         · (have s0 := hX.1; have s1 := hX.2.1; have s2 := hX.2.2.1; have s3 := hX.2.2.2.1; have s4 := hX.2.2.2.2.1; have s5 := hX.2.2.2.2.2.1; have s6 := hX.2.2.2.2.2.2.1; have s7 := hX.2.2.2.2.2.2.2.1; have s8 := hX.2.2.2.2.2.2.2.2.1; have s9 := hX.2.2.2.2.2.2.2.2.2.1; have s10 := hX.2.2.2.2.2.2.2.2.2.2.1; have s11 := hX.2.2.2.2.2.2.2.2.2.2.2; go_simp; exact stillUpon_value)
         simp only [Act.put, List.setIfInBounds_toArray, List.set_cons_zero, List.set_cons_succ]))
    refine wpO_eff rfl rfl (fun K hK => ?_)
    simp only [List.getElem_toArray, List.getElem_cons_succ, List.getElem_cons_zero]
    go_simp
    refine (KG.out _ F.out).mono ?_
    rintro e w' ⟨rfl, rfl⟩
    refine hK _ _ (fun _ => HXX.out _ F.out) ?_
    clear hK K
    repeat (first
      | (refine wpO_skip rfl rfl ?_; simp only [List.getElem_toArray, List.getElem_cons_succ, List.getElem_cons_zero, Act.put, List.setIfInBounds_toArray, List.set_cons_zero, List.set_cons_succ])
      | (refine wpO_call rfl rfl ?_; simp only [List.getElem_toArray, List.getElem_cons_succ, List.getElem_cons_zero]; apply Exists.intro; refine ⟨fun X hX => ?_, ?_⟩
         · (have s0 := hX.1; have s1 := hX.2.1; have s2 := hX.2.2.1; have s3 := hX.2.2.2.1; have s4 := hX.2.2.2.2.1; have s5 := hX.2.2.2.2.2.1; have s6 := hX.2.2.2.2.2.2.1; have s7 := hX.2.2.2.2.2.2.2.1; have s8 := hX.2.2.2.2.2.2.2.2.1; have s9 := hX.2.2.2.2.2.2.2.2.2.1; have s10 := hX.2.2.2.2.2.2.2.2.2.2.1; have s11 := hX.2.2.2.2.2.2.2.2.2.2.2; go_simp; exact stillUpon_value)
         simp only [Act.put, List.setIfInBounds_toArray, List.set_cons_zero, List.set_cons_succ]))
    refine wpO_eff rfl rfl (fun K hK => ?_)
    simp only [List.getElem_toArray, List.getElem_cons_succ, List.getElem_cons_zero]
    go_simp
    refine (KSG.out _ F.out).mono ?_
    rintro e w12 ⟨rfl, f⟩
    have F := hid (F.out.trans f (fun _ _ h => h))
    clear f
    refine hK _ _ (fun _ => HXX.out _ F.out) ?_
    clear hK K
    repeat (first
      | (refine wpO_skip rfl rfl ?_; simp only [List.getElem_toArray, List.getElem_cons_succ, List.getElem_cons_zero, Act.put, List.setIfInBounds_toArray, List.set_cons_zero, List.set_cons_succ])
      | (refine wpO_call rfl rfl ?_; simp only [List.getElem_toArray, List.getElem_cons_succ, List.getElem_cons_zero]; apply Exists.intro; refine ⟨fun X hX => ?_, ?_⟩
         · (have s0 := hX.1; have s1 := hX.2.1; have s2 := hX.2.2.1; have s3 := hX.2.2.2.1; have s4 := hX.2.2.2.2.1; have s5 := hX.2.2.2.2.2.1; have s6 := hX.2.2.2.2.2.2.1; have s7 := hX.2.2.2.2.2.2.2.1; have s8 := hX.2.2.2.2.2.2.2.2.1; have s9 := hX.2.2.2.2.2.2.2.2.2.1; have s10 := hX.2.2.2.2.2.2.2.2.2.2.1; have s11 := hX.2.2.2.2.2.2.2.2.2.2.2; go_simp; exact stillUpon_value)
         simp only [Act.put, List.setIfInBounds_toArray, List.set_cons_zero, List.set_cons_succ]))
    refine wpO_eff rfl rfl (fun K hK => ?_)
    simp only [List.getElem_toArray, List.getElem_cons_succ, List.getElem_cons_zero]
    go_simp
    refine (KD.out _ F.out).mono ?_
    rintro e w' ⟨rfl, rfl⟩
    refine hK _ _ (fun _ => HXX.out _ F.out) ?_
    clear hK K
    repeat (first
      | (refine wpO_skip rfl rfl ?_; simp only [List.getElem_toArray, List.getElem_cons_succ, List.getElem_cons_zero, Act.put, List.setIfInBounds_toArray, List.set_cons_zero, List.set_cons_succ])
      | (refine wpO_call rfl rfl ?_; simp only [List.getElem_toArray, List.getElem_cons_succ, List.getElem_cons_zero]; apply Exists.intro; refine ⟨fun X hX => ?_, ?_⟩
         · (have s0 := hX.1; have s1 := hX.2.1; have s2 := hX.2.2.1; have s3 := hX.2.2.2.1; have s4 := hX.2.2.2.2.1; have s5 := hX.2.2.2.2.2.1; have s6 := hX.2.2.2.2.2.2.1; have s7 := hX.2.2.2.2.2.2.2.1; have s8 := hX.2.2.2.2.2.2.2.2.1; have s9 := hX.2.2.2.2.2.2.2.2.2.1; have s10 := hX.2.2.2.2.2.2.2.2.2.2.1; have s11 := hX.2.2.2.2.2.2.2.2.2.2.2; go_simp; exact stillUpon_value)
         simp only [Act.put, List.setIfInBounds_toArray, List.set_cons_zero, List.set_cons_succ]))
    refine wpO_eff rfl rfl (fun K hK => ?_)
    simp only [List.getElem_toArray, List.getElem_cons_succ, List.getElem_cons_zero]
    go_simp
    refine (KSD.out _ F.out).mono ?_
    rintro e w13 ⟨rfl, f⟩
    have F := hid (F.out.trans f (fun _ _ h => h))
    clear f
    refine hK _ _ (fun _ => HXX.out _ F.out) ?_
    clear hK K
    repeat (first
      | (refine wpO_skip rfl rfl ?_; simp only [List.getElem_toArray, List.getElem_cons_succ, List.getElem_cons_zero, Act.put, List.setIfInBounds_toArray, List.set_cons_zero, List.set_cons_succ])
      | (refine wpO_call rfl rfl ?_; simp only [List.getElem_toArray, List.getElem_cons_succ, List.getElem_cons_zero]; apply Exists.intro; refine ⟨fun X hX => ?_, ?_⟩
         · (have s0 := hX.1; have s1 := hX.2.1; have s2 := hX.2.2.1; have s3 := hX.2.2.2.1; have s4 := hX.2.2.2.2.1; have s5 := hX.2.2.2.2.2.1; have s6 := hX.2.2.2.2.2.2.1; have s7 := hX.2.2.2.2.2.2.2.1; have s8 := hX.2.2.2.2.2.2.2.2.1; have s9 := hX.2.2.2.2.2.2.2.2.2.1; have s10 := hX.2.2.2.2.2.2.2.2.2.2.1; have s11 := hX.2.2.2.2.2.2.2.2.2.2.2; go_simp; exact stillUpon_value)
         simp only [Act.put, List.setIfInBounds_toArray, List.set_cons_zero, List.set_cons_succ]))
    refine wpO_eff rfl rfl (fun K hK => ?_)
    simp only [List.getElem_toArray, List.getElem_cons_succ, List.getElem_cons_zero]
    go_simp
    refine (KI.out _ F.out).mono ?_
    rintro e w' ⟨rfl, rfl⟩
    refine hK _ _ (fun _ => HXX.out _ F.out) ?_
    clear hK K
    repeat (first
      | (refine wpO_skip rfl rfl ?_; simp only [List.getElem_toArray, List.getElem_cons_succ, List.getElem_cons_zero, Act.put, List.setIfInBounds_toArray, List.set_cons_zero, List.set_cons_succ])
      | (refine wpO_call rfl rfl ?_; simp only [List.getElem_toArray, List.getElem_cons_succ, List.getElem_cons_zero]; apply Exists.intro; refine ⟨fun X hX => ?_, ?_⟩
         · (have s0 := hX.1; have s1 := hX.2.1; have s2 := hX.2.2.1; have s3 := hX.2.2.2.1; have s4 := hX.2.2.2.2.1; have s5 := hX.2.2.2.2.2.1; have s6 := hX.2.2.2.2.2.2.1; have s7 := hX.2.2.2.2.2.2.2.1; have s8 := hX.2.2.2.2.2.2.2.2.1; have s9 := hX.2.2.2.2.2.2.2.2.2.1; have s10 := hX.2.2.2.2.2.2.2.2.2.2.1; have s11 := hX.2.2.2.2.2.2.2.2.2.2.2; go_simp; exact stillUpon_value)
         simp only [Act.put, List.setIfInBounds_toArray, List.set_cons_zero, List.set_cons_succ]))
    refine wpO_eff rfl rfl (fun K hK => ?_)
    simp only [List.getElem_toArray, List.getElem_cons_succ, List.getElem_cons_zero]
    go_simp
    refine (KSI.out _ F.out).mono ?_
    rintro e w14 ⟨rfl, f⟩
    have F := hid (F.out.trans f (fun _ _ h => h))
    clear f
    refine hK _ _ (fun _ => HXX.out _ F.out) ?_
    clear hK K
    repeat (first
      | (refine wpO_skip rfl rfl ?_; simp only [List.getElem_toArray, List.getElem_cons_succ, List.getElem_cons_zero, Act.put, List.setIfInBounds_toArray, List.set_cons_zero, List.set_cons_succ])
      | (refine wpO_call rfl rfl ?_; simp only [List.getElem_toArray, List.getElem_cons_succ, List.getElem_cons_zero]; apply Exists.intro; refine ⟨fun X hX => ?_, ?_⟩
         · (have s0 := hX.1; have s1 := hX.2.1; have s2 := hX.2.2.1; have s3 := hX.2.2.2.1; have s4 := hX.2.2.2.2.1; have s5 := hX.2.2.2.2.2.1; have s6 := hX.2.2.2.2.2.2.1; have s7 := hX.2.2.2.2.2.2.2.1; have s8 := hX.2.2.2.2.2.2.2.2.1; have s9 := hX.2.2.2.2.2.2.2.2.2.1; have s10 := hX.2.2.2.2.2.2.2.2.2.2.1; have s11 := hX.2.2.2.2.2.2.2.2.2.2.2; go_simp; exact stillUpon_value)
         simp only [Act.put, List.setIfInBounds_toArray, List.set_cons_zero, List.set_cons_succ]))
    refine wpO_eff rfl rfl (fun K hK => ?_)
    simp only [List.getElem_toArray, List.getElem_cons_succ, List.getElem_cons_zero]
    go_simp
    refine (alive_any _).mono ?_
    rintro e w15 ⟨rfl, f⟩
    have F := hid (F.out.trans f (fun _ _ h => h))
    clear f
    refine hK _ _ (fun _ => HXX.out _ F.out) ?_
    clear hK K
    repeat (first
      | (refine wpO_skip rfl rfl ?_; simp only [List.getElem_toArray, List.getElem_cons_succ, List.getElem_cons_zero, Act.put, List.setIfInBounds_toArray, List.set_cons_zero, List.set_cons_succ])
      | (refine wpO_call rfl rfl ?_; simp only [List.getElem_toArray, List.getElem_cons_succ, List.getElem_cons_zero]; apply Exists.intro; refine ⟨fun X hX => ?_, ?_⟩
         · (have s0 := hX.1; have s1 := hX.2.1; have s2 := hX.2.2.1; have s3 := hX.2.2.2.1; have s4 := hX.2.2.2.2.1; have s5 := hX.2.2.2.2.2.1; have s6 := hX.2.2.2.2.2.2.1; have s7 := hX.2.2.2.2.2.2.2.1; have s8 := hX.2.2.2.2.2.2.2.2.1; have s9 := hX.2.2.2.2.2.2.2.2.2.1; have s10 := hX.2.2.2.2.2.2.2.2.2.2.1; have s11 := hX.2.2.2.2.2.2.2.2.2.2.2; go_simp; exact stillUpon_value)
         simp only [Act.put, List.setIfInBounds_toArray, List.set_cons_zero, List.set_cons_succ]))
    refine wpO_nil ?_
    go_wp2
    go_ret
    exact ⟨rfl, FW.out.trans F.out (fun _ _ h => h)⟩
theorem spaceThings_walk (w : World) (v0 v1 v2 : Value) (x0 : Md) (x1 x2 : Int) (y0 : tMd.rd w (· < w.heap.size) v0.cells.toList x0) (y1 : (Ty.int .i64).rd w (· < w.heap.size) v1.cells.toList x1) (y2 : (Ty.int .i64).rd w (· < w.heap.size) v2.cells.toList x2) (u0 : tMd.lw 140737488351232 x0) (_u1 : (Ty.int .i64).lw 140737488351232 x1) (_u2 : (Ty.int .i64).lw 140737488351232 x2) (hv0 : ∃ cs, v0 = .agg cs) (hv1 : ∃ n, v1 = .int .i64 n) (hv2 : ∃ n, v2 = .int .i64 n) :
    Calls Try.prog 8 #[v0, v1, v2] w fun e w' => e = .returned (.bool true) ∧ Below w.heap.size w w' := by
  obtain ⟨cs, rfl⟩ := hv0
  obtain ⟨n, rfl⟩ := hv1
  obtain ⟨n', rfl⟩ := hv2
  obtain ⟨hy, hw⟩ := y1
  have hn : n = x1 := by have : [Value.int .i64 n] = [Value.int .i64 x1] := hy; simpa using this
  subst hn
  obtain ⟨hy', hw'⟩ := y2
  have hn : n' = x2 := by have : [Value.int .i64 n'] = [Value.int .i64 x2] := hy'; simpa using this
  subst hn
  obtain ⟨At, ct, Ai, ci, Af, cf, Ata, cta, Am, cm, Ag, cg, Ae, ce, Ael, cel, Ad, cd, Ac, cc, hcs, _, _, h1, _, _, h2, _, _, h3, _, _, h4, _, _, h5, _, _, h6, _, _, h7, _, _, _, h8, _⟩ := Md_cells y0
  have hcs' : cs = #[.slice At x0.types.length ct, .slice Ai x0.imports.length ci, .slice Af x0.funcs.length cf, .slice Ata x0.tables.length cta, .slice Am x0.mems.length cm, .slice Ag x0.globals.length cg, .slice Ae x0.exports.length ce, .bool x0.hasStart, .int .i64 x0.start, .slice Ael x0.elems.length cel, .slice Ad x0.datas cd, .slice Ac x0.customs cc] := by
    have : cs.toList = _ := hcs
    rw [← Array.toArray_toList (xs := cs), this]
  subst hcs'
  exact (sthings_t _ _ _ _ _ _ _ _ _ _ ct ci cf cta cm cg ce cel cd cc At Ai Af Ata Am Ag Ae Ael Ad Ac _ _ w x0 n n' (wf_i64 hw) hw' rfl rfl (md_in h1 h2 h3 h4 h5 h6 h7 h8 u0) h8 (md_items u0) rfl rfl rfl rfl rfl rfl rfl rfl rfl).mono fun e w' ⟨a, b⟩ => ⟨a, b.below⟩
end Go.Proofs.Ytfngopoaegofhaa
