/- The law SpaceDeclared. -/
import Derived.Test.YtfngopoaegofhaaSpT
import Derived.Test.YtfngopoaegofhaaSpW
namespace Go.Proofs.Ytfngopoaegofhaa
open Go.RowKit

theorem md_in {w : World} {m : Md} {At Ai Af Ata Am Ag Ae Ael : Option Addr} (h1 : tFn.els w (· < w.heap.size) At m.types) (h2 : tIm.els w (· < w.heap.size) Ai m.imports) (h3 : tCd.els w (· < w.heap.size) Af m.funcs) (h4 : tTb.els w (· < w.heap.size) Ata m.tables) (h5 : tLim.els w (· < w.heap.size) Am m.mems) (h6 : tGd.els w (· < w.heap.size) Ag m.globals) (h7 : tEx.els w (· < w.heap.size) Ae m.exports) (h8 : tEl.els w (· < w.heap.size) Ael m.elems)
    (u : tMd.lw 140737488351232 m) (f : FewOk m.elems m.types.length m.imports.length m.funcs.length m.tables.length m.mems.length m.globals.length m.exports.length m.elems.length m.datas) : MdIn w m At Ai Af Ata Am Ag Ae Ael := by
  obtain ⟨u1, _, _, _, _, u6, _, _, _, u10, _⟩ := u
  refine ⟨h1, h2, h3, h4, h5, h6, h7, h8, f.lt, Nat.le_succ_of_le f.li, f.lf, f.lta, f.lm, f.lg, f.le, f.lel, f.it, fun x hx => ?_, fun g hg => ?_, fun e he l hl => ?_⟩
  · obtain ⟨⟨_, a, _⟩, _, b, _⟩ := u1.2.2 x hx
    exact ⟨a, b⟩
  · exact (u6.2.2 g hg).2.1
  · exact ((u10.2.2 e he).2.2.2.2.2.2 l hl).1
theorem md_items {m : Md} (u : tMd.lw 140737488351232 m) : ∀ e ∈ m.elems, e.items.length ≤ 140737488351232 := by
  obtain ⟨_, _, _, _, _, _, _, _, _, u10, _⟩ := u
  exact fun e he => (u10.2.2 e he).2.2.2.2.1
theorem MdIn.fr {w w' : World} {m : Md} {At Ai Af Ata Am Ag Ae Ael : Option Addr} (h : MdIn w m At Ai Af Ata Am Ag Ae Ael) (f : Fr No w w') : MdIn w' m At Ai Af Ata Am Ag Ae Ael :=
  ⟨(h.types.fr f (fun _ hk => ⟨hk, fun x => x⟩)).more (fun _ hk => Nat.lt_of_lt_of_le hk f.size), (h.imports.fr f (fun _ hk => ⟨hk, fun x => x⟩)).more (fun _ hk => Nat.lt_of_lt_of_le hk f.size), (h.funcs.fr f (fun _ hk => ⟨hk, fun x => x⟩)).more (fun _ hk => Nat.lt_of_lt_of_le hk f.size),
    (h.tables.fr f (fun _ hk => ⟨hk, fun x => x⟩)).more (fun _ hk => Nat.lt_of_lt_of_le hk f.size), (h.mems.fr f (fun _ hk => ⟨hk, fun x => x⟩)).more (fun _ hk => Nat.lt_of_lt_of_le hk f.size), (h.globals.fr f (fun _ hk => ⟨hk, fun x => x⟩)).more (fun _ hk => Nat.lt_of_lt_of_le hk f.size),
    (h.exports.fr f (fun _ hk => ⟨hk, fun x => x⟩)).more (fun _ hk => Nat.lt_of_lt_of_le hk f.size), (h.elems.fr f (fun _ hk => ⟨hk, fun x => x⟩)).more (fun _ hk => Nat.lt_of_lt_of_le hk f.size),
    h.lt, h.li, h.lf, h.lta, h.lm, h.lg, h.le, h.lel, h.lit, h.lp, h.lgi, h.lii⟩
set_option maxRecDepth 100000 in
set_option maxHeartbeats 6400000 in
theorem sdecl_t (nt ni nf nta nm ng ne nel nd nc ct ci cf cta cm cg ce cel cd cc : Nat) (At Ai Af Ata Am Ag Ae Ael Ad Ac : Option Addr) (bst : Bool) (vst : Int) (w : World) (m : Md) (i : Int) (hw : (Lit.int .i64 i).wf = true) (hbst : m.hasStart = bst) (hvst : m.start = vst)
    (hIN : FewOk m.elems nt ni nf nta nm ng ne nel nd → MdIn w m At Ai Af Ata Am Ag Ae Ael) (hel : tEl.els w (· < w.heap.size) Ael m.elems) (hit : ∀ e ∈ m.elems, e.items.length ≤ 140737488351232)
    (et : Hid (m.types.length = nt)) (ei : Hid (m.imports.length = ni)) (ef : Hid (m.funcs.length = nf)) (eta_ : Hid (m.tables.length = nta)) (em : Hid (m.mems.length = nm)) (eg : Hid (m.globals.length = ng)) (ee : Hid (m.exports.length = ne)) (eel : Hid (m.elems.length = nel)) (ed : Hid (m.datas = nd)) :
    Calls Try.prog 4 #[.agg #[.slice At nt ct, .slice Ai ni ci, .slice Af nf cf, .slice Ata nta cta, .slice Am nm cm, .slice Ag ng cg, .slice Ae ne ce, .bool bst, .int .i64 vst, .slice Ael nel cel, .slice Ad nd cd, .slice Ac nc cc], .int .i64 i] w fun e w' => e = .returned (.bool true) ∧ Fr No w w' := by
  have F0 := hid ((Fr.refl No w).alloc (.cells #[.slice At nt ct, .slice Ai ni ci, .slice Af nf cf, .slice Ata nta cta, .slice Am nm cm, .slice Ag ng cg, .slice Ae ne ce, .bool bst, .int .i64 vst, .slice Ael nel cel, .slice Ad nd cd, .slice Ac nc cc] 33))
  have G0 := hid (Blk.new w 33 #[.slice At nt ct, .slice Ai ni ci, .slice Af nf cf, .slice Ata nta cta, .slice Am nm cm, .slice Ag ng cg, .slice Ae ne ce, .bool bst, .int .i64 vst, .slice Ael nel cel, .slice Ad nd cd, .slice Ac nc cc])
  have HIN := hid hIN
  have HFW := hid (few_any nt ni nf nta nm ng ne nel nd nc ct ci cf cta cm cg ce cel cd cc At Ai Af Ata Am Ag Ae Ael Ad Ac bst vst (w.alloc (.cells #[.slice At nt ct, .slice Ai ni ci, .slice Af nf cf, .slice Ata nta cta, .slice Am nm cm, .slice Ag ng cg, .slice Ae ne ce, .bool bst, .int .i64 vst, .slice Ael nel cel, .slice Ad nd cd, .slice Ac nc cc] 33)) m.elems (· < w.heap.size) (hel.fr F0.out (fun k hk => ⟨hk, fun x => x⟩)) (fun k hk => Nat.lt_of_lt_of_le hk F0.out.size) eel hit)
  have HB := hid hbst
  have HV := hid hvst
  clear hIN hel hit hbst hvst
  go_enter Try.func4, Try.ntmps4
  go_wp2_with fail
  refine HFW.out.mono ?_
  rintro e w1 ⟨⟨r, rfl, hr⟩, f1⟩
  have F1 := hid (F0.out.trans f1 (fun _ _ h => h))
  have G1 := hid (G0.out.fr f1 (fun x => x))
  have HR := hid hr
  clear hr f1 HFW G0 F0
  cases r with
  | false =>
    go_wp2_with fail
    refine (alive_any _).mono ?_
    rintro e w2 ⟨rfl, f2⟩
    have F2 := hid (F1.out.trans f2 (fun _ _ h => h))
    clear f2
    go_wp2
    go_ret
    exact ⟨rfl, F2.out⟩
  | true =>
    have HF := hid (HR.out rfl)
    have HM := hid (HIN.out HF.out)
    have HX : Hid (∀ X, Fr No w1 X → X.cell? ⟨w.heap.size, 0, none⟩ = some (.slice At nt ct) ∧ X.cell? ⟨w.heap.size, 1, none⟩ = some (.slice Ai ni ci) ∧ X.cell? ⟨w.heap.size, 2, none⟩ = some (.slice Af nf cf) ∧ X.cell? ⟨w.heap.size, 3, none⟩ = some (.slice Ata nta cta) ∧ X.cell? ⟨w.heap.size, 4, none⟩ = some (.slice Am nm cm) ∧ X.cell? ⟨w.heap.size, 5, none⟩ = some (.slice Ag ng cg) ∧ X.cell? ⟨w.heap.size, 6, none⟩ = some (.slice Ae ne ce) ∧ X.cell? ⟨w.heap.size, 7, none⟩ = some (.bool bst) ∧ X.cell? ⟨w.heap.size, 8, none⟩ = some (.int .i64 vst) ∧ X.cell? ⟨w.heap.size, 9, none⟩ = some (.slice Ael nel cel) ∧ X.cell? ⟨w.heap.size, 10, none⟩ = some (.slice Ad nd cd) ∧ X.cell? ⟨w.heap.size, 11, none⟩ = some (.slice Ac nc cc)) := fun X f => by
      have h := G1.out.fr f (fun x => x)
      exact ⟨h.cell 0, h.cell 1, h.cell 2, h.cell 3, h.cell 4, h.cell 5, h.cell 6, h.cell 7, h.cell 8, h.cell 9, h.cell 10, h.cell 11⟩
    clear HR HIN G1
    go_wp2
    refine wp_region_ord (fun X => X.cell? ⟨w.heap.size, 0, none⟩ = some (.slice At nt ct) ∧ X.cell? ⟨w.heap.size, 1, none⟩ = some (.slice Ai ni ci) ∧ X.cell? ⟨w.heap.size, 2, none⟩ = some (.slice Af nf cf) ∧ X.cell? ⟨w.heap.size, 3, none⟩ = some (.slice Ata nta cta) ∧ X.cell? ⟨w.heap.size, 4, none⟩ = some (.slice Am nm cm) ∧ X.cell? ⟨w.heap.size, 5, none⟩ = some (.slice Ag ng cg) ∧ X.cell? ⟨w.heap.size, 6, none⟩ = some (.slice Ae ne ce) ∧ X.cell? ⟨w.heap.size, 7, none⟩ = some (.bool bst) ∧ X.cell? ⟨w.heap.size, 8, none⟩ = some (.int .i64 vst) ∧ X.cell? ⟨w.heap.size, 9, none⟩ = some (.slice Ael nel cel) ∧ X.cell? ⟨w.heap.size, 10, none⟩ = some (.slice Ad nd cd) ∧ X.cell? ⟨w.heap.size, 11, none⟩ = some (.slice Ac nc cc)) [] [(0, true), (2, true), (4, true), (5, true), (1, false), (3, false), (6, false), (7, true), (8, true), (9, false), (10, true), (11, true)] (by kernel_rfl) (by kernel_rfl) (by kernel_rfl) rfl (HX.out _ (Fr.refl _ _).drew) ?_
    repeat (first
      | (refine wpO_skip rfl rfl ?_; simp only [List.getElem_toArray, List.getElem_cons_succ, List.getElem_cons_zero, Act.put, List.setIfInBounds_toArray, List.set_cons_zero, List.set_cons_succ])
      | (refine wpO_call rfl rfl ?_; simp only [List.getElem_toArray, List.getElem_cons_succ, List.getElem_cons_zero]; apply Exists.intro; refine ⟨fun X hX => ?_, ?_⟩
         · (have s0 := hX.1; have s1 := hX.2.1; have s2 := hX.2.2.1; have s3 := hX.2.2.2.1; have s4 := hX.2.2.2.2.1; have s5 := hX.2.2.2.2.2.1; have s6 := hX.2.2.2.2.2.2.1; have s7 := hX.2.2.2.2.2.2.2.1; have s8 := hX.2.2.2.2.2.2.2.2.1; have s9 := hX.2.2.2.2.2.2.2.2.2.1; have s10 := hX.2.2.2.2.2.2.2.2.2.2.1; have s11 := hX.2.2.2.2.2.2.2.2.2.2.2; go_simp; exact stillUpon_value)
         simp only [Act.put, List.setIfInBounds_toArray, List.set_cons_zero, List.set_cons_succ]))
    refine wpO_eff rfl rfl (fun K hK => ?_)
    simp only [List.getElem_toArray, List.getElem_cons_succ, List.getElem_cons_zero]
    go_simp
    have HOF := of_any w1.drew m nt ni nf nta nm ng ne nel nd nc At Ai Af Ata Am Ag Ae Ael Ad Ac ct ci cf cta cm cg ce cel cd cc (HM.out.fr F1.out.drew) et ei ef eta_ em eg ee eel ed HF.out.lt (Nat.le_succ_of_le HF.out.li) HF.out.lf HF.out.lta HF.out.lm HF.out.lg HF.out.le HF.out.lel HF.out.ld
    rw [HB.out, HV.out] at HOF
    refine HOF.mono ?_
    clear HOF
    rintro e w2 ⟨p, gx, gs, bi, bd, nI, nD, ST, v0, v1, v2, v3, v4, v5, rfl, hb, hs, f2⟩
    have F2 := hid ((Fr.refl No w1).drew.trans f2 (fun _ _ h => h))
    have HP := hid (SpP.mk hb hs)
    clear hb hs f2
    refine hK _ _ (fun _ => HX.out _ F2.out) ?_
    clear hK K
    repeat (first
      | (refine wpO_skip rfl rfl ?_; simp only [List.getElem_toArray, List.getElem_cons_succ, List.getElem_cons_zero, Act.put, List.setIfInBounds_toArray, List.set_cons_zero, List.set_cons_succ])
      | (refine wpO_call rfl rfl ?_; simp only [List.getElem_toArray, List.getElem_cons_succ, List.getElem_cons_zero]; apply Exists.intro; refine ⟨fun X hX => ?_, ?_⟩
         · (have s0 := hX.1; have s1 := hX.2.1; have s2 := hX.2.2.1; have s3 := hX.2.2.2.1; have s4 := hX.2.2.2.2.1; have s5 := hX.2.2.2.2.2.1; have s6 := hX.2.2.2.2.2.2.1; have s7 := hX.2.2.2.2.2.2.2.1; have s8 := hX.2.2.2.2.2.2.2.2.1; have s9 := hX.2.2.2.2.2.2.2.2.2.1; have s10 := hX.2.2.2.2.2.2.2.2.2.2.1; have s11 := hX.2.2.2.2.2.2.2.2.2.2.2; go_simp; exact stillUpon_value)
         simp only [Act.put, List.setIfInBounds_toArray, List.set_cons_zero, List.set_cons_succ]))
    refine wpO_eff rfl rfl (fun K hK => ?_)
    simp only [List.getElem_toArray, List.getElem_cons_succ, List.getElem_cons_zero]
    go_simp
    refine (declared_any _ w2 p gx gs bi bd ST nI nD v0 v1 v2 v3 v4 v5 (SpV.of m) i hw HP.out).mono ?_
    rintro e w' ⟨rfl, rfl⟩
    refine hK _ _ (fun _ => HX.out _ F2.out) ?_
    clear hK K
    repeat (first
      | (refine wpO_skip rfl rfl ?_; simp only [List.getElem_toArray, List.getElem_cons_succ, List.getElem_cons_zero, Act.put, List.setIfInBounds_toArray, List.set_cons_zero, List.set_cons_succ])
      | (refine wpO_call rfl rfl ?_; simp only [List.getElem_toArray, List.getElem_cons_succ, List.getElem_cons_zero]; apply Exists.intro; refine ⟨fun X hX => ?_, ?_⟩
         · (have s0 := hX.1; have s1 := hX.2.1; have s2 := hX.2.2.1; have s3 := hX.2.2.2.1; have s4 := hX.2.2.2.2.1; have s5 := hX.2.2.2.2.2.1; have s6 := hX.2.2.2.2.2.2.1; have s7 := hX.2.2.2.2.2.2.2.1; have s8 := hX.2.2.2.2.2.2.2.2.1; have s9 := hX.2.2.2.2.2.2.2.2.2.1; have s10 := hX.2.2.2.2.2.2.2.2.2.2.1; have s11 := hX.2.2.2.2.2.2.2.2.2.2.2; go_simp; exact stillUpon_value)
         simp only [Act.put, List.setIfInBounds_toArray, List.set_cons_zero, List.set_cons_succ]))
    refine wpO_eff rfl rfl (fun K hK => ?_)
    simp only [List.getElem_toArray, List.getElem_cons_succ, List.getElem_cons_zero]
    go_simp
    have FW2 := hid (F1.out.trans F2.out (fun _ _ h => h))
    have HM2 := hid (HM.out.fr FW2.out)
    refine (rDecl_any nt ni nf nta nm ng ne nel nd nc ct ci cf cta cm cg ce cel cd cc At Ai Af Ata Am Ag Ae Ael Ad Ac bst vst w2 m i (· < w2.heap.size) HM2.out.imports HM2.out.exports HM2.out.globals HM2.out.elems (fun _ h => h) ei ef ee eg eel (Nat.le_succ_of_le HF.out.li) HF.out.lf HF.out.lg HF.out.le HF.out.lel HM.out.lgi HM.out.lit HM.out.lii).mono ?_
    rintro e w3 ⟨rfl, f3⟩
    have F3 := hid (F2.out.trans f3 (fun _ _ h => h))
    clear f3
    refine hK _ _ (fun _ => HX.out _ F3.out) ?_
    clear hK K
    rw [decl_law]
    cases rDeclB m i <;>
    · skip
      repeat (first
        | (refine wpO_skip rfl rfl ?_; simp only [List.getElem_toArray, List.getElem_cons_succ, List.getElem_cons_zero, Act.put, List.setIfInBounds_toArray, List.set_cons_zero, List.set_cons_succ])
        | (refine wpO_call rfl rfl ?_; simp only [List.getElem_toArray, List.getElem_cons_succ, List.getElem_cons_zero]; apply Exists.intro; refine ⟨fun X hX => ?_, ?_⟩
           · (have s0 := hX.1; have s1 := hX.2.1; have s2 := hX.2.2.1; have s3 := hX.2.2.2.1; have s4 := hX.2.2.2.2.1; have s5 := hX.2.2.2.2.2.1; have s6 := hX.2.2.2.2.2.2.1; have s7 := hX.2.2.2.2.2.2.2.1; have s8 := hX.2.2.2.2.2.2.2.2.1; have s9 := hX.2.2.2.2.2.2.2.2.2.1; have s10 := hX.2.2.2.2.2.2.2.2.2.2.1; have s11 := hX.2.2.2.2.2.2.2.2.2.2.2; go_simp; exact stillUpon_value)
           simp only [Act.put, List.setIfInBounds_toArray, List.set_cons_zero, List.set_cons_succ]))
      refine wpO_eff rfl rfl (fun K hK => ?_)
      simp only [List.getElem_toArray, List.getElem_cons_succ, List.getElem_cons_zero]
      go_simp
      refine (alive_any _).mono ?_
      rintro e w4 ⟨rfl, f4⟩
      have F4 := hid (F3.out.trans f4 (fun _ _ h => h))
      clear f4
      refine hK _ _ (fun _ => HX.out _ F4.out) ?_
      clear hK K
      repeat (first
        | (refine wpO_skip rfl rfl ?_; simp only [List.getElem_toArray, List.getElem_cons_succ, List.getElem_cons_zero, Act.put, List.setIfInBounds_toArray, List.set_cons_zero, List.set_cons_succ])
        | (refine wpO_call rfl rfl ?_; simp only [List.getElem_toArray, List.getElem_cons_succ, List.getElem_cons_zero]; apply Exists.intro; refine ⟨fun X hX => ?_, ?_⟩
           · (have s0 := hX.1; have s1 := hX.2.1; have s2 := hX.2.2.1; have s3 := hX.2.2.2.1; have s4 := hX.2.2.2.2.1; have s5 := hX.2.2.2.2.2.1; have s6 := hX.2.2.2.2.2.2.1; have s7 := hX.2.2.2.2.2.2.2.1; have s8 := hX.2.2.2.2.2.2.2.2.1; have s9 := hX.2.2.2.2.2.2.2.2.2.1; have s10 := hX.2.2.2.2.2.2.2.2.2.2.1; have s11 := hX.2.2.2.2.2.2.2.2.2.2.2; go_simp; exact stillUpon_value)
           simp only [Act.put, List.setIfInBounds_toArray, List.set_cons_zero, List.set_cons_succ]))
      refine wpO_nil ?_
      go_wp2
      go_ret
      exact ⟨rfl, F1.out.trans F4.out (fun _ _ h => h)⟩
theorem spaceDeclared_walk (w : World) (v0 v1 : Value) (x0 : Md) (x1 : Int) (y0 : tMd.rd w (· < w.heap.size) v0.cells.toList x0) (y1 : (Ty.int .i64).rd w (· < w.heap.size) v1.cells.toList x1) (u0 : tMd.lw 140737488351232 x0) (_u1 : (Ty.int .i64).lw 140737488351232 x1) (hv0 : ∃ cs, v0 = .agg cs) (hv1 : ∃ n, v1 = .int .i64 n) :
    Calls Try.prog 4 #[v0, v1] w fun e w' => e = .returned (.bool true) ∧ Below w.heap.size w w' := by
  obtain ⟨cs, rfl⟩ := hv0
  obtain ⟨n, rfl⟩ := hv1
  obtain ⟨hy, hw⟩ := y1
  have hn : n = x1 := by have : [Value.int .i64 n] = [Value.int .i64 x1] := hy; simpa using this
  subst hn
  obtain ⟨At, ct, Ai, ci, Af, cf, Ata, cta, Am, cm, Ag, cg, Ae, ce, Ael, cel, Ad, cd, Ac, cc, hcs, _, _, h1, _, _, h2, _, _, h3, _, _, h4, _, _, h5, _, _, h6, _, _, h7, _, _, _, h8, _⟩ := Md_cells y0
  have hcs' : cs = #[.slice At x0.types.length ct, .slice Ai x0.imports.length ci, .slice Af x0.funcs.length cf, .slice Ata x0.tables.length cta, .slice Am x0.mems.length cm, .slice Ag x0.globals.length cg, .slice Ae x0.exports.length ce, .bool x0.hasStart, .int .i64 x0.start, .slice Ael x0.elems.length cel, .slice Ad x0.datas cd, .slice Ac x0.customs cc] := by
    have : cs.toList = _ := hcs
    rw [← Array.toArray_toList (xs := cs), this]
  subst hcs'
  exact (sdecl_t _ _ _ _ _ _ _ _ _ _ ct ci cf cta cm cg ce cel cd cc At Ai Af Ata Am Ag Ae Ael Ad Ac _ _ w x0 n hw rfl rfl (md_in h1 h2 h3 h4 h5 h6 h7 h8 u0) h8 (md_items u0) rfl rfl rfl rfl rfl rfl rfl rfl rfl).mono fun e w' ⟨a, b⟩ => ⟨a, b.below⟩
end Go.Proofs.Ytfngopoaegofhaa
