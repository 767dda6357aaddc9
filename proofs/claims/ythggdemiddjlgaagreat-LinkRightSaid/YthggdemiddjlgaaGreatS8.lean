/- Part 8 of the proof: lemmas and contracts of functions. No condition. -/
import Derived.Test.YthggdemiddjlgaaGreatS4
import Derived.Test.YthggdemiddjlgaaGreatS1
set_option maxRecDepth 100000
set_option maxHeartbeats 12800000
set_option linter.unusedVariables false
set_option linter.unusedSimpArgs false
set_option linter.unusedSectionVars false
namespace Go.Proofs.YthggdemiddjlgaaGreat
open Go.RowKit Go.Proofs.Tryz
abbrev q8x0 (a0 a1 a2 a3 a4 a5 a6 a7 a8 a9 a10 a11 a12 a13 a14 a15 : Option Addr) (a16 : Ri) (a17 a18 a19 a20 a21 a22 a23 a24 a25 a26 a27 a28 a29 a30 a31 a32 : Nat) : Array Value := #[.slice a0 a16.m.types.length a17, .slice a1 a16.m.imports.length a18, .slice a2 a16.m.funcs.length a19, .slice a3 a16.m.tables.length a20, .slice a4 a16.m.mems.length a21, .slice a5 a16.m.globals.length a22, .slice a6 a16.m.exports.length a23, .bool a16.m.hasStart, .int .i64 a16.m.start, .slice a7 a16.m.elems.length a24, .slice a8 a16.m.datas.length a25, .slice a9 a16.m.customs.length a26, .slice a10 a16.a.funcs.length a27, .slice a11 a16.a.tables.length a28, .slice a12 a16.a.mems.length a29, .slice a13 a16.a.globals.length a30, .slice a14 a16.a.elems.length a31, .slice a15 a16.a.datas.length a32]
theorem kGD (P off : Nat) (S : Nat → Prop) (v : Value) (xs : List Ri) (cs : LV) (x : Ri) (w : World) (h : AddIn tRi 210 w P off S v xs cs x) :
    Calls prog 68 #[.pointer (some ⟨P, off, none⟩), .agg cs.toArray] w (kAa tRi 210 P off S v xs x w) := by
 obtain ⟨Am_types, cm_types, Am_imports, cm_imports, Am_funcs, cm_funcs, Am_tables, cm_tables, Am_mems, cm_mems, Am_globals, cm_globals, Am_exports, cm_exports, Am_elems, cm_elems, Am_datas, cm_datas, Am_customs, cm_customs, Aa_funcs, ca_funcs, Aa_tables, ca_tables, Aa_mems, ca_mems, Aa_globals, ca_globals, Aa_elems, ca_elems, Aa_datas, ca_datas, rfl, _, _, _, _, _, _, _, _, _, _, _, _, _, _, _, _, _, _, _, _, _, _, _, _, _, _, _, _, _, _, _, _, _, _, _, _, _, _, _, _, _, _, _, _, _, _, _, _, _⟩ := kEA h.rd
 have HA := hid h
 have F0 := hid ((Fr.refl No w).alloc (.cells (q8x0 Am_types Am_imports Am_funcs Am_tables Am_mems Am_globals Am_exports Am_elems Am_datas Am_customs Aa_funcs Aa_tables Aa_mems Aa_globals Aa_elems Aa_datas x cm_types cm_imports cm_funcs cm_tables cm_mems cm_globals cm_exports cm_elems cm_datas cm_customs ca_funcs ca_tables ca_mems ca_globals ca_elems ca_datas) 210))
 have G0 := hid (Blk.new w 210 (q8x0 Am_types Am_imports Am_funcs Am_tables Am_mems Am_globals Am_exports Am_elems Am_datas Am_customs Aa_funcs Aa_tables Aa_mems Aa_globals Aa_elems Aa_datas x cm_types cm_imports cm_funcs cm_tables cm_mems cm_globals cm_exports cm_elems cm_datas cm_customs ca_funcs ca_tables ca_mems ca_globals ca_elems ca_datas))
 have hPl := World.block_lt_of_cell? w _ h.cell
 have hPl : P < w.heap.size := hPl
 clear h
 go_enter func68, ntmps68
 go_wp2
 generalize w.alloc (.cells (q8x0 Am_types Am_imports Am_funcs Am_tables Am_mems Am_globals Am_exports Am_elems Am_datas Am_customs Aa_funcs Aa_tables Aa_mems Aa_globals Aa_elems Aa_datas x cm_types cm_imports cm_funcs cm_tables cm_mems cm_globals cm_exports cm_elems cm_datas cm_customs ca_funcs ca_tables ca_mems ca_globals ca_elems ca_datas) 210) = W at *
 have HI := hid (HA.o.fr F0.o)
 have hgW := G0.o.lt
 have HX : Hid (∀ X, Fr No W X → Ce X P off v ∧ Ce X w.heap.size 0 (.slice Am_types x.m.types.length cm_types) ∧ Ce X w.heap.size 1 (.slice Am_imports x.m.imports.length cm_imports) ∧ Ce X w.heap.size 2 (.slice Am_funcs x.m.funcs.length cm_funcs) ∧ Ce X w.heap.size 3 (.slice Am_tables x.m.tables.length cm_tables) ∧ Ce X w.heap.size 4 (.slice Am_mems x.m.mems.length cm_mems) ∧ Ce X w.heap.size 5 (.slice Am_globals x.m.globals.length cm_globals) ∧ Ce X w.heap.size 6 (.slice Am_exports x.m.exports.length cm_exports) ∧ Ce X w.heap.size 7 (.bool x.m.hasStart) ∧ Ce X w.heap.size 8 (.int .i64 x.m.start) ∧ Ce X w.heap.size 9 (.slice Am_elems x.m.elems.length cm_elems) ∧ Ce X w.heap.size 10 (.slice Am_datas x.m.datas.length cm_datas) ∧ Ce X w.heap.size 11 (.slice Am_customs x.m.customs.length cm_customs) ∧ Ce X w.heap.size 12 (.slice Aa_funcs x.a.funcs.length ca_funcs) ∧ Ce X w.heap.size 13 (.slice Aa_tables x.a.tables.length ca_tables) ∧ Ce X w.heap.size 14 (.slice Aa_mems x.a.mems.length ca_mems) ∧ Ce X w.heap.size 15 (.slice Aa_globals x.a.globals.length ca_globals) ∧ Ce X w.heap.size 16 (.slice Aa_elems x.a.elems.length ca_elems) ∧ Ce X w.heap.size 17 (.slice Aa_datas x.a.datas.length ca_datas)) := fun X f => ⟨(f.cell (p := ⟨P, off, none⟩) (Nat.lt_trans hPl hgW) id).trans HI.o.cell, (G0.o.fr f id).cell 0, (G0.o.fr f id).cell 1, (G0.o.fr f id).cell 2, (G0.o.fr f id).cell 3, (G0.o.fr f id).cell 4, (G0.o.fr f id).cell 5, (G0.o.fr f id).cell 6, (G0.o.fr f id).cell 7, (G0.o.fr f id).cell 8, (G0.o.fr f id).cell 9, (G0.o.fr f id).cell 10, (G0.o.fr f id).cell 11, (G0.o.fr f id).cell 12, (G0.o.fr f id).cell 13, (G0.o.fr f id).cell 14, (G0.o.fr f id).cell 15, (G0.o.fr f id).cell 16, (G0.o.fr f id).cell 17⟩
 obtain ⟨g, hg⟩ : ∃ g, g = w.heap.size := ⟨_, rfl⟩
 have HG := hid hg
 rw [← hg] at HX hgW ⊢
 have hPg : P < g := om
 clear hg
 refine rwO (fun X => Ce X P off v ∧ Ce X g 0 (.slice Am_types x.m.types.length cm_types) ∧ Ce X g 1 (.slice Am_imports x.m.imports.length cm_imports) ∧ Ce X g 2 (.slice Am_funcs x.m.funcs.length cm_funcs) ∧ Ce X g 3 (.slice Am_tables x.m.tables.length cm_tables) ∧ Ce X g 4 (.slice Am_mems x.m.mems.length cm_mems) ∧ Ce X g 5 (.slice Am_globals x.m.globals.length cm_globals) ∧ Ce X g 6 (.slice Am_exports x.m.exports.length cm_exports) ∧ Ce X g 7 (.bool x.m.hasStart) ∧ Ce X g 8 (.int .i64 x.m.start) ∧ Ce X g 9 (.slice Am_elems x.m.elems.length cm_elems) ∧ Ce X g 10 (.slice Am_datas x.m.datas.length cm_datas) ∧ Ce X g 11 (.slice Am_customs x.m.customs.length cm_customs) ∧ Ce X g 12 (.slice Aa_funcs x.a.funcs.length ca_funcs) ∧ Ce X g 13 (.slice Aa_tables x.a.tables.length ca_tables) ∧ Ce X g 14 (.slice Aa_mems x.a.mems.length ca_mems) ∧ Ce X g 15 (.slice Aa_globals x.a.globals.length ca_globals) ∧ Ce X g 16 (.slice Aa_elems x.a.elems.length ca_elems) ∧ Ce X g 17 (.slice Aa_datas x.a.datas.length ca_datas)) [10] (List.range 11) [6, 7, 10] (HX.o _ (Fr.refl _ _).drew) ?_
 refine rC ?_
 refine wpO_eff rfl rfl fun K hK => sz ?_
 have F1 := hid ((Fr.refl No W).alloc (.cells (q8x0 Am_types Am_imports Am_funcs Am_tables Am_mems Am_globals Am_exports Am_elems Am_datas Am_customs Aa_funcs Aa_tables Aa_mems Aa_globals Aa_elems Aa_datas x cm_types cm_imports cm_funcs cm_tables cm_mems cm_globals cm_exports cm_elems cm_datas cm_customs ca_funcs ca_tables ca_mems ca_globals ca_elems ca_datas) 210)).drew
 have G1 := hid (Blk.new W 210 (q8x0 Am_types Am_imports Am_funcs Am_tables Am_mems Am_globals Am_exports Am_elems Am_datas Am_customs Aa_funcs Aa_tables Aa_mems Aa_globals Aa_elems Aa_datas x cm_types cm_imports cm_funcs cm_tables cm_mems cm_globals cm_exports cm_elems cm_datas cm_customs ca_funcs ca_tables ca_mems ca_globals ca_elems ca_datas)).drew
 refine hK _ _ (fun _ => HX.o _ F1.o) ?_
 clear hK K
 generalize (W.alloc (.cells (q8x0 Am_types Am_imports Am_funcs Am_tables Am_mems Am_globals Am_exports Am_elems Am_datas Am_customs Aa_funcs Aa_tables Aa_mems Aa_globals Aa_elems Aa_datas x cm_types cm_imports cm_funcs cm_tables cm_mems cm_globals cm_exports cm_elems cm_datas cm_customs ca_funcs ca_tables ca_mems ca_globals ca_elems ca_datas) 210)).drew = W1 at *
 have HJ := hid (HI.o.fr F1.o)
 refine rC ?_
 refine wpO_eff rfl rfl (fun K hK => ?_)
 simp only [zA]
 refine kBV (t := tRi) (P := prog) (base := 0) (S := S) (v := v) (xs := xs) (ys := [x]) (dss := [[.slice Am_types x.m.types.length cm_types, .slice Am_imports x.m.imports.length cm_imports, .slice Am_funcs x.m.funcs.length cm_funcs, .slice Am_tables x.m.tables.length cm_tables, .slice Am_mems x.m.mems.length cm_mems, .slice Am_globals x.m.globals.length cm_globals, .slice Am_exports x.m.exports.length cm_exports, .bool x.m.hasStart, .int .i64 x.m.start, .slice Am_elems x.m.elems.length cm_elems, .slice Am_datas x.m.datas.length cm_datas, .slice Am_customs x.m.customs.length cm_customs, .slice Aa_funcs x.a.funcs.length ca_funcs, .slice Aa_tables x.a.tables.length ca_tables, .slice Aa_mems x.a.mems.length ca_mems, .slice Aa_globals x.a.globals.length ca_globals, .slice Aa_elems x.a.elems.length ca_elems, .slice Aa_datas x.a.datas.length ca_datas]]) (B2 := W1.heap.size) elGi rfl rfl rfl HJ.o.row (Css.one HJ.o.rd) (Rd.blk G1.o G1.o.lt 0 (fun k u hu => by rw [Nat.zero_add]; simpa using hu)) rfl (by have := HJ.o.len; simp; omega) (by have := HJ.o.len; simp; omega) (fun k hk => ⟨HJ.o.lt k hk, fun e => (HJ.o.own k hk).1 e.symm⟩) nz ?_
 intro v1 w1 hr1 fr1 hv1
 have gw1 : W.heap.size < W1.heap.size := G1.o.lt
 have FR := hid fr1
 have R1 := hid hr1
 have hvl : ∀ k, v1.ownBlock = some k → v.ownBlock = some k ∨ w.heap.size ≤ k ∧ k < w1.heap.size := fun k hk => by
  exact yy19
 have HV := hid hvl
 have HC : Hid (∀ X, Fr (fun k => some k = v.ownBlock) W1 X → Ce X P off v ∧ Ce X g 0 (.slice Am_types x.m.types.length cm_types) ∧ Ce X g 1 (.slice Am_imports x.m.imports.length cm_imports) ∧ Ce X g 2 (.slice Am_funcs x.m.funcs.length cm_funcs) ∧ Ce X g 3 (.slice Am_tables x.m.tables.length cm_tables) ∧ Ce X g 4 (.slice Am_mems x.m.mems.length cm_mems) ∧ Ce X g 5 (.slice Am_globals x.m.globals.length cm_globals) ∧ Ce X g 6 (.slice Am_exports x.m.exports.length cm_exports) ∧ Ce X g 7 (.bool x.m.hasStart) ∧ Ce X g 8 (.int .i64 x.m.start) ∧ Ce X g 9 (.slice Am_elems x.m.elems.length cm_elems) ∧ Ce X g 10 (.slice Am_datas x.m.datas.length cm_datas) ∧ Ce X g 11 (.slice Am_customs x.m.customs.length cm_customs) ∧ Ce X g 12 (.slice Aa_funcs x.a.funcs.length ca_funcs) ∧ Ce X g 13 (.slice Aa_tables x.a.tables.length ca_tables) ∧ Ce X g 14 (.slice Aa_mems x.a.mems.length ca_mems) ∧ Ce X g 15 (.slice Aa_globals x.a.globals.length ca_globals) ∧ Ce X g 16 (.slice Aa_elems x.a.elems.length ca_elems) ∧ Ce X g 17 (.slice Aa_datas x.a.datas.length ca_datas)) := fun X f => by
  have hgo : ¬ some g = v.ownBlock := fun e => by
   obtain ⟨_, csr, hbr⟩ := (HA.o.row).own e.symm
   have := hbr.lt
   have := HG.o
   omega
  have hY := HX.o W1 F1.o
  exact ⟨(f.cell (p := ⟨P, off, none⟩) (by show P < _; omega) (fun e => HA.o.ne e.symm)).trans hY.1, (f.cell (p := ⟨g, 0, none⟩) (by show g < _; omega) hgo).trans hY.2.1, (f.cell (p := ⟨g, 1, none⟩) (by show g < _; omega) hgo).trans hY.2.2.1, (f.cell (p := ⟨g, 2, none⟩) (by show g < _; omega) hgo).trans hY.2.2.2.1, (f.cell (p := ⟨g, 3, none⟩) (by show g < _; omega) hgo).trans hY.2.2.2.2.1, (f.cell (p := ⟨g, 4, none⟩) (by show g < _; omega) hgo).trans hY.2.2.2.2.2.1, (f.cell (p := ⟨g, 5, none⟩) (by show g < _; omega) hgo).trans hY.2.2.2.2.2.2.1, (f.cell (p := ⟨g, 6, none⟩) (by show g < _; omega) hgo).trans hY.2.2.2.2.2.2.2.1, (f.cell (p := ⟨g, 7, none⟩) (by show g < _; omega) hgo).trans hY.2.2.2.2.2.2.2.2.1, (f.cell (p := ⟨g, 8, none⟩) (by show g < _; omega) hgo).trans hY.2.2.2.2.2.2.2.2.2.1, (f.cell (p := ⟨g, 9, none⟩) (by show g < _; omega) hgo).trans hY.2.2.2.2.2.2.2.2.2.2.1, (f.cell (p := ⟨g, 10, none⟩) (by show g < _; omega) hgo).trans hY.2.2.2.2.2.2.2.2.2.2.2.1, (f.cell (p := ⟨g, 11, none⟩) (by show g < _; omega) hgo).trans hY.2.2.2.2.2.2.2.2.2.2.2.2.1, (f.cell (p := ⟨g, 12, none⟩) (by show g < _; omega) hgo).trans hY.2.2.2.2.2.2.2.2.2.2.2.2.2.1, (f.cell (p := ⟨g, 13, none⟩) (by show g < _; omega) hgo).trans hY.2.2.2.2.2.2.2.2.2.2.2.2.2.2.1, (f.cell (p := ⟨g, 14, none⟩) (by show g < _; omega) hgo).trans hY.2.2.2.2.2.2.2.2.2.2.2.2.2.2.2.1, (f.cell (p := ⟨g, 15, none⟩) (by show g < _; omega) hgo).trans hY.2.2.2.2.2.2.2.2.2.2.2.2.2.2.2.2.1, (f.cell (p := ⟨g, 16, none⟩) (by show g < _; omega) hgo).trans hY.2.2.2.2.2.2.2.2.2.2.2.2.2.2.2.2.2.1, (f.cell (p := ⟨g, 17, none⟩) (by show g < _; omega) hgo).trans hY.2.2.2.2.2.2.2.2.2.2.2.2.2.2.2.2.2.2⟩
 exact yy1
end Go.Proofs.YthggdemiddjlgaaGreat
