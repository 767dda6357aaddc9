/- Merged: TbA TbB TbC TbD TbE TbF. -/
import Derived.Test.YtdckghiipijobaaGreatStA
import Derived.WalkKit
import Derived.ProofKit
import Derived.Test.YtdckghiipijobaaGreatSels
import Derived.WalkSpells
import Derived.Deep.Cut
import Derived.Test.YtdckghiipijobaaGreatGm
import Derived.Test.YtdckghiipijobaaGreatWide
import Derived.Test.YtdckghiipijobaaGreatStXY
import Derived.Test.YtdckghiipijobaaGreatTaE
import Derived.Test.YtdckghiipijobaaGreatStW

namespace Go.Proofs.YtdckghiipijobaaGreat
open Go.RowKit

structure At where
  call : Int
  addr : Int
  func : Fi
  table : Tb
  mem : Lim
  g : Gl
  v : Vl
  refs : List Int
  b : List Int
  m : Md
  a : Ad
  args : List Vl
def tAt0 : Ty (Int × Int × Fi × Tb × Lim × Gl × Vl × List Int × List Int × Md × Ad × List Vl) := (Ty.int .i64).pair ((Ty.int .i64).pair (tFi.pair (tTb.pair (tLim.pair (tGl.pair (tVl.pair ((Ty.int .u64).slice.pair ((Ty.int .u8).slice.pair (tMd.pair (tAd.pair (tVl.slice)))))))))))
def tAt : Ty At := tAt0.iso fun a => (a.call, a.addr, a.func, a.table, a.mem, a.g, a.v, a.refs, a.b, a.m, a.a, a.args)
instance : TyOk tAt := by unfold tAt tAt0; infer_instance
instance : TyMore tAt := by unfold tAt tAt0; infer_instance
instance : TyOne tAt := by unfold tAt tAt0; infer_instance
theorem opens_At : Opens Tryz.prog 76 tAt := by
  refine opens_iso _ (fun x => ⟨x.1, x.2.1, x.2.2.1, x.2.2.2.1, x.2.2.2.2.1, x.2.2.2.2.2.1, x.2.2.2.2.2.2.1, x.2.2.2.2.2.2.2.1, x.2.2.2.2.2.2.2.2.1, x.2.2.2.2.2.2.2.2.2.1, x.2.2.2.2.2.2.2.2.2.2.1, x.2.2.2.2.2.2.2.2.2.2.2⟩) (fun _ => rfl) ?_
  exact opens_struct Tryz.underlying76 (by kernel_rfl) (Flds.cons rfl (by kernel_rfl) (opens_int Tryz.underlying3) (Flds.cons rfl (by kernel_rfl) (opens_int Tryz.underlying3) (Flds.cons rfl (by kernel_rfl) opens_Fi (Flds.cons rfl (by kernel_rfl) opens_Tb (Flds.cons rfl (by kernel_rfl) opens_Lim (Flds.cons rfl (by kernel_rfl) opens_Gl (Flds.cons rfl (by kernel_rfl) opens_Vl (Flds.cons rfl (by kernel_rfl) (opens_slice Tryz.underlying58 (by kernel_rfl) (by decide) (opens_int Tryz.underlying55)) (Flds.cons rfl (by kernel_rfl) (opens_slice Tryz.underlying59 (by kernel_rfl) (by decide) (opens_int Tryz.underlying5)) (Flds.cons rfl (by kernel_rfl) opens_Md (Flds.cons rfl (by kernel_rfl) opens_Ad (Flds.one rfl (by kernel_rfl) (opens_slice Tryz.underlying74 (by kernel_rfl) (by decide) opens_Vl)))))))))))))
theorem At_cells {w : World} {S : Nat → Prop} {cs : List Value} {a : At} (h : tAt.rd w S cs a) : ∃ (Afunc_ty_params : Option Addr) (cfunc_ty_params : Nat) (Afunc_ty_results : Option Addr) (cfunc_ty_results : Nat) (Arefs : Option Addr) (crefs : Nat) (Ab : Option Addr) (cb : Nat) (Am_types : Option Addr) (cm_types : Nat) (Am_imports : Option Addr) (cm_imports : Nat) (Am_funcs : Option Addr) (cm_funcs : Nat) (Am_tables : Option Addr) (cm_tables : Nat) (Am_mems : Option Addr) (cm_mems : Nat) (Am_globals : Option Addr) (cm_globals : Nat) (Am_exports : Option Addr) (cm_exports : Nat) (Am_elems : Option Addr) (cm_elems : Nat) (Am_datas : Option Addr) (cm_datas : Nat) (Am_customs : Option Addr) (cm_customs : Nat) (Aa_funcs : Option Addr) (ca_funcs : Nat) (Aa_tables : Option Addr) (ca_tables : Nat) (Aa_mems : Option Addr) (ca_mems : Nat) (Aa_globals : Option Addr) (ca_globals : Nat) (Aa_elems : Option Addr) (ca_elems : Nat) (Aa_datas : Option Addr) (ca_datas : Nat) (Aargs : Option Addr) (cargs : Nat), cs = [.int .i64 a.call, .int .i64 a.addr, .slice Afunc_ty_params a.func.ty.params.length cfunc_ty_params, .slice Afunc_ty_results a.func.ty.results.length cfunc_ty_results, .int .i64 a.func.inst, .int .i64 a.func.index, .int .i64 a.table.elem, .int .i64 a.table.lim.min, .int .i64 a.table.lim.max, .bool a.table.lim.has, .int .i64 a.mem.min, .int .i64 a.mem.max, .bool a.mem.has, .int .i64 a.g.val, .bool a.g.mut_, .int .i64 a.v.t, .int .u64 a.v.n, .slice Arefs a.refs.length crefs, .slice Ab a.b.length cb, .slice Am_types a.m.types.length cm_types, .slice Am_imports a.m.imports.length cm_imports, .slice Am_funcs a.m.funcs.length cm_funcs, .slice Am_tables a.m.tables.length cm_tables, .slice Am_mems a.m.mems.length cm_mems, .slice Am_globals a.m.globals.length cm_globals, .slice Am_exports a.m.exports.length cm_exports, .bool a.m.hasStart, .int .i64 a.m.start, .slice Am_elems a.m.elems.length cm_elems, .slice Am_datas a.m.datas.length cm_datas, .slice Am_customs a.m.customs.length cm_customs, .slice Aa_funcs a.a.funcs.length ca_funcs, .slice Aa_tables a.a.tables.length ca_tables, .slice Aa_mems a.a.mems.length ca_mems, .slice Aa_globals a.a.globals.length ca_globals, .slice Aa_elems a.a.elems.length ca_elems, .slice Aa_datas a.a.datas.length ca_datas, .slice Aargs a.args.length cargs] ∧ (Lit.int .i64 a.call).wf = true ∧ (Lit.int .i64 a.addr).wf = true ∧ a.func.ty.params.length ≤ cfunc_ty_params ∧ cfunc_ty_params ≤ maxLen ∧ (Ty.int .i64).els w S Afunc_ty_params a.func.ty.params ∧ a.func.ty.results.length ≤ cfunc_ty_results ∧ cfunc_ty_results ≤ maxLen ∧ (Ty.int .i64).els w S Afunc_ty_results a.func.ty.results ∧ (Lit.int .i64 a.func.inst).wf = true ∧ (Lit.int .i64 a.func.index).wf = true ∧ (Lit.int .i64 a.table.elem).wf = true ∧ (Lit.int .i64 a.table.lim.min).wf = true ∧ (Lit.int .i64 a.table.lim.max).wf = true ∧ (Lit.int .i64 a.mem.min).wf = true ∧ (Lit.int .i64 a.mem.max).wf = true ∧ (Lit.int .i64 a.g.val).wf = true ∧ (Lit.int .i64 a.v.t).wf = true ∧ (Lit.int .u64 a.v.n).wf = true ∧ a.refs.length ≤ crefs ∧ crefs ≤ maxLen ∧ (Ty.int .u64).els w S Arefs a.refs ∧ a.b.length ≤ cb ∧ cb ≤ maxLen ∧ (Ty.int .u8).els w S Ab a.b ∧ a.m.types.length ≤ cm_types ∧ cm_types ≤ maxLen ∧ tFn.els w S Am_types a.m.types ∧ a.m.imports.length ≤ cm_imports ∧ cm_imports ≤ maxLen ∧ tIm.els w S Am_imports a.m.imports ∧ a.m.funcs.length ≤ cm_funcs ∧ cm_funcs ≤ maxLen ∧ tCd.els w S Am_funcs a.m.funcs ∧ a.m.tables.length ≤ cm_tables ∧ cm_tables ≤ maxLen ∧ tTb.els w S Am_tables a.m.tables ∧ a.m.mems.length ≤ cm_mems ∧ cm_mems ≤ maxLen ∧ tLim.els w S Am_mems a.m.mems ∧ a.m.globals.length ≤ cm_globals ∧ cm_globals ≤ maxLen ∧ tGd.els w S Am_globals a.m.globals ∧ a.m.exports.length ≤ cm_exports ∧ cm_exports ≤ maxLen ∧ tEx.els w S Am_exports a.m.exports ∧ (Lit.int .i64 a.m.start).wf = true ∧ a.m.elems.length ≤ cm_elems ∧ cm_elems ≤ maxLen ∧ tEl.els w S Am_elems a.m.elems ∧ a.m.datas.length ≤ cm_datas ∧ cm_datas ≤ maxLen ∧ tDa.els w S Am_datas a.m.datas ∧ a.m.customs.length ≤ cm_customs ∧ cm_customs ≤ maxLen ∧ tCu.els w S Am_customs a.m.customs ∧ a.a.funcs.length ≤ ca_funcs ∧ ca_funcs ≤ maxLen ∧ (Ty.int .i64).els w S Aa_funcs a.a.funcs ∧ a.a.tables.length ≤ ca_tables ∧ ca_tables ≤ maxLen ∧ (Ty.int .i64).els w S Aa_tables a.a.tables ∧ a.a.mems.length ≤ ca_mems ∧ ca_mems ≤ maxLen ∧ (Ty.int .i64).els w S Aa_mems a.a.mems ∧ a.a.globals.length ≤ ca_globals ∧ ca_globals ≤ maxLen ∧ (Ty.int .i64).els w S Aa_globals a.a.globals ∧ a.a.elems.length ≤ ca_elems ∧ ca_elems ≤ maxLen ∧ (Ty.int .i64).els w S Aa_elems a.a.elems ∧ a.a.datas.length ≤ ca_datas ∧ ca_datas ≤ maxLen ∧ (Ty.int .i64).els w S Aa_datas a.a.datas ∧ a.args.length ≤ cargs ∧ cargs ≤ maxLen ∧ tVl.els w S Aargs a.args := by
  obtain ⟨xcall, rcall, rfl, ⟨rfl, wcall⟩, xaddr, raddr, rfl, ⟨rfl, waddr⟩, xfunc, rfunc, rfl, hfunc, xtable, rtable, rfl, htable, xmem, rmem, rfl, hmem, xg, rg, rfl, hg, xv, rv, rfl, hv, xrefs, rrefs, rfl, ⟨Arefs, crefs, rfl, grefs, mrefs, erefs⟩, xb, rb, rfl, ⟨Ab, cb, rfl, gb, mb, eb⟩, xm, rm, rfl, hm, xa, ra, rfl, ha, Aargs, cargs, rfl, gargs, margs, eargs⟩ := h
  obtain ⟨Afunc_ty_params, cfunc_ty_params, Afunc_ty_results, cfunc_ty_results, rfl, kfunc0, kfunc1, kfunc2, kfunc3, kfunc4, kfunc5, kfunc6, kfunc7⟩ := Fi_cells hfunc
  obtain ⟨rfl, ktable0, ktable1, ktable2⟩ := Tb_cells htable
  obtain ⟨rfl, kmem0, kmem1⟩ := Lim_cells hmem
  obtain ⟨rfl, kg0⟩ := Gl_cells hg
  obtain ⟨rfl, kv0, kv1⟩ := Vl_cells hv
  obtain ⟨Am_types, cm_types, Am_imports, cm_imports, Am_funcs, cm_funcs, Am_tables, cm_tables, Am_mems, cm_mems, Am_globals, cm_globals, Am_exports, cm_exports, Am_elems, cm_elems, Am_datas, cm_datas, Am_customs, cm_customs, rfl, km0, km1, km2, km3, km4, km5, km6, km7, km8, km9, km10, km11, km12, km13, km14, km15, km16, km17, km18, km19, km20, km21, km22, km23, km24, km25, km26, km27, km28, km29, km30⟩ := Md_cells hm
  obtain ⟨Aa_funcs, ca_funcs, Aa_tables, ca_tables, Aa_mems, ca_mems, Aa_globals, ca_globals, Aa_elems, ca_elems, Aa_datas, ca_datas, rfl, ka0, ka1, ka2, ka3, ka4, ka5, ka6, ka7, ka8, ka9, ka10, ka11, ka12, ka13, ka14, ka15, ka16, ka17⟩ := Ad_cells ha
  exact ⟨Afunc_ty_params, cfunc_ty_params, Afunc_ty_results, cfunc_ty_results, Arefs, crefs, Ab, cb, Am_types, cm_types, Am_imports, cm_imports, Am_funcs, cm_funcs, Am_tables, cm_tables, Am_mems, cm_mems, Am_globals, cm_globals, Am_exports, cm_exports, Am_elems, cm_elems, Am_datas, cm_datas, Am_customs, cm_customs, Aa_funcs, ca_funcs, Aa_tables, ca_tables, Aa_mems, ca_mems, Aa_globals, ca_globals, Aa_elems, ca_elems, Aa_datas, ca_datas, Aargs, cargs, rfl, wcall, waddr, kfunc0, kfunc1, kfunc2, kfunc3, kfunc4, kfunc5, kfunc6, kfunc7, ktable0, ktable1, ktable2, kmem0, kmem1, kg0, kv0, kv1, grefs, mrefs, erefs, gb, mb, eb, km0, km1, km2, km3, km4, km5, km6, km7, km8, km9, km10, km11, km12, km13, km14, km15, km16, km17, km18, km19, km20, km21, km22, km23, km24, km25, km26, km27, km28, km29, km30, ka0, ka1, ka2, ka3, ka4, ka5, ka6, ka7, ka8, ka9, ka10, ka11, ka12, ka13, ka14, ka15, ka16, ka17, gargs, margs, eargs⟩
end Go.Proofs.YtdckghiipijobaaGreat

namespace Go.Proofs.YtdckghiipijobaaGreat
open Go.RowKit
set_option maxRecDepth 100000 in
set_option maxHeartbeats 800000 in
theorem nAddFunc (v0 v1 v2 v3 : Value) (w : World) : Calls Tryz.prog 17 #[.pointer none, .agg #[v0, v1, v2, v3]] w fun e w' => e = .returned (.int .i64 (-1)) ∧ Fr No w w' := by
  go_enter Tryz.func17, Tryz.ntmps17
  go_wp2
  go_ret
  exact ⟨rfl, (Fr.refl No w).alloc _⟩
set_option maxRecDepth 100000 in
set_option maxHeartbeats 800000 in
theorem nAddTable (v0 v1 v2 v3 : Value) (w : World) : Calls Tryz.prog 18 #[.pointer none, .agg #[v0, v1, v2, v3]] w fun e w' => e = .returned (.int .i64 (-1)) ∧ Fr No w w' := by
  go_enter Tryz.func18, Tryz.ntmps18
  go_wp2
  go_ret
  exact ⟨rfl, (Fr.refl No w).alloc _⟩
set_option maxRecDepth 100000 in
set_option maxHeartbeats 800000 in
theorem nAddGlobal (v0 v1 v2 v3 : Value) (w : World) : Calls Tryz.prog 20 #[.pointer none, .agg #[v0, v1], .agg #[v2, v3]] w fun e w' => e = .returned (.int .i64 (-1)) ∧ Fr No w w' := by
  go_enter Tryz.func20, Tryz.ntmps20
  go_wp2
  go_ret
  exact ⟨rfl, ((Fr.refl No w).alloc _).alloc _⟩
set_option maxRecDepth 100000 in
set_option maxHeartbeats 800000 in
theorem nAddElem (v : Value) (w : World) : Calls Tryz.prog 21 #[.pointer none, v] w fun e w' => e = .returned (.int .i64 (-1)) ∧ Fr No w w' := by
  go_enter Tryz.func21, Tryz.ntmps21
  go_wp2
  go_ret
  exact ⟨rfl, Fr.refl _ _⟩
set_option maxRecDepth 100000 in
set_option maxHeartbeats 800000 in
theorem nAddData (v : Value) (w : World) : Calls Tryz.prog 22 #[.pointer none, v] w fun e w' => e = .returned (.int .i64 (-1)) ∧ Fr No w w' := by
  go_enter Tryz.func22, Tryz.ntmps22
  go_wp2
  go_ret
  exact ⟨rfl, Fr.refl _ _⟩
set_option maxRecDepth 100000 in
set_option maxHeartbeats 800000 in
theorem nAddInst (v0 v1 v2 v3 v4 v5 v6 v7 v8 v9 v10 v11 u0 u1 u2 u3 u4 u5 : Value) (w : World) : Calls Tryz.prog 23 #[.pointer none, .agg #[v0, v1, v2, v3, v4, v5, v6, v7, v8, v9, v10, v11], .agg #[u0, u1, u2, u3, u4, u5]] w fun e w' => e = .returned (.int .i64 (-1)) ∧ Fr No w w' := by
  go_enter Tryz.func23, Tryz.ntmps23
  go_wp2
  go_ret
  exact ⟨rfl, ((Fr.refl No w).alloc _).alloc _⟩
set_option maxRecDepth 100000 in
set_option maxHeartbeats 800000 in
theorem nFunc (i : Int) (w : World) : Calls Tryz.prog 46 #[.pointer none, .int .i64 i] w fun e w' => e = .returned (.tuple #[.agg #[.slice none 0 0, .slice none 0 0, .int .i64 0, .int .i64 0], .bool false]) ∧ Fr No w w' := by
  go_enter Tryz.func46, Tryz.ntmps46
  go_wp2
  refine bodyPost_ret (v := .tuple #[.agg #[.slice none 0 0, .slice none 0 0, .int .i64 0, .int .i64 0], .bool false]) (by simp [results, Tryz.results46, go_sem]) rfl ⟨rfl, ?_⟩
  (first | exact Fr.refl _ _ | exact (Fr.refl No w).alloc _ | exact ((Fr.refl No w).alloc _).alloc _ | exact (((Fr.refl No w).alloc _).alloc _).alloc _)
set_option maxRecDepth 100000 in
set_option maxHeartbeats 800000 in
theorem nTable (i : Int) (w : World) : Calls Tryz.prog 31 #[.pointer none, .int .i64 i] w fun e w' => e = .returned (.pointer none) ∧ Fr No w w' := by
  go_enter Tryz.func31, Tryz.ntmps31
  go_wp2
  go_ret
  exact ⟨rfl, Fr.refl _ _⟩
set_option maxRecDepth 100000 in
set_option maxHeartbeats 800000 in
theorem nMem (i : Int) (w : World) : Calls Tryz.prog 30 #[.pointer none, .int .i64 i] w fun e w' => e = .returned (.pointer none) ∧ Fr No w w' := by
  go_enter Tryz.func30, Tryz.ntmps30
  go_wp2
  go_ret
  exact ⟨rfl, Fr.refl _ _⟩
set_option maxRecDepth 100000 in
set_option maxHeartbeats 800000 in
theorem nGlobal (i : Int) (w : World) : Calls Tryz.prog 49 #[.pointer none, .int .i64 i] w fun e w' => e = .returned (.tuple #[.agg #[.int .i64 0, .bool false], .agg #[.int .i64 0, .int .u64 0], .bool false]) ∧ Fr No w w' := by
  go_enter Tryz.func49, Tryz.ntmps49
  go_wp2
  refine bodyPost_ret (v := .tuple #[.agg #[.int .i64 0, .bool false], .agg #[.int .i64 0, .int .u64 0], .bool false]) (by simp [results, Tryz.results49, go_sem]) rfl ⟨rfl, ?_⟩
  (first | exact Fr.refl _ _ | exact (Fr.refl No w).alloc _ | exact ((Fr.refl No w).alloc _).alloc _ | exact (((Fr.refl No w).alloc _).alloc _).alloc _)
set_option maxRecDepth 100000 in
set_option maxHeartbeats 800000 in
theorem nSetGlobal (i : Int) (v0 v1 : Value) (w : World) : Calls Tryz.prog 24 #[.pointer none, .int .i64 i, .agg #[v0, v1]] w fun e w' => e = .returned (.bool false) ∧ Fr No w w' := by
  go_enter Tryz.func24, Tryz.ntmps24
  go_wp2_with fail
  refine (nGlobal i _).mono ?_
  rintro e w1 ⟨rfl, f1⟩
  have F1 := hid (((Fr.refl No w).alloc (.cells #[v0, v1] 57)).trans f1 (fun _ _ h => h))
  clear f1
  go_wp2
  go_ret
  exact ⟨rfl, (F1.out.alloc _).alloc _⟩
set_option maxRecDepth 100000 in
set_option maxHeartbeats 800000 in
theorem nElem (i : Int) (w : World) : Calls Tryz.prog 51 #[.pointer none, .int .i64 i] w fun e w' => e = .returned (.tuple #[.slice none 0 0, .bool false]) ∧ Fr No w w' := by
  go_enter Tryz.func51, Tryz.ntmps51
  go_wp2
  go_ret2
  exact ⟨rfl, Fr.refl _ _⟩
set_option maxRecDepth 100000 in
set_option maxHeartbeats 800000 in
theorem nData (i : Int) (w : World) : Calls Tryz.prog 53 #[.pointer none, .int .i64 i] w fun e w' => e = .returned (.tuple #[.slice none 0 0, .bool false]) ∧ Fr No w w' := by
  go_enter Tryz.func53, Tryz.ntmps53
  go_wp2
  go_ret2
  exact ⟨rfl, Fr.refl _ _⟩
set_option maxRecDepth 100000 in
set_option maxHeartbeats 800000 in
theorem nDropElem (i : Int) (w : World) : Calls Tryz.prog 26 #[.pointer none, .int .i64 i] w fun e w' => e = .returned (.tuple #[]) ∧ Fr No w w' := by
  go_enter Tryz.func26, Tryz.ntmps26
  go_wp2
  exact bodyPost_ret (v := .tuple #[]) (by simp [results, Tryz.results26, go_sem]) rfl ⟨rfl, Fr.refl _ _⟩
set_option maxRecDepth 100000 in
set_option maxHeartbeats 800000 in
theorem nDropData (i : Int) (w : World) : Calls Tryz.prog 27 #[.pointer none, .int .i64 i] w fun e w' => e = .returned (.tuple #[]) ∧ Fr No w w' := by
  go_enter Tryz.func27, Tryz.ntmps27
  go_wp2
  exact bodyPost_ret (v := .tuple #[]) (by simp [results, Tryz.results27, go_sem]) rfl ⟨rfl, Fr.refl _ _⟩
set_option maxRecDepth 100000 in
set_option maxHeartbeats 800000 in
theorem nInst (i : Int) (w : World) : Calls Tryz.prog 56 #[.pointer none, .int .i64 i] w fun e w' => e = .returned (.tuple #[.agg #[.slice none 0 0, .slice none 0 0, .slice none 0 0, .slice none 0 0, .slice none 0 0, .slice none 0 0, .slice none 0 0, .bool false, .int .i64 0, .slice none 0 0, .slice none 0 0, .slice none 0 0], .agg #[.slice none 0 0, .slice none 0 0, .slice none 0 0, .slice none 0 0, .slice none 0 0, .slice none 0 0], .bool false]) ∧ Fr No w w' := by
  go_enter Tryz.func56, Tryz.ntmps56
  go_wp2
  refine bodyPost_ret (v := .tuple #[.agg #[.slice none 0 0, .slice none 0 0, .slice none 0 0, .slice none 0 0, .slice none 0 0, .slice none 0 0, .slice none 0 0, .bool false, .int .i64 0, .slice none 0 0, .slice none 0 0, .slice none 0 0], .agg #[.slice none 0 0, .slice none 0 0, .slice none 0 0, .slice none 0 0, .slice none 0 0, .slice none 0 0], .bool false]) (by simp [results, Tryz.results56, go_sem]) rfl ⟨rfl, ?_⟩
  (first | exact Fr.refl _ _ | exact (Fr.refl No w).alloc _ | exact ((Fr.refl No w).alloc _).alloc _ | exact (((Fr.refl No w).alloc _).alloc _).alloc _)
set_option maxRecDepth 100000 in
set_option maxHeartbeats 800000 in
theorem nInsts (w : World) : Calls Tryz.prog 25 #[.pointer none] w fun e w' => e = .returned (.int .i64 0) ∧ Fr No w w' := by
  go_enter Tryz.func25, Tryz.ntmps25
  go_wp2
  go_ret
  exact ⟨rfl, Fr.refl _ _⟩
set_option maxRecDepth 100000 in
set_option maxHeartbeats 800000 in
theorem nCall (i : Int) (v : Value) (w : World) : Calls Tryz.prog 28 #[.pointer none, .int .i64 i, v] w fun e w' => e = .returned (.tuple #[.slice none 0 0, .int .i64 12]) ∧ Fr No w w' := by
  go_enter Tryz.func28, Tryz.ntmps28
  go_wp2
  go_ret2
  exact ⟨rfl, Fr.refl _ _⟩
set_option maxRecDepth 100000 in
set_option maxHeartbeats 800000 in
theorem nShot (w : World) : Calls Tryz.prog 15 #[.pointer none] w fun e w' => e = .returned (.agg #[.slice none 0 0, .slice none 0 0, .slice none 0 0, .slice none 0 0, .slice none 0 0, .slice none 0 0]) ∧ Fr No w w' := by
  go_enter Tryz.func15, Tryz.ntmps15
  go_wp2
  refine bodyPost_ret (v := .agg #[.slice none 0 0, .slice none 0 0, .slice none 0 0, .slice none 0 0, .slice none 0 0, .slice none 0 0]) (by simp [results, Tryz.results15, go_sem]) rfl ⟨rfl, ?_⟩
  (first | exact Fr.refl _ _ | exact (Fr.refl No w).alloc _ | exact ((Fr.refl No w).alloc _).alloc _ | exact (((Fr.refl No w).alloc _).alloc _).alloc _)
set_option maxRecDepth 100000 in
set_option maxHeartbeats 800000 in
theorem nClone (w : World) : Calls Tryz.prog 29 #[.pointer none] w fun e w' => e = .returned (.pointer none) ∧ Fr No w w' := by
  go_enter Tryz.func29, Tryz.ntmps29
  go_wp2
  go_ret
  exact ⟨rfl, Fr.refl _ _⟩
end Go.Proofs.YtdckghiipijobaaGreat

namespace Go.Proofs.YtdckghiipijobaaGreat
open Go.RowKit
theorem blk2' {w : World} {p : Nat} {t : TypeId} {v0 v1 : Value} (h : Blk w p t #[v0, v1]) : ∀ X, Fr No w X → X.cell? ⟨p, 0, none⟩ = some v0 ∧ X.cell? ⟨p, 1, none⟩ = some v1 := fun X f =>
  ⟨(h.fr f (fun x => x)).cell 0, (h.fr f (fun x => x)).cell 1⟩
theorem blk6' {w : World} {p : Nat} {t : TypeId} {v0 v1 v2 v3 v4 v5 : Value} (h : Blk w p t #[v0, v1, v2, v3, v4, v5]) : ∀ X, Fr No w X → X.cell? ⟨p, 0, none⟩ = some v0 ∧ X.cell? ⟨p, 1, none⟩ = some v1 ∧ X.cell? ⟨p, 2, none⟩ = some v2 ∧ X.cell? ⟨p, 3, none⟩ = some v3 ∧ X.cell? ⟨p, 4, none⟩ = some v4 ∧ X.cell? ⟨p, 5, none⟩ = some v5 := fun X f =>
  ⟨(h.fr f (fun x => x)).cell 0, (h.fr f (fun x => x)).cell 1, (h.fr f (fun x => x)).cell 2, (h.fr f (fun x => x)).cell 3, (h.fr f (fun x => x)).cell 4, (h.fr f (fun x => x)).cell 5⟩
theorem blk10' {w : World} {p : Nat} {t : TypeId} {v0 v1 v2 v3 v4 v5 v6 v7 v8 v9 : Value} (h : Blk w p t #[v0, v1, v2, v3, v4, v5, v6, v7, v8, v9]) : ∀ X, Fr No w X → X.cell? ⟨p, 0, none⟩ = some v0 ∧ X.cell? ⟨p, 1, none⟩ = some v1 ∧ X.cell? ⟨p, 2, none⟩ = some v2 ∧ X.cell? ⟨p, 3, none⟩ = some v3 ∧ X.cell? ⟨p, 4, none⟩ = some v4 ∧ X.cell? ⟨p, 5, none⟩ = some v5 ∧ X.cell? ⟨p, 6, none⟩ = some v6 ∧ X.cell? ⟨p, 7, none⟩ = some v7 ∧ X.cell? ⟨p, 8, none⟩ = some v8 ∧ X.cell? ⟨p, 9, none⟩ = some v9 := fun X f =>
  ⟨(h.fr f (fun x => x)).cell 0, (h.fr f (fun x => x)).cell 1, (h.fr f (fun x => x)).cell 2, (h.fr f (fun x => x)).cell 3, (h.fr f (fun x => x)).cell 4, (h.fr f (fun x => x)).cell 5, (h.fr f (fun x => x)).cell 6, (h.fr f (fun x => x)).cell 7, (h.fr f (fun x => x)).cell 8, (h.fr f (fun x => x)).cell 9⟩
theorem blk12' {w : World} {p : Nat} {t : TypeId} {v0 v1 v2 v3 v4 v5 v6 v7 v8 v9 v10 v11 : Value} (h : Blk w p t #[v0, v1, v2, v3, v4, v5, v6, v7, v8, v9, v10, v11]) : ∀ X, Fr No w X → X.cell? ⟨p, 0, none⟩ = some v0 ∧ X.cell? ⟨p, 1, none⟩ = some v1 ∧ X.cell? ⟨p, 2, none⟩ = some v2 ∧ X.cell? ⟨p, 3, none⟩ = some v3 ∧ X.cell? ⟨p, 4, none⟩ = some v4 ∧ X.cell? ⟨p, 5, none⟩ = some v5 ∧ X.cell? ⟨p, 6, none⟩ = some v6 ∧ X.cell? ⟨p, 7, none⟩ = some v7 ∧ X.cell? ⟨p, 8, none⟩ = some v8 ∧ X.cell? ⟨p, 9, none⟩ = some v9 ∧ X.cell? ⟨p, 10, none⟩ = some v10 ∧ X.cell? ⟨p, 11, none⟩ = some v11 := fun X f =>
  ⟨(h.fr f (fun x => x)).cell 0, (h.fr f (fun x => x)).cell 1, (h.fr f (fun x => x)).cell 2, (h.fr f (fun x => x)).cell 3, (h.fr f (fun x => x)).cell 4, (h.fr f (fun x => x)).cell 5, (h.fr f (fun x => x)).cell 6, (h.fr f (fun x => x)).cell 7, (h.fr f (fun x => x)).cell 8, (h.fr f (fun x => x)).cell 9, (h.fr f (fun x => x)).cell 10, (h.fr f (fun x => x)).cell 11⟩
set_option maxHeartbeats 800000 in
theorem zsameTypes (w : World) : Calls Tryz.prog 142 #[.slice none 0 0, .slice none 0 0] w fun e w' => e = .returned (.bool true) ∧ Fr No w w' := by
  go_enter Tryz.func142, Tryz.ntmps142
  go_wp2
  go_loopw [5] (fun i wr => i = .int .i64 0 ∧ Hid (Fr No w wr)) (fun _ _ => 0)
  case atStart => exact ⟨rfl, Fr.refl _ _⟩
  case round =>
    obtain ⟨rfl, F⟩ := hrel
    go_wp2
    go_ret
    exact ⟨rfl, F.out⟩
set_option maxHeartbeats 800000 in
theorem zsameImports (w : World) : Calls Tryz.prog 143 #[.slice none 0 0, .slice none 0 0] w fun e w' => e = .returned (.bool true) ∧ Fr No w w' := by
  go_enter Tryz.func143, Tryz.ntmps143
  go_wp2
  go_loopw [5] (fun i wr => i = .int .i64 0 ∧ Hid (Fr No w wr)) (fun _ _ => 0)
  case atStart => exact ⟨rfl, Fr.refl _ _⟩
  case round =>
    obtain ⟨rfl, F⟩ := hrel
    go_wp2
    go_ret
    exact ⟨rfl, F.out⟩
set_option maxHeartbeats 800000 in
theorem zsameFuncs (w : World) : Calls Tryz.prog 144 #[.slice none 0 0, .slice none 0 0] w fun e w' => e = .returned (.bool true) ∧ Fr No w w' := by
  go_enter Tryz.func144, Tryz.ntmps144
  go_wp2
  go_loopw [5] (fun i wr => i = .int .i64 0 ∧ Hid (Fr No w wr)) (fun _ _ => 0)
  case atStart => exact ⟨rfl, Fr.refl _ _⟩
  case round =>
    obtain ⟨rfl, F⟩ := hrel
    go_wp2
    go_ret
    exact ⟨rfl, F.out⟩
set_option maxHeartbeats 800000 in
theorem zsameGlobals (w : World) : Calls Tryz.prog 146 #[.slice none 0 0, .slice none 0 0] w fun e w' => e = .returned (.bool true) ∧ Fr No w w' := by
  go_enter Tryz.func146, Tryz.ntmps146
  go_wp2
  go_loopw [5] (fun i wr => i = .int .i64 0 ∧ Hid (Fr No w wr)) (fun _ _ => 0)
  case atStart => exact ⟨rfl, Fr.refl _ _⟩
  case round =>
    obtain ⟨rfl, F⟩ := hrel
    go_wp2
    go_ret
    exact ⟨rfl, F.out⟩
set_option maxHeartbeats 800000 in
theorem zsameExports (w : World) : Calls Tryz.prog 147 #[.slice none 0 0, .slice none 0 0] w fun e w' => e = .returned (.bool true) ∧ Fr No w w' := by
  go_enter Tryz.func147, Tryz.ntmps147
  go_wp2
  go_loopw [5] (fun i wr => i = .int .i64 0 ∧ Hid (Fr No w wr)) (fun _ _ => 0)
  case atStart => exact ⟨rfl, Fr.refl _ _⟩
  case round =>
    obtain ⟨rfl, F⟩ := hrel
    go_wp2
    go_ret
    exact ⟨rfl, F.out⟩
set_option maxHeartbeats 800000 in
theorem zsameElems (w : World) : Calls Tryz.prog 148 #[.slice none 0 0, .slice none 0 0] w fun e w' => e = .returned (.bool true) ∧ Fr No w w' := by
  go_enter Tryz.func148, Tryz.ntmps148
  go_wp2
  go_loopw [5] (fun i wr => i = .int .i64 0 ∧ Hid (Fr No w wr)) (fun _ _ => 0)
  case atStart => exact ⟨rfl, Fr.refl _ _⟩
  case round =>
    obtain ⟨rfl, F⟩ := hrel
    go_wp2
    go_ret
    exact ⟨rfl, F.out⟩
set_option maxHeartbeats 800000 in
theorem zsameDatas (w : World) : Calls Tryz.prog 149 #[.slice none 0 0, .slice none 0 0] w fun e w' => e = .returned (.bool true) ∧ Fr No w w' := by
  go_enter Tryz.func149, Tryz.ntmps149
  go_wp2
  go_loopw [5] (fun i wr => i = .int .i64 0 ∧ Hid (Fr No w wr)) (fun _ _ => 0)
  case atStart => exact ⟨rfl, Fr.refl _ _⟩
  case round =>
    obtain ⟨rfl, F⟩ := hrel
    go_wp2
    go_ret
    exact ⟨rfl, F.out⟩
set_option maxHeartbeats 800000 in
theorem zsameCustoms (w : World) : Calls Tryz.prog 150 #[.slice none 0 0, .slice none 0 0] w fun e w' => e = .returned (.bool true) ∧ Fr No w w' := by
  go_enter Tryz.func150, Tryz.ntmps150
  go_wp2
  go_loopw [5] (fun i wr => i = .int .i64 0 ∧ Hid (Fr No w wr)) (fun _ _ => 0)
  case atStart => exact ⟨rfl, Fr.refl _ _⟩
  case round =>
    obtain ⟨rfl, F⟩ := hrel
    go_wp2
    go_ret
    exact ⟨rfl, F.out⟩
set_option maxHeartbeats 800000 in
theorem zints (w : World) : Calls Tryz.prog 151 #[.slice none 0 0, .slice none 0 0] w fun e w' => e = .returned (.bool true) ∧ Fr No w w' := by
  go_enter Tryz.func151, Tryz.ntmps151
  go_wp2
  go_loopw [5] (fun i wr => i = .int .i64 0 ∧ Hid (Fr No w wr)) (fun _ _ => 0)
  case atStart => exact ⟨rfl, Fr.refl _ _⟩
  case round =>
    obtain ⟨rfl, F⟩ := hrel
    go_wp2
    go_ret
    exact ⟨rfl, F.out⟩
set_option maxHeartbeats 800000 in
theorem zvals (w : World) : Calls Tryz.prog 137 #[.slice none 0 0, .slice none 0 0] w fun e w' => e = .returned (.bool true) ∧ Fr No w w' := by
  go_enter Tryz.func137, Tryz.ntmps137
  go_wp2
  go_loopw [5] (fun i wr => i = .int .i64 0 ∧ Hid (Fr No w wr)) (fun _ _ => 0)
  case atStart => exact ⟨rfl, Fr.refl _ _⟩
  case round =>
    obtain ⟨rfl, F⟩ := hrel
    go_wp2
    go_ret
    exact ⟨rfl, F.out⟩
set_option maxRecDepth 100000 in
set_option maxHeartbeats 3200000 in
theorem zsameSizes (w : World) : Calls Tryz.prog 145 #[.agg #[.slice none 0 0, .slice none 0 0, .slice none 0 0, .slice none 0 0, .slice none 0 0, .slice none 0 0, .slice none 0 0, .bool false, .int .i64 0, .slice none 0 0, .slice none 0 0, .slice none 0 0], .agg #[.slice none 0 0, .slice none 0 0, .slice none 0 0, .slice none 0 0, .slice none 0 0, .slice none 0 0, .slice none 0 0, .bool false, .int .i64 0, .slice none 0 0, .slice none 0 0, .slice none 0 0]] w fun e w' => e = .returned (.bool true) ∧ Fr No w w' := by
  have F0 := hid (((Fr.refl No w).alloc (.cells #[.slice none 0 0, .slice none 0 0, .slice none 0 0, .slice none 0 0, .slice none 0 0, .slice none 0 0, .slice none 0 0, .bool false, .int .i64 0, .slice none 0 0, .slice none 0 0, .slice none 0 0] 71)).alloc (.cells #[.slice none 0 0, .slice none 0 0, .slice none 0 0, .slice none 0 0, .slice none 0 0, .slice none 0 0, .slice none 0 0, .bool false, .int .i64 0, .slice none 0 0, .slice none 0 0, .slice none 0 0] 71))
  have BX := hid (blk12' ((Blk.new w 71 #[.slice none 0 0, .slice none 0 0, .slice none 0 0, .slice none 0 0, .slice none 0 0, .slice none 0 0, .slice none 0 0, .bool false, .int .i64 0, .slice none 0 0, .slice none 0 0, .slice none 0 0]).alloc (.cells #[.slice none 0 0, .slice none 0 0, .slice none 0 0, .slice none 0 0, .slice none 0 0, .slice none 0 0, .slice none 0 0, .bool false, .int .i64 0, .slice none 0 0, .slice none 0 0, .slice none 0 0] 71)))
  have BY := hid (blk12' (Blk.new1 w (.cells #[.slice none 0 0, .slice none 0 0, .slice none 0 0, .slice none 0 0, .slice none 0 0, .slice none 0 0, .slice none 0 0, .bool false, .int .i64 0, .slice none 0 0, .slice none 0 0, .slice none 0 0] 71) 71 #[.slice none 0 0, .slice none 0 0, .slice none 0 0, .slice none 0 0, .slice none 0 0, .slice none 0 0, .slice none 0 0, .bool false, .int .i64 0, .slice none 0 0, .slice none 0 0, .slice none 0 0]))
  go_enter Tryz.func145, Tryz.ntmps145
  go_upto_region 1 with fail
  try simp only [World.size_alloc]
  generalize hW : (w.alloc (.cells #[.slice none 0 0, .slice none 0 0, .slice none 0 0, .slice none 0 0, .slice none 0 0, .slice none 0 0, .slice none 0 0, .bool false, .int .i64 0, .slice none 0 0, .slice none 0 0, .slice none 0 0] 71)).alloc (.cells #[.slice none 0 0, .slice none 0 0, .slice none 0 0, .slice none 0 0, .slice none 0 0, .slice none 0 0, .slice none 0 0, .bool false, .int .i64 0, .slice none 0 0, .slice none 0 0, .slice none 0 0] 71) = W at *
  clear hW
  generalize w.heap.size = p at *
  obtain ⟨z0, z1, z2, z3, z4, z5, z6, z7, z8, z9, z10, z11⟩ := BX.out _ (Fr.refl No W)
  obtain ⟨y0, y1, y2, y3, y4, y5, y6, y7, y8, y9, y10, y11⟩ := BY.out _ (Fr.refl No W)
  go_wp2
  go_loopw [5] (fun i wr => i = .int .i64 0 ∧ Hid (Fr No W wr)) (fun _ _ => 0)
  case atStart => exact ⟨rfl, Fr.refl _ _⟩
  case round =>
  obtain ⟨rfl, F⟩ := hrel
  clear z0 z1 z2 z3 z4 z5 z6 z7 z8 z9 z10 z11 y0 y1 y2 y3 y4 y5 y6 y7 y8 y9 y10 y11
  obtain ⟨z0, z1, z2, z3, z4, z5, z6, z7, z8, z9, z10, z11⟩ := BX.out _ F.out
  obtain ⟨y0, y1, y2, y3, y4, y5, y6, y7, y8, y9, y10, y11⟩ := BY.out _ F.out
  obtain ⟨wx, hwx⟩ : ∃ X, X = wr := ⟨_, rfl⟩
  subst hwx
  have FA := hid F.out
  clear F
  go_wp2
  go_loopw [6] (fun i wr => i = .int .i64 0 ∧ Hid (Fr No W wr)) (fun _ _ => 0)
  case atStart => exact ⟨rfl, FA.out⟩
  case round =>
  obtain ⟨rfl, F⟩ := hrel
  clear z0 z1 z2 z3 z4 z5 z6 z7 z8 z9 z10 z11 y0 y1 y2 y3 y4 y5 y6 y7 y8 y9 y10 y11
  obtain ⟨z0, z1, z2, z3, z4, z5, z6, z7, z8, z9, z10, z11⟩ := BX.out _ F.out
  obtain ⟨y0, y1, y2, y3, y4, y5, y6, y7, y8, y9, y10, y11⟩ := BY.out _ F.out
  go_wp2
  go_ret
  exact ⟨rfl, F0.out.trans F.out (fun _ _ h => h)⟩
set_option maxRecDepth 100000 in
set_option maxHeartbeats 3200000 in
theorem zsameFn (w : World) : Calls Tryz.prog 48 #[.agg #[.slice none 0 0, .slice none 0 0], .agg #[.slice none 0 0, .slice none 0 0]] w fun e w' => e = .returned (.bool true) ∧ Fr No w w' := by
  have F0 := hid (((Fr.refl No w).alloc (.cells #[.slice none 0 0, .slice none 0 0] 45)).alloc (.cells #[.slice none 0 0, .slice none 0 0] 45))
  have BX := hid (blk2' ((Blk.new w 45 #[.slice none 0 0, .slice none 0 0]).alloc (.cells #[.slice none 0 0, .slice none 0 0] 45)))
  have BY := hid (blk2' (Blk.new1 w (.cells #[.slice none 0 0, .slice none 0 0] 45) 45 #[.slice none 0 0, .slice none 0 0]))
  go_enter Tryz.func48, Tryz.ntmps48
  go_upto_region 1 with fail
  try simp only [World.size_alloc]
  generalize hW : (w.alloc (.cells #[.slice none 0 0, .slice none 0 0] 45)).alloc (.cells #[.slice none 0 0, .slice none 0 0] 45) = W at *
  clear hW
  generalize w.heap.size = p at *
  obtain ⟨z0, z1⟩ := BX.out _ (Fr.refl No W)
  obtain ⟨y0, y1⟩ := BY.out _ (Fr.refl No W)
  go_wp2_with fail
  refine (zvals _).mono ?_
  rintro e w1 ⟨rfl, g1⟩
  clear z0 z1 y0 y1
  have R1 := hid (g1)
  clear g1
  obtain ⟨z0, z1⟩ := BX.out _ R1.out
  obtain ⟨y0, y1⟩ := BY.out _ R1.out
  go_wp2_with fail
  refine (zvals _).mono ?_
  rintro e w2 ⟨rfl, g2⟩
  clear z0 z1 y0 y1
  have R2 := hid ((R1.out.trans g2 (fun _ _ h => h)))
  clear g2
  clear R1
  obtain ⟨z0, z1⟩ := BX.out _ R2.out
  obtain ⟨y0, y1⟩ := BY.out _ R2.out
  go_wp2
  go_ret
  exact ⟨rfl, F0.out.trans R2.out (fun _ _ h => h)⟩
set_option maxRecDepth 100000 in
set_option maxHeartbeats 3200000 in
theorem zaddrs (w : World) : Calls Tryz.prog 59 #[.agg #[.slice none 0 0, .slice none 0 0, .slice none 0 0, .slice none 0 0, .slice none 0 0, .slice none 0 0], .agg #[.slice none 0 0, .slice none 0 0, .slice none 0 0, .slice none 0 0, .slice none 0 0, .slice none 0 0]] w fun e w' => e = .returned (.bool true) ∧ Fr No w w' := by
  have F0 := hid (((Fr.refl No w).alloc (.cells #[.slice none 0 0, .slice none 0 0, .slice none 0 0, .slice none 0 0, .slice none 0 0, .slice none 0 0] 73)).alloc (.cells #[.slice none 0 0, .slice none 0 0, .slice none 0 0, .slice none 0 0, .slice none 0 0, .slice none 0 0] 73))
  have BX := hid (blk6' ((Blk.new w 73 #[.slice none 0 0, .slice none 0 0, .slice none 0 0, .slice none 0 0, .slice none 0 0, .slice none 0 0]).alloc (.cells #[.slice none 0 0, .slice none 0 0, .slice none 0 0, .slice none 0 0, .slice none 0 0, .slice none 0 0] 73)))
  have BY := hid (blk6' (Blk.new1 w (.cells #[.slice none 0 0, .slice none 0 0, .slice none 0 0, .slice none 0 0, .slice none 0 0, .slice none 0 0] 73) 73 #[.slice none 0 0, .slice none 0 0, .slice none 0 0, .slice none 0 0, .slice none 0 0, .slice none 0 0]))
  go_enter Tryz.func59, Tryz.ntmps59
  go_upto_region 1 with fail
  try simp only [World.size_alloc]
  generalize hW : (w.alloc (.cells #[.slice none 0 0, .slice none 0 0, .slice none 0 0, .slice none 0 0, .slice none 0 0, .slice none 0 0] 73)).alloc (.cells #[.slice none 0 0, .slice none 0 0, .slice none 0 0, .slice none 0 0, .slice none 0 0, .slice none 0 0] 73) = W at *
  clear hW
  generalize w.heap.size = p at *
  obtain ⟨z0, z1, z2, z3, z4, z5⟩ := BX.out _ (Fr.refl No W)
  obtain ⟨y0, y1, y2, y3, y4, y5⟩ := BY.out _ (Fr.refl No W)
  go_wp2_with fail
  refine (zints _).mono ?_
  rintro e w1 ⟨rfl, g1⟩
  clear z0 z1 z2 z3 z4 z5 y0 y1 y2 y3 y4 y5
  have R1 := hid (g1)
  clear g1
  obtain ⟨z0, z1, z2, z3, z4, z5⟩ := BX.out _ R1.out
  obtain ⟨y0, y1, y2, y3, y4, y5⟩ := BY.out _ R1.out
  go_wp2_with fail
  refine (zints _).mono ?_
  rintro e w2 ⟨rfl, g2⟩
  clear z0 z1 z2 z3 z4 z5 y0 y1 y2 y3 y4 y5
  have R2 := hid ((R1.out.trans g2 (fun _ _ h => h)))
  clear g2
  clear R1
  obtain ⟨z0, z1, z2, z3, z4, z5⟩ := BX.out _ R2.out
  obtain ⟨y0, y1, y2, y3, y4, y5⟩ := BY.out _ R2.out
  go_wp2_with fail
  refine (zints _).mono ?_
  rintro e w3 ⟨rfl, g3⟩
  clear z0 z1 z2 z3 z4 z5 y0 y1 y2 y3 y4 y5
  have R3 := hid ((R2.out.trans g3 (fun _ _ h => h)))
  clear g3
  clear R2
  obtain ⟨z0, z1, z2, z3, z4, z5⟩ := BX.out _ R3.out
  obtain ⟨y0, y1, y2, y3, y4, y5⟩ := BY.out _ R3.out
  go_wp2_with fail
  refine (zints _).mono ?_
  rintro e w4 ⟨rfl, g4⟩
  clear z0 z1 z2 z3 z4 z5 y0 y1 y2 y3 y4 y5
  have R4 := hid ((R3.out.trans g4 (fun _ _ h => h)))
  clear g4
  clear R3
  obtain ⟨z0, z1, z2, z3, z4, z5⟩ := BX.out _ R4.out
  obtain ⟨y0, y1, y2, y3, y4, y5⟩ := BY.out _ R4.out
  go_wp2_with fail
  refine (zints _).mono ?_
  rintro e w5 ⟨rfl, g5⟩
  clear z0 z1 z2 z3 z4 z5 y0 y1 y2 y3 y4 y5
  have R5 := hid ((R4.out.trans g5 (fun _ _ h => h)))
  clear g5
  clear R4
  obtain ⟨z0, z1, z2, z3, z4, z5⟩ := BX.out _ R5.out
  obtain ⟨y0, y1, y2, y3, y4, y5⟩ := BY.out _ R5.out
  go_wp2_with fail
  refine (zints _).mono ?_
  rintro e w6 ⟨rfl, g6⟩
  clear z0 z1 z2 z3 z4 z5 y0 y1 y2 y3 y4 y5
  have R6 := hid ((R5.out.trans g6 (fun _ _ h => h)))
  clear g6
  clear R5
  obtain ⟨z0, z1, z2, z3, z4, z5⟩ := BX.out _ R6.out
  obtain ⟨y0, y1, y2, y3, y4, y5⟩ := BY.out _ R6.out
  go_wp2
  go_ret
  exact ⟨rfl, F0.out.trans R6.out (fun _ _ h => h)⟩
set_option maxRecDepth 100000 in
set_option maxHeartbeats 3200000 in
theorem zsameMd (w : World) : Calls Tryz.prog 58 #[.agg #[.slice none 0 0, .slice none 0 0, .slice none 0 0, .slice none 0 0, .slice none 0 0, .slice none 0 0, .slice none 0 0, .bool false, .int .i64 0, .slice none 0 0, .slice none 0 0, .slice none 0 0], .agg #[.slice none 0 0, .slice none 0 0, .slice none 0 0, .slice none 0 0, .slice none 0 0, .slice none 0 0, .slice none 0 0, .bool false, .int .i64 0, .slice none 0 0, .slice none 0 0, .slice none 0 0]] w fun e w' => e = .returned (.bool true) ∧ Fr No w w' := by
  have F0 := hid (((Fr.refl No w).alloc (.cells #[.slice none 0 0, .slice none 0 0, .slice none 0 0, .slice none 0 0, .slice none 0 0, .slice none 0 0, .slice none 0 0, .bool false, .int .i64 0, .slice none 0 0, .slice none 0 0, .slice none 0 0] 71)).alloc (.cells #[.slice none 0 0, .slice none 0 0, .slice none 0 0, .slice none 0 0, .slice none 0 0, .slice none 0 0, .slice none 0 0, .bool false, .int .i64 0, .slice none 0 0, .slice none 0 0, .slice none 0 0] 71))
  have BX := hid (blk12' ((Blk.new w 71 #[.slice none 0 0, .slice none 0 0, .slice none 0 0, .slice none 0 0, .slice none 0 0, .slice none 0 0, .slice none 0 0, .bool false, .int .i64 0, .slice none 0 0, .slice none 0 0, .slice none 0 0]).alloc (.cells #[.slice none 0 0, .slice none 0 0, .slice none 0 0, .slice none 0 0, .slice none 0 0, .slice none 0 0, .slice none 0 0, .bool false, .int .i64 0, .slice none 0 0, .slice none 0 0, .slice none 0 0] 71)))
  have BY := hid (blk12' (Blk.new1 w (.cells #[.slice none 0 0, .slice none 0 0, .slice none 0 0, .slice none 0 0, .slice none 0 0, .slice none 0 0, .slice none 0 0, .bool false, .int .i64 0, .slice none 0 0, .slice none 0 0, .slice none 0 0] 71) 71 #[.slice none 0 0, .slice none 0 0, .slice none 0 0, .slice none 0 0, .slice none 0 0, .slice none 0 0, .slice none 0 0, .bool false, .int .i64 0, .slice none 0 0, .slice none 0 0, .slice none 0 0]))
  go_enter Tryz.func58, Tryz.ntmps58
  go_upto_region 1 with fail
  try simp only [World.size_alloc]
  generalize hW : (w.alloc (.cells #[.slice none 0 0, .slice none 0 0, .slice none 0 0, .slice none 0 0, .slice none 0 0, .slice none 0 0, .slice none 0 0, .bool false, .int .i64 0, .slice none 0 0, .slice none 0 0, .slice none 0 0] 71)).alloc (.cells #[.slice none 0 0, .slice none 0 0, .slice none 0 0, .slice none 0 0, .slice none 0 0, .slice none 0 0, .slice none 0 0, .bool false, .int .i64 0, .slice none 0 0, .slice none 0 0, .slice none 0 0] 71) = W at *
  clear hW
  generalize w.heap.size = p at *
  obtain ⟨z0, z1, z2, z3, z4, z5, z6, z7, z8, z9, z10, z11⟩ := BX.out _ (Fr.refl No W)
  obtain ⟨y0, y1, y2, y3, y4, y5, y6, y7, y8, y9, y10, y11⟩ := BY.out _ (Fr.refl No W)
  go_wp2_with fail
  refine (zsameTypes _).mono ?_
  rintro e w1 ⟨rfl, g1⟩
  clear z0 z1 z2 z3 z4 z5 z6 z7 z8 z9 z10 z11 y0 y1 y2 y3 y4 y5 y6 y7 y8 y9 y10 y11
  have R1 := hid (g1)
  clear g1
  obtain ⟨z0, z1, z2, z3, z4, z5, z6, z7, z8, z9, z10, z11⟩ := BX.out _ R1.out
  obtain ⟨y0, y1, y2, y3, y4, y5, y6, y7, y8, y9, y10, y11⟩ := BY.out _ R1.out
  go_wp2_with fail
  refine (zsameImports _).mono ?_
  rintro e w2 ⟨rfl, g2⟩
  clear z0 z1 z2 z3 z4 z5 z6 z7 z8 z9 z10 z11 y0 y1 y2 y3 y4 y5 y6 y7 y8 y9 y10 y11
  have R2 := hid ((R1.out.trans g2 (fun _ _ h => h)))
  clear g2
  clear R1
  obtain ⟨z0, z1, z2, z3, z4, z5, z6, z7, z8, z9, z10, z11⟩ := BX.out _ R2.out
  obtain ⟨y0, y1, y2, y3, y4, y5, y6, y7, y8, y9, y10, y11⟩ := BY.out _ R2.out
  go_wp2_with fail
  refine (zsameFuncs _).mono ?_
  rintro e w3 ⟨rfl, g3⟩
  clear z0 z1 z2 z3 z4 z5 z6 z7 z8 z9 z10 z11 y0 y1 y2 y3 y4 y5 y6 y7 y8 y9 y10 y11
  have R3 := hid ((R2.out.trans g3 (fun _ _ h => h)))
  clear g3
  clear R2
  obtain ⟨z0, z1, z2, z3, z4, z5, z6, z7, z8, z9, z10, z11⟩ := BX.out _ R3.out
  obtain ⟨y0, y1, y2, y3, y4, y5, y6, y7, y8, y9, y10, y11⟩ := BY.out _ R3.out
  go_wp2_with fail
  refine (zsameSizes _).mono ?_
  rintro e w4 ⟨rfl, g4⟩
  clear z0 z1 z2 z3 z4 z5 z6 z7 z8 z9 z10 z11 y0 y1 y2 y3 y4 y5 y6 y7 y8 y9 y10 y11
  have R4 := hid ((R3.out.trans g4 (fun _ _ h => h)))
  clear g4
  clear R3
  obtain ⟨z0, z1, z2, z3, z4, z5, z6, z7, z8, z9, z10, z11⟩ := BX.out _ R4.out
  obtain ⟨y0, y1, y2, y3, y4, y5, y6, y7, y8, y9, y10, y11⟩ := BY.out _ R4.out
  go_wp2_with fail
  refine (zsameGlobals _).mono ?_
  rintro e w5 ⟨rfl, g5⟩
  clear z0 z1 z2 z3 z4 z5 z6 z7 z8 z9 z10 z11 y0 y1 y2 y3 y4 y5 y6 y7 y8 y9 y10 y11
  have R5 := hid ((R4.out.trans g5 (fun _ _ h => h)))
  clear g5
  clear R4
  obtain ⟨z0, z1, z2, z3, z4, z5, z6, z7, z8, z9, z10, z11⟩ := BX.out _ R5.out
  obtain ⟨y0, y1, y2, y3, y4, y5, y6, y7, y8, y9, y10, y11⟩ := BY.out _ R5.out
  go_wp2_with fail
  refine (zsameExports _).mono ?_
  rintro e w6 ⟨rfl, g6⟩
  clear z0 z1 z2 z3 z4 z5 z6 z7 z8 z9 z10 z11 y0 y1 y2 y3 y4 y5 y6 y7 y8 y9 y10 y11
  have R6 := hid ((R5.out.trans g6 (fun _ _ h => h)))
  clear g6
  clear R5
  obtain ⟨z0, z1, z2, z3, z4, z5, z6, z7, z8, z9, z10, z11⟩ := BX.out _ R6.out
  obtain ⟨y0, y1, y2, y3, y4, y5, y6, y7, y8, y9, y10, y11⟩ := BY.out _ R6.out
  go_wp2_with fail
  refine (zsameElems _).mono ?_
  rintro e w7 ⟨rfl, g7⟩
  clear z0 z1 z2 z3 z4 z5 z6 z7 z8 z9 z10 z11 y0 y1 y2 y3 y4 y5 y6 y7 y8 y9 y10 y11
  have R7 := hid ((R6.out.trans g7 (fun _ _ h => h)))
  clear g7
  clear R6
  obtain ⟨z0, z1, z2, z3, z4, z5, z6, z7, z8, z9, z10, z11⟩ := BX.out _ R7.out
  obtain ⟨y0, y1, y2, y3, y4, y5, y6, y7, y8, y9, y10, y11⟩ := BY.out _ R7.out
  go_wp2_with fail
  refine (zsameDatas _).mono ?_
  rintro e w8 ⟨rfl, g8⟩
  clear z0 z1 z2 z3 z4 z5 z6 z7 z8 z9 z10 z11 y0 y1 y2 y3 y4 y5 y6 y7 y8 y9 y10 y11
  have R8 := hid ((R7.out.trans g8 (fun _ _ h => h)))
  clear g8
  clear R7
  obtain ⟨z0, z1, z2, z3, z4, z5, z6, z7, z8, z9, z10, z11⟩ := BX.out _ R8.out
  obtain ⟨y0, y1, y2, y3, y4, y5, y6, y7, y8, y9, y10, y11⟩ := BY.out _ R8.out
  go_wp2_with fail
  refine (zsameCustoms _).mono ?_
  rintro e w9 ⟨rfl, g9⟩
  clear z0 z1 z2 z3 z4 z5 z6 z7 z8 z9 z10 z11 y0 y1 y2 y3 y4 y5 y6 y7 y8 y9 y10 y11
  have R9 := hid ((R8.out.trans g9 (fun _ _ h => h)))
  clear g9
  clear R8
  obtain ⟨z0, z1, z2, z3, z4, z5, z6, z7, z8, z9, z10, z11⟩ := BX.out _ R9.out
  obtain ⟨y0, y1, y2, y3, y4, y5, y6, y7, y8, y9, y10, y11⟩ := BY.out _ R9.out
  go_wp2
  go_ret
  exact ⟨rfl, F0.out.trans R9.out (fun _ _ h => h)⟩
set_option maxRecDepth 100000 in
set_option maxHeartbeats 1600000 in
theorem zFunc (i : Int) (w : World) : Calls Tryz.prog 47 #[.agg #[.slice none 0 0, .slice none 0 0, .slice none 0 0, .slice none 0 0, .slice none 0 0, .slice none 0 0, .slice none 0 0, .slice none 0 0, .slice none 0 0, .slice none 0 0], .int .i64 i] w fun e w' => e = .returned (.tuple #[.agg #[.slice none 0 0, .slice none 0 0, .int .i64 0, .int .i64 0], .bool false]) ∧ Fr No w w' := by
  by_cases hi : i < 0
  · have hd : decide (i < 0) = true := by simp [hi]
    go_enter Tryz.func47, Tryz.ntmps47
    go_wp2
    refine bodyPost_ret (v := .tuple #[.agg #[.slice none 0 0, .slice none 0 0, .int .i64 0, .int .i64 0], .bool false]) (by simp [results, Tryz.results47, go_sem]) rfl ⟨rfl, ?_⟩
    (first | exact Fr.refl _ _ | exact (Fr.refl No w).alloc _ | exact ((Fr.refl No w).alloc _).alloc _ | exact (((Fr.refl No w).alloc _).alloc _).alloc _)
  · have hd : decide (i < 0) = false := by simp; omega
    have hj : decide ((0 : Int) ≤ i) = true := by simp; omega
    have hi' : (0 : Int) ≤ i := by omega
    go_enter Tryz.func47, Tryz.ntmps47
    go_wp2
    refine bodyPost_ret (v := .tuple #[.agg #[.slice none 0 0, .slice none 0 0, .int .i64 0, .int .i64 0], .bool false]) (by simp [results, Tryz.results47, go_sem]) rfl ⟨rfl, ?_⟩
    (first | exact Fr.refl _ _ | exact (Fr.refl No w).alloc _ | exact ((Fr.refl No w).alloc _).alloc _ | exact (((Fr.refl No w).alloc _).alloc _).alloc _)
set_option maxRecDepth 100000 in
set_option maxHeartbeats 1600000 in
theorem zGlobal (i : Int) (w : World) : Calls Tryz.prog 50 #[.agg #[.slice none 0 0, .slice none 0 0, .slice none 0 0, .slice none 0 0, .slice none 0 0, .slice none 0 0, .slice none 0 0, .slice none 0 0, .slice none 0 0, .slice none 0 0], .int .i64 i] w fun e w' => e = .returned (.tuple #[.agg #[.int .i64 0, .bool false], .agg #[.int .i64 0, .int .u64 0], .bool false]) ∧ Fr No w w' := by
  by_cases hi : i < 0
  · have hd : decide (i < 0) = true := by simp [hi]
    go_enter Tryz.func50, Tryz.ntmps50
    go_wp2
    refine bodyPost_ret (v := .tuple #[.agg #[.int .i64 0, .bool false], .agg #[.int .i64 0, .int .u64 0], .bool false]) (by simp [results, Tryz.results50, go_sem]) rfl ⟨rfl, ?_⟩
    (first | exact Fr.refl _ _ | exact (Fr.refl No w).alloc _ | exact ((Fr.refl No w).alloc _).alloc _ | exact (((Fr.refl No w).alloc _).alloc _).alloc _)
  · have hd : decide (i < 0) = false := by simp; omega
    have hj : decide ((0 : Int) ≤ i) = true := by simp; omega
    have hi' : (0 : Int) ≤ i := by omega
    go_enter Tryz.func50, Tryz.ntmps50
    go_wp2
    refine bodyPost_ret (v := .tuple #[.agg #[.int .i64 0, .bool false], .agg #[.int .i64 0, .int .u64 0], .bool false]) (by simp [results, Tryz.results50, go_sem]) rfl ⟨rfl, ?_⟩
    (first | exact Fr.refl _ _ | exact (Fr.refl No w).alloc _ | exact ((Fr.refl No w).alloc _).alloc _ | exact (((Fr.refl No w).alloc _).alloc _).alloc _)
set_option maxRecDepth 100000 in
set_option maxHeartbeats 1600000 in
theorem zElem (i : Int) (w : World) : Calls Tryz.prog 52 #[.agg #[.slice none 0 0, .slice none 0 0, .slice none 0 0, .slice none 0 0, .slice none 0 0, .slice none 0 0, .slice none 0 0, .slice none 0 0, .slice none 0 0, .slice none 0 0], .int .i64 i] w fun e w' => e = .returned (.tuple #[.slice none 0 0, .bool false]) ∧ Fr No w w' := by
  by_cases hi : i < 0
  · have hd : decide (i < 0) = true := by simp [hi]
    go_enter Tryz.func52, Tryz.ntmps52
    go_wp2
    go_ret2
    refine ⟨rfl, ?_⟩
    (first | exact Fr.refl _ _ | exact (Fr.refl No w).alloc _ | exact ((Fr.refl No w).alloc _).alloc _ | exact (((Fr.refl No w).alloc _).alloc _).alloc _)
  · have hd : decide (i < 0) = false := by simp; omega
    have hj : decide ((0 : Int) ≤ i) = true := by simp; omega
    have hi' : (0 : Int) ≤ i := by omega
    go_enter Tryz.func52, Tryz.ntmps52
    go_wp2
    go_ret2
    refine ⟨rfl, ?_⟩
    (first | exact Fr.refl _ _ | exact (Fr.refl No w).alloc _ | exact ((Fr.refl No w).alloc _).alloc _ | exact (((Fr.refl No w).alloc _).alloc _).alloc _)
set_option maxRecDepth 100000 in
set_option maxHeartbeats 1600000 in
theorem zData (i : Int) (w : World) : Calls Tryz.prog 54 #[.agg #[.slice none 0 0, .slice none 0 0, .slice none 0 0, .slice none 0 0, .slice none 0 0, .slice none 0 0, .slice none 0 0, .slice none 0 0, .slice none 0 0, .slice none 0 0], .int .i64 i] w fun e w' => e = .returned (.tuple #[.slice none 0 0, .bool false]) ∧ Fr No w w' := by
  by_cases hi : i < 0
  · have hd : decide (i < 0) = true := by simp [hi]
    go_enter Tryz.func54, Tryz.ntmps54
    go_wp2
    go_ret2
    refine ⟨rfl, ?_⟩
    (first | exact Fr.refl _ _ | exact (Fr.refl No w).alloc _ | exact ((Fr.refl No w).alloc _).alloc _ | exact (((Fr.refl No w).alloc _).alloc _).alloc _)
  · have hd : decide (i < 0) = false := by simp; omega
    have hj : decide ((0 : Int) ≤ i) = true := by simp; omega
    have hi' : (0 : Int) ≤ i := by omega
    go_enter Tryz.func54, Tryz.ntmps54
    go_wp2
    go_ret2
    refine ⟨rfl, ?_⟩
    (first | exact Fr.refl _ _ | exact (Fr.refl No w).alloc _ | exact ((Fr.refl No w).alloc _).alloc _ | exact (((Fr.refl No w).alloc _).alloc _).alloc _)
set_option maxRecDepth 100000 in
set_option maxHeartbeats 1600000 in
theorem zGetInst (i : Int) (w : World) : Calls Tryz.prog 57 #[.agg #[.slice none 0 0, .slice none 0 0, .slice none 0 0, .slice none 0 0, .slice none 0 0, .slice none 0 0, .slice none 0 0, .slice none 0 0, .slice none 0 0, .slice none 0 0], .int .i64 i] w fun e w' => e = .returned (.tuple #[.agg #[.slice none 0 0, .slice none 0 0, .slice none 0 0, .slice none 0 0, .slice none 0 0, .slice none 0 0, .slice none 0 0, .bool false, .int .i64 0, .slice none 0 0, .slice none 0 0, .slice none 0 0], .agg #[.slice none 0 0, .slice none 0 0, .slice none 0 0, .slice none 0 0, .slice none 0 0, .slice none 0 0], .bool false]) ∧ Fr No w w' := by
  by_cases hi : i < 0
  · have hd : decide (i < 0) = true := by simp [hi]
    go_enter Tryz.func57, Tryz.ntmps57
    go_wp2
    refine bodyPost_ret (v := .tuple #[.agg #[.slice none 0 0, .slice none 0 0, .slice none 0 0, .slice none 0 0, .slice none 0 0, .slice none 0 0, .slice none 0 0, .bool false, .int .i64 0, .slice none 0 0, .slice none 0 0, .slice none 0 0], .agg #[.slice none 0 0, .slice none 0 0, .slice none 0 0, .slice none 0 0, .slice none 0 0, .slice none 0 0], .bool false]) (by simp [results, Tryz.results57, go_sem]) rfl ⟨rfl, ?_⟩
    (first | exact Fr.refl _ _ | exact (Fr.refl No w).alloc _ | exact ((Fr.refl No w).alloc _).alloc _ | exact (((Fr.refl No w).alloc _).alloc _).alloc _)
  · have hd : decide (i < 0) = false := by simp; omega
    have hj : decide ((0 : Int) ≤ i) = true := by simp; omega
    have hi' : (0 : Int) ≤ i := by omega
    go_enter Tryz.func57, Tryz.ntmps57
    go_wp2
    refine bodyPost_ret (v := .tuple #[.agg #[.slice none 0 0, .slice none 0 0, .slice none 0 0, .slice none 0 0, .slice none 0 0, .slice none 0 0, .slice none 0 0, .bool false, .int .i64 0, .slice none 0 0, .slice none 0 0, .slice none 0 0], .agg #[.slice none 0 0, .slice none 0 0, .slice none 0 0, .slice none 0 0, .slice none 0 0, .slice none 0 0], .bool false]) (by simp [results, Tryz.results57, go_sem]) rfl ⟨rfl, ?_⟩
    (first | exact Fr.refl _ _ | exact (Fr.refl No w).alloc _ | exact ((Fr.refl No w).alloc _).alloc _ | exact (((Fr.refl No w).alloc _).alloc _).alloc _)
end Go.Proofs.YtdckghiipijobaaGreat

namespace Go.Proofs.YtdckghiipijobaaGreat
open Go.RowKit

set_option maxRecDepth 100000 in
set_option maxHeartbeats 800000 in
theorem nAddMem (l : Lim) (w : World) : Calls Tryz.prog 19 #[.pointer none, .agg #[.int .i64 l.min, .int .i64 l.max, .bool l.has]] w fun e w' => e = .returned (.int .i64 (-1)) ∧ Fr No w w' := by
  have HN := hid (new_any l)
  have F0 := hid ((Fr.refl No w).alloc (.cells #[.int .i64 l.min, .int .i64 l.max, .bool l.has] 50))
  unfold NewTo at HN
  cases hv : validB l with
  | true =>
    rw [hv] at HN
    simp only [if_pos] at HN
    go_enter Tryz.func19, Tryz.ntmps19
    go_wp2_with (go_at_call 77; refine (HN.out _).mono ?_; rintro e w1 ⟨p, q, c, rfl, -, -, -, f1⟩; have F1 := hid f1; clear f1)
    go_ret
    exact ⟨rfl, F0.out.trans F1.out (fun _ _ h => h)⟩
  | false =>
    rw [hv] at HN
    go_enter Tryz.func19, Tryz.ntmps19
    go_wp2_with (go_at_call 77; refine (HN.out _).mono ?_; rintro e w1 ⟨rfl, f1⟩; have F1 := hid f1; clear f1)
    go_ret
    exact ⟨rfl, F0.out.trans F1.out (fun _ _ h => h)⟩
set_option maxRecDepth 100000 in
set_option maxHeartbeats 6400000 in
theorem few1_any (a : At) (Afunc_ty_params : Option Addr) (cfunc_ty_params : Nat) (Afunc_ty_results : Option Addr) (cfunc_ty_results : Nat) (Arefs : Option Addr) (crefs : Nat) (Ab : Option Addr) (cb : Nat) (Am_types : Option Addr) (cm_types : Nat) (Am_imports : Option Addr) (cm_imports : Nat) (Am_funcs : Option Addr) (cm_funcs : Nat) (Am_tables : Option Addr) (cm_tables : Nat) (Am_mems : Option Addr) (cm_mems : Nat) (Am_globals : Option Addr) (cm_globals : Nat) (Am_exports : Option Addr) (cm_exports : Nat) (Am_elems : Option Addr) (cm_elems : Nat) (Am_datas : Option Addr) (cm_datas : Nat) (Am_customs : Option Addr) (cm_customs : Nat) (Aa_funcs : Option Addr) (ca_funcs : Nat) (Aa_tables : Option Addr) (ca_tables : Nat) (Aa_mems : Option Addr) (ca_mems : Nat) (Aa_globals : Option Addr) (ca_globals : Nat) (Aa_elems : Option Addr) (ca_elems : Nat) (Aa_datas : Option Addr) (ca_datas : Nat) (Aargs : Option Addr) (cargs : Nat) (g c0 : Nat) (w : World) (ds : List Value) (hds : ds = [.int .i64 a.call, .int .i64 a.addr, .slice Afunc_ty_params a.func.ty.params.length cfunc_ty_params, .slice Afunc_ty_results a.func.ty.results.length cfunc_ty_results, .int .i64 a.func.inst, .int .i64 a.func.index, .int .i64 a.table.elem, .int .i64 a.table.lim.min, .int .i64 a.table.lim.max, .bool a.table.lim.has, .int .i64 a.mem.min, .int .i64 a.mem.max, .bool a.mem.has, .int .i64 a.g.val, .bool a.g.mut_, .int .i64 a.v.t, .int .u64 a.v.n, .slice Arefs a.refs.length crefs, .slice Ab a.b.length cb, .slice Am_types a.m.types.length cm_types, .slice Am_imports a.m.imports.length cm_imports, .slice Am_funcs a.m.funcs.length cm_funcs, .slice Am_tables a.m.tables.length cm_tables, .slice Am_mems a.m.mems.length cm_mems, .slice Am_globals a.m.globals.length cm_globals, .slice Am_exports a.m.exports.length cm_exports, .bool a.m.hasStart, .int .i64 a.m.start, .slice Am_elems a.m.elems.length cm_elems, .slice Am_datas a.m.datas.length cm_datas, .slice Am_customs a.m.customs.length cm_customs, .slice Aa_funcs a.a.funcs.length ca_funcs, .slice Aa_tables a.a.tables.length ca_tables, .slice Aa_mems a.a.mems.length ca_mems, .slice Aa_globals a.a.globals.length ca_globals, .slice Aa_elems a.a.elems.length ca_elems, .slice Aa_datas a.a.datas.length ca_datas, .slice Aargs a.args.length cargs]) (hX : ∀ X, Fr No w X → X.rangeAt g 0 ds) :
    Calls Tryz.prog 6 #[.slice none 0 0, .slice (some ⟨g, 0, none⟩) 1 c0] w fun e w' => (∃ r, e = .returned (.bool r)) ∧ Fr No w w' := by
  have HX := hid hX
  have HI : Hid (∀ n, n = 38 → (Tryz.prog.info? 76).map (·.size) = some n) := by rintro _ rfl; kernel_rfl
  have HL : Hid (ds.length = 38) := by rw [hds]; rfl
  have HO : Hid (ds.all (·.oneCell') = true) := by rw [hds]; rfl
  have HZ : Hid (∀ (X : World) (q : Nat), Blk X q 76 ds.toArray → X.cell? ⟨q, 0, none⟩ = some (.int .i64 a.call) ∧ X.cell? ⟨q, 1, none⟩ = some (.int .i64 a.addr) ∧ X.cell? ⟨q, 2, none⟩ = some (.slice Afunc_ty_params a.func.ty.params.length cfunc_ty_params) ∧ X.cell? ⟨q, 3, none⟩ = some (.slice Afunc_ty_results a.func.ty.results.length cfunc_ty_results) ∧ X.cell? ⟨q, 4, none⟩ = some (.int .i64 a.func.inst) ∧ X.cell? ⟨q, 5, none⟩ = some (.int .i64 a.func.index) ∧ X.cell? ⟨q, 6, none⟩ = some (.int .i64 a.table.elem) ∧ X.cell? ⟨q, 7, none⟩ = some (.int .i64 a.table.lim.min) ∧ X.cell? ⟨q, 8, none⟩ = some (.int .i64 a.table.lim.max) ∧ X.cell? ⟨q, 9, none⟩ = some (.bool a.table.lim.has) ∧ X.cell? ⟨q, 10, none⟩ = some (.int .i64 a.mem.min) ∧ X.cell? ⟨q, 11, none⟩ = some (.int .i64 a.mem.max) ∧ X.cell? ⟨q, 12, none⟩ = some (.bool a.mem.has) ∧ X.cell? ⟨q, 13, none⟩ = some (.int .i64 a.g.val) ∧ X.cell? ⟨q, 14, none⟩ = some (.bool a.g.mut_) ∧ X.cell? ⟨q, 15, none⟩ = some (.int .i64 a.v.t) ∧ X.cell? ⟨q, 16, none⟩ = some (.int .u64 a.v.n) ∧ X.cell? ⟨q, 17, none⟩ = some (.slice Arefs a.refs.length crefs) ∧ X.cell? ⟨q, 18, none⟩ = some (.slice Ab a.b.length cb) ∧ X.cell? ⟨q, 19, none⟩ = some (.slice Am_types a.m.types.length cm_types) ∧ X.cell? ⟨q, 20, none⟩ = some (.slice Am_imports a.m.imports.length cm_imports) ∧ X.cell? ⟨q, 21, none⟩ = some (.slice Am_funcs a.m.funcs.length cm_funcs) ∧ X.cell? ⟨q, 22, none⟩ = some (.slice Am_tables a.m.tables.length cm_tables) ∧ X.cell? ⟨q, 23, none⟩ = some (.slice Am_mems a.m.mems.length cm_mems) ∧ X.cell? ⟨q, 24, none⟩ = some (.slice Am_globals a.m.globals.length cm_globals) ∧ X.cell? ⟨q, 25, none⟩ = some (.slice Am_exports a.m.exports.length cm_exports) ∧ X.cell? ⟨q, 26, none⟩ = some (.bool a.m.hasStart) ∧ X.cell? ⟨q, 27, none⟩ = some (.int .i64 a.m.start) ∧ X.cell? ⟨q, 28, none⟩ = some (.slice Am_elems a.m.elems.length cm_elems) ∧ X.cell? ⟨q, 29, none⟩ = some (.slice Am_datas a.m.datas.length cm_datas) ∧ X.cell? ⟨q, 30, none⟩ = some (.slice Am_customs a.m.customs.length cm_customs) ∧ X.cell? ⟨q, 31, none⟩ = some (.slice Aa_funcs a.a.funcs.length ca_funcs) ∧ X.cell? ⟨q, 32, none⟩ = some (.slice Aa_tables a.a.tables.length ca_tables) ∧ X.cell? ⟨q, 33, none⟩ = some (.slice Aa_mems a.a.mems.length ca_mems) ∧ X.cell? ⟨q, 34, none⟩ = some (.slice Aa_globals a.a.globals.length ca_globals) ∧ X.cell? ⟨q, 35, none⟩ = some (.slice Aa_elems a.a.elems.length ca_elems) ∧ X.cell? ⟨q, 36, none⟩ = some (.slice Aa_datas a.a.datas.length ca_datas) ∧ X.cell? ⟨q, 37, none⟩ = some (.slice Aargs a.args.length cargs)) := by
    intro X q b
    rw [hds] at b
    exact ⟨b.cell 0, b.cell 1, b.cell 2, b.cell 3, b.cell 4, b.cell 5, b.cell 6, b.cell 7, b.cell 8, b.cell 9, b.cell 10, b.cell 11, b.cell 12, b.cell 13, b.cell 14, b.cell 15, b.cell 16, b.cell 17, b.cell 18, b.cell 19, b.cell 20, b.cell 21, b.cell 22, b.cell 23, b.cell 24, b.cell 25, b.cell 26, b.cell 27, b.cell 28, b.cell 29, b.cell 30, b.cell 31, b.cell 32, b.cell 33, b.cell 34, b.cell 35, b.cell 36, b.cell 37⟩
  clear hX hds
  go_enter Tryz.func6, Tryz.ntmps6
  go_wp2_with fail
  go_loopw [5] (fun i wr => i = .int .i64 0 ∧ Hid (Fr No w wr)) (fun i _ => 1 - (intOf i).toNat)
  case atStart => exact ⟨rfl, Fr.refl _ _⟩
  case round =>
  obtain ⟨rfl, F⟩ := hrel
  have FA := hid F.out
  clear F
  go_wp2
  go_loopw [6] (fun i wr => ∃ k : Nat, k ≤ 1 ∧ i = .int .i64 k ∧ Hid (Fr No w wr)) (fun i _ => 1 - (intOf i).toNat)
  case atStart => exact ⟨0, by omega, rfl, FA.out⟩
  case round =>
  obtain ⟨k, hk, rfl, F⟩ := hrel
  have F2 := hid F.out
  clear F
  obtain rfl | rfl : k = 0 ∨ k = 1 := by omega
  · have R := HX.out _ F2.out
    have F3 := hid (F2.out.alloc (.cells ds.toArray 76))
    have B3 := hid (Blk.new wr 76 ds.toArray)
    go_upto_region 9 with fail
    go_upto_region 10 with (first
      | (refine wpList_load_mid (by rfl) 76 _ (by rfl) g 0 (by rfl) _ _ R Tryz.underlying76 (by rfl) (HI.out _ HL.out) ?_)
      | (refine wpList_store_new (by rfl) 76 _ _ (by rfl) _ ds (by rfl) (by rfl) (HI.out _ HL.out) (Eq.trans (by rfl) HL.out.symm) HO.out ?_)
      | fail)
    simp only [Act.put]
    generalize wr.alloc (.cells ds.toArray 76) = W at *
    generalize wr.heap.size = p at *
    first | simp only [List.append_eq, List.cons_append, List.nil_append] | simp only [List.append] | simp only [HAppend.hAppend, Append.append, List.append]
    obtain ⟨z0, -, -, -, -, -, -, z7, -, -, z10, -, -, -, -, -, -, z17, z18, z19, z20, z21, -, -, -, -, -, -, z28, z29, -, -, -, -, -, -, -, z37⟩ := HZ.out _ _ B3.out
    clear B3 HZ HI HL HO R
    by_cases h2 : a.call = 2
    · have d2 : (a.call == 2) = true := by simp [h2]
      clear h2
      by_cases ht : 1100 < a.table.lim.min
      · have dt : decide ((1100 : Int) < a.table.lim.min) = true := by simp [ht]
        clear ht
        clear HX FA
        go_wp2
        all_goals first
          | (go_ret; exact ⟨⟨_, rfl⟩, F3.out⟩)
          | (go_roundw; (case rel => exact ⟨1, by omega, by go_num, F3.out⟩); (case measure => simp [intOf]))
      · have dt : decide ((1100 : Int) < a.table.lim.min) = false := by simp; omega
        clear ht
        have d3 : (a.call == 3) = false := by rw [show a.call = 2 by simpa using d2]; rfl
        by_cases hr : 300 < a.refs.length
        · have dr : decide ((300 : Int) < (a.refs.length : Nat)) = true := by simp; omega
          clear hr
          clear HX FA
          go_wp2
          all_goals first
            | (go_ret; exact ⟨⟨_, rfl⟩, F3.out⟩)
            | (go_roundw; (case rel => exact ⟨1, by omega, by go_num, F3.out⟩); (case measure => simp [intOf]))
        · have dr : decide ((300 : Int) < (a.refs.length : Nat)) = false := by simp; omega
          clear hr
          by_cases hb : 300 < a.b.length
          · have db : decide ((300 : Int) < (a.b.length : Nat)) = true := by simp; omega
            clear hb
            clear HX FA
            go_wp2
            all_goals first
              | (go_ret; exact ⟨⟨_, rfl⟩, F3.out⟩)
              | (go_roundw; (case rel => exact ⟨1, by omega, by go_num, F3.out⟩); (case measure => simp [intOf]))
          · have db : decide ((300 : Int) < (a.b.length : Nat)) = false := by simp; omega
            clear hb
            by_cases hg : 20 < a.args.length
            · have dg : decide ((20 : Int) < (a.args.length : Nat)) = true := by simp; omega
              clear hg
              clear HX FA
              go_wp2
              all_goals first
                | (go_ret; exact ⟨⟨_, rfl⟩, F3.out⟩)
                | (go_roundw; (case rel => exact ⟨1, by omega, by go_num, F3.out⟩); (case measure => simp [intOf]))
            · have dg : decide ((20 : Int) < (a.args.length : Nat)) = false := by simp; omega
              clear hg
              clear HX FA
              go_wp2
              all_goals first
                | (go_ret; exact ⟨⟨_, rfl⟩, F3.out⟩)
                | (go_roundw; (case rel => exact ⟨1, by omega, by go_num, F3.out⟩); (case measure => simp [intOf]))
    · have d2 : (a.call == 2) = false := by simp [h2]
      by_cases h3 : a.call = 3
      · have d3 : (a.call == 3) = true := by simp [h3]
        clear h3
        by_cases hm : 3 < a.mem.min
        · have dm : decide ((3 : Int) < a.mem.min) = true := by simp [hm]
          clear hm
          by_cases hn : a.mem.min < 257
          · have dn : decide (a.mem.min < (257 : Int)) = true := by simp [hn]
            clear hn
            clear HX FA
            go_wp2
            all_goals first
              | (go_ret; exact ⟨⟨_, rfl⟩, F3.out⟩)
              | (go_roundw; (case rel => exact ⟨1, by omega, by go_num, F3.out⟩); (case measure => simp [intOf]))
          · have dn : decide (a.mem.min < (257 : Int)) = false := by simp; omega
            clear hn
            by_cases hr : 300 < a.refs.length
            · have dr : decide ((300 : Int) < (a.refs.length : Nat)) = true := by simp; omega
              clear hr
              clear HX FA
              go_wp2
              all_goals first
                | (go_ret; exact ⟨⟨_, rfl⟩, F3.out⟩)
                | (go_roundw; (case rel => exact ⟨1, by omega, by go_num, F3.out⟩); (case measure => simp [intOf]))
            · have dr : decide ((300 : Int) < (a.refs.length : Nat)) = false := by simp; omega
              clear hr
              by_cases hb : 300 < a.b.length
              · have db : decide ((300 : Int) < (a.b.length : Nat)) = true := by simp; omega
                clear hb
                clear HX FA
                go_wp2
                all_goals first
                  | (go_ret; exact ⟨⟨_, rfl⟩, F3.out⟩)
                  | (go_roundw; (case rel => exact ⟨1, by omega, by go_num, F3.out⟩); (case measure => simp [intOf]))
              · have db : decide ((300 : Int) < (a.b.length : Nat)) = false := by simp; omega
                clear hb
                by_cases hg : 20 < a.args.length
                · have dg : decide ((20 : Int) < (a.args.length : Nat)) = true := by simp; omega
                  clear hg
                  clear HX FA
                  go_wp2
                  all_goals first
                    | (go_ret; exact ⟨⟨_, rfl⟩, F3.out⟩)
                    | (go_roundw; (case rel => exact ⟨1, by omega, by go_num, F3.out⟩); (case measure => simp [intOf]))
                · have dg : decide ((20 : Int) < (a.args.length : Nat)) = false := by simp; omega
                  clear hg
                  clear HX FA
                  go_wp2
                  all_goals first
                    | (go_ret; exact ⟨⟨_, rfl⟩, F3.out⟩)
                    | (go_roundw; (case rel => exact ⟨1, by omega, by go_num, F3.out⟩); (case measure => simp [intOf]))
        · have dm : decide ((3 : Int) < a.mem.min) = false := by simp; omega
          clear hm
          by_cases hr : 300 < a.refs.length
          · have dr : decide ((300 : Int) < (a.refs.length : Nat)) = true := by simp; omega
            clear hr
            clear HX FA
            go_wp2
            all_goals first
              | (go_ret; exact ⟨⟨_, rfl⟩, F3.out⟩)
              | (go_roundw; (case rel => exact ⟨1, by omega, by go_num, F3.out⟩); (case measure => simp [intOf]))
          · have dr : decide ((300 : Int) < (a.refs.length : Nat)) = false := by simp; omega
            clear hr
            by_cases hb : 300 < a.b.length
            · have db : decide ((300 : Int) < (a.b.length : Nat)) = true := by simp; omega
              clear hb
              clear HX FA
              go_wp2
              all_goals first
                | (go_ret; exact ⟨⟨_, rfl⟩, F3.out⟩)
                | (go_roundw; (case rel => exact ⟨1, by omega, by go_num, F3.out⟩); (case measure => simp [intOf]))
            · have db : decide ((300 : Int) < (a.b.length : Nat)) = false := by simp; omega
              clear hb
              by_cases hg : 20 < a.args.length
              · have dg : decide ((20 : Int) < (a.args.length : Nat)) = true := by simp; omega
                clear hg
                clear HX FA
                go_wp2
                all_goals first
                  | (go_ret; exact ⟨⟨_, rfl⟩, F3.out⟩)
                  | (go_roundw; (case rel => exact ⟨1, by omega, by go_num, F3.out⟩); (case measure => simp [intOf]))
              · have dg : decide ((20 : Int) < (a.args.length : Nat)) = false := by simp; omega
                clear hg
                clear HX FA
                go_wp2
                all_goals first
                  | (go_ret; exact ⟨⟨_, rfl⟩, F3.out⟩)
                  | (go_roundw; (case rel => exact ⟨1, by omega, by go_num, F3.out⟩); (case measure => simp [intOf]))
      · have d3 : (a.call == 3) = false := by simp [h3]
        by_cases hr : 300 < a.refs.length
        · have dr : decide ((300 : Int) < (a.refs.length : Nat)) = true := by simp; omega
          clear hr
          clear HX FA
          go_wp2
          all_goals first
            | (go_ret; exact ⟨⟨_, rfl⟩, F3.out⟩)
            | (go_roundw; (case rel => exact ⟨1, by omega, by go_num, F3.out⟩); (case measure => simp [intOf]))
        · have dr : decide ((300 : Int) < (a.refs.length : Nat)) = false := by simp; omega
          clear hr
          by_cases hb : 300 < a.b.length
          · have db : decide ((300 : Int) < (a.b.length : Nat)) = true := by simp; omega
            clear hb
            clear HX FA
            go_wp2
            all_goals first
              | (go_ret; exact ⟨⟨_, rfl⟩, F3.out⟩)
              | (go_roundw; (case rel => exact ⟨1, by omega, by go_num, F3.out⟩); (case measure => simp [intOf]))
          · have db : decide ((300 : Int) < (a.b.length : Nat)) = false := by simp; omega
            clear hb
            by_cases hg : 20 < a.args.length
            · have dg : decide ((20 : Int) < (a.args.length : Nat)) = true := by simp; omega
              clear hg
              clear HX FA
              go_wp2
              all_goals first
                | (go_ret; exact ⟨⟨_, rfl⟩, F3.out⟩)
                | (go_roundw; (case rel => exact ⟨1, by omega, by go_num, F3.out⟩); (case measure => simp [intOf]))
            · have dg : decide ((20 : Int) < (a.args.length : Nat)) = false := by simp; omega
              clear hg
              clear HX FA
              go_wp2
              all_goals first
                | (go_ret; exact ⟨⟨_, rfl⟩, F3.out⟩)
                | (go_roundw; (case rel => exact ⟨1, by omega, by go_num, F3.out⟩); (case measure => simp [intOf]))
  · go_wp2
    go_ret
    exact ⟨⟨_, rfl⟩, F2.out⟩
end Go.Proofs.YtdckghiipijobaaGreat

namespace Go.Proofs.YtdckghiipijobaaGreat
open Go.RowKit

theorem blk4'' {w : World} {p : Nat} {t : TypeId} {v0 v1 v2 v3 : Value} (h : Blk w p t #[v0, v1, v2, v3]) : ∀ X, Fr No w X → X.cell? ⟨p, 0, none⟩ = some v0 ∧ X.cell? ⟨p, 1, none⟩ = some v1 ∧ X.cell? ⟨p, 2, none⟩ = some v2 ∧ X.cell? ⟨p, 3, none⟩ = some v3 := fun X f =>
  ⟨(h.fr f (fun x => x)).cell 0, (h.fr f (fun x => x)).cell 1, (h.fr f (fun x => x)).cell 2, (h.fr f (fun x => x)).cell 3⟩
theorem nilU {w : World} : tU.els w (fun _ => False) none [] := .inl rfl
theorem nilB (w : World) : tB.els w (fun _ => False) none [] := .inl rfl
set_option maxRecDepth 100000 in
set_option maxHeartbeats 6400000 in
theorem asked_nil (i : Int) (w : World) : Calls Tryz.prog 12 #[.pointer none, .agg #[.slice none 0 0, .slice none 0 0, .slice none 0 0, .slice none 0 0, .slice none 0 0, .slice none 0 0, .slice none 0 0, .slice none 0 0, .slice none 0 0, .slice none 0 0], .int .i64 i] w fun e w' => e = .returned (.bool true) ∧ Fr No w w' := by
  have F := hid ((Fr.refl No w).alloc (.cells #[.slice none 0 0, .slice none 0 0, .slice none 0 0, .slice none 0 0, .slice none 0 0, .slice none 0 0, .slice none 0 0, .slice none 0 0, .slice none 0 0, .slice none 0 0] 39))
  have Bz := hid (blk10' (Blk.new w 39 #[.slice none 0 0, .slice none 0 0, .slice none 0 0, .slice none 0 0, .slice none 0 0, .slice none 0 0, .slice none 0 0, .slice none 0 0, .slice none 0 0, .slice none 0 0]))
  go_enter Tryz.func12, Tryz.ntmps12
  go_upto_region 1 with fail
  generalize w.alloc (.cells #[.slice none 0 0, .slice none 0 0, .slice none 0 0, .slice none 0 0, .slice none 0 0, .slice none 0 0, .slice none 0 0, .slice none 0 0, .slice none 0 0, .slice none 0 0] 39) = W at *
  generalize w.heap.size = pz at *
  obtain ⟨z0, z1, z2, z3, z4, z5, z6, z7, z8, z9⟩ := Bz.out _ (Fr.refl No _)
  go_wp2_with fail
  refine (nFunc i _).mono ?_
  rintro e w1 ⟨rfl, g⟩
  clear z0 z1 z2 z3 z4 z5 z6 z7 z8 z9
  replace F := hid (F.out.trans g (fun _ _ h => h))
  replace Bz := hid (fun X (f : Fr No w1 X) => Bz.out X (g.trans f (fun _ _ h => h)))
  clear g
  obtain ⟨z0, z1, z2, z3, z4, z5, z6, z7, z8, z9⟩ := Bz.out _ (Fr.refl No _)
  go_upto_region 2 with fail
  have g := (Fr.refl No w1).alloc (.cells #[.slice none 0 0, .slice none 0 0, .int .i64 0, .int .i64 0] 47)
  have Bf := hid (blk4'' (Blk.new w1 47 #[.slice none 0 0, .slice none 0 0, .int .i64 0, .int .i64 0]))
  clear z0 z1 z2 z3 z4 z5 z6 z7 z8 z9
  generalize w1.alloc (.cells #[.slice none 0 0, .slice none 0 0, .int .i64 0, .int .i64 0] 47) = w2 at *
  generalize w1.heap.size = pf at *
  replace F := hid (F.out.trans g (fun _ _ h => h))
  replace Bz := hid (fun X (f : Fr No w2 X) => Bz.out X (g.trans f (fun _ _ h => h)))
  clear g
  obtain ⟨z0, z1, z2, z3, z4, z5, z6, z7, z8, z9⟩ := Bz.out _ (Fr.refl No _)
  obtain ⟨f0, f1, f2, f3⟩ := Bf.out _ (Fr.refl No _)
  go_wp2_with fail
  refine (zFunc i _).mono ?_
  rintro e w3 ⟨rfl, g⟩
  clear z0 z1 z2 z3 z4 z5 z6 z7 z8 z9 f0 f1 f2 f3
  replace F := hid (F.out.trans g (fun _ _ h => h))
  replace Bz := hid (fun X (f : Fr No w3 X) => Bz.out X (g.trans f (fun _ _ h => h)))
  replace Bf := hid (fun X (f : Fr No w3 X) => Bf.out X (g.trans f (fun _ _ h => h)))
  clear g
  obtain ⟨z0, z1, z2, z3, z4, z5, z6, z7, z8, z9⟩ := Bz.out _ (Fr.refl No _)
  obtain ⟨f0, f1, f2, f3⟩ := Bf.out _ (Fr.refl No _)
  go_upto_region 3 with fail
  have g := (Fr.refl No w3).alloc (.cells #[.slice none 0 0, .slice none 0 0, .int .i64 0, .int .i64 0] 47)
  have Bh := hid (blk4'' (Blk.new w3 47 #[.slice none 0 0, .slice none 0 0, .int .i64 0, .int .i64 0]))
  clear z0 z1 z2 z3 z4 z5 z6 z7 z8 z9 f0 f1 f2 f3
  generalize w3.alloc (.cells #[.slice none 0 0, .slice none 0 0, .int .i64 0, .int .i64 0] 47) = w4 at *
  generalize w3.heap.size = ph at *
  replace F := hid (F.out.trans g (fun _ _ h => h))
  replace Bz := hid (fun X (f : Fr No w4 X) => Bz.out X (g.trans f (fun _ _ h => h)))
  replace Bf := hid (fun X (f : Fr No w4 X) => Bf.out X (g.trans f (fun _ _ h => h)))
  clear g
  obtain ⟨z0, z1, z2, z3, z4, z5, z6, z7, z8, z9⟩ := Bz.out _ (Fr.refl No _)
  obtain ⟨f0, f1, f2, f3⟩ := Bf.out _ (Fr.refl No _)
  obtain ⟨h0, h1, h2, h3⟩ := Bh.out _ (Fr.refl No _)
  go_wp2_with fail
  refine (zsameFn _).mono ?_
  rintro e w5 ⟨rfl, g⟩
  clear z0 z1 z2 z3 z4 z5 z6 z7 z8 z9 f0 f1 f2 f3 h0 h1 h2 h3
  replace F := hid (F.out.trans g (fun _ _ h => h))
  replace Bz := hid (fun X (f : Fr No w5 X) => Bz.out X (g.trans f (fun _ _ h => h)))
  replace Bf := hid (fun X (f : Fr No w5 X) => Bf.out X (g.trans f (fun _ _ h => h)))
  replace Bh := hid (fun X (f : Fr No w5 X) => Bh.out X (g.trans f (fun _ _ h => h)))
  clear g
  obtain ⟨z0, z1, z2, z3, z4, z5, z6, z7, z8, z9⟩ := Bz.out _ (Fr.refl No _)
  obtain ⟨f0, f1, f2, f3⟩ := Bf.out _ (Fr.refl No _)
  obtain ⟨h0, h1, h2, h3⟩ := Bh.out _ (Fr.refl No _)
  go_wp2_with fail
  refine (nGlobal i _).mono ?_
  rintro e w6 ⟨rfl, g⟩
  clear z0 z1 z2 z3 z4 z5 z6 z7 z8 z9 f0 f1 f2 f3 h0 h1 h2 h3
  replace F := hid (F.out.trans g (fun _ _ h => h))
  replace Bz := hid (fun X (f : Fr No w6 X) => Bz.out X (g.trans f (fun _ _ h => h)))
  replace Bf := hid (fun X (f : Fr No w6 X) => Bf.out X (g.trans f (fun _ _ h => h)))
  replace Bh := hid (fun X (f : Fr No w6 X) => Bh.out X (g.trans f (fun _ _ h => h)))
  clear g
  obtain ⟨z0, z1, z2, z3, z4, z5, z6, z7, z8, z9⟩ := Bz.out _ (Fr.refl No _)
  obtain ⟨f0, f1, f2, f3⟩ := Bf.out _ (Fr.refl No _)
  obtain ⟨h0, h1, h2, h3⟩ := Bh.out _ (Fr.refl No _)
  go_upto_region 6 with fail
  have g := ((Fr.refl No w6).alloc (.cells #[.int .i64 0, .bool false] 54)).alloc (.cells #[.int .i64 0, .int .u64 0] 57)
  have Bc := hid (blk2' ((Blk.new w6 54 #[.int .i64 0, .bool false]).alloc (.cells #[.int .i64 0, .int .u64 0] 57)))
  have Bd := hid (blk2' (Blk.new1 w6 (.cells #[.int .i64 0, .bool false] 54) 57 #[.int .i64 0, .int .u64 0]))
  clear z0 z1 z2 z3 z4 z5 z6 z7 z8 z9 f0 f1 f2 f3 h0 h1 h2 h3
  try simp only [World.size_alloc]
  generalize (w6.alloc (.cells #[.int .i64 0, .bool false] 54)).alloc (.cells #[.int .i64 0, .int .u64 0] 57) = w7 at *
  generalize w6.heap.size = pc at *
  replace F := hid (F.out.trans g (fun _ _ h => h))
  replace Bz := hid (fun X (f : Fr No w7 X) => Bz.out X (g.trans f (fun _ _ h => h)))
  replace Bf := hid (fun X (f : Fr No w7 X) => Bf.out X (g.trans f (fun _ _ h => h)))
  replace Bh := hid (fun X (f : Fr No w7 X) => Bh.out X (g.trans f (fun _ _ h => h)))
  clear g
  obtain ⟨z0, z1, z2, z3, z4, z5, z6, z7, z8, z9⟩ := Bz.out _ (Fr.refl No _)
  obtain ⟨f0, f1, f2, f3⟩ := Bf.out _ (Fr.refl No _)
  obtain ⟨h0, h1, h2, h3⟩ := Bh.out _ (Fr.refl No _)
  obtain ⟨c0, c1⟩ := Bc.out _ (Fr.refl No _)
  obtain ⟨d0, d1⟩ := Bd.out _ (Fr.refl No _)
  go_wp2_with fail
  refine (zGlobal i _).mono ?_
  rintro e w8 ⟨rfl, g⟩
  clear z0 z1 z2 z3 z4 z5 z6 z7 z8 z9 f0 f1 f2 f3 h0 h1 h2 h3 c0 c1 d0 d1
  replace F := hid (F.out.trans g (fun _ _ h => h))
  replace Bz := hid (fun X (f : Fr No w8 X) => Bz.out X (g.trans f (fun _ _ h => h)))
  replace Bf := hid (fun X (f : Fr No w8 X) => Bf.out X (g.trans f (fun _ _ h => h)))
  replace Bh := hid (fun X (f : Fr No w8 X) => Bh.out X (g.trans f (fun _ _ h => h)))
  replace Bc := hid (fun X (f : Fr No w8 X) => Bc.out X (g.trans f (fun _ _ h => h)))
  replace Bd := hid (fun X (f : Fr No w8 X) => Bd.out X (g.trans f (fun _ _ h => h)))
  clear g
  obtain ⟨z0, z1, z2, z3, z4, z5, z6, z7, z8, z9⟩ := Bz.out _ (Fr.refl No _)
  obtain ⟨f0, f1, f2, f3⟩ := Bf.out _ (Fr.refl No _)
  obtain ⟨h0, h1, h2, h3⟩ := Bh.out _ (Fr.refl No _)
  obtain ⟨c0, c1⟩ := Bc.out _ (Fr.refl No _)
  obtain ⟨d0, d1⟩ := Bd.out _ (Fr.refl No _)
  go_upto_region 7 with fail
  have g := ((Fr.refl No w8).alloc (.cells #[.int .i64 0, .bool false] 54)).alloc (.cells #[.int .i64 0, .int .u64 0] 57)
  have Bj := hid (blk2' ((Blk.new w8 54 #[.int .i64 0, .bool false]).alloc (.cells #[.int .i64 0, .int .u64 0] 57)))
  have Bk := hid (blk2' (Blk.new1 w8 (.cells #[.int .i64 0, .bool false] 54) 57 #[.int .i64 0, .int .u64 0]))
  clear z0 z1 z2 z3 z4 z5 z6 z7 z8 z9 f0 f1 f2 f3 h0 h1 h2 h3 c0 c1 d0 d1
  try simp only [World.size_alloc]
  generalize (w8.alloc (.cells #[.int .i64 0, .bool false] 54)).alloc (.cells #[.int .i64 0, .int .u64 0] 57) = w9 at *
  generalize w8.heap.size = pj at *
  replace F := hid (F.out.trans g (fun _ _ h => h))
  replace Bz := hid (fun X (f : Fr No w9 X) => Bz.out X (g.trans f (fun _ _ h => h)))
  replace Bf := hid (fun X (f : Fr No w9 X) => Bf.out X (g.trans f (fun _ _ h => h)))
  replace Bh := hid (fun X (f : Fr No w9 X) => Bh.out X (g.trans f (fun _ _ h => h)))
  replace Bc := hid (fun X (f : Fr No w9 X) => Bc.out X (g.trans f (fun _ _ h => h)))
  replace Bd := hid (fun X (f : Fr No w9 X) => Bd.out X (g.trans f (fun _ _ h => h)))
  clear g
  obtain ⟨z0, z1, z2, z3, z4, z5, z6, z7, z8, z9⟩ := Bz.out _ (Fr.refl No _)
  obtain ⟨f0, f1, f2, f3⟩ := Bf.out _ (Fr.refl No _)
  obtain ⟨h0, h1, h2, h3⟩ := Bh.out _ (Fr.refl No _)
  obtain ⟨c0, c1⟩ := Bc.out _ (Fr.refl No _)
  obtain ⟨d0, d1⟩ := Bd.out _ (Fr.refl No _)
  obtain ⟨j0, j1⟩ := Bj.out _ (Fr.refl No _)
  obtain ⟨k0, k1⟩ := Bk.out _ (Fr.refl No _)
  go_wp2_with fail
  refine (nElem i _).mono ?_
  rintro e w10 ⟨rfl, g⟩
  clear z0 z1 z2 z3 z4 z5 z6 z7 z8 z9 f0 f1 f2 f3 h0 h1 h2 h3 c0 c1 d0 d1 j0 j1 k0 k1
  replace F := hid (F.out.trans g (fun _ _ h => h))
  replace Bz := hid (fun X (f : Fr No w10 X) => Bz.out X (g.trans f (fun _ _ h => h)))
  replace Bf := hid (fun X (f : Fr No w10 X) => Bf.out X (g.trans f (fun _ _ h => h)))
  replace Bh := hid (fun X (f : Fr No w10 X) => Bh.out X (g.trans f (fun _ _ h => h)))
  replace Bc := hid (fun X (f : Fr No w10 X) => Bc.out X (g.trans f (fun _ _ h => h)))
  replace Bd := hid (fun X (f : Fr No w10 X) => Bd.out X (g.trans f (fun _ _ h => h)))
  replace Bj := hid (fun X (f : Fr No w10 X) => Bj.out X (g.trans f (fun _ _ h => h)))
  replace Bk := hid (fun X (f : Fr No w10 X) => Bk.out X (g.trans f (fun _ _ h => h)))
  clear g
  obtain ⟨z0, z1, z2, z3, z4, z5, z6, z7, z8, z9⟩ := Bz.out _ (Fr.refl No _)
  obtain ⟨f0, f1, f2, f3⟩ := Bf.out _ (Fr.refl No _)
  obtain ⟨h0, h1, h2, h3⟩ := Bh.out _ (Fr.refl No _)
  obtain ⟨c0, c1⟩ := Bc.out _ (Fr.refl No _)
  obtain ⟨d0, d1⟩ := Bd.out _ (Fr.refl No _)
  obtain ⟨j0, j1⟩ := Bj.out _ (Fr.refl No _)
  obtain ⟨k0, k1⟩ := Bk.out _ (Fr.refl No _)
  go_wp2_with fail
  refine (zElem i _).mono ?_
  rintro e w11 ⟨rfl, g⟩
  clear z0 z1 z2 z3 z4 z5 z6 z7 z8 z9 f0 f1 f2 f3 h0 h1 h2 h3 c0 c1 d0 d1 j0 j1 k0 k1
  replace F := hid (F.out.trans g (fun _ _ h => h))
  replace Bz := hid (fun X (f : Fr No w11 X) => Bz.out X (g.trans f (fun _ _ h => h)))
  replace Bf := hid (fun X (f : Fr No w11 X) => Bf.out X (g.trans f (fun _ _ h => h)))
  replace Bh := hid (fun X (f : Fr No w11 X) => Bh.out X (g.trans f (fun _ _ h => h)))
  replace Bc := hid (fun X (f : Fr No w11 X) => Bc.out X (g.trans f (fun _ _ h => h)))
  replace Bd := hid (fun X (f : Fr No w11 X) => Bd.out X (g.trans f (fun _ _ h => h)))
  replace Bj := hid (fun X (f : Fr No w11 X) => Bj.out X (g.trans f (fun _ _ h => h)))
  replace Bk := hid (fun X (f : Fr No w11 X) => Bk.out X (g.trans f (fun _ _ h => h)))
  clear g
  obtain ⟨z0, z1, z2, z3, z4, z5, z6, z7, z8, z9⟩ := Bz.out _ (Fr.refl No _)
  obtain ⟨f0, f1, f2, f3⟩ := Bf.out _ (Fr.refl No _)
  obtain ⟨h0, h1, h2, h3⟩ := Bh.out _ (Fr.refl No _)
  obtain ⟨c0, c1⟩ := Bc.out _ (Fr.refl No _)
  obtain ⟨d0, d1⟩ := Bd.out _ (Fr.refl No _)
  obtain ⟨j0, j1⟩ := Bj.out _ (Fr.refl No _)
  obtain ⟨k0, k1⟩ := Bk.out _ (Fr.refl No _)
  go_wp2_with fail
  refine (nData i _).mono ?_
  rintro e w12 ⟨rfl, g⟩
  clear z0 z1 z2 z3 z4 z5 z6 z7 z8 z9 f0 f1 f2 f3 h0 h1 h2 h3 c0 c1 d0 d1 j0 j1 k0 k1
  replace F := hid (F.out.trans g (fun _ _ h => h))
  replace Bz := hid (fun X (f : Fr No w12 X) => Bz.out X (g.trans f (fun _ _ h => h)))
  replace Bf := hid (fun X (f : Fr No w12 X) => Bf.out X (g.trans f (fun _ _ h => h)))
  replace Bh := hid (fun X (f : Fr No w12 X) => Bh.out X (g.trans f (fun _ _ h => h)))
  replace Bc := hid (fun X (f : Fr No w12 X) => Bc.out X (g.trans f (fun _ _ h => h)))
  replace Bd := hid (fun X (f : Fr No w12 X) => Bd.out X (g.trans f (fun _ _ h => h)))
  replace Bj := hid (fun X (f : Fr No w12 X) => Bj.out X (g.trans f (fun _ _ h => h)))
  replace Bk := hid (fun X (f : Fr No w12 X) => Bk.out X (g.trans f (fun _ _ h => h)))
  clear g
  obtain ⟨z0, z1, z2, z3, z4, z5, z6, z7, z8, z9⟩ := Bz.out _ (Fr.refl No _)
  obtain ⟨f0, f1, f2, f3⟩ := Bf.out _ (Fr.refl No _)
  obtain ⟨h0, h1, h2, h3⟩ := Bh.out _ (Fr.refl No _)
  obtain ⟨c0, c1⟩ := Bc.out _ (Fr.refl No _)
  obtain ⟨d0, d1⟩ := Bd.out _ (Fr.refl No _)
  obtain ⟨j0, j1⟩ := Bj.out _ (Fr.refl No _)
  obtain ⟨k0, k1⟩ := Bk.out _ (Fr.refl No _)
  go_wp2_with fail
  refine (zData i _).mono ?_
  rintro e w13 ⟨rfl, g⟩
  clear z0 z1 z2 z3 z4 z5 z6 z7 z8 z9 f0 f1 f2 f3 h0 h1 h2 h3 c0 c1 d0 d1 j0 j1 k0 k1
  replace F := hid (F.out.trans g (fun _ _ h => h))
  replace Bz := hid (fun X (f : Fr No w13 X) => Bz.out X (g.trans f (fun _ _ h => h)))
  replace Bf := hid (fun X (f : Fr No w13 X) => Bf.out X (g.trans f (fun _ _ h => h)))
  replace Bh := hid (fun X (f : Fr No w13 X) => Bh.out X (g.trans f (fun _ _ h => h)))
  replace Bc := hid (fun X (f : Fr No w13 X) => Bc.out X (g.trans f (fun _ _ h => h)))
  replace Bd := hid (fun X (f : Fr No w13 X) => Bd.out X (g.trans f (fun _ _ h => h)))
  replace Bj := hid (fun X (f : Fr No w13 X) => Bj.out X (g.trans f (fun _ _ h => h)))
  replace Bk := hid (fun X (f : Fr No w13 X) => Bk.out X (g.trans f (fun _ _ h => h)))
  clear g
  obtain ⟨z0, z1, z2, z3, z4, z5, z6, z7, z8, z9⟩ := Bz.out _ (Fr.refl No _)
  obtain ⟨f0, f1, f2, f3⟩ := Bf.out _ (Fr.refl No _)
  obtain ⟨h0, h1, h2, h3⟩ := Bh.out _ (Fr.refl No _)
  obtain ⟨c0, c1⟩ := Bc.out _ (Fr.refl No _)
  obtain ⟨d0, d1⟩ := Bd.out _ (Fr.refl No _)
  obtain ⟨j0, j1⟩ := Bj.out _ (Fr.refl No _)
  obtain ⟨k0, k1⟩ := Bk.out _ (Fr.refl No _)
  go_wp2_with fail
  refine (refs_any none none [] [] 0 0 (fun _ => False) (fun _ => False) _ nilU nilU (by decide) (by decide)).mono ?_
  rintro e _ ⟨rfl, nn, rfl⟩
  clear z0 z1 z2 z3 z4 z5 z6 z7 z8 z9 f0 f1 f2 f3 h0 h1 h2 h3 c0 c1 d0 d1 j0 j1 k0 k1
  have g := Fr.drewN (Fr.refl No w13) nn
  generalize World.drewN w13 nn = w14 at *
  replace F := hid (F.out.trans g (fun _ _ h => h))
  replace Bz := hid (fun X (f : Fr No w14 X) => Bz.out X (g.trans f (fun _ _ h => h)))
  replace Bf := hid (fun X (f : Fr No w14 X) => Bf.out X (g.trans f (fun _ _ h => h)))
  replace Bh := hid (fun X (f : Fr No w14 X) => Bh.out X (g.trans f (fun _ _ h => h)))
  replace Bc := hid (fun X (f : Fr No w14 X) => Bc.out X (g.trans f (fun _ _ h => h)))
  replace Bd := hid (fun X (f : Fr No w14 X) => Bd.out X (g.trans f (fun _ _ h => h)))
  replace Bj := hid (fun X (f : Fr No w14 X) => Bj.out X (g.trans f (fun _ _ h => h)))
  replace Bk := hid (fun X (f : Fr No w14 X) => Bk.out X (g.trans f (fun _ _ h => h)))
  clear g
  obtain ⟨z0, z1, z2, z3, z4, z5, z6, z7, z8, z9⟩ := Bz.out _ (Fr.refl No _)
  obtain ⟨f0, f1, f2, f3⟩ := Bf.out _ (Fr.refl No _)
  obtain ⟨h0, h1, h2, h3⟩ := Bh.out _ (Fr.refl No _)
  obtain ⟨c0, c1⟩ := Bc.out _ (Fr.refl No _)
  obtain ⟨d0, d1⟩ := Bd.out _ (Fr.refl No _)
  obtain ⟨j0, j1⟩ := Bj.out _ (Fr.refl No _)
  obtain ⟨k0, k1⟩ := Bk.out _ (Fr.refl No _)
  have hcv : (convert 59 9 (.slice none 0 0)).run Tryz.prog w14 = .ok (.string (strU [])) w14 := (conv_els 0 (nilB w14)).1
  go_wp2_with fail
  refine (nInst i _).mono ?_
  rintro e w15 ⟨rfl, g⟩
  clear z0 z1 z2 z3 z4 z5 z6 z7 z8 z9 f0 f1 f2 f3 h0 h1 h2 h3 c0 c1 d0 d1 j0 j1 k0 k1
  replace F := hid (F.out.trans g (fun _ _ h => h))
  replace Bz := hid (fun X (f : Fr No w15 X) => Bz.out X (g.trans f (fun _ _ h => h)))
  replace Bf := hid (fun X (f : Fr No w15 X) => Bf.out X (g.trans f (fun _ _ h => h)))
  replace Bh := hid (fun X (f : Fr No w15 X) => Bh.out X (g.trans f (fun _ _ h => h)))
  replace Bc := hid (fun X (f : Fr No w15 X) => Bc.out X (g.trans f (fun _ _ h => h)))
  replace Bd := hid (fun X (f : Fr No w15 X) => Bd.out X (g.trans f (fun _ _ h => h)))
  replace Bj := hid (fun X (f : Fr No w15 X) => Bj.out X (g.trans f (fun _ _ h => h)))
  replace Bk := hid (fun X (f : Fr No w15 X) => Bk.out X (g.trans f (fun _ _ h => h)))
  clear g
  obtain ⟨z0, z1, z2, z3, z4, z5, z6, z7, z8, z9⟩ := Bz.out _ (Fr.refl No _)
  obtain ⟨f0, f1, f2, f3⟩ := Bf.out _ (Fr.refl No _)
  obtain ⟨h0, h1, h2, h3⟩ := Bh.out _ (Fr.refl No _)
  obtain ⟨c0, c1⟩ := Bc.out _ (Fr.refl No _)
  obtain ⟨d0, d1⟩ := Bd.out _ (Fr.refl No _)
  obtain ⟨j0, j1⟩ := Bj.out _ (Fr.refl No _)
  obtain ⟨k0, k1⟩ := Bk.out _ (Fr.refl No _)
  go_upto_region 16 with fail
  have g := ((Fr.refl No w15).alloc (.cells #[.slice none 0 0, .slice none 0 0, .slice none 0 0, .slice none 0 0, .slice none 0 0, .slice none 0 0, .slice none 0 0, .bool false, .int .i64 0, .slice none 0 0, .slice none 0 0, .slice none 0 0] 71)).alloc (.cells #[.slice none 0 0, .slice none 0 0, .slice none 0 0, .slice none 0 0, .slice none 0 0, .slice none 0 0] 73)
  have Bm := hid (blk12' ((Blk.new w15 71 #[.slice none 0 0, .slice none 0 0, .slice none 0 0, .slice none 0 0, .slice none 0 0, .slice none 0 0, .slice none 0 0, .bool false, .int .i64 0, .slice none 0 0, .slice none 0 0, .slice none 0 0]).alloc (.cells #[.slice none 0 0, .slice none 0 0, .slice none 0 0, .slice none 0 0, .slice none 0 0, .slice none 0 0] 73)))
  have Bn := hid (blk6' (Blk.new1 w15 (.cells #[.slice none 0 0, .slice none 0 0, .slice none 0 0, .slice none 0 0, .slice none 0 0, .slice none 0 0, .slice none 0 0, .bool false, .int .i64 0, .slice none 0 0, .slice none 0 0, .slice none 0 0] 71) 73 #[.slice none 0 0, .slice none 0 0, .slice none 0 0, .slice none 0 0, .slice none 0 0, .slice none 0 0]))
  clear z0 z1 z2 z3 z4 z5 z6 z7 z8 z9 f0 f1 f2 f3 h0 h1 h2 h3 c0 c1 d0 d1 j0 j1 k0 k1
  try simp only [World.size_alloc]
  generalize (w15.alloc (.cells #[.slice none 0 0, .slice none 0 0, .slice none 0 0, .slice none 0 0, .slice none 0 0, .slice none 0 0, .slice none 0 0, .bool false, .int .i64 0, .slice none 0 0, .slice none 0 0, .slice none 0 0] 71)).alloc (.cells #[.slice none 0 0, .slice none 0 0, .slice none 0 0, .slice none 0 0, .slice none 0 0, .slice none 0 0] 73) = w16 at *
  generalize w15.heap.size = pm at *
  replace F := hid (F.out.trans g (fun _ _ h => h))
  replace Bz := hid (fun X (f : Fr No w16 X) => Bz.out X (g.trans f (fun _ _ h => h)))
  replace Bf := hid (fun X (f : Fr No w16 X) => Bf.out X (g.trans f (fun _ _ h => h)))
  replace Bh := hid (fun X (f : Fr No w16 X) => Bh.out X (g.trans f (fun _ _ h => h)))
  replace Bc := hid (fun X (f : Fr No w16 X) => Bc.out X (g.trans f (fun _ _ h => h)))
  replace Bd := hid (fun X (f : Fr No w16 X) => Bd.out X (g.trans f (fun _ _ h => h)))
  replace Bj := hid (fun X (f : Fr No w16 X) => Bj.out X (g.trans f (fun _ _ h => h)))
  replace Bk := hid (fun X (f : Fr No w16 X) => Bk.out X (g.trans f (fun _ _ h => h)))
  clear g
  obtain ⟨z0, z1, z2, z3, z4, z5, z6, z7, z8, z9⟩ := Bz.out _ (Fr.refl No _)
  obtain ⟨f0, f1, f2, f3⟩ := Bf.out _ (Fr.refl No _)
  obtain ⟨h0, h1, h2, h3⟩ := Bh.out _ (Fr.refl No _)
  obtain ⟨c0, c1⟩ := Bc.out _ (Fr.refl No _)
  obtain ⟨d0, d1⟩ := Bd.out _ (Fr.refl No _)
  obtain ⟨j0, j1⟩ := Bj.out _ (Fr.refl No _)
  obtain ⟨k0, k1⟩ := Bk.out _ (Fr.refl No _)
  obtain ⟨m0, m1, m2, m3, m4, m5, m6, m7, m8, m9, m10, m11⟩ := Bm.out _ (Fr.refl No _)
  obtain ⟨n0, n1, n2, n3, n4, n5⟩ := Bn.out _ (Fr.refl No _)
  go_wp2_with fail
  refine (zGetInst i _).mono ?_
  rintro e w17 ⟨rfl, g⟩
  clear z0 z1 z2 z3 z4 z5 z6 z7 z8 z9 f0 f1 f2 f3 h0 h1 h2 h3 c0 c1 d0 d1 j0 j1 k0 k1 m0 m1 m2 m3 m4 m5 m6 m7 m8 m9 m10 m11 n0 n1 n2 n3 n4 n5
  replace F := hid (F.out.trans g (fun _ _ h => h))
  replace Bz := hid (fun X (f : Fr No w17 X) => Bz.out X (g.trans f (fun _ _ h => h)))
  replace Bf := hid (fun X (f : Fr No w17 X) => Bf.out X (g.trans f (fun _ _ h => h)))
  replace Bh := hid (fun X (f : Fr No w17 X) => Bh.out X (g.trans f (fun _ _ h => h)))
  replace Bc := hid (fun X (f : Fr No w17 X) => Bc.out X (g.trans f (fun _ _ h => h)))
  replace Bd := hid (fun X (f : Fr No w17 X) => Bd.out X (g.trans f (fun _ _ h => h)))
  replace Bj := hid (fun X (f : Fr No w17 X) => Bj.out X (g.trans f (fun _ _ h => h)))
  replace Bk := hid (fun X (f : Fr No w17 X) => Bk.out X (g.trans f (fun _ _ h => h)))
  replace Bm := hid (fun X (f : Fr No w17 X) => Bm.out X (g.trans f (fun _ _ h => h)))
  replace Bn := hid (fun X (f : Fr No w17 X) => Bn.out X (g.trans f (fun _ _ h => h)))
  clear g
  obtain ⟨z0, z1, z2, z3, z4, z5, z6, z7, z8, z9⟩ := Bz.out _ (Fr.refl No _)
  obtain ⟨f0, f1, f2, f3⟩ := Bf.out _ (Fr.refl No _)
  obtain ⟨h0, h1, h2, h3⟩ := Bh.out _ (Fr.refl No _)
  obtain ⟨c0, c1⟩ := Bc.out _ (Fr.refl No _)
  obtain ⟨d0, d1⟩ := Bd.out _ (Fr.refl No _)
  obtain ⟨j0, j1⟩ := Bj.out _ (Fr.refl No _)
  obtain ⟨k0, k1⟩ := Bk.out _ (Fr.refl No _)
  obtain ⟨m0, m1, m2, m3, m4, m5, m6, m7, m8, m9, m10, m11⟩ := Bm.out _ (Fr.refl No _)
  obtain ⟨n0, n1, n2, n3, n4, n5⟩ := Bn.out _ (Fr.refl No _)
  go_upto_region 17 with fail
  have g := ((Fr.refl No w17).alloc (.cells #[.slice none 0 0, .slice none 0 0, .slice none 0 0, .slice none 0 0, .slice none 0 0, .slice none 0 0, .slice none 0 0, .bool false, .int .i64 0, .slice none 0 0, .slice none 0 0, .slice none 0 0] 71)).alloc (.cells #[.slice none 0 0, .slice none 0 0, .slice none 0 0, .slice none 0 0, .slice none 0 0, .slice none 0 0] 73)
  have Bo := hid (blk12' ((Blk.new w17 71 #[.slice none 0 0, .slice none 0 0, .slice none 0 0, .slice none 0 0, .slice none 0 0, .slice none 0 0, .slice none 0 0, .bool false, .int .i64 0, .slice none 0 0, .slice none 0 0, .slice none 0 0]).alloc (.cells #[.slice none 0 0, .slice none 0 0, .slice none 0 0, .slice none 0 0, .slice none 0 0, .slice none 0 0] 73)))
  have Bq := hid (blk6' (Blk.new1 w17 (.cells #[.slice none 0 0, .slice none 0 0, .slice none 0 0, .slice none 0 0, .slice none 0 0, .slice none 0 0, .slice none 0 0, .bool false, .int .i64 0, .slice none 0 0, .slice none 0 0, .slice none 0 0] 71) 73 #[.slice none 0 0, .slice none 0 0, .slice none 0 0, .slice none 0 0, .slice none 0 0, .slice none 0 0]))
  clear z0 z1 z2 z3 z4 z5 z6 z7 z8 z9 f0 f1 f2 f3 h0 h1 h2 h3 c0 c1 d0 d1 j0 j1 k0 k1 m0 m1 m2 m3 m4 m5 m6 m7 m8 m9 m10 m11 n0 n1 n2 n3 n4 n5
  try simp only [World.size_alloc]
  generalize (w17.alloc (.cells #[.slice none 0 0, .slice none 0 0, .slice none 0 0, .slice none 0 0, .slice none 0 0, .slice none 0 0, .slice none 0 0, .bool false, .int .i64 0, .slice none 0 0, .slice none 0 0, .slice none 0 0] 71)).alloc (.cells #[.slice none 0 0, .slice none 0 0, .slice none 0 0, .slice none 0 0, .slice none 0 0, .slice none 0 0] 73) = w18 at *
  generalize w17.heap.size = po at *
  replace F := hid (F.out.trans g (fun _ _ h => h))
  replace Bz := hid (fun X (f : Fr No w18 X) => Bz.out X (g.trans f (fun _ _ h => h)))
  replace Bf := hid (fun X (f : Fr No w18 X) => Bf.out X (g.trans f (fun _ _ h => h)))
  replace Bh := hid (fun X (f : Fr No w18 X) => Bh.out X (g.trans f (fun _ _ h => h)))
  replace Bc := hid (fun X (f : Fr No w18 X) => Bc.out X (g.trans f (fun _ _ h => h)))
  replace Bd := hid (fun X (f : Fr No w18 X) => Bd.out X (g.trans f (fun _ _ h => h)))
  replace Bj := hid (fun X (f : Fr No w18 X) => Bj.out X (g.trans f (fun _ _ h => h)))
  replace Bk := hid (fun X (f : Fr No w18 X) => Bk.out X (g.trans f (fun _ _ h => h)))
  replace Bm := hid (fun X (f : Fr No w18 X) => Bm.out X (g.trans f (fun _ _ h => h)))
  replace Bn := hid (fun X (f : Fr No w18 X) => Bn.out X (g.trans f (fun _ _ h => h)))
  clear g
  obtain ⟨z0, z1, z2, z3, z4, z5, z6, z7, z8, z9⟩ := Bz.out _ (Fr.refl No _)
  obtain ⟨f0, f1, f2, f3⟩ := Bf.out _ (Fr.refl No _)
  obtain ⟨h0, h1, h2, h3⟩ := Bh.out _ (Fr.refl No _)
  obtain ⟨c0, c1⟩ := Bc.out _ (Fr.refl No _)
  obtain ⟨d0, d1⟩ := Bd.out _ (Fr.refl No _)
  obtain ⟨j0, j1⟩ := Bj.out _ (Fr.refl No _)
  obtain ⟨k0, k1⟩ := Bk.out _ (Fr.refl No _)
  obtain ⟨m0, m1, m2, m3, m4, m5, m6, m7, m8, m9, m10, m11⟩ := Bm.out _ (Fr.refl No _)
  obtain ⟨n0, n1, n2, n3, n4, n5⟩ := Bn.out _ (Fr.refl No _)
  obtain ⟨o0, o1, o2, o3, o4, o5, o6, o7, o8, o9, o10, o11⟩ := Bo.out _ (Fr.refl No _)
  obtain ⟨q0, q1, q2, q3, q4, q5⟩ := Bq.out _ (Fr.refl No _)
  go_wp2_with fail
  clear z0 z1 z2 z3 z4 z5 z6 z7 z8 z9 f0 f1 f2 f3 h0 h1 h2 h3 c0 c1 d0 d1 j0 j1 k0 k1 m0 m1 m2 m3 m4 m5 m6 m7 m8 m9 m10 m11 n0 n1 n2 n3 n4 n5 o0 o1 o2 o3 o4 o5 o6 o7 o8 o9 o10 o11 q0 q1 q2 q3 q4 q5
  have HX : Hid (∀ X, Fr No w18 X → X.cell? ⟨pz, 9, none⟩ = some (.slice none 0 0) ∧ X.cell? ⟨pm, 0, none⟩ = some (.slice none 0 0) ∧ X.cell? ⟨pm, 1, none⟩ = some (.slice none 0 0) ∧ X.cell? ⟨pm, 2, none⟩ = some (.slice none 0 0) ∧ X.cell? ⟨pm, 3, none⟩ = some (.slice none 0 0) ∧ X.cell? ⟨pm, 4, none⟩ = some (.slice none 0 0) ∧ X.cell? ⟨pm, 5, none⟩ = some (.slice none 0 0) ∧ X.cell? ⟨pm, 6, none⟩ = some (.slice none 0 0) ∧ X.cell? ⟨pm, 7, none⟩ = some (.bool false) ∧ X.cell? ⟨pm, 8, none⟩ = some (.int .i64 0) ∧ X.cell? ⟨pm, 9, none⟩ = some (.slice none 0 0) ∧ X.cell? ⟨pm, 10, none⟩ = some (.slice none 0 0) ∧ X.cell? ⟨pm, 11, none⟩ = some (.slice none 0 0) ∧ X.cell? ⟨pm + 1, 0, none⟩ = some (.slice none 0 0) ∧ X.cell? ⟨pm + 1, 1, none⟩ = some (.slice none 0 0) ∧ X.cell? ⟨pm + 1, 2, none⟩ = some (.slice none 0 0) ∧ X.cell? ⟨pm + 1, 3, none⟩ = some (.slice none 0 0) ∧ X.cell? ⟨pm + 1, 4, none⟩ = some (.slice none 0 0) ∧ X.cell? ⟨pm + 1, 5, none⟩ = some (.slice none 0 0) ∧ X.cell? ⟨po, 0, none⟩ = some (.slice none 0 0) ∧ X.cell? ⟨po, 1, none⟩ = some (.slice none 0 0) ∧ X.cell? ⟨po, 2, none⟩ = some (.slice none 0 0) ∧ X.cell? ⟨po, 3, none⟩ = some (.slice none 0 0) ∧ X.cell? ⟨po, 4, none⟩ = some (.slice none 0 0) ∧ X.cell? ⟨po, 5, none⟩ = some (.slice none 0 0) ∧ X.cell? ⟨po, 6, none⟩ = some (.slice none 0 0) ∧ X.cell? ⟨po, 7, none⟩ = some (.bool false) ∧ X.cell? ⟨po, 8, none⟩ = some (.int .i64 0) ∧ X.cell? ⟨po, 9, none⟩ = some (.slice none 0 0) ∧ X.cell? ⟨po, 10, none⟩ = some (.slice none 0 0) ∧ X.cell? ⟨po, 11, none⟩ = some (.slice none 0 0) ∧ X.cell? ⟨po + 1, 0, none⟩ = some (.slice none 0 0) ∧ X.cell? ⟨po + 1, 1, none⟩ = some (.slice none 0 0) ∧ X.cell? ⟨po + 1, 2, none⟩ = some (.slice none 0 0) ∧ X.cell? ⟨po + 1, 3, none⟩ = some (.slice none 0 0) ∧ X.cell? ⟨po + 1, 4, none⟩ = some (.slice none 0 0) ∧ X.cell? ⟨po + 1, 5, none⟩ = some (.slice none 0 0)) := fun X f => ⟨(Bz.out X f).2.2.2.2.2.2.2.2.2, (Bm.out X f).1, (Bm.out X f).2.1, (Bm.out X f).2.2.1, (Bm.out X f).2.2.2.1, (Bm.out X f).2.2.2.2.1, (Bm.out X f).2.2.2.2.2.1, (Bm.out X f).2.2.2.2.2.2.1, (Bm.out X f).2.2.2.2.2.2.2.1, (Bm.out X f).2.2.2.2.2.2.2.2.1, (Bm.out X f).2.2.2.2.2.2.2.2.2.1, (Bm.out X f).2.2.2.2.2.2.2.2.2.2.1, (Bm.out X f).2.2.2.2.2.2.2.2.2.2.2, (Bn.out X f).1, (Bn.out X f).2.1, (Bn.out X f).2.2.1, (Bn.out X f).2.2.2.1, (Bn.out X f).2.2.2.2.1, (Bn.out X f).2.2.2.2.2, (Bo.out X f).1, (Bo.out X f).2.1, (Bo.out X f).2.2.1, (Bo.out X f).2.2.2.1, (Bo.out X f).2.2.2.2.1, (Bo.out X f).2.2.2.2.2.1, (Bo.out X f).2.2.2.2.2.2.1, (Bo.out X f).2.2.2.2.2.2.2.1, (Bo.out X f).2.2.2.2.2.2.2.2.1, (Bo.out X f).2.2.2.2.2.2.2.2.2.1, (Bo.out X f).2.2.2.2.2.2.2.2.2.2.1, (Bo.out X f).2.2.2.2.2.2.2.2.2.2.2, (Bq.out X f).1, (Bq.out X f).2.1, (Bq.out X f).2.2.1, (Bq.out X f).2.2.2.1, (Bq.out X f).2.2.2.2.1, (Bq.out X f).2.2.2.2.2⟩
  refine wp_region_ord (fun X => X.cell? ⟨pz, 9, none⟩ = some (.slice none 0 0) ∧ X.cell? ⟨pm, 0, none⟩ = some (.slice none 0 0) ∧ X.cell? ⟨pm, 1, none⟩ = some (.slice none 0 0) ∧ X.cell? ⟨pm, 2, none⟩ = some (.slice none 0 0) ∧ X.cell? ⟨pm, 3, none⟩ = some (.slice none 0 0) ∧ X.cell? ⟨pm, 4, none⟩ = some (.slice none 0 0) ∧ X.cell? ⟨pm, 5, none⟩ = some (.slice none 0 0) ∧ X.cell? ⟨pm, 6, none⟩ = some (.slice none 0 0) ∧ X.cell? ⟨pm, 7, none⟩ = some (.bool false) ∧ X.cell? ⟨pm, 8, none⟩ = some (.int .i64 0) ∧ X.cell? ⟨pm, 9, none⟩ = some (.slice none 0 0) ∧ X.cell? ⟨pm, 10, none⟩ = some (.slice none 0 0) ∧ X.cell? ⟨pm, 11, none⟩ = some (.slice none 0 0) ∧ X.cell? ⟨pm + 1, 0, none⟩ = some (.slice none 0 0) ∧ X.cell? ⟨pm + 1, 1, none⟩ = some (.slice none 0 0) ∧ X.cell? ⟨pm + 1, 2, none⟩ = some (.slice none 0 0) ∧ X.cell? ⟨pm + 1, 3, none⟩ = some (.slice none 0 0) ∧ X.cell? ⟨pm + 1, 4, none⟩ = some (.slice none 0 0) ∧ X.cell? ⟨pm + 1, 5, none⟩ = some (.slice none 0 0) ∧ X.cell? ⟨po, 0, none⟩ = some (.slice none 0 0) ∧ X.cell? ⟨po, 1, none⟩ = some (.slice none 0 0) ∧ X.cell? ⟨po, 2, none⟩ = some (.slice none 0 0) ∧ X.cell? ⟨po, 3, none⟩ = some (.slice none 0 0) ∧ X.cell? ⟨po, 4, none⟩ = some (.slice none 0 0) ∧ X.cell? ⟨po, 5, none⟩ = some (.slice none 0 0) ∧ X.cell? ⟨po, 6, none⟩ = some (.slice none 0 0) ∧ X.cell? ⟨po, 7, none⟩ = some (.bool false) ∧ X.cell? ⟨po, 8, none⟩ = some (.int .i64 0) ∧ X.cell? ⟨po, 9, none⟩ = some (.slice none 0 0) ∧ X.cell? ⟨po, 10, none⟩ = some (.slice none 0 0) ∧ X.cell? ⟨po, 11, none⟩ = some (.slice none 0 0) ∧ X.cell? ⟨po + 1, 0, none⟩ = some (.slice none 0 0) ∧ X.cell? ⟨po + 1, 1, none⟩ = some (.slice none 0 0) ∧ X.cell? ⟨po + 1, 2, none⟩ = some (.slice none 0 0) ∧ X.cell? ⟨po + 1, 3, none⟩ = some (.slice none 0 0) ∧ X.cell? ⟨po + 1, 4, none⟩ = some (.slice none 0 0) ∧ X.cell? ⟨po + 1, 5, none⟩ = some (.slice none 0 0)) [] [(0, true), (1, true), (2, false), (3, true), (4, true), (5, true), (6, false), (7, true), (8, true), (9, true), (10, true), (11, true), (12, true), (13, true), (14, true), (16, true), (17, true), (18, true), (15, false), (19, true), (20, true), (21, true)] (by kernel_rfl) (by kernel_rfl) (by kernel_rfl) rfl (HX.out _ (Fr.refl No _).drew) ?_
  have R0 := hid ((Fr.refl No w18).drew)
  repeat (first
    | (refine wpO_skip rfl rfl ?_; simp only [List.getElem_toArray, List.getElem_cons_succ, List.getElem_cons_zero, Act.put, List.setIfInBounds_toArray, List.set_cons_zero, List.set_cons_succ])
    | (refine wpO_call rfl rfl ?_; simp only [List.getElem_toArray, List.getElem_cons_succ, List.getElem_cons_zero]; apply Exists.intro; refine ⟨fun X hX => ?_, ?_⟩
       · (have s0 := hX.1; have s1 := hX.2.1; have s2 := hX.2.2.1; have s3 := hX.2.2.2.1; have s4 := hX.2.2.2.2.1; have s5 := hX.2.2.2.2.2.1; have s6 := hX.2.2.2.2.2.2.1; have s7 := hX.2.2.2.2.2.2.2.1; have s8 := hX.2.2.2.2.2.2.2.2.1; have s9 := hX.2.2.2.2.2.2.2.2.2.1; have s10 := hX.2.2.2.2.2.2.2.2.2.2.1; have s11 := hX.2.2.2.2.2.2.2.2.2.2.2.1; have s12 := hX.2.2.2.2.2.2.2.2.2.2.2.2.1; have s13 := hX.2.2.2.2.2.2.2.2.2.2.2.2.2.1; have s14 := hX.2.2.2.2.2.2.2.2.2.2.2.2.2.2.1; have s15 := hX.2.2.2.2.2.2.2.2.2.2.2.2.2.2.2.1; have s16 := hX.2.2.2.2.2.2.2.2.2.2.2.2.2.2.2.2.1; have s17 := hX.2.2.2.2.2.2.2.2.2.2.2.2.2.2.2.2.2.1; have s18 := hX.2.2.2.2.2.2.2.2.2.2.2.2.2.2.2.2.2.2.1; have s19 := hX.2.2.2.2.2.2.2.2.2.2.2.2.2.2.2.2.2.2.2.1; have s20 := hX.2.2.2.2.2.2.2.2.2.2.2.2.2.2.2.2.2.2.2.2.1; have s21 := hX.2.2.2.2.2.2.2.2.2.2.2.2.2.2.2.2.2.2.2.2.2.1; have s22 := hX.2.2.2.2.2.2.2.2.2.2.2.2.2.2.2.2.2.2.2.2.2.2.1; have s23 := hX.2.2.2.2.2.2.2.2.2.2.2.2.2.2.2.2.2.2.2.2.2.2.2.1; have s24 := hX.2.2.2.2.2.2.2.2.2.2.2.2.2.2.2.2.2.2.2.2.2.2.2.2.1; have s25 := hX.2.2.2.2.2.2.2.2.2.2.2.2.2.2.2.2.2.2.2.2.2.2.2.2.2.1; have s26 := hX.2.2.2.2.2.2.2.2.2.2.2.2.2.2.2.2.2.2.2.2.2.2.2.2.2.2.1; have s27 := hX.2.2.2.2.2.2.2.2.2.2.2.2.2.2.2.2.2.2.2.2.2.2.2.2.2.2.2.1; have s28 := hX.2.2.2.2.2.2.2.2.2.2.2.2.2.2.2.2.2.2.2.2.2.2.2.2.2.2.2.2.1; have s29 := hX.2.2.2.2.2.2.2.2.2.2.2.2.2.2.2.2.2.2.2.2.2.2.2.2.2.2.2.2.2.1; have s30 := hX.2.2.2.2.2.2.2.2.2.2.2.2.2.2.2.2.2.2.2.2.2.2.2.2.2.2.2.2.2.2.1; have s31 := hX.2.2.2.2.2.2.2.2.2.2.2.2.2.2.2.2.2.2.2.2.2.2.2.2.2.2.2.2.2.2.2.1; have s32 := hX.2.2.2.2.2.2.2.2.2.2.2.2.2.2.2.2.2.2.2.2.2.2.2.2.2.2.2.2.2.2.2.2.1; have s33 := hX.2.2.2.2.2.2.2.2.2.2.2.2.2.2.2.2.2.2.2.2.2.2.2.2.2.2.2.2.2.2.2.2.2.1; have s34 := hX.2.2.2.2.2.2.2.2.2.2.2.2.2.2.2.2.2.2.2.2.2.2.2.2.2.2.2.2.2.2.2.2.2.2.1; have s35 := hX.2.2.2.2.2.2.2.2.2.2.2.2.2.2.2.2.2.2.2.2.2.2.2.2.2.2.2.2.2.2.2.2.2.2.2.1; have s36 := hX.2.2.2.2.2.2.2.2.2.2.2.2.2.2.2.2.2.2.2.2.2.2.2.2.2.2.2.2.2.2.2.2.2.2.2.2; go_simp; exact stillUpon_value)
       simp only [Act.put, List.setIfInBounds_toArray, List.set_cons_zero, List.set_cons_succ]))
  refine wpO_eff rfl rfl (fun K hK => ?_)
  simp only [List.getElem_toArray, List.getElem_cons_succ, List.getElem_cons_zero]
  go_simp
  refine (zsameMd _).mono ?_
  rintro e v0 ⟨rfl, g⟩
  have R1 := hid (R0.out.trans g (fun _ _ h => h))
  clear g
  refine hK _ _ (fun _ => HX.out _ R1.out) ?_
  clear hK K
  repeat (first
    | (refine wpO_skip rfl rfl ?_; simp only [List.getElem_toArray, List.getElem_cons_succ, List.getElem_cons_zero, Act.put, List.setIfInBounds_toArray, List.set_cons_zero, List.set_cons_succ])
    | (refine wpO_call rfl rfl ?_; simp only [List.getElem_toArray, List.getElem_cons_succ, List.getElem_cons_zero]; apply Exists.intro; refine ⟨fun X hX => ?_, ?_⟩
       · (have s0 := hX.1; have s1 := hX.2.1; have s2 := hX.2.2.1; have s3 := hX.2.2.2.1; have s4 := hX.2.2.2.2.1; have s5 := hX.2.2.2.2.2.1; have s6 := hX.2.2.2.2.2.2.1; have s7 := hX.2.2.2.2.2.2.2.1; have s8 := hX.2.2.2.2.2.2.2.2.1; have s9 := hX.2.2.2.2.2.2.2.2.2.1; have s10 := hX.2.2.2.2.2.2.2.2.2.2.1; have s11 := hX.2.2.2.2.2.2.2.2.2.2.2.1; have s12 := hX.2.2.2.2.2.2.2.2.2.2.2.2.1; have s13 := hX.2.2.2.2.2.2.2.2.2.2.2.2.2.1; have s14 := hX.2.2.2.2.2.2.2.2.2.2.2.2.2.2.1; have s15 := hX.2.2.2.2.2.2.2.2.2.2.2.2.2.2.2.1; have s16 := hX.2.2.2.2.2.2.2.2.2.2.2.2.2.2.2.2.1; have s17 := hX.2.2.2.2.2.2.2.2.2.2.2.2.2.2.2.2.2.1; have s18 := hX.2.2.2.2.2.2.2.2.2.2.2.2.2.2.2.2.2.2.1; have s19 := hX.2.2.2.2.2.2.2.2.2.2.2.2.2.2.2.2.2.2.2.1; have s20 := hX.2.2.2.2.2.2.2.2.2.2.2.2.2.2.2.2.2.2.2.2.1; have s21 := hX.2.2.2.2.2.2.2.2.2.2.2.2.2.2.2.2.2.2.2.2.2.1; have s22 := hX.2.2.2.2.2.2.2.2.2.2.2.2.2.2.2.2.2.2.2.2.2.2.1; have s23 := hX.2.2.2.2.2.2.2.2.2.2.2.2.2.2.2.2.2.2.2.2.2.2.2.1; have s24 := hX.2.2.2.2.2.2.2.2.2.2.2.2.2.2.2.2.2.2.2.2.2.2.2.2.1; have s25 := hX.2.2.2.2.2.2.2.2.2.2.2.2.2.2.2.2.2.2.2.2.2.2.2.2.2.1; have s26 := hX.2.2.2.2.2.2.2.2.2.2.2.2.2.2.2.2.2.2.2.2.2.2.2.2.2.2.1; have s27 := hX.2.2.2.2.2.2.2.2.2.2.2.2.2.2.2.2.2.2.2.2.2.2.2.2.2.2.2.1; have s28 := hX.2.2.2.2.2.2.2.2.2.2.2.2.2.2.2.2.2.2.2.2.2.2.2.2.2.2.2.2.1; have s29 := hX.2.2.2.2.2.2.2.2.2.2.2.2.2.2.2.2.2.2.2.2.2.2.2.2.2.2.2.2.2.1; have s30 := hX.2.2.2.2.2.2.2.2.2.2.2.2.2.2.2.2.2.2.2.2.2.2.2.2.2.2.2.2.2.2.1; have s31 := hX.2.2.2.2.2.2.2.2.2.2.2.2.2.2.2.2.2.2.2.2.2.2.2.2.2.2.2.2.2.2.2.1; have s32 := hX.2.2.2.2.2.2.2.2.2.2.2.2.2.2.2.2.2.2.2.2.2.2.2.2.2.2.2.2.2.2.2.2.1; have s33 := hX.2.2.2.2.2.2.2.2.2.2.2.2.2.2.2.2.2.2.2.2.2.2.2.2.2.2.2.2.2.2.2.2.2.1; have s34 := hX.2.2.2.2.2.2.2.2.2.2.2.2.2.2.2.2.2.2.2.2.2.2.2.2.2.2.2.2.2.2.2.2.2.2.1; have s35 := hX.2.2.2.2.2.2.2.2.2.2.2.2.2.2.2.2.2.2.2.2.2.2.2.2.2.2.2.2.2.2.2.2.2.2.2.1; have s36 := hX.2.2.2.2.2.2.2.2.2.2.2.2.2.2.2.2.2.2.2.2.2.2.2.2.2.2.2.2.2.2.2.2.2.2.2.2; go_simp; exact stillUpon_value)
       simp only [Act.put, List.setIfInBounds_toArray, List.set_cons_zero, List.set_cons_succ]))
  refine wpO_eff rfl rfl (fun K hK => ?_)
  simp only [List.getElem_toArray, List.getElem_cons_succ, List.getElem_cons_zero]
  go_simp
  refine (zaddrs _).mono ?_
  rintro e v1 ⟨rfl, g⟩
  have R2 := hid (R1.out.trans g (fun _ _ h => h))
  clear g
  refine hK _ _ (fun _ => HX.out _ R2.out) ?_
  clear hK K
  repeat (first
    | (refine wpO_skip rfl rfl ?_; simp only [List.getElem_toArray, List.getElem_cons_succ, List.getElem_cons_zero, Act.put, List.setIfInBounds_toArray, List.set_cons_zero, List.set_cons_succ])
    | (refine wpO_call rfl rfl ?_; simp only [List.getElem_toArray, List.getElem_cons_succ, List.getElem_cons_zero]; apply Exists.intro; refine ⟨fun X hX => ?_, ?_⟩
       · (have s0 := hX.1; have s1 := hX.2.1; have s2 := hX.2.2.1; have s3 := hX.2.2.2.1; have s4 := hX.2.2.2.2.1; have s5 := hX.2.2.2.2.2.1; have s6 := hX.2.2.2.2.2.2.1; have s7 := hX.2.2.2.2.2.2.2.1; have s8 := hX.2.2.2.2.2.2.2.2.1; have s9 := hX.2.2.2.2.2.2.2.2.2.1; have s10 := hX.2.2.2.2.2.2.2.2.2.2.1; have s11 := hX.2.2.2.2.2.2.2.2.2.2.2.1; have s12 := hX.2.2.2.2.2.2.2.2.2.2.2.2.1; have s13 := hX.2.2.2.2.2.2.2.2.2.2.2.2.2.1; have s14 := hX.2.2.2.2.2.2.2.2.2.2.2.2.2.2.1; have s15 := hX.2.2.2.2.2.2.2.2.2.2.2.2.2.2.2.1; have s16 := hX.2.2.2.2.2.2.2.2.2.2.2.2.2.2.2.2.1; have s17 := hX.2.2.2.2.2.2.2.2.2.2.2.2.2.2.2.2.2.1; have s18 := hX.2.2.2.2.2.2.2.2.2.2.2.2.2.2.2.2.2.2.1; have s19 := hX.2.2.2.2.2.2.2.2.2.2.2.2.2.2.2.2.2.2.2.1; have s20 := hX.2.2.2.2.2.2.2.2.2.2.2.2.2.2.2.2.2.2.2.2.1; have s21 := hX.2.2.2.2.2.2.2.2.2.2.2.2.2.2.2.2.2.2.2.2.2.1; have s22 := hX.2.2.2.2.2.2.2.2.2.2.2.2.2.2.2.2.2.2.2.2.2.2.1; have s23 := hX.2.2.2.2.2.2.2.2.2.2.2.2.2.2.2.2.2.2.2.2.2.2.2.1; have s24 := hX.2.2.2.2.2.2.2.2.2.2.2.2.2.2.2.2.2.2.2.2.2.2.2.2.1; have s25 := hX.2.2.2.2.2.2.2.2.2.2.2.2.2.2.2.2.2.2.2.2.2.2.2.2.2.1; have s26 := hX.2.2.2.2.2.2.2.2.2.2.2.2.2.2.2.2.2.2.2.2.2.2.2.2.2.2.1; have s27 := hX.2.2.2.2.2.2.2.2.2.2.2.2.2.2.2.2.2.2.2.2.2.2.2.2.2.2.2.1; have s28 := hX.2.2.2.2.2.2.2.2.2.2.2.2.2.2.2.2.2.2.2.2.2.2.2.2.2.2.2.2.1; have s29 := hX.2.2.2.2.2.2.2.2.2.2.2.2.2.2.2.2.2.2.2.2.2.2.2.2.2.2.2.2.2.1; have s30 := hX.2.2.2.2.2.2.2.2.2.2.2.2.2.2.2.2.2.2.2.2.2.2.2.2.2.2.2.2.2.2.1; have s31 := hX.2.2.2.2.2.2.2.2.2.2.2.2.2.2.2.2.2.2.2.2.2.2.2.2.2.2.2.2.2.2.2.1; have s32 := hX.2.2.2.2.2.2.2.2.2.2.2.2.2.2.2.2.2.2.2.2.2.2.2.2.2.2.2.2.2.2.2.2.1; have s33 := hX.2.2.2.2.2.2.2.2.2.2.2.2.2.2.2.2.2.2.2.2.2.2.2.2.2.2.2.2.2.2.2.2.2.1; have s34 := hX.2.2.2.2.2.2.2.2.2.2.2.2.2.2.2.2.2.2.2.2.2.2.2.2.2.2.2.2.2.2.2.2.2.2.1; have s35 := hX.2.2.2.2.2.2.2.2.2.2.2.2.2.2.2.2.2.2.2.2.2.2.2.2.2.2.2.2.2.2.2.2.2.2.2.1; have s36 := hX.2.2.2.2.2.2.2.2.2.2.2.2.2.2.2.2.2.2.2.2.2.2.2.2.2.2.2.2.2.2.2.2.2.2.2.2; go_simp; exact stillUpon_value)
       simp only [Act.put, List.setIfInBounds_toArray, List.set_cons_zero, List.set_cons_succ]))
  refine wpO_eff rfl rfl (fun K hK => ?_)
  simp only [List.getElem_toArray, List.getElem_cons_succ, List.getElem_cons_zero]
  go_simp
  refine (nInsts _).mono ?_
  rintro e v2 ⟨rfl, g⟩
  have R3 := hid (R2.out.trans g (fun _ _ h => h))
  clear g
  refine hK _ _ (fun _ => HX.out _ R3.out) ?_
  clear hK K
  repeat (first
    | (refine wpO_skip rfl rfl ?_; simp only [List.getElem_toArray, List.getElem_cons_succ, List.getElem_cons_zero, Act.put, List.setIfInBounds_toArray, List.set_cons_zero, List.set_cons_succ])
    | (refine wpO_call rfl rfl ?_; simp only [List.getElem_toArray, List.getElem_cons_succ, List.getElem_cons_zero]; apply Exists.intro; refine ⟨fun X hX => ?_, ?_⟩
       · (have s0 := hX.1; have s1 := hX.2.1; have s2 := hX.2.2.1; have s3 := hX.2.2.2.1; have s4 := hX.2.2.2.2.1; have s5 := hX.2.2.2.2.2.1; have s6 := hX.2.2.2.2.2.2.1; have s7 := hX.2.2.2.2.2.2.2.1; have s8 := hX.2.2.2.2.2.2.2.2.1; have s9 := hX.2.2.2.2.2.2.2.2.2.1; have s10 := hX.2.2.2.2.2.2.2.2.2.2.1; have s11 := hX.2.2.2.2.2.2.2.2.2.2.2.1; have s12 := hX.2.2.2.2.2.2.2.2.2.2.2.2.1; have s13 := hX.2.2.2.2.2.2.2.2.2.2.2.2.2.1; have s14 := hX.2.2.2.2.2.2.2.2.2.2.2.2.2.2.1; have s15 := hX.2.2.2.2.2.2.2.2.2.2.2.2.2.2.2.1; have s16 := hX.2.2.2.2.2.2.2.2.2.2.2.2.2.2.2.2.1; have s17 := hX.2.2.2.2.2.2.2.2.2.2.2.2.2.2.2.2.2.1; have s18 := hX.2.2.2.2.2.2.2.2.2.2.2.2.2.2.2.2.2.2.1; have s19 := hX.2.2.2.2.2.2.2.2.2.2.2.2.2.2.2.2.2.2.2.1; have s20 := hX.2.2.2.2.2.2.2.2.2.2.2.2.2.2.2.2.2.2.2.2.1; have s21 := hX.2.2.2.2.2.2.2.2.2.2.2.2.2.2.2.2.2.2.2.2.2.1; have s22 := hX.2.2.2.2.2.2.2.2.2.2.2.2.2.2.2.2.2.2.2.2.2.2.1; have s23 := hX.2.2.2.2.2.2.2.2.2.2.2.2.2.2.2.2.2.2.2.2.2.2.2.1; have s24 := hX.2.2.2.2.2.2.2.2.2.2.2.2.2.2.2.2.2.2.2.2.2.2.2.2.1; have s25 := hX.2.2.2.2.2.2.2.2.2.2.2.2.2.2.2.2.2.2.2.2.2.2.2.2.2.1; have s26 := hX.2.2.2.2.2.2.2.2.2.2.2.2.2.2.2.2.2.2.2.2.2.2.2.2.2.2.1; have s27 := hX.2.2.2.2.2.2.2.2.2.2.2.2.2.2.2.2.2.2.2.2.2.2.2.2.2.2.2.1; have s28 := hX.2.2.2.2.2.2.2.2.2.2.2.2.2.2.2.2.2.2.2.2.2.2.2.2.2.2.2.2.1; have s29 := hX.2.2.2.2.2.2.2.2.2.2.2.2.2.2.2.2.2.2.2.2.2.2.2.2.2.2.2.2.2.1; have s30 := hX.2.2.2.2.2.2.2.2.2.2.2.2.2.2.2.2.2.2.2.2.2.2.2.2.2.2.2.2.2.2.1; have s31 := hX.2.2.2.2.2.2.2.2.2.2.2.2.2.2.2.2.2.2.2.2.2.2.2.2.2.2.2.2.2.2.2.1; have s32 := hX.2.2.2.2.2.2.2.2.2.2.2.2.2.2.2.2.2.2.2.2.2.2.2.2.2.2.2.2.2.2.2.2.1; have s33 := hX.2.2.2.2.2.2.2.2.2.2.2.2.2.2.2.2.2.2.2.2.2.2.2.2.2.2.2.2.2.2.2.2.2.1; have s34 := hX.2.2.2.2.2.2.2.2.2.2.2.2.2.2.2.2.2.2.2.2.2.2.2.2.2.2.2.2.2.2.2.2.2.2.1; have s35 := hX.2.2.2.2.2.2.2.2.2.2.2.2.2.2.2.2.2.2.2.2.2.2.2.2.2.2.2.2.2.2.2.2.2.2.2.1; have s36 := hX.2.2.2.2.2.2.2.2.2.2.2.2.2.2.2.2.2.2.2.2.2.2.2.2.2.2.2.2.2.2.2.2.2.2.2.2; go_simp; exact stillUpon_value)
       simp only [Act.put, List.setIfInBounds_toArray, List.set_cons_zero, List.set_cons_succ]))
  refine wpO_nil ?_
  go_wp2
  go_ret
  exact ⟨rfl, F.out.trans R3.out (fun _ _ h => h)⟩
end Go.Proofs.YtdckghiipijobaaGreat

namespace Go.Proofs.YtdckghiipijobaaGreat
open Go.RowKit

def zSh : Sh := ⟨[], [], [], [], [], []⟩
theorem zSh_rd (w : World) : tSh.rd w (fun _ => False) [.slice none 0 0, .slice none 0 0, .slice none 0 0, .slice none 0 0, .slice none 0 0, .slice none 0 0] zSh := by
  have z : 0 ≤ maxLen := Nat.zero_le _
  exact Sh_mk (a := zSh) (Nat.le_refl 0) z (.inl rfl) (Nat.le_refl 0) z (.inl rfl) (Nat.le_refl 0) z (.inl rfl) (Nat.le_refl 0) z (.inl rfl) (Nat.le_refl 0) z (.inl rfl) (Nat.le_refl 0) z (.inl rfl)
theorem zSh_le : ShLe zSh := ⟨by decide, by decide, by decide, by decide, by decide, by decide, (by intro x hx; cases hx), (by intro x hx; cases hx), (by intro x hx; cases hx)⟩
theorem zSameSh (w : World) : Calls Tryz.prog 14 #[.agg #[.slice none 0 0, .slice none 0 0, .slice none 0 0, .slice none 0 0, .slice none 0 0, .slice none 0 0], .agg #[.slice none 0 0, .slice none 0 0, .slice none 0 0, .slice none 0 0, .slice none 0 0, .slice none 0 0]] w fun e w' => e = .returned (.bool true) ∧ Fr No w w' := by
  have h := rsame31_any zSh zSh _ _ (fun _ => False) (fun _ => False) w (zSh_rd w) (zSh_rd w) (fun _ h => h.elim) (fun _ h => h.elim) zSh_le zSh_le
  rw [shEq_self] at h
  exact h
set_option maxRecDepth 100000 in
set_option maxHeartbeats 6400000 in
theorem storeNone_walk (w : World) (v0 : Value) (a : At) (y0 : tAt.rd w (· < w.heap.size) v0.cells.toList a) (u0 : tAt.lw 140737488351232 a) (hv0 : ∃ cs, v0 = .agg cs) :
    Calls Tryz.prog 4 #[v0] w fun e w' => e = .returned (.bool true) ∧ Below w.heap.size w w' := by
  obtain ⟨cs, rfl⟩ := hv0
  have ha : tAt.rd w (· < w.heap.size) cs.toList a := y0
  clear y0 u0
  suffices h : Calls Tryz.prog 4 #[.agg cs] w fun e w' => e = .returned (.bool true) ∧ Fr No w w' from h.mono fun e w' ⟨h1, h2⟩ => ⟨h1, h2.below⟩
  obtain ⟨Afunc_ty_params, cfunc_ty_params, Afunc_ty_results, cfunc_ty_results, Arefs, crefs, Ab, cb, Am_types, cm_types, Am_imports, cm_imports, Am_funcs, cm_funcs, Am_tables, cm_tables, Am_mems, cm_mems, Am_globals, cm_globals, Am_exports, cm_exports, Am_elems, cm_elems, Am_datas, cm_datas, Am_customs, cm_customs, Aa_funcs, ca_funcs, Aa_tables, ca_tables, Aa_mems, ca_mems, Aa_globals, ca_globals, Aa_elems, ca_elems, Aa_datas, ca_datas, Aargs, cargs, ea, -⟩ := At_cells ha
  obtain ⟨ds, hds⟩ : ∃ ds, ds = cs.toList := ⟨_, rfl⟩
  obtain rfl : cs = ds.toArray := by rw [hds]
  rw [← hds] at ea
  clear hds ha
  have HI : Hid (∀ n, n = 38 → (Tryz.prog.info? 76).map (·.size) = some n) := by rintro _ rfl; kernel_rfl
  have HL : Hid (ds.length = 38) := by rw [ea]; rfl
  have HO : Hid (ds.all (·.oneCell') = true) := by rw [ea]; rfl
  have HZ : Hid (∀ (X : World) (q : Nat), X.rangeAt q 0 ds → X.cell? ⟨q, 0, none⟩ = some (.int .i64 a.call) ∧ X.cell? ⟨q, 1, none⟩ = some (.int .i64 a.addr) ∧ X.cell? ⟨q, 2, none⟩ = some (.slice Afunc_ty_params a.func.ty.params.length cfunc_ty_params) ∧ X.cell? ⟨q, 3, none⟩ = some (.slice Afunc_ty_results a.func.ty.results.length cfunc_ty_results) ∧ X.cell? ⟨q, 4, none⟩ = some (.int .i64 a.func.inst) ∧ X.cell? ⟨q, 5, none⟩ = some (.int .i64 a.func.index) ∧ X.cell? ⟨q, 6, none⟩ = some (.int .i64 a.table.elem) ∧ X.cell? ⟨q, 7, none⟩ = some (.int .i64 a.table.lim.min) ∧ X.cell? ⟨q, 8, none⟩ = some (.int .i64 a.table.lim.max) ∧ X.cell? ⟨q, 9, none⟩ = some (.bool a.table.lim.has) ∧ X.cell? ⟨q, 10, none⟩ = some (.int .i64 a.mem.min) ∧ X.cell? ⟨q, 11, none⟩ = some (.int .i64 a.mem.max) ∧ X.cell? ⟨q, 12, none⟩ = some (.bool a.mem.has) ∧ X.cell? ⟨q, 13, none⟩ = some (.int .i64 a.g.val) ∧ X.cell? ⟨q, 14, none⟩ = some (.bool a.g.mut_) ∧ X.cell? ⟨q, 15, none⟩ = some (.int .i64 a.v.t) ∧ X.cell? ⟨q, 16, none⟩ = some (.int .u64 a.v.n) ∧ X.cell? ⟨q, 17, none⟩ = some (.slice Arefs a.refs.length crefs) ∧ X.cell? ⟨q, 18, none⟩ = some (.slice Ab a.b.length cb) ∧ X.cell? ⟨q, 19, none⟩ = some (.slice Am_types a.m.types.length cm_types) ∧ X.cell? ⟨q, 20, none⟩ = some (.slice Am_imports a.m.imports.length cm_imports) ∧ X.cell? ⟨q, 21, none⟩ = some (.slice Am_funcs a.m.funcs.length cm_funcs) ∧ X.cell? ⟨q, 22, none⟩ = some (.slice Am_tables a.m.tables.length cm_tables) ∧ X.cell? ⟨q, 23, none⟩ = some (.slice Am_mems a.m.mems.length cm_mems) ∧ X.cell? ⟨q, 24, none⟩ = some (.slice Am_globals a.m.globals.length cm_globals) ∧ X.cell? ⟨q, 25, none⟩ = some (.slice Am_exports a.m.exports.length cm_exports) ∧ X.cell? ⟨q, 26, none⟩ = some (.bool a.m.hasStart) ∧ X.cell? ⟨q, 27, none⟩ = some (.int .i64 a.m.start) ∧ X.cell? ⟨q, 28, none⟩ = some (.slice Am_elems a.m.elems.length cm_elems) ∧ X.cell? ⟨q, 29, none⟩ = some (.slice Am_datas a.m.datas.length cm_datas) ∧ X.cell? ⟨q, 30, none⟩ = some (.slice Am_customs a.m.customs.length cm_customs) ∧ X.cell? ⟨q, 31, none⟩ = some (.slice Aa_funcs a.a.funcs.length ca_funcs) ∧ X.cell? ⟨q, 32, none⟩ = some (.slice Aa_tables a.a.tables.length ca_tables) ∧ X.cell? ⟨q, 33, none⟩ = some (.slice Aa_mems a.a.mems.length ca_mems) ∧ X.cell? ⟨q, 34, none⟩ = some (.slice Aa_globals a.a.globals.length ca_globals) ∧ X.cell? ⟨q, 35, none⟩ = some (.slice Aa_elems a.a.elems.length ca_elems) ∧ X.cell? ⟨q, 36, none⟩ = some (.slice Aa_datas a.a.datas.length ca_datas) ∧ X.cell? ⟨q, 37, none⟩ = some (.slice Aargs a.args.length cargs)) := by
    intro X q b
    rw [ea] at b
    exact ⟨(by have := b 0 _ rfl; rwa [Nat.zero_add] at this), (by have := b 1 _ rfl; rwa [Nat.zero_add] at this), (by have := b 2 _ rfl; rwa [Nat.zero_add] at this), (by have := b 3 _ rfl; rwa [Nat.zero_add] at this), (by have := b 4 _ rfl; rwa [Nat.zero_add] at this), (by have := b 5 _ rfl; rwa [Nat.zero_add] at this), (by have := b 6 _ rfl; rwa [Nat.zero_add] at this), (by have := b 7 _ rfl; rwa [Nat.zero_add] at this), (by have := b 8 _ rfl; rwa [Nat.zero_add] at this), (by have := b 9 _ rfl; rwa [Nat.zero_add] at this), (by have := b 10 _ rfl; rwa [Nat.zero_add] at this), (by have := b 11 _ rfl; rwa [Nat.zero_add] at this), (by have := b 12 _ rfl; rwa [Nat.zero_add] at this), (by have := b 13 _ rfl; rwa [Nat.zero_add] at this), (by have := b 14 _ rfl; rwa [Nat.zero_add] at this), (by have := b 15 _ rfl; rwa [Nat.zero_add] at this), (by have := b 16 _ rfl; rwa [Nat.zero_add] at this), (by have := b 17 _ rfl; rwa [Nat.zero_add] at this), (by have := b 18 _ rfl; rwa [Nat.zero_add] at this), (by have := b 19 _ rfl; rwa [Nat.zero_add] at this), (by have := b 20 _ rfl; rwa [Nat.zero_add] at this), (by have := b 21 _ rfl; rwa [Nat.zero_add] at this), (by have := b 22 _ rfl; rwa [Nat.zero_add] at this), (by have := b 23 _ rfl; rwa [Nat.zero_add] at this), (by have := b 24 _ rfl; rwa [Nat.zero_add] at this), (by have := b 25 _ rfl; rwa [Nat.zero_add] at this), (by have := b 26 _ rfl; rwa [Nat.zero_add] at this), (by have := b 27 _ rfl; rwa [Nat.zero_add] at this), (by have := b 28 _ rfl; rwa [Nat.zero_add] at this), (by have := b 29 _ rfl; rwa [Nat.zero_add] at this), (by have := b 30 _ rfl; rwa [Nat.zero_add] at this), (by have := b 31 _ rfl; rwa [Nat.zero_add] at this), (by have := b 32 _ rfl; rwa [Nat.zero_add] at this), (by have := b 33 _ rfl; rwa [Nat.zero_add] at this), (by have := b 34 _ rfl; rwa [Nat.zero_add] at this), (by have := b 35 _ rfl; rwa [Nat.zero_add] at this), (by have := b 36 _ rfl; rwa [Nat.zero_add] at this), (by have := b 37 _ rfl; rwa [Nat.zero_add] at this)⟩
  have HF := hid (fun (g c0 : Nat) (X : World) => few1_any a Afunc_ty_params cfunc_ty_params Afunc_ty_results cfunc_ty_results Arefs crefs Ab cb Am_types cm_types Am_imports cm_imports Am_funcs cm_funcs Am_tables cm_tables Am_mems cm_mems Am_globals cm_globals Am_exports cm_exports Am_elems cm_elems Am_datas cm_datas Am_customs cm_customs Aa_funcs ca_funcs Aa_tables ca_tables Aa_mems ca_mems Aa_globals ca_globals Aa_elems ca_elems Aa_datas ca_datas Aargs cargs g c0 X ds ea)
  clear ea
  have F := hid ((Fr.refl No w).alloc (.cells ds.toArray 76))
  have B0 := hid (Blk.new w 76 ds.toArray)
  go_enter Tryz.func4, Tryz.ntmps4
  go_upto_region 1 with fail
  generalize w.alloc (.cells ds.toArray 76) = W at *
  generalize w.heap.size = p at *
  have R0 : W.rangeAt p 0 ds := rangeAt_blk B0.out
  have hl38 := HL.out
  go_wp2_with (first
      | (refine wpList_load_mid (by rfl) 76 _ (by rfl) p 0 (by rfl) _ _ R0 Tryz.underlying76 (by rfl) (HI.out _ HL.out) ?_)
      | fail)
  rw [fold_set (Eq.trans (by rfl) HL.out.symm)]
  clear R0 hl38
  have g := (Fr.refl No W).alloc (.cells ds.toArray 76)
  have Bx := hid (fun X (f : Fr No W X) => HZ.out X p (rangeAt_blk (B0.out.fr f (fun x => x))))
  have B1 := hid (Blk.new W 76 ds.toArray)
  clear B0
  generalize W.alloc (.cells ds.toArray 76) = W1 at *
  generalize W.heap.size = p1 at *
  replace F := hid (F.out.trans g (fun _ _ h => h))
  replace Bx := hid (fun X (f : Fr No W1 X) => Bx.out X (g.trans f (fun _ _ h => h)))
  clear g
  refine (HF.out p1 1 W1 (fun X f => rangeAt_blk (B1.out.fr f (fun x => x)))).mono ?_
  rintro e w0 ⟨⟨r, rfl⟩, g⟩
  replace F := hid (F.out.trans g (fun _ _ h => h))
  replace Bx := hid (fun X (f : Fr No w0 X) => Bx.out X (g.trans f (fun _ _ h => h)))
  clear g B1 HF HZ HL HI HO
  cases r with
  | false =>
    go_wp2_with fail
    refine (alive_any _).mono ?_
    rintro e wx ⟨rfl, g⟩
    replace F := hid (F.out.trans g (fun _ _ h => h))
    clear g Bx
    go_wp2
    go_ret
    exact ⟨rfl, F.out⟩
  | true =>
  go_upto_region 4 with fail
  first | simp only [List.append_eq, List.cons_append, List.nil_append] | simp only [List.append] | simp only [HAppend.hAppend, Append.append, List.append] | skip
  have x2 := (Bx.out _ (Fr.refl No _)).2.2.1
  have x3 := (Bx.out _ (Fr.refl No _)).2.2.2.1
  have x4 := (Bx.out _ (Fr.refl No _)).2.2.2.2.1
  have x5 := (Bx.out _ (Fr.refl No _)).2.2.2.2.2.1
  go_wp2_with fail
  refine (nAddFunc _ _ _ _ _).mono ?_
  rintro e w1 ⟨rfl, g⟩
  clear x2 x3 x4 x5
  replace F := hid (F.out.trans g (fun _ _ h => h))
  replace Bx := hid (fun X (f : Fr No w1 X) => Bx.out X (g.trans f (fun _ _ h => h)))
  clear g
  have x6 := (Bx.out _ (Fr.refl No _)).2.2.2.2.2.2.1
  have x7 := (Bx.out _ (Fr.refl No _)).2.2.2.2.2.2.2.1
  have x8 := (Bx.out _ (Fr.refl No _)).2.2.2.2.2.2.2.2.1
  have x9 := (Bx.out _ (Fr.refl No _)).2.2.2.2.2.2.2.2.2.1
  go_wp2_with fail
  refine (nAddTable _ _ _ _ _).mono ?_
  rintro e w2 ⟨rfl, g⟩
  clear x6 x7 x8 x9
  replace F := hid (F.out.trans g (fun _ _ h => h))
  replace Bx := hid (fun X (f : Fr No w2 X) => Bx.out X (g.trans f (fun _ _ h => h)))
  clear g
  have x10 := (Bx.out _ (Fr.refl No _)).2.2.2.2.2.2.2.2.2.2.1
  have x11 := (Bx.out _ (Fr.refl No _)).2.2.2.2.2.2.2.2.2.2.2.1
  have x12 := (Bx.out _ (Fr.refl No _)).2.2.2.2.2.2.2.2.2.2.2.2.1
  go_wp2_with fail
  refine (nAddMem a.mem _).mono ?_
  rintro e w3 ⟨rfl, g⟩
  clear x10 x11 x12
  replace F := hid (F.out.trans g (fun _ _ h => h))
  replace Bx := hid (fun X (f : Fr No w3 X) => Bx.out X (g.trans f (fun _ _ h => h)))
  clear g
  have x13 := (Bx.out _ (Fr.refl No _)).2.2.2.2.2.2.2.2.2.2.2.2.2.1
  have x14 := (Bx.out _ (Fr.refl No _)).2.2.2.2.2.2.2.2.2.2.2.2.2.2.1
  have x15 := (Bx.out _ (Fr.refl No _)).2.2.2.2.2.2.2.2.2.2.2.2.2.2.2.1
  have x16 := (Bx.out _ (Fr.refl No _)).2.2.2.2.2.2.2.2.2.2.2.2.2.2.2.2.1
  go_wp2_with fail
  refine (nAddGlobal _ _ _ _ _).mono ?_
  rintro e w4 ⟨rfl, g⟩
  clear x13 x14 x15 x16
  replace F := hid (F.out.trans g (fun _ _ h => h))
  replace Bx := hid (fun X (f : Fr No w4 X) => Bx.out X (g.trans f (fun _ _ h => h)))
  clear g
  have x17 := (Bx.out _ (Fr.refl No _)).2.2.2.2.2.2.2.2.2.2.2.2.2.2.2.2.2.1
  go_wp2_with fail
  refine (nAddElem _ _).mono ?_
  rintro e w5 ⟨rfl, g⟩
  clear x17
  replace F := hid (F.out.trans g (fun _ _ h => h))
  replace Bx := hid (fun X (f : Fr No w5 X) => Bx.out X (g.trans f (fun _ _ h => h)))
  clear g
  have x18 := (Bx.out _ (Fr.refl No _)).2.2.2.2.2.2.2.2.2.2.2.2.2.2.2.2.2.2.1
  go_wp2_with fail
  refine (nAddData _ _).mono ?_
  rintro e w6 ⟨rfl, g⟩
  clear x18
  replace F := hid (F.out.trans g (fun _ _ h => h))
  replace Bx := hid (fun X (f : Fr No w6 X) => Bx.out X (g.trans f (fun _ _ h => h)))
  clear g
  have x19 := (Bx.out _ (Fr.refl No _)).2.2.2.2.2.2.2.2.2.2.2.2.2.2.2.2.2.2.2.1
  have x20 := (Bx.out _ (Fr.refl No _)).2.2.2.2.2.2.2.2.2.2.2.2.2.2.2.2.2.2.2.2.1
  have x21 := (Bx.out _ (Fr.refl No _)).2.2.2.2.2.2.2.2.2.2.2.2.2.2.2.2.2.2.2.2.2.1
  have x22 := (Bx.out _ (Fr.refl No _)).2.2.2.2.2.2.2.2.2.2.2.2.2.2.2.2.2.2.2.2.2.2.1
  have x23 := (Bx.out _ (Fr.refl No _)).2.2.2.2.2.2.2.2.2.2.2.2.2.2.2.2.2.2.2.2.2.2.2.1
  have x24 := (Bx.out _ (Fr.refl No _)).2.2.2.2.2.2.2.2.2.2.2.2.2.2.2.2.2.2.2.2.2.2.2.2.1
  have x25 := (Bx.out _ (Fr.refl No _)).2.2.2.2.2.2.2.2.2.2.2.2.2.2.2.2.2.2.2.2.2.2.2.2.2.1
  have x26 := (Bx.out _ (Fr.refl No _)).2.2.2.2.2.2.2.2.2.2.2.2.2.2.2.2.2.2.2.2.2.2.2.2.2.2.1
  have x27 := (Bx.out _ (Fr.refl No _)).2.2.2.2.2.2.2.2.2.2.2.2.2.2.2.2.2.2.2.2.2.2.2.2.2.2.2.1
  have x28 := (Bx.out _ (Fr.refl No _)).2.2.2.2.2.2.2.2.2.2.2.2.2.2.2.2.2.2.2.2.2.2.2.2.2.2.2.2.1
  have x29 := (Bx.out _ (Fr.refl No _)).2.2.2.2.2.2.2.2.2.2.2.2.2.2.2.2.2.2.2.2.2.2.2.2.2.2.2.2.2.1
  have x30 := (Bx.out _ (Fr.refl No _)).2.2.2.2.2.2.2.2.2.2.2.2.2.2.2.2.2.2.2.2.2.2.2.2.2.2.2.2.2.2.1
  have x31 := (Bx.out _ (Fr.refl No _)).2.2.2.2.2.2.2.2.2.2.2.2.2.2.2.2.2.2.2.2.2.2.2.2.2.2.2.2.2.2.2.1
  have x32 := (Bx.out _ (Fr.refl No _)).2.2.2.2.2.2.2.2.2.2.2.2.2.2.2.2.2.2.2.2.2.2.2.2.2.2.2.2.2.2.2.2.1
  have x33 := (Bx.out _ (Fr.refl No _)).2.2.2.2.2.2.2.2.2.2.2.2.2.2.2.2.2.2.2.2.2.2.2.2.2.2.2.2.2.2.2.2.2.1
  have x34 := (Bx.out _ (Fr.refl No _)).2.2.2.2.2.2.2.2.2.2.2.2.2.2.2.2.2.2.2.2.2.2.2.2.2.2.2.2.2.2.2.2.2.2.1
  have x35 := (Bx.out _ (Fr.refl No _)).2.2.2.2.2.2.2.2.2.2.2.2.2.2.2.2.2.2.2.2.2.2.2.2.2.2.2.2.2.2.2.2.2.2.2.1
  have x36 := (Bx.out _ (Fr.refl No _)).2.2.2.2.2.2.2.2.2.2.2.2.2.2.2.2.2.2.2.2.2.2.2.2.2.2.2.2.2.2.2.2.2.2.2.2.1
  go_wp2_with fail
  refine (nAddInst _ _ _ _ _ _ _ _ _ _ _ _ _ _ _ _ _ _ _).mono ?_
  rintro e w7 ⟨rfl, g⟩
  clear x19 x20 x21 x22 x23 x24 x25 x26 x27 x28 x29 x30 x31 x32 x33 x34 x35 x36
  replace F := hid (F.out.trans g (fun _ _ h => h))
  replace Bx := hid (fun X (f : Fr No w7 X) => Bx.out X (g.trans f (fun _ _ h => h)))
  clear g
  have x1 := (Bx.out _ (Fr.refl No _)).2.1
  have x15 := (Bx.out _ (Fr.refl No _)).2.2.2.2.2.2.2.2.2.2.2.2.2.2.2.1
  have x16 := (Bx.out _ (Fr.refl No _)).2.2.2.2.2.2.2.2.2.2.2.2.2.2.2.2.1
  go_wp2_with fail
  refine (nSetGlobal _ _ _ _).mono ?_
  rintro e w8 ⟨rfl, g⟩
  clear x1 x15 x16
  replace F := hid (F.out.trans g (fun _ _ h => h))
  replace Bx := hid (fun X (f : Fr No w8 X) => Bx.out X (g.trans f (fun _ _ h => h)))
  clear g
  go_wp2_with fail
  refine (nInsts _).mono ?_
  rintro e w9 ⟨rfl, g⟩
  replace F := hid (F.out.trans g (fun _ _ h => h))
  replace Bx := hid (fun X (f : Fr No w9 X) => Bx.out X (g.trans f (fun _ _ h => h)))
  clear g
  have x1 := (Bx.out _ (Fr.refl No _)).2.1
  go_wp2_with fail
  refine (nDropElem _ _).mono ?_
  rintro e w10 ⟨rfl, g⟩
  clear x1
  replace F := hid (F.out.trans g (fun _ _ h => h))
  replace Bx := hid (fun X (f : Fr No w10 X) => Bx.out X (g.trans f (fun _ _ h => h)))
  clear g
  have x1 := (Bx.out _ (Fr.refl No _)).2.1
  go_wp2_with fail
  refine (nDropData _ _).mono ?_
  rintro e w11 ⟨rfl, g⟩
  clear x1
  replace F := hid (F.out.trans g (fun _ _ h => h))
  replace Bx := hid (fun X (f : Fr No w11 X) => Bx.out X (g.trans f (fun _ _ h => h)))
  clear g
  have x1 := (Bx.out _ (Fr.refl No _)).2.1
  have x37 := (Bx.out _ (Fr.refl No _)).2.2.2.2.2.2.2.2.2.2.2.2.2.2.2.2.2.2.2.2.2.2.2.2.2.2.2.2.2.2.2.2.2.2.2.2.2
  go_wp2_with fail
  refine (nCall _ _ _).mono ?_
  rintro e w12 ⟨rfl, g⟩
  clear x1 x37
  replace F := hid (F.out.trans g (fun _ _ h => h))
  replace Bx := hid (fun X (f : Fr No w12 X) => Bx.out X (g.trans f (fun _ _ h => h)))
  clear g
  go_wp2_with fail
  refine (nClone _).mono ?_
  rintro e w13 ⟨rfl, g⟩
  replace F := hid (F.out.trans g (fun _ _ h => h))
  replace Bx := hid (fun X (f : Fr No w13 X) => Bx.out X (g.trans f (fun _ _ h => h)))
  clear g
  have x1 := (Bx.out _ (Fr.refl No _)).2.1
  go_wp2_with fail
  refine (nMem _ _).mono ?_
  rintro e w14 ⟨rfl, g⟩
  clear x1
  replace F := hid (F.out.trans g (fun _ _ h => h))
  replace Bx := hid (fun X (f : Fr No w14 X) => Bx.out X (g.trans f (fun _ _ h => h)))
  clear g
  have x1 := (Bx.out _ (Fr.refl No _)).2.1
  go_wp2_with fail
  refine (nTable _ _).mono ?_
  rintro e w15 ⟨rfl, g⟩
  clear x1
  replace F := hid (F.out.trans g (fun _ _ h => h))
  replace Bx := hid (fun X (f : Fr No w15 X) => Bx.out X (g.trans f (fun _ _ h => h)))
  clear g
  have x1 := (Bx.out _ (Fr.refl No _)).2.1
  go_wp2_with fail
  refine (asked_nil a.addr _).mono ?_
  rintro e w16 ⟨rfl, g⟩
  clear x1
  replace F := hid (F.out.trans g (fun _ _ h => h))
  replace Bx := hid (fun X (f : Fr No w16 X) => Bx.out X (g.trans f (fun _ _ h => h)))
  clear g
  go_wp2_with fail
  refine (nShot _).mono ?_
  rintro e w17 ⟨rfl, g⟩
  replace F := hid (F.out.trans g (fun _ _ h => h))
  replace Bx := hid (fun X (f : Fr No w17 X) => Bx.out X (g.trans f (fun _ _ h => h)))
  clear g
  go_wp2_with fail
  refine (zSameSh _).mono ?_
  rintro e w18 ⟨rfl, g⟩
  replace F := hid (F.out.trans g (fun _ _ h => h))
  replace Bx := hid (fun X (f : Fr No w18 X) => Bx.out X (g.trans f (fun _ _ h => h)))
  clear g
  go_wp2_with fail
  refine (alive_any _).mono ?_
  rintro e w19 ⟨rfl, g⟩
  replace F := hid (F.out.trans g (fun _ _ h => h))
  replace Bx := hid (fun X (f : Fr No w19 X) => Bx.out X (g.trans f (fun _ _ h => h)))
  clear g
  go_wp2
  go_ret
  exact ⟨rfl, F.out⟩
end Go.Proofs.YtdckghiipijobaaGreat
