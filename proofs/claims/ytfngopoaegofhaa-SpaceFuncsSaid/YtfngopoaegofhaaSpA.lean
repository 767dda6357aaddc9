/- Types of data as structures, with their readings. -/
import Derived.Test.YtfngopoaegofhaaSels
namespace Go.Proofs.Ytfngopoaegofhaa
open Go.RowKit

structure Fn where
  params : List Int
  results : List Int
def tFn0 : Ty (List Int × List Int) := (Ty.int .i64).slice.pair ((Ty.int .i64).slice)
def tFn : Ty Fn := tFn0.iso fun a => (a.params, a.results)
instance : TyOk tFn := by unfold tFn tFn0; infer_instance
instance : TyMore tFn := by unfold tFn tFn0; infer_instance
instance : TyOne tFn := by unfold tFn tFn0; infer_instance
theorem opens_Fn : Opens Try.prog 38 tFn := by
  refine opens_iso _ (fun x => ⟨x.1, x.2⟩) (fun _ => rfl) ?_
  exact opens_struct Try.underlying38 (by kernel_rfl) (Flds.cons rfl (by kernel_rfl) (opens_slice Try.underlying36 (by kernel_rfl) (by decide) (opens_int Try.underlying50)) (Flds.one rfl (by kernel_rfl) (opens_slice Try.underlying36 (by kernel_rfl) (by decide) (opens_int Try.underlying50))))
theorem Fn_cells {w : World} {S : Nat → Prop} {cs : List Value} {a : Fn} (h : tFn.rd w S cs a) : ∃ (Aparams : Option Addr) (cparams : Nat) (Aresults : Option Addr) (cresults : Nat), cs = [.slice Aparams a.params.length cparams, .slice Aresults a.results.length cresults] ∧ a.params.length ≤ cparams ∧ cparams ≤ maxLen ∧ (Ty.int .i64).els w S Aparams a.params ∧ a.results.length ≤ cresults ∧ cresults ≤ maxLen ∧ (Ty.int .i64).els w S Aresults a.results := by
  obtain ⟨xparams, rparams, rfl, ⟨Aparams, cparams, rfl, gparams, mparams, eparams⟩, Aresults, cresults, rfl, gresults, mresults, eresults⟩ := h
  exact ⟨Aparams, cparams, Aresults, cresults, rfl, gparams, mparams, eparams, gresults, mresults, eresults⟩
theorem Fn_mk {w : World} {S : Nat → Prop} {a : Fn} {Aparams : Option Addr} {cparams : Nat} {Aresults : Option Addr} {cresults : Nat} (f0 : a.params.length ≤ cparams) (f1 : cparams ≤ maxLen) (f2 : (Ty.int .i64).els w S Aparams a.params) (f3 : a.results.length ≤ cresults) (f4 : cresults ≤ maxLen) (f5 : (Ty.int .i64).els w S Aresults a.results) : tFn.rd w S [.slice Aparams a.params.length cparams, .slice Aresults a.results.length cresults] a :=
  ⟨[.slice Aparams a.params.length cparams], [.slice Aresults a.results.length cresults], rfl, ⟨_, _, rfl, f0, f1, f2⟩, ⟨_, _, rfl, f3, f4, f5⟩⟩
theorem Fn_at {w : World} {S : Nat → Prop} {A : Option Addr} {l : List Fn} (h : tFn.els w S A l) (k : Nat) (hk : k < l.length) : ∃ (b o : Nat) (Aparams : Option Addr) (cparams : Nat) (Aresults : Option Addr) (cresults : Nat), A = some ⟨b, o, none⟩ ∧ S b ∧ w.cell? ⟨b, o + k * 2, none⟩ = some (.slice Aparams l[k].params.length cparams) ∧ w.cell? ⟨b, o + k * 2 + 1, none⟩ = some (.slice Aresults l[k].results.length cresults) ∧ l[k].params.length ≤ cparams ∧ cparams ≤ maxLen ∧ (Ty.int .i64).els w S Aparams l[k].params ∧ l[k].results.length ≤ cresults ∧ cresults ≤ maxLen ∧ (Ty.int .i64).els w S Aresults l[k].results := by
  obtain ⟨b, o, ds, rfl, hb, hc, hr⟩ := h.at_ k hk
  obtain ⟨Aparams, cparams, Aresults, cresults, rfl, f0, f1, f2, f3, f4, f5⟩ := Fn_cells hr
  have e : tFn.size = 2 := rfl
  rw [e] at hc
  exact ⟨b, o, Aparams, cparams, Aresults, cresults, rfl, hb, hc 0 _ rfl, (by have := hc 1 _ rfl; rwa [← Nat.add_assoc] at this), f0, f1, f2, f3, f4, f5⟩

structure Lim where
  min : Int
  max : Int
  has : Bool
def tLim0 : Ty (Int × Int × Bool) := (Ty.int .i64).pair ((Ty.int .i64).pair (Ty.bool))
def tLim : Ty Lim := tLim0.iso fun a => (a.min, a.max, a.has)
instance : TyOk tLim := by unfold tLim tLim0; infer_instance
instance : TyMore tLim := by unfold tLim tLim0; infer_instance
instance : TyOne tLim := by unfold tLim tLim0; infer_instance
theorem opens_Lim : Opens Try.prog 58 tLim := by
  refine opens_iso _ (fun x => ⟨x.1, x.2.1, x.2.2⟩) (fun _ => rfl) ?_
  exact opens_struct Try.underlying58 (by kernel_rfl) (Flds.cons rfl (by kernel_rfl) (opens_int Try.underlying3) (Flds.cons rfl (by kernel_rfl) (opens_int Try.underlying3) (Flds.one rfl (by kernel_rfl) (opens_bool Try.underlying4))))
theorem Lim_cells {w : World} {S : Nat → Prop} {cs : List Value} {a : Lim} (h : tLim.rd w S cs a) : cs = [.int .i64 a.min, .int .i64 a.max, .bool a.has] ∧ (Lit.int .i64 a.min).wf = true ∧ (Lit.int .i64 a.max).wf = true := by
  obtain ⟨xmin, rmin, rfl, ⟨rfl, wmin⟩, xmax, rmax, rfl, ⟨rfl, wmax⟩, rfl⟩ := h
  exact ⟨rfl, wmin, wmax⟩
theorem Lim_mk {w : World} {S : Nat → Prop} {a : Lim}  (f0 : (Lit.int .i64 a.min).wf = true) (f1 : (Lit.int .i64 a.max).wf = true) : tLim.rd w S [.int .i64 a.min, .int .i64 a.max, .bool a.has] a :=
  ⟨[.int .i64 a.min], [.int .i64 a.max, .bool a.has], rfl, ⟨rfl, f0⟩, ⟨[.int .i64 a.max], [.bool a.has], rfl, ⟨rfl, f1⟩, rfl⟩⟩
theorem Lim_at {w : World} {S : Nat → Prop} {A : Option Addr} {l : List Lim} (h : tLim.els w S A l) (k : Nat) (hk : k < l.length) : ∃ (b o : Nat), A = some ⟨b, o, none⟩ ∧ S b ∧ w.cell? ⟨b, o + k * 3, none⟩ = some (.int .i64 l[k].min) ∧ w.cell? ⟨b, o + k * 3 + 1, none⟩ = some (.int .i64 l[k].max) ∧ w.cell? ⟨b, o + k * 3 + 2, none⟩ = some (.bool l[k].has) ∧ (Lit.int .i64 l[k].min).wf = true ∧ (Lit.int .i64 l[k].max).wf = true := by
  obtain ⟨b, o, ds, rfl, hb, hc, hr⟩ := h.at_ k hk
  obtain ⟨rfl, f0, f1⟩ := Lim_cells hr
  have e : tLim.size = 3 := rfl
  rw [e] at hc
  exact ⟨b, o, rfl, hb, hc 0 _ rfl, (by have := hc 1 _ rfl; rwa [← Nat.add_assoc] at this), (by have := hc 2 _ rfl; rwa [← Nat.add_assoc] at this), f0, f1⟩

structure Tb where
  elem : Int
  lim : Lim
def tTb0 : Ty (Int × Lim) := (Ty.int .i64).pair (tLim)
def tTb : Ty Tb := tTb0.iso fun a => (a.elem, a.lim)
instance : TyOk tTb := by unfold tTb tTb0; infer_instance
instance : TyMore tTb := by unfold tTb tTb0; infer_instance
instance : TyOne tTb := by unfold tTb tTb0; infer_instance
theorem opens_Tb : Opens Try.prog 60 tTb := by
  refine opens_iso _ (fun x => ⟨x.1, x.2⟩) (fun _ => rfl) ?_
  exact opens_struct Try.underlying60 (by kernel_rfl) (Flds.cons rfl (by kernel_rfl) (opens_int Try.underlying50) (Flds.one rfl (by kernel_rfl) opens_Lim))
theorem Tb_cells {w : World} {S : Nat → Prop} {cs : List Value} {a : Tb} (h : tTb.rd w S cs a) : cs = [.int .i64 a.elem, .int .i64 a.lim.min, .int .i64 a.lim.max, .bool a.lim.has] ∧ (Lit.int .i64 a.elem).wf = true ∧ (Lit.int .i64 a.lim.min).wf = true ∧ (Lit.int .i64 a.lim.max).wf = true := by
  obtain ⟨xelem, relem, rfl, ⟨rfl, welem⟩, hlim⟩ := h
  obtain ⟨rfl, klim0, klim1⟩ := Lim_cells hlim
  exact ⟨rfl, welem, klim0, klim1⟩
theorem Tb_mk {w : World} {S : Nat → Prop} {a : Tb}  (f0 : (Lit.int .i64 a.elem).wf = true) (f1 : (Lit.int .i64 a.lim.min).wf = true) (f2 : (Lit.int .i64 a.lim.max).wf = true) : tTb.rd w S [.int .i64 a.elem, .int .i64 a.lim.min, .int .i64 a.lim.max, .bool a.lim.has] a :=
  ⟨[.int .i64 a.elem], [.int .i64 a.lim.min, .int .i64 a.lim.max, .bool a.lim.has], rfl, ⟨rfl, f0⟩, ⟨[.int .i64 a.lim.min], [.int .i64 a.lim.max, .bool a.lim.has], rfl, ⟨rfl, f1⟩, ⟨[.int .i64 a.lim.max], [.bool a.lim.has], rfl, ⟨rfl, f2⟩, rfl⟩⟩⟩
theorem Tb_at {w : World} {S : Nat → Prop} {A : Option Addr} {l : List Tb} (h : tTb.els w S A l) (k : Nat) (hk : k < l.length) : ∃ (b o : Nat), A = some ⟨b, o, none⟩ ∧ S b ∧ w.cell? ⟨b, o + k * 4, none⟩ = some (.int .i64 l[k].elem) ∧ w.cell? ⟨b, o + k * 4 + 1, none⟩ = some (.int .i64 l[k].lim.min) ∧ w.cell? ⟨b, o + k * 4 + 2, none⟩ = some (.int .i64 l[k].lim.max) ∧ w.cell? ⟨b, o + k * 4 + 3, none⟩ = some (.bool l[k].lim.has) ∧ (Lit.int .i64 l[k].elem).wf = true ∧ (Lit.int .i64 l[k].lim.min).wf = true ∧ (Lit.int .i64 l[k].lim.max).wf = true := by
  obtain ⟨b, o, ds, rfl, hb, hc, hr⟩ := h.at_ k hk
  obtain ⟨rfl, f0, f1, f2⟩ := Tb_cells hr
  have e : tTb.size = 4 := rfl
  rw [e] at hc
  exact ⟨b, o, rfl, hb, hc 0 _ rfl, (by have := hc 1 _ rfl; rwa [← Nat.add_assoc] at this), (by have := hc 2 _ rfl; rwa [← Nat.add_assoc] at this), (by have := hc 3 _ rfl; rwa [← Nat.add_assoc] at this), f0, f1, f2⟩

structure Gl where
  val : Int
  mut_ : Bool
def tGl0 : Ty (Int × Bool) := (Ty.int .i64).pair (Ty.bool)
def tGl : Ty Gl := tGl0.iso fun a => (a.val, a.mut_)
instance : TyOk tGl := by unfold tGl tGl0; infer_instance
instance : TyMore tGl := by unfold tGl tGl0; infer_instance
instance : TyOne tGl := by unfold tGl tGl0; infer_instance
theorem opens_Gl : Opens Try.prog 62 tGl := by
  refine opens_iso _ (fun x => ⟨x.1, x.2⟩) (fun _ => rfl) ?_
  exact opens_struct Try.underlying62 (by kernel_rfl) (Flds.cons rfl (by kernel_rfl) (opens_int Try.underlying50) (Flds.one rfl (by kernel_rfl) (opens_bool Try.underlying4)))
theorem Gl_cells {w : World} {S : Nat → Prop} {cs : List Value} {a : Gl} (h : tGl.rd w S cs a) : cs = [.int .i64 a.val, .bool a.mut_] ∧ (Lit.int .i64 a.val).wf = true := by
  obtain ⟨xval, rval, rfl, ⟨rfl, wval⟩, rfl⟩ := h
  exact ⟨rfl, wval⟩
theorem Gl_mk {w : World} {S : Nat → Prop} {a : Gl}  (f0 : (Lit.int .i64 a.val).wf = true) : tGl.rd w S [.int .i64 a.val, .bool a.mut_] a :=
  ⟨[.int .i64 a.val], [.bool a.mut_], rfl, ⟨rfl, f0⟩, rfl⟩
theorem Gl_at {w : World} {S : Nat → Prop} {A : Option Addr} {l : List Gl} (h : tGl.els w S A l) (k : Nat) (hk : k < l.length) : ∃ (b o : Nat), A = some ⟨b, o, none⟩ ∧ S b ∧ w.cell? ⟨b, o + k * 2, none⟩ = some (.int .i64 l[k].val) ∧ w.cell? ⟨b, o + k * 2 + 1, none⟩ = some (.bool l[k].mut_) ∧ (Lit.int .i64 l[k].val).wf = true := by
  obtain ⟨b, o, ds, rfl, hb, hc, hr⟩ := h.at_ k hk
  obtain ⟨rfl, f0⟩ := Gl_cells hr
  have e : tGl.size = 2 := rfl
  rw [e] at hc
  exact ⟨b, o, rfl, hb, hc 0 _ rfl, (by have := hc 1 _ rfl; rwa [← Nat.add_assoc] at this), f0⟩

structure Im where
  mod : ByteArray
  name : ByteArray
  kind : Int
  func : Int
  table : Tb
  mem : Lim
  glob : Gl
def tIm0 : Ty (ByteArray × ByteArray × Int × Int × Tb × Lim × Gl) := Ty.str.pair (Ty.str.pair ((Ty.int .i64).pair ((Ty.int .i64).pair (tTb.pair (tLim.pair (tGl))))))
def tIm : Ty Im := tIm0.iso fun a => (a.mod, a.name, a.kind, a.func, a.table, a.mem, a.glob)
instance : TyOk tIm := by unfold tIm tIm0; infer_instance
instance : TyMore tIm := by unfold tIm tIm0; infer_instance
instance : TyOne tIm := by unfold tIm tIm0; infer_instance
theorem opens_Im : Opens Try.prog 64 tIm := by
  refine opens_iso _ (fun x => ⟨x.1, x.2.1, x.2.2.1, x.2.2.2.1, x.2.2.2.2.1, x.2.2.2.2.2.1, x.2.2.2.2.2.2⟩) (fun _ => rfl) ?_
  exact opens_struct Try.underlying64 (by kernel_rfl) (Flds.cons rfl (by kernel_rfl) (opens_str Try.underlying9) (Flds.cons rfl (by kernel_rfl) (opens_str Try.underlying9) (Flds.cons rfl (by kernel_rfl) (opens_int Try.underlying56) (Flds.cons rfl (by kernel_rfl) (opens_int Try.underlying3) (Flds.cons rfl (by kernel_rfl) opens_Tb (Flds.cons rfl (by kernel_rfl) opens_Lim (Flds.one rfl (by kernel_rfl) opens_Gl)))))))
theorem Im_cells {w : World} {S : Nat → Prop} {cs : List Value} {a : Im} (h : tIm.rd w S cs a) : cs = [.string a.mod, .string a.name, .int .i64 a.kind, .int .i64 a.func, .int .i64 a.table.elem, .int .i64 a.table.lim.min, .int .i64 a.table.lim.max, .bool a.table.lim.has, .int .i64 a.mem.min, .int .i64 a.mem.max, .bool a.mem.has, .int .i64 a.glob.val, .bool a.glob.mut_] ∧ a.mod.size ≤ maxLen ∧ a.name.size ≤ maxLen ∧ (Lit.int .i64 a.kind).wf = true ∧ (Lit.int .i64 a.func).wf = true ∧ (Lit.int .i64 a.table.elem).wf = true ∧ (Lit.int .i64 a.table.lim.min).wf = true ∧ (Lit.int .i64 a.table.lim.max).wf = true ∧ (Lit.int .i64 a.mem.min).wf = true ∧ (Lit.int .i64 a.mem.max).wf = true ∧ (Lit.int .i64 a.glob.val).wf = true := by
  obtain ⟨xmod, rmod, rfl, ⟨rfl, wmod⟩, xname, rname, rfl, ⟨rfl, wname⟩, xkind, rkind, rfl, ⟨rfl, wkind⟩, xfunc, rfunc, rfl, ⟨rfl, wfunc⟩, xtable, rtable, rfl, htable, xmem, rmem, rfl, hmem, hglob⟩ := h
  obtain ⟨rfl, ktable0, ktable1, ktable2⟩ := Tb_cells htable
  obtain ⟨rfl, kmem0, kmem1⟩ := Lim_cells hmem
  obtain ⟨rfl, kglob0⟩ := Gl_cells hglob
  exact ⟨rfl, wmod, wname, wkind, wfunc, ktable0, ktable1, ktable2, kmem0, kmem1, kglob0⟩
theorem Im_mk {w : World} {S : Nat → Prop} {a : Im}  (f0 : a.mod.size ≤ maxLen) (f1 : a.name.size ≤ maxLen) (f2 : (Lit.int .i64 a.kind).wf = true) (f3 : (Lit.int .i64 a.func).wf = true) (f4 : (Lit.int .i64 a.table.elem).wf = true) (f5 : (Lit.int .i64 a.table.lim.min).wf = true) (f6 : (Lit.int .i64 a.table.lim.max).wf = true) (f7 : (Lit.int .i64 a.mem.min).wf = true) (f8 : (Lit.int .i64 a.mem.max).wf = true) (f9 : (Lit.int .i64 a.glob.val).wf = true) : tIm.rd w S [.string a.mod, .string a.name, .int .i64 a.kind, .int .i64 a.func, .int .i64 a.table.elem, .int .i64 a.table.lim.min, .int .i64 a.table.lim.max, .bool a.table.lim.has, .int .i64 a.mem.min, .int .i64 a.mem.max, .bool a.mem.has, .int .i64 a.glob.val, .bool a.glob.mut_] a :=
  ⟨[.string a.mod], [.string a.name, .int .i64 a.kind, .int .i64 a.func, .int .i64 a.table.elem, .int .i64 a.table.lim.min, .int .i64 a.table.lim.max, .bool a.table.lim.has, .int .i64 a.mem.min, .int .i64 a.mem.max, .bool a.mem.has, .int .i64 a.glob.val, .bool a.glob.mut_], rfl, ⟨rfl, f0⟩, ⟨[.string a.name], [.int .i64 a.kind, .int .i64 a.func, .int .i64 a.table.elem, .int .i64 a.table.lim.min, .int .i64 a.table.lim.max, .bool a.table.lim.has, .int .i64 a.mem.min, .int .i64 a.mem.max, .bool a.mem.has, .int .i64 a.glob.val, .bool a.glob.mut_], rfl, ⟨rfl, f1⟩, ⟨[.int .i64 a.kind], [.int .i64 a.func, .int .i64 a.table.elem, .int .i64 a.table.lim.min, .int .i64 a.table.lim.max, .bool a.table.lim.has, .int .i64 a.mem.min, .int .i64 a.mem.max, .bool a.mem.has, .int .i64 a.glob.val, .bool a.glob.mut_], rfl, ⟨rfl, f2⟩, ⟨[.int .i64 a.func], [.int .i64 a.table.elem, .int .i64 a.table.lim.min, .int .i64 a.table.lim.max, .bool a.table.lim.has, .int .i64 a.mem.min, .int .i64 a.mem.max, .bool a.mem.has, .int .i64 a.glob.val, .bool a.glob.mut_], rfl, ⟨rfl, f3⟩, ⟨[.int .i64 a.table.elem, .int .i64 a.table.lim.min, .int .i64 a.table.lim.max, .bool a.table.lim.has], [.int .i64 a.mem.min, .int .i64 a.mem.max, .bool a.mem.has, .int .i64 a.glob.val, .bool a.glob.mut_], rfl, ⟨[.int .i64 a.table.elem], [.int .i64 a.table.lim.min, .int .i64 a.table.lim.max, .bool a.table.lim.has], rfl, ⟨rfl, f4⟩, ⟨[.int .i64 a.table.lim.min], [.int .i64 a.table.lim.max, .bool a.table.lim.has], rfl, ⟨rfl, f5⟩, ⟨[.int .i64 a.table.lim.max], [.bool a.table.lim.has], rfl, ⟨rfl, f6⟩, rfl⟩⟩⟩, ⟨[.int .i64 a.mem.min, .int .i64 a.mem.max, .bool a.mem.has], [.int .i64 a.glob.val, .bool a.glob.mut_], rfl, ⟨[.int .i64 a.mem.min], [.int .i64 a.mem.max, .bool a.mem.has], rfl, ⟨rfl, f7⟩, ⟨[.int .i64 a.mem.max], [.bool a.mem.has], rfl, ⟨rfl, f8⟩, rfl⟩⟩, ⟨[.int .i64 a.glob.val], [.bool a.glob.mut_], rfl, ⟨rfl, f9⟩, rfl⟩⟩⟩⟩⟩⟩⟩
theorem Im_at {w : World} {S : Nat → Prop} {A : Option Addr} {l : List Im} (h : tIm.els w S A l) (k : Nat) (hk : k < l.length) : ∃ (b o : Nat), A = some ⟨b, o, none⟩ ∧ S b ∧ w.cell? ⟨b, o + k * 13, none⟩ = some (.string l[k].mod) ∧ w.cell? ⟨b, o + k * 13 + 1, none⟩ = some (.string l[k].name) ∧ w.cell? ⟨b, o + k * 13 + 2, none⟩ = some (.int .i64 l[k].kind) ∧ w.cell? ⟨b, o + k * 13 + 3, none⟩ = some (.int .i64 l[k].func) ∧ w.cell? ⟨b, o + k * 13 + 4, none⟩ = some (.int .i64 l[k].table.elem) ∧ w.cell? ⟨b, o + k * 13 + 5, none⟩ = some (.int .i64 l[k].table.lim.min) ∧ w.cell? ⟨b, o + k * 13 + 6, none⟩ = some (.int .i64 l[k].table.lim.max) ∧ w.cell? ⟨b, o + k * 13 + 7, none⟩ = some (.bool l[k].table.lim.has) ∧ w.cell? ⟨b, o + k * 13 + 8, none⟩ = some (.int .i64 l[k].mem.min) ∧ w.cell? ⟨b, o + k * 13 + 9, none⟩ = some (.int .i64 l[k].mem.max) ∧ w.cell? ⟨b, o + k * 13 + 10, none⟩ = some (.bool l[k].mem.has) ∧ w.cell? ⟨b, o + k * 13 + 11, none⟩ = some (.int .i64 l[k].glob.val) ∧ w.cell? ⟨b, o + k * 13 + 12, none⟩ = some (.bool l[k].glob.mut_) ∧ l[k].mod.size ≤ maxLen ∧ l[k].name.size ≤ maxLen ∧ (Lit.int .i64 l[k].kind).wf = true ∧ (Lit.int .i64 l[k].func).wf = true ∧ (Lit.int .i64 l[k].table.elem).wf = true ∧ (Lit.int .i64 l[k].table.lim.min).wf = true ∧ (Lit.int .i64 l[k].table.lim.max).wf = true ∧ (Lit.int .i64 l[k].mem.min).wf = true ∧ (Lit.int .i64 l[k].mem.max).wf = true ∧ (Lit.int .i64 l[k].glob.val).wf = true := by
  obtain ⟨b, o, ds, rfl, hb, hc, hr⟩ := h.at_ k hk
  obtain ⟨rfl, f0, f1, f2, f3, f4, f5, f6, f7, f8, f9⟩ := Im_cells hr
  have e : tIm.size = 13 := rfl
  rw [e] at hc
  exact ⟨b, o, rfl, hb, hc 0 _ rfl, (by have := hc 1 _ rfl; rwa [← Nat.add_assoc] at this), (by have := hc 2 _ rfl; rwa [← Nat.add_assoc] at this), (by have := hc 3 _ rfl; rwa [← Nat.add_assoc] at this), (by have := hc 4 _ rfl; rwa [← Nat.add_assoc] at this), (by have := hc 5 _ rfl; rwa [← Nat.add_assoc] at this), (by have := hc 6 _ rfl; rwa [← Nat.add_assoc] at this), (by have := hc 7 _ rfl; rwa [← Nat.add_assoc] at this), (by have := hc 8 _ rfl; rwa [← Nat.add_assoc] at this), (by have := hc 9 _ rfl; rwa [← Nat.add_assoc] at this), (by have := hc 10 _ rfl; rwa [← Nat.add_assoc] at this), (by have := hc 11 _ rfl; rwa [← Nat.add_assoc] at this), (by have := hc 12 _ rfl; rwa [← Nat.add_assoc] at this), f0, f1, f2, f3, f4, f5, f6, f7, f8, f9⟩

structure Cd where
  type : Int
  locals : Nat
  body : Nat
def tCd0 : Ty (Int × Nat × Nat) := (Ty.int .i64).pair (Ty.slen.pair (Ty.slen))
def tCd : Ty Cd := tCd0.iso fun a => (a.type, a.locals, a.body)
instance : TyOk tCd := by unfold tCd tCd0; infer_instance
instance : TyMore tCd := by unfold tCd tCd0; infer_instance
instance : TyOne tCd := by unfold tCd tCd0; infer_instance
theorem opens_Cd : Opens Try.prog 99 tCd := by
  refine opens_iso _ (fun x => ⟨x.1, x.2.1, x.2.2⟩) (fun _ => rfl) ?_
  exact opens_struct Try.underlying99 (by kernel_rfl) (Flds.cons rfl (by kernel_rfl) (opens_int Try.underlying3) (Flds.cons rfl (by kernel_rfl) (opens_slen Try.underlying36) (Flds.one rfl (by kernel_rfl) (opens_slen Try.underlying85))))
theorem Cd_cells {w : World} {S : Nat → Prop} {cs : List Value} {a : Cd} (h : tCd.rd w S cs a) : ∃ (Alocals : Option Addr) (clocals : Nat) (Abody : Option Addr) (cbody : Nat), cs = [.int .i64 a.type, .slice Alocals a.locals clocals, .slice Abody a.body cbody] ∧ (Lit.int .i64 a.type).wf = true ∧ a.locals ≤ clocals ∧ clocals ≤ maxLen ∧ a.body ≤ cbody ∧ cbody ≤ maxLen := by
  obtain ⟨xtype, rtype, rfl, ⟨rfl, wtype⟩, xlocals, rlocals, rfl, ⟨Alocals, clocals, rfl, glocals, mlocals⟩, Abody, cbody, rfl, gbody, mbody⟩ := h
  exact ⟨Alocals, clocals, Abody, cbody, rfl, wtype, glocals, mlocals, gbody, mbody⟩
theorem Cd_mk {w : World} {S : Nat → Prop} {a : Cd} {Alocals : Option Addr} {clocals : Nat} {Abody : Option Addr} {cbody : Nat} (f0 : (Lit.int .i64 a.type).wf = true) (f1 : a.locals ≤ clocals) (f2 : clocals ≤ maxLen) (f3 : a.body ≤ cbody) (f4 : cbody ≤ maxLen) : tCd.rd w S [.int .i64 a.type, .slice Alocals a.locals clocals, .slice Abody a.body cbody] a :=
  ⟨[.int .i64 a.type], [.slice Alocals a.locals clocals, .slice Abody a.body cbody], rfl, ⟨rfl, f0⟩, ⟨[.slice Alocals a.locals clocals], [.slice Abody a.body cbody], rfl, ⟨_, _, rfl, f1, f2⟩, ⟨_, _, rfl, f3, f4⟩⟩⟩
theorem Cd_at {w : World} {S : Nat → Prop} {A : Option Addr} {l : List Cd} (h : tCd.els w S A l) (k : Nat) (hk : k < l.length) : ∃ (b o : Nat) (Alocals : Option Addr) (clocals : Nat) (Abody : Option Addr) (cbody : Nat), A = some ⟨b, o, none⟩ ∧ S b ∧ w.cell? ⟨b, o + k * 3, none⟩ = some (.int .i64 l[k].type) ∧ w.cell? ⟨b, o + k * 3 + 1, none⟩ = some (.slice Alocals l[k].locals clocals) ∧ w.cell? ⟨b, o + k * 3 + 2, none⟩ = some (.slice Abody l[k].body cbody) ∧ (Lit.int .i64 l[k].type).wf = true ∧ l[k].locals ≤ clocals ∧ clocals ≤ maxLen ∧ l[k].body ≤ cbody ∧ cbody ≤ maxLen := by
  obtain ⟨b, o, ds, rfl, hb, hc, hr⟩ := h.at_ k hk
  obtain ⟨Alocals, clocals, Abody, cbody, rfl, f0, f1, f2, f3, f4⟩ := Cd_cells hr
  have e : tCd.size = 3 := rfl
  rw [e] at hc
  exact ⟨b, o, Alocals, clocals, Abody, cbody, rfl, hb, hc 0 _ rfl, (by have := hc 1 _ rfl; rwa [← Nat.add_assoc] at this), (by have := hc 2 _ rfl; rwa [← Nat.add_assoc] at this), f0, f1, f2, f3, f4⟩

structure Bk where
  kind : Int
  val : Int
  index : Int
def tBk0 : Ty (Int × Int × Int) := (Ty.int .i64).pair ((Ty.int .i64).pair ((Ty.int .i64)))
def tBk : Ty Bk := tBk0.iso fun a => (a.kind, a.val, a.index)
instance : TyOk tBk := by unfold tBk tBk0; infer_instance
instance : TyMore tBk := by unfold tBk tBk0; infer_instance
instance : TyOne tBk := by unfold tBk tBk0; infer_instance
theorem opens_Bk : Opens Try.prog 52 tBk := by
  refine opens_iso _ (fun x => ⟨x.1, x.2.1, x.2.2⟩) (fun _ => rfl) ?_
  exact opens_struct Try.underlying52 (by kernel_rfl) (Flds.cons rfl (by kernel_rfl) (opens_int Try.underlying3) (Flds.cons rfl (by kernel_rfl) (opens_int Try.underlying50) (Flds.one rfl (by kernel_rfl) (opens_int Try.underlying3))))
theorem Bk_cells {w : World} {S : Nat → Prop} {cs : List Value} {a : Bk} (h : tBk.rd w S cs a) : cs = [.int .i64 a.kind, .int .i64 a.val, .int .i64 a.index] ∧ (Lit.int .i64 a.kind).wf = true ∧ (Lit.int .i64 a.val).wf = true ∧ (Lit.int .i64 a.index).wf = true := by
  obtain ⟨xkind, rkind, rfl, ⟨rfl, wkind⟩, xval, rval, rfl, ⟨rfl, wval⟩, rfl, windex⟩ := h
  exact ⟨rfl, wkind, wval, windex⟩
theorem Bk_mk {w : World} {S : Nat → Prop} {a : Bk}  (f0 : (Lit.int .i64 a.kind).wf = true) (f1 : (Lit.int .i64 a.val).wf = true) (f2 : (Lit.int .i64 a.index).wf = true) : tBk.rd w S [.int .i64 a.kind, .int .i64 a.val, .int .i64 a.index] a :=
  ⟨[.int .i64 a.kind], [.int .i64 a.val, .int .i64 a.index], rfl, ⟨rfl, f0⟩, ⟨[.int .i64 a.val], [.int .i64 a.index], rfl, ⟨rfl, f1⟩, ⟨rfl, f2⟩⟩⟩
theorem Bk_at {w : World} {S : Nat → Prop} {A : Option Addr} {l : List Bk} (h : tBk.els w S A l) (k : Nat) (hk : k < l.length) : ∃ (b o : Nat), A = some ⟨b, o, none⟩ ∧ S b ∧ w.cell? ⟨b, o + k * 3, none⟩ = some (.int .i64 l[k].kind) ∧ w.cell? ⟨b, o + k * 3 + 1, none⟩ = some (.int .i64 l[k].val) ∧ w.cell? ⟨b, o + k * 3 + 2, none⟩ = some (.int .i64 l[k].index) ∧ (Lit.int .i64 l[k].kind).wf = true ∧ (Lit.int .i64 l[k].val).wf = true ∧ (Lit.int .i64 l[k].index).wf = true := by
  obtain ⟨b, o, ds, rfl, hb, hc, hr⟩ := h.at_ k hk
  obtain ⟨rfl, f0, f1, f2⟩ := Bk_cells hr
  have e : tBk.size = 3 := rfl
  rw [e] at hc
  exact ⟨b, o, rfl, hb, hc 0 _ rfl, (by have := hc 1 _ rfl; rwa [← Nat.add_assoc] at this), (by have := hc 2 _ rfl; rwa [← Nat.add_assoc] at this), f0, f1, f2⟩

structure Ins where
  op : Int
  a : Int
  b : Int
  n : Int
  block : Bk
  types : Nat
  labels : Nat
def tIns0 : Ty (Int × Int × Int × Int × Bk × Nat × Nat) := (Ty.int .i64).pair ((Ty.int .i64).pair ((Ty.int .i64).pair ((Ty.int .u64).pair (tBk.pair (Ty.slen.pair (Ty.slen))))))
def tIns : Ty Ins := tIns0.iso fun a => (a.op, a.a, a.b, a.n, a.block, a.types, a.labels)
instance : TyOk tIns := by unfold tIns tIns0; infer_instance
instance : TyMore tIns := by unfold tIns tIns0; infer_instance
instance : TyOne tIns := by unfold tIns tIns0; infer_instance
theorem opens_Ins : Opens Try.prog 103 tIns := by
  refine opens_iso _ (fun x => ⟨x.1, x.2.1, x.2.2.1, x.2.2.2.1, x.2.2.2.2.1, x.2.2.2.2.2.1, x.2.2.2.2.2.2⟩) (fun _ => rfl) ?_
  exact opens_struct Try.underlying103 (by kernel_rfl) (Flds.cons rfl (by kernel_rfl) (opens_int Try.underlying100) (Flds.cons rfl (by kernel_rfl) (opens_int Try.underlying3) (Flds.cons rfl (by kernel_rfl) (opens_int Try.underlying3) (Flds.cons rfl (by kernel_rfl) (opens_int Try.underlying101) (Flds.cons rfl (by kernel_rfl) opens_Bk (Flds.cons rfl (by kernel_rfl) (opens_slen Try.underlying36) (Flds.one rfl (by kernel_rfl) (opens_slen Try.underlying92))))))))
theorem Ins_cells {w : World} {S : Nat → Prop} {cs : List Value} {a : Ins} (h : tIns.rd w S cs a) : ∃ (Atypes : Option Addr) (ctypes : Nat) (Alabels : Option Addr) (clabels : Nat), cs = [.int .i64 a.op, .int .i64 a.a, .int .i64 a.b, .int .u64 a.n, .int .i64 a.block.kind, .int .i64 a.block.val, .int .i64 a.block.index, .slice Atypes a.types ctypes, .slice Alabels a.labels clabels] ∧ (Lit.int .i64 a.op).wf = true ∧ (Lit.int .i64 a.a).wf = true ∧ (Lit.int .i64 a.b).wf = true ∧ (Lit.int .u64 a.n).wf = true ∧ (Lit.int .i64 a.block.kind).wf = true ∧ (Lit.int .i64 a.block.val).wf = true ∧ (Lit.int .i64 a.block.index).wf = true ∧ a.types ≤ ctypes ∧ ctypes ≤ maxLen ∧ a.labels ≤ clabels ∧ clabels ≤ maxLen := by
  obtain ⟨xop, rop, rfl, ⟨rfl, wop⟩, xa, ra, rfl, ⟨rfl, wa⟩, xb, rb, rfl, ⟨rfl, wb⟩, xn, rn, rfl, ⟨rfl, wn⟩, xblock, rblock, rfl, hblock, xtypes, rtypes, rfl, ⟨Atypes, ctypes, rfl, gtypes, mtypes⟩, Alabels, clabels, rfl, glabels, mlabels⟩ := h
  obtain ⟨rfl, kblock0, kblock1, kblock2⟩ := Bk_cells hblock
  exact ⟨Atypes, ctypes, Alabels, clabels, rfl, wop, wa, wb, wn, kblock0, kblock1, kblock2, gtypes, mtypes, glabels, mlabels⟩
theorem Ins_mk {w : World} {S : Nat → Prop} {a : Ins} {Atypes : Option Addr} {ctypes : Nat} {Alabels : Option Addr} {clabels : Nat} (f0 : (Lit.int .i64 a.op).wf = true) (f1 : (Lit.int .i64 a.a).wf = true) (f2 : (Lit.int .i64 a.b).wf = true) (f3 : (Lit.int .u64 a.n).wf = true) (f4 : (Lit.int .i64 a.block.kind).wf = true) (f5 : (Lit.int .i64 a.block.val).wf = true) (f6 : (Lit.int .i64 a.block.index).wf = true) (f7 : a.types ≤ ctypes) (f8 : ctypes ≤ maxLen) (f9 : a.labels ≤ clabels) (f10 : clabels ≤ maxLen) : tIns.rd w S [.int .i64 a.op, .int .i64 a.a, .int .i64 a.b, .int .u64 a.n, .int .i64 a.block.kind, .int .i64 a.block.val, .int .i64 a.block.index, .slice Atypes a.types ctypes, .slice Alabels a.labels clabels] a :=
  ⟨[.int .i64 a.op], [.int .i64 a.a, .int .i64 a.b, .int .u64 a.n, .int .i64 a.block.kind, .int .i64 a.block.val, .int .i64 a.block.index, .slice Atypes a.types ctypes, .slice Alabels a.labels clabels], rfl, ⟨rfl, f0⟩, ⟨[.int .i64 a.a], [.int .i64 a.b, .int .u64 a.n, .int .i64 a.block.kind, .int .i64 a.block.val, .int .i64 a.block.index, .slice Atypes a.types ctypes, .slice Alabels a.labels clabels], rfl, ⟨rfl, f1⟩, ⟨[.int .i64 a.b], [.int .u64 a.n, .int .i64 a.block.kind, .int .i64 a.block.val, .int .i64 a.block.index, .slice Atypes a.types ctypes, .slice Alabels a.labels clabels], rfl, ⟨rfl, f2⟩, ⟨[.int .u64 a.n], [.int .i64 a.block.kind, .int .i64 a.block.val, .int .i64 a.block.index, .slice Atypes a.types ctypes, .slice Alabels a.labels clabels], rfl, ⟨rfl, f3⟩, ⟨[.int .i64 a.block.kind, .int .i64 a.block.val, .int .i64 a.block.index], [.slice Atypes a.types ctypes, .slice Alabels a.labels clabels], rfl, ⟨[.int .i64 a.block.kind], [.int .i64 a.block.val, .int .i64 a.block.index], rfl, ⟨rfl, f4⟩, ⟨[.int .i64 a.block.val], [.int .i64 a.block.index], rfl, ⟨rfl, f5⟩, ⟨rfl, f6⟩⟩⟩, ⟨[.slice Atypes a.types ctypes], [.slice Alabels a.labels clabels], rfl, ⟨_, _, rfl, f7, f8⟩, ⟨_, _, rfl, f9, f10⟩⟩⟩⟩⟩⟩⟩
theorem Ins_at {w : World} {S : Nat → Prop} {A : Option Addr} {l : List Ins} (h : tIns.els w S A l) (k : Nat) (hk : k < l.length) : ∃ (b o : Nat) (Atypes : Option Addr) (ctypes : Nat) (Alabels : Option Addr) (clabels : Nat), A = some ⟨b, o, none⟩ ∧ S b ∧ w.cell? ⟨b, o + k * 9, none⟩ = some (.int .i64 l[k].op) ∧ w.cell? ⟨b, o + k * 9 + 1, none⟩ = some (.int .i64 l[k].a) ∧ w.cell? ⟨b, o + k * 9 + 2, none⟩ = some (.int .i64 l[k].b) ∧ w.cell? ⟨b, o + k * 9 + 3, none⟩ = some (.int .u64 l[k].n) ∧ w.cell? ⟨b, o + k * 9 + 4, none⟩ = some (.int .i64 l[k].block.kind) ∧ w.cell? ⟨b, o + k * 9 + 5, none⟩ = some (.int .i64 l[k].block.val) ∧ w.cell? ⟨b, o + k * 9 + 6, none⟩ = some (.int .i64 l[k].block.index) ∧ w.cell? ⟨b, o + k * 9 + 7, none⟩ = some (.slice Atypes l[k].types ctypes) ∧ w.cell? ⟨b, o + k * 9 + 8, none⟩ = some (.slice Alabels l[k].labels clabels) ∧ (Lit.int .i64 l[k].op).wf = true ∧ (Lit.int .i64 l[k].a).wf = true ∧ (Lit.int .i64 l[k].b).wf = true ∧ (Lit.int .u64 l[k].n).wf = true ∧ (Lit.int .i64 l[k].block.kind).wf = true ∧ (Lit.int .i64 l[k].block.val).wf = true ∧ (Lit.int .i64 l[k].block.index).wf = true ∧ l[k].types ≤ ctypes ∧ ctypes ≤ maxLen ∧ l[k].labels ≤ clabels ∧ clabels ≤ maxLen := by
  obtain ⟨b, o, ds, rfl, hb, hc, hr⟩ := h.at_ k hk
  obtain ⟨Atypes, ctypes, Alabels, clabels, rfl, f0, f1, f2, f3, f4, f5, f6, f7, f8, f9, f10⟩ := Ins_cells hr
  have e : tIns.size = 9 := rfl
  rw [e] at hc
  exact ⟨b, o, Atypes, ctypes, Alabels, clabels, rfl, hb, hc 0 _ rfl, (by have := hc 1 _ rfl; rwa [← Nat.add_assoc] at this), (by have := hc 2 _ rfl; rwa [← Nat.add_assoc] at this), (by have := hc 3 _ rfl; rwa [← Nat.add_assoc] at this), (by have := hc 4 _ rfl; rwa [← Nat.add_assoc] at this), (by have := hc 5 _ rfl; rwa [← Nat.add_assoc] at this), (by have := hc 6 _ rfl; rwa [← Nat.add_assoc] at this), (by have := hc 7 _ rfl; rwa [← Nat.add_assoc] at this), (by have := hc 8 _ rfl; rwa [← Nat.add_assoc] at this), f0, f1, f2, f3, f4, f5, f6, f7, f8, f9, f10⟩

structure Gd where
  type : Gl
  init : List Ins
def tGd0 : Ty (Gl × List Ins) := tGl.pair (tIns.slice)
def tGd : Ty Gd := tGd0.iso fun a => (a.type, a.init)
instance : TyOk tGd := by unfold tGd tGd0; infer_instance
instance : TyMore tGd := by unfold tGd tGd0; infer_instance
instance : TyOne tGd := by unfold tGd tGd0; infer_instance
theorem opens_Gd : Opens Try.prog 106 tGd := by
  refine opens_iso _ (fun x => ⟨x.1, x.2⟩) (fun _ => rfl) ?_
  exact opens_struct Try.underlying106 (by kernel_rfl) (Flds.cons rfl (by kernel_rfl) opens_Gl (Flds.one rfl (by kernel_rfl) (opens_slice Try.underlying85 (by kernel_rfl) (by decide) opens_Ins)))
theorem Gd_cells {w : World} {S : Nat → Prop} {cs : List Value} {a : Gd} (h : tGd.rd w S cs a) : ∃ (Ainit : Option Addr) (cinit : Nat), cs = [.int .i64 a.type.val, .bool a.type.mut_, .slice Ainit a.init.length cinit] ∧ (Lit.int .i64 a.type.val).wf = true ∧ a.init.length ≤ cinit ∧ cinit ≤ maxLen ∧ tIns.els w S Ainit a.init := by
  obtain ⟨xtype, rtype, rfl, htype, Ainit, cinit, rfl, ginit, minit, einit⟩ := h
  obtain ⟨rfl, ktype0⟩ := Gl_cells htype
  exact ⟨Ainit, cinit, rfl, ktype0, ginit, minit, einit⟩
theorem Gd_mk {w : World} {S : Nat → Prop} {a : Gd} {Ainit : Option Addr} {cinit : Nat} (f0 : (Lit.int .i64 a.type.val).wf = true) (f1 : a.init.length ≤ cinit) (f2 : cinit ≤ maxLen) (f3 : tIns.els w S Ainit a.init) : tGd.rd w S [.int .i64 a.type.val, .bool a.type.mut_, .slice Ainit a.init.length cinit] a :=
  ⟨[.int .i64 a.type.val, .bool a.type.mut_], [.slice Ainit a.init.length cinit], rfl, ⟨[.int .i64 a.type.val], [.bool a.type.mut_], rfl, ⟨rfl, f0⟩, rfl⟩, ⟨_, _, rfl, f1, f2, f3⟩⟩
theorem Gd_at {w : World} {S : Nat → Prop} {A : Option Addr} {l : List Gd} (h : tGd.els w S A l) (k : Nat) (hk : k < l.length) : ∃ (b o : Nat) (Ainit : Option Addr) (cinit : Nat), A = some ⟨b, o, none⟩ ∧ S b ∧ w.cell? ⟨b, o + k * 3, none⟩ = some (.int .i64 l[k].type.val) ∧ w.cell? ⟨b, o + k * 3 + 1, none⟩ = some (.bool l[k].type.mut_) ∧ w.cell? ⟨b, o + k * 3 + 2, none⟩ = some (.slice Ainit l[k].init.length cinit) ∧ (Lit.int .i64 l[k].type.val).wf = true ∧ l[k].init.length ≤ cinit ∧ cinit ≤ maxLen ∧ tIns.els w S Ainit l[k].init := by
  obtain ⟨b, o, ds, rfl, hb, hc, hr⟩ := h.at_ k hk
  obtain ⟨Ainit, cinit, rfl, f0, f1, f2, f3⟩ := Gd_cells hr
  have e : tGd.size = 3 := rfl
  rw [e] at hc
  exact ⟨b, o, Ainit, cinit, rfl, hb, hc 0 _ rfl, (by have := hc 1 _ rfl; rwa [← Nat.add_assoc] at this), (by have := hc 2 _ rfl; rwa [← Nat.add_assoc] at this), f0, f1, f2, f3⟩

structure Ex where
  name : ByteArray
  kind : Int
  index : Int
def tEx0 : Ty (ByteArray × Int × Int) := Ty.str.pair ((Ty.int .i64).pair ((Ty.int .i64)))
def tEx : Ty Ex := tEx0.iso fun a => (a.name, a.kind, a.index)
instance : TyOk tEx := by unfold tEx tEx0; infer_instance
instance : TyMore tEx := by unfold tEx tEx0; infer_instance
instance : TyOne tEx := by unfold tEx tEx0; infer_instance
theorem opens_Ex : Opens Try.prog 108 tEx := by
  refine opens_iso _ (fun x => ⟨x.1, x.2.1, x.2.2⟩) (fun _ => rfl) ?_
  exact opens_struct Try.underlying108 (by kernel_rfl) (Flds.cons rfl (by kernel_rfl) (opens_str Try.underlying9) (Flds.cons rfl (by kernel_rfl) (opens_int Try.underlying56) (Flds.one rfl (by kernel_rfl) (opens_int Try.underlying3))))
theorem Ex_cells {w : World} {S : Nat → Prop} {cs : List Value} {a : Ex} (h : tEx.rd w S cs a) : cs = [.string a.name, .int .i64 a.kind, .int .i64 a.index] ∧ a.name.size ≤ maxLen ∧ (Lit.int .i64 a.kind).wf = true ∧ (Lit.int .i64 a.index).wf = true := by
  obtain ⟨xname, rname, rfl, ⟨rfl, wname⟩, xkind, rkind, rfl, ⟨rfl, wkind⟩, rfl, windex⟩ := h
  exact ⟨rfl, wname, wkind, windex⟩
theorem Ex_mk {w : World} {S : Nat → Prop} {a : Ex}  (f0 : a.name.size ≤ maxLen) (f1 : (Lit.int .i64 a.kind).wf = true) (f2 : (Lit.int .i64 a.index).wf = true) : tEx.rd w S [.string a.name, .int .i64 a.kind, .int .i64 a.index] a :=
  ⟨[.string a.name], [.int .i64 a.kind, .int .i64 a.index], rfl, ⟨rfl, f0⟩, ⟨[.int .i64 a.kind], [.int .i64 a.index], rfl, ⟨rfl, f1⟩, ⟨rfl, f2⟩⟩⟩
theorem Ex_at {w : World} {S : Nat → Prop} {A : Option Addr} {l : List Ex} (h : tEx.els w S A l) (k : Nat) (hk : k < l.length) : ∃ (b o : Nat), A = some ⟨b, o, none⟩ ∧ S b ∧ w.cell? ⟨b, o + k * 3, none⟩ = some (.string l[k].name) ∧ w.cell? ⟨b, o + k * 3 + 1, none⟩ = some (.int .i64 l[k].kind) ∧ w.cell? ⟨b, o + k * 3 + 2, none⟩ = some (.int .i64 l[k].index) ∧ l[k].name.size ≤ maxLen ∧ (Lit.int .i64 l[k].kind).wf = true ∧ (Lit.int .i64 l[k].index).wf = true := by
  obtain ⟨b, o, ds, rfl, hb, hc, hr⟩ := h.at_ k hk
  obtain ⟨rfl, f0, f1, f2⟩ := Ex_cells hr
  have e : tEx.size = 3 := rfl
  rw [e] at hc
  exact ⟨b, o, rfl, hb, hc 0 _ rfl, (by have := hc 1 _ rfl; rwa [← Nat.add_assoc] at this), (by have := hc 2 _ rfl; rwa [← Nat.add_assoc] at this), f0, f1, f2⟩

structure El where
  mode : Int
  table : Int
  off : Nat
  type : Int
  items : List (List Ins)
def tEl0 : Ty (Int × Int × Nat × Int × List (List Ins)) := (Ty.int .i64).pair ((Ty.int .i64).pair (Ty.slen.pair ((Ty.int .i64).pair (tIns.slice.slice))))
def tEl : Ty El := tEl0.iso fun a => (a.mode, a.table, a.off, a.type, a.items)
instance : TyOk tEl := by unfold tEl tEl0; infer_instance
instance : TyMore tEl := by unfold tEl tEl0; infer_instance
instance : TyOne tEl := by unfold tEl tEl0; infer_instance
theorem opens_El : Opens Try.prog 88 tEl := by
  refine opens_iso _ (fun x => ⟨x.1, x.2.1, x.2.2.1, x.2.2.2.1, x.2.2.2.2⟩) (fun _ => rfl) ?_
  exact opens_struct Try.underlying88 (by kernel_rfl) (Flds.cons rfl (by kernel_rfl) (opens_int Try.underlying3) (Flds.cons rfl (by kernel_rfl) (opens_int Try.underlying3) (Flds.cons rfl (by kernel_rfl) (opens_slen Try.underlying85) (Flds.cons rfl (by kernel_rfl) (opens_int Try.underlying50) (Flds.one rfl (by kernel_rfl) (opens_slice Try.underlying86 (by kernel_rfl) (by decide) (opens_slice Try.underlying85 (by kernel_rfl) (by decide) opens_Ins)))))))
theorem El_cells {w : World} {S : Nat → Prop} {cs : List Value} {a : El} (h : tEl.rd w S cs a) : ∃ (Aoff : Option Addr) (coff : Nat) (Aitems : Option Addr) (citems : Nat), cs = [.int .i64 a.mode, .int .i64 a.table, .slice Aoff a.off coff, .int .i64 a.type, .slice Aitems a.items.length citems] ∧ (Lit.int .i64 a.mode).wf = true ∧ (Lit.int .i64 a.table).wf = true ∧ a.off ≤ coff ∧ coff ≤ maxLen ∧ (Lit.int .i64 a.type).wf = true ∧ a.items.length ≤ citems ∧ citems ≤ maxLen ∧ tIns.slice.els w S Aitems a.items := by
  obtain ⟨xmode, rmode, rfl, ⟨rfl, wmode⟩, xtable, rtable, rfl, ⟨rfl, wtable⟩, xoff, roff, rfl, ⟨Aoff, coff, rfl, goff, moff⟩, xtype, rtype, rfl, ⟨rfl, wtype⟩, Aitems, citems, rfl, gitems, mitems, eitems⟩ := h
  exact ⟨Aoff, coff, Aitems, citems, rfl, wmode, wtable, goff, moff, wtype, gitems, mitems, eitems⟩
theorem El_mk {w : World} {S : Nat → Prop} {a : El} {Aoff : Option Addr} {coff : Nat} {Aitems : Option Addr} {citems : Nat} (f0 : (Lit.int .i64 a.mode).wf = true) (f1 : (Lit.int .i64 a.table).wf = true) (f2 : a.off ≤ coff) (f3 : coff ≤ maxLen) (f4 : (Lit.int .i64 a.type).wf = true) (f5 : a.items.length ≤ citems) (f6 : citems ≤ maxLen) (f7 : tIns.slice.els w S Aitems a.items) : tEl.rd w S [.int .i64 a.mode, .int .i64 a.table, .slice Aoff a.off coff, .int .i64 a.type, .slice Aitems a.items.length citems] a :=
  ⟨[.int .i64 a.mode], [.int .i64 a.table, .slice Aoff a.off coff, .int .i64 a.type, .slice Aitems a.items.length citems], rfl, ⟨rfl, f0⟩, ⟨[.int .i64 a.table], [.slice Aoff a.off coff, .int .i64 a.type, .slice Aitems a.items.length citems], rfl, ⟨rfl, f1⟩, ⟨[.slice Aoff a.off coff], [.int .i64 a.type, .slice Aitems a.items.length citems], rfl, ⟨_, _, rfl, f2, f3⟩, ⟨[.int .i64 a.type], [.slice Aitems a.items.length citems], rfl, ⟨rfl, f4⟩, ⟨_, _, rfl, f5, f6, f7⟩⟩⟩⟩⟩
theorem El_at {w : World} {S : Nat → Prop} {A : Option Addr} {l : List El} (h : tEl.els w S A l) (k : Nat) (hk : k < l.length) : ∃ (b o : Nat) (Aoff : Option Addr) (coff : Nat) (Aitems : Option Addr) (citems : Nat), A = some ⟨b, o, none⟩ ∧ S b ∧ w.cell? ⟨b, o + k * 5, none⟩ = some (.int .i64 l[k].mode) ∧ w.cell? ⟨b, o + k * 5 + 1, none⟩ = some (.int .i64 l[k].table) ∧ w.cell? ⟨b, o + k * 5 + 2, none⟩ = some (.slice Aoff l[k].off coff) ∧ w.cell? ⟨b, o + k * 5 + 3, none⟩ = some (.int .i64 l[k].type) ∧ w.cell? ⟨b, o + k * 5 + 4, none⟩ = some (.slice Aitems l[k].items.length citems) ∧ (Lit.int .i64 l[k].mode).wf = true ∧ (Lit.int .i64 l[k].table).wf = true ∧ l[k].off ≤ coff ∧ coff ≤ maxLen ∧ (Lit.int .i64 l[k].type).wf = true ∧ l[k].items.length ≤ citems ∧ citems ≤ maxLen ∧ tIns.slice.els w S Aitems l[k].items := by
  obtain ⟨b, o, ds, rfl, hb, hc, hr⟩ := h.at_ k hk
  obtain ⟨Aoff, coff, Aitems, citems, rfl, f0, f1, f2, f3, f4, f5, f6, f7⟩ := El_cells hr
  have e : tEl.size = 5 := rfl
  rw [e] at hc
  exact ⟨b, o, Aoff, coff, Aitems, citems, rfl, hb, hc 0 _ rfl, (by have := hc 1 _ rfl; rwa [← Nat.add_assoc] at this), (by have := hc 2 _ rfl; rwa [← Nat.add_assoc] at this), (by have := hc 3 _ rfl; rwa [← Nat.add_assoc] at this), (by have := hc 4 _ rfl; rwa [← Nat.add_assoc] at this), f0, f1, f2, f3, f4, f5, f6, f7⟩

structure Md where
  types : List Fn
  imports : List Im
  funcs : List Cd
  tables : List Tb
  mems : List Lim
  globals : List Gd
  exports : List Ex
  hasStart : Bool
  start : Int
  elems : List El
  datas : Nat
  customs : Nat
def tMd0 : Ty (List Fn × List Im × List Cd × List Tb × List Lim × List Gd × List Ex × Bool × Int × List El × Nat × Nat) := tFn.slice.pair (tIm.slice.pair (tCd.slice.pair (tTb.slice.pair (tLim.slice.pair (tGd.slice.pair (tEx.slice.pair (Ty.bool.pair ((Ty.int .i64).pair (tEl.slice.pair (Ty.slen.pair (Ty.slen)))))))))))
def tMd : Ty Md := tMd0.iso fun a => (a.types, a.imports, a.funcs, a.tables, a.mems, a.globals, a.exports, a.hasStart, a.start, a.elems, a.datas, a.customs)
instance : TyOk tMd := by unfold tMd tMd0; infer_instance
instance : TyMore tMd := by unfold tMd tMd0; infer_instance
instance : TyOne tMd := by unfold tMd tMd0; infer_instance
theorem opens_Md : Opens Try.prog 33 tMd := by
  refine opens_iso _ (fun x => ⟨x.1, x.2.1, x.2.2.1, x.2.2.2.1, x.2.2.2.2.1, x.2.2.2.2.2.1, x.2.2.2.2.2.2.1, x.2.2.2.2.2.2.2.1, x.2.2.2.2.2.2.2.2.1, x.2.2.2.2.2.2.2.2.2.1, x.2.2.2.2.2.2.2.2.2.2.1, x.2.2.2.2.2.2.2.2.2.2.2⟩) (fun _ => rfl) ?_
  exact opens_struct Try.underlying33 (by kernel_rfl) (Flds.cons rfl (by kernel_rfl) (opens_slice Try.underlying22 (by kernel_rfl) (by decide) opens_Fn) (Flds.cons rfl (by kernel_rfl) (opens_slice Try.underlying23 (by kernel_rfl) (by decide) opens_Im) (Flds.cons rfl (by kernel_rfl) (opens_slice Try.underlying24 (by kernel_rfl) (by decide) opens_Cd) (Flds.cons rfl (by kernel_rfl) (opens_slice Try.underlying25 (by kernel_rfl) (by decide) opens_Tb) (Flds.cons rfl (by kernel_rfl) (opens_slice Try.underlying26 (by kernel_rfl) (by decide) opens_Lim) (Flds.cons rfl (by kernel_rfl) (opens_slice Try.underlying27 (by kernel_rfl) (by decide) opens_Gd) (Flds.cons rfl (by kernel_rfl) (opens_slice Try.underlying28 (by kernel_rfl) (by decide) opens_Ex) (Flds.cons rfl (by kernel_rfl) (opens_bool Try.underlying4) (Flds.cons rfl (by kernel_rfl) (opens_int Try.underlying3) (Flds.cons rfl (by kernel_rfl) (opens_slice Try.underlying29 (by kernel_rfl) (by decide) opens_El) (Flds.cons rfl (by kernel_rfl) (opens_slen Try.underlying30) (Flds.one rfl (by kernel_rfl) (opens_slen Try.underlying31)))))))))))))
theorem Md_cells {w : World} {S : Nat → Prop} {cs : List Value} {a : Md} (h : tMd.rd w S cs a) : ∃ (Atypes : Option Addr) (ctypes : Nat) (Aimports : Option Addr) (cimports : Nat) (Afuncs : Option Addr) (cfuncs : Nat) (Atables : Option Addr) (ctables : Nat) (Amems : Option Addr) (cmems : Nat) (Aglobals : Option Addr) (cglobals : Nat) (Aexports : Option Addr) (cexports : Nat) (Aelems : Option Addr) (celems : Nat) (Adatas : Option Addr) (cdatas : Nat) (Acustoms : Option Addr) (ccustoms : Nat), cs = [.slice Atypes a.types.length ctypes, .slice Aimports a.imports.length cimports, .slice Afuncs a.funcs.length cfuncs, .slice Atables a.tables.length ctables, .slice Amems a.mems.length cmems, .slice Aglobals a.globals.length cglobals, .slice Aexports a.exports.length cexports, .bool a.hasStart, .int .i64 a.start, .slice Aelems a.elems.length celems, .slice Adatas a.datas cdatas, .slice Acustoms a.customs ccustoms] ∧ a.types.length ≤ ctypes ∧ ctypes ≤ maxLen ∧ tFn.els w S Atypes a.types ∧ a.imports.length ≤ cimports ∧ cimports ≤ maxLen ∧ tIm.els w S Aimports a.imports ∧ a.funcs.length ≤ cfuncs ∧ cfuncs ≤ maxLen ∧ tCd.els w S Afuncs a.funcs ∧ a.tables.length ≤ ctables ∧ ctables ≤ maxLen ∧ tTb.els w S Atables a.tables ∧ a.mems.length ≤ cmems ∧ cmems ≤ maxLen ∧ tLim.els w S Amems a.mems ∧ a.globals.length ≤ cglobals ∧ cglobals ≤ maxLen ∧ tGd.els w S Aglobals a.globals ∧ a.exports.length ≤ cexports ∧ cexports ≤ maxLen ∧ tEx.els w S Aexports a.exports ∧ (Lit.int .i64 a.start).wf = true ∧ a.elems.length ≤ celems ∧ celems ≤ maxLen ∧ tEl.els w S Aelems a.elems ∧ a.datas ≤ cdatas ∧ cdatas ≤ maxLen ∧ a.customs ≤ ccustoms ∧ ccustoms ≤ maxLen := by
  obtain ⟨xtypes, rtypes, rfl, ⟨Atypes, ctypes, rfl, gtypes, mtypes, etypes⟩, ximports, rimports, rfl, ⟨Aimports, cimports, rfl, gimports, mimports, eimports⟩, xfuncs, rfuncs, rfl, ⟨Afuncs, cfuncs, rfl, gfuncs, mfuncs, efuncs⟩, xtables, rtables, rfl, ⟨Atables, ctables, rfl, gtables, mtables, etables⟩, xmems, rmems, rfl, ⟨Amems, cmems, rfl, gmems, mmems, emems⟩, xglobals, rglobals, rfl, ⟨Aglobals, cglobals, rfl, gglobals, mglobals, eglobals⟩, xexports, rexports, rfl, ⟨Aexports, cexports, rfl, gexports, mexports, eexports⟩, xhasStart, rhasStart, rfl, rfl, xstart, rstart, rfl, ⟨rfl, wstart⟩, xelems, relems, rfl, ⟨Aelems, celems, rfl, gelems, melems, eelems⟩, xdatas, rdatas, rfl, ⟨Adatas, cdatas, rfl, gdatas, mdatas⟩, Acustoms, ccustoms, rfl, gcustoms, mcustoms⟩ := h
  exact ⟨Atypes, ctypes, Aimports, cimports, Afuncs, cfuncs, Atables, ctables, Amems, cmems, Aglobals, cglobals, Aexports, cexports, Aelems, celems, Adatas, cdatas, Acustoms, ccustoms, rfl, gtypes, mtypes, etypes, gimports, mimports, eimports, gfuncs, mfuncs, efuncs, gtables, mtables, etables, gmems, mmems, emems, gglobals, mglobals, eglobals, gexports, mexports, eexports, wstart, gelems, melems, eelems, gdatas, mdatas, gcustoms, mcustoms⟩
theorem Md_mk {w : World} {S : Nat → Prop} {a : Md} {Atypes : Option Addr} {ctypes : Nat} {Aimports : Option Addr} {cimports : Nat} {Afuncs : Option Addr} {cfuncs : Nat} {Atables : Option Addr} {ctables : Nat} {Amems : Option Addr} {cmems : Nat} {Aglobals : Option Addr} {cglobals : Nat} {Aexports : Option Addr} {cexports : Nat} {Aelems : Option Addr} {celems : Nat} {Adatas : Option Addr} {cdatas : Nat} {Acustoms : Option Addr} {ccustoms : Nat} (f0 : a.types.length ≤ ctypes) (f1 : ctypes ≤ maxLen) (f2 : tFn.els w S Atypes a.types) (f3 : a.imports.length ≤ cimports) (f4 : cimports ≤ maxLen) (f5 : tIm.els w S Aimports a.imports) (f6 : a.funcs.length ≤ cfuncs) (f7 : cfuncs ≤ maxLen) (f8 : tCd.els w S Afuncs a.funcs) (f9 : a.tables.length ≤ ctables) (f10 : ctables ≤ maxLen) (f11 : tTb.els w S Atables a.tables) (f12 : a.mems.length ≤ cmems) (f13 : cmems ≤ maxLen) (f14 : tLim.els w S Amems a.mems) (f15 : a.globals.length ≤ cglobals) (f16 : cglobals ≤ maxLen) (f17 : tGd.els w S Aglobals a.globals) (f18 : a.exports.length ≤ cexports) (f19 : cexports ≤ maxLen) (f20 : tEx.els w S Aexports a.exports) (f21 : (Lit.int .i64 a.start).wf = true) (f22 : a.elems.length ≤ celems) (f23 : celems ≤ maxLen) (f24 : tEl.els w S Aelems a.elems) (f25 : a.datas ≤ cdatas) (f26 : cdatas ≤ maxLen) (f27 : a.customs ≤ ccustoms) (f28 : ccustoms ≤ maxLen) : tMd.rd w S [.slice Atypes a.types.length ctypes, .slice Aimports a.imports.length cimports, .slice Afuncs a.funcs.length cfuncs, .slice Atables a.tables.length ctables, .slice Amems a.mems.length cmems, .slice Aglobals a.globals.length cglobals, .slice Aexports a.exports.length cexports, .bool a.hasStart, .int .i64 a.start, .slice Aelems a.elems.length celems, .slice Adatas a.datas cdatas, .slice Acustoms a.customs ccustoms] a :=
  ⟨[.slice Atypes a.types.length ctypes], [.slice Aimports a.imports.length cimports, .slice Afuncs a.funcs.length cfuncs, .slice Atables a.tables.length ctables, .slice Amems a.mems.length cmems, .slice Aglobals a.globals.length cglobals, .slice Aexports a.exports.length cexports, .bool a.hasStart, .int .i64 a.start, .slice Aelems a.elems.length celems, .slice Adatas a.datas cdatas, .slice Acustoms a.customs ccustoms], rfl, ⟨_, _, rfl, f0, f1, f2⟩, ⟨[.slice Aimports a.imports.length cimports], [.slice Afuncs a.funcs.length cfuncs, .slice Atables a.tables.length ctables, .slice Amems a.mems.length cmems, .slice Aglobals a.globals.length cglobals, .slice Aexports a.exports.length cexports, .bool a.hasStart, .int .i64 a.start, .slice Aelems a.elems.length celems, .slice Adatas a.datas cdatas, .slice Acustoms a.customs ccustoms], rfl, ⟨_, _, rfl, f3, f4, f5⟩, ⟨[.slice Afuncs a.funcs.length cfuncs], [.slice Atables a.tables.length ctables, .slice Amems a.mems.length cmems, .slice Aglobals a.globals.length cglobals, .slice Aexports a.exports.length cexports, .bool a.hasStart, .int .i64 a.start, .slice Aelems a.elems.length celems, .slice Adatas a.datas cdatas, .slice Acustoms a.customs ccustoms], rfl, ⟨_, _, rfl, f6, f7, f8⟩, ⟨[.slice Atables a.tables.length ctables], [.slice Amems a.mems.length cmems, .slice Aglobals a.globals.length cglobals, .slice Aexports a.exports.length cexports, .bool a.hasStart, .int .i64 a.start, .slice Aelems a.elems.length celems, .slice Adatas a.datas cdatas, .slice Acustoms a.customs ccustoms], rfl, ⟨_, _, rfl, f9, f10, f11⟩, ⟨[.slice Amems a.mems.length cmems], [.slice Aglobals a.globals.length cglobals, .slice Aexports a.exports.length cexports, .bool a.hasStart, .int .i64 a.start, .slice Aelems a.elems.length celems, .slice Adatas a.datas cdatas, .slice Acustoms a.customs ccustoms], rfl, ⟨_, _, rfl, f12, f13, f14⟩, ⟨[.slice Aglobals a.globals.length cglobals], [.slice Aexports a.exports.length cexports, .bool a.hasStart, .int .i64 a.start, .slice Aelems a.elems.length celems, .slice Adatas a.datas cdatas, .slice Acustoms a.customs ccustoms], rfl, ⟨_, _, rfl, f15, f16, f17⟩, ⟨[.slice Aexports a.exports.length cexports], [.bool a.hasStart, .int .i64 a.start, .slice Aelems a.elems.length celems, .slice Adatas a.datas cdatas, .slice Acustoms a.customs ccustoms], rfl, ⟨_, _, rfl, f18, f19, f20⟩, ⟨[.bool a.hasStart], [.int .i64 a.start, .slice Aelems a.elems.length celems, .slice Adatas a.datas cdatas, .slice Acustoms a.customs ccustoms], rfl, rfl, ⟨[.int .i64 a.start], [.slice Aelems a.elems.length celems, .slice Adatas a.datas cdatas, .slice Acustoms a.customs ccustoms], rfl, ⟨rfl, f21⟩, ⟨[.slice Aelems a.elems.length celems], [.slice Adatas a.datas cdatas, .slice Acustoms a.customs ccustoms], rfl, ⟨_, _, rfl, f22, f23, f24⟩, ⟨[.slice Adatas a.datas cdatas], [.slice Acustoms a.customs ccustoms], rfl, ⟨_, _, rfl, f25, f26⟩, ⟨_, _, rfl, f27, f28⟩⟩⟩⟩⟩⟩⟩⟩⟩⟩⟩⟩
theorem Md_at {w : World} {S : Nat → Prop} {A : Option Addr} {l : List Md} (h : tMd.els w S A l) (k : Nat) (hk : k < l.length) : ∃ (b o : Nat) (Atypes : Option Addr) (ctypes : Nat) (Aimports : Option Addr) (cimports : Nat) (Afuncs : Option Addr) (cfuncs : Nat) (Atables : Option Addr) (ctables : Nat) (Amems : Option Addr) (cmems : Nat) (Aglobals : Option Addr) (cglobals : Nat) (Aexports : Option Addr) (cexports : Nat) (Aelems : Option Addr) (celems : Nat) (Adatas : Option Addr) (cdatas : Nat) (Acustoms : Option Addr) (ccustoms : Nat), A = some ⟨b, o, none⟩ ∧ S b ∧ w.cell? ⟨b, o + k * 12, none⟩ = some (.slice Atypes l[k].types.length ctypes) ∧ w.cell? ⟨b, o + k * 12 + 1, none⟩ = some (.slice Aimports l[k].imports.length cimports) ∧ w.cell? ⟨b, o + k * 12 + 2, none⟩ = some (.slice Afuncs l[k].funcs.length cfuncs) ∧ w.cell? ⟨b, o + k * 12 + 3, none⟩ = some (.slice Atables l[k].tables.length ctables) ∧ w.cell? ⟨b, o + k * 12 + 4, none⟩ = some (.slice Amems l[k].mems.length cmems) ∧ w.cell? ⟨b, o + k * 12 + 5, none⟩ = some (.slice Aglobals l[k].globals.length cglobals) ∧ w.cell? ⟨b, o + k * 12 + 6, none⟩ = some (.slice Aexports l[k].exports.length cexports) ∧ w.cell? ⟨b, o + k * 12 + 7, none⟩ = some (.bool l[k].hasStart) ∧ w.cell? ⟨b, o + k * 12 + 8, none⟩ = some (.int .i64 l[k].start) ∧ w.cell? ⟨b, o + k * 12 + 9, none⟩ = some (.slice Aelems l[k].elems.length celems) ∧ w.cell? ⟨b, o + k * 12 + 10, none⟩ = some (.slice Adatas l[k].datas cdatas) ∧ w.cell? ⟨b, o + k * 12 + 11, none⟩ = some (.slice Acustoms l[k].customs ccustoms) ∧ l[k].types.length ≤ ctypes ∧ ctypes ≤ maxLen ∧ tFn.els w S Atypes l[k].types ∧ l[k].imports.length ≤ cimports ∧ cimports ≤ maxLen ∧ tIm.els w S Aimports l[k].imports ∧ l[k].funcs.length ≤ cfuncs ∧ cfuncs ≤ maxLen ∧ tCd.els w S Afuncs l[k].funcs ∧ l[k].tables.length ≤ ctables ∧ ctables ≤ maxLen ∧ tTb.els w S Atables l[k].tables ∧ l[k].mems.length ≤ cmems ∧ cmems ≤ maxLen ∧ tLim.els w S Amems l[k].mems ∧ l[k].globals.length ≤ cglobals ∧ cglobals ≤ maxLen ∧ tGd.els w S Aglobals l[k].globals ∧ l[k].exports.length ≤ cexports ∧ cexports ≤ maxLen ∧ tEx.els w S Aexports l[k].exports ∧ (Lit.int .i64 l[k].start).wf = true ∧ l[k].elems.length ≤ celems ∧ celems ≤ maxLen ∧ tEl.els w S Aelems l[k].elems ∧ l[k].datas ≤ cdatas ∧ cdatas ≤ maxLen ∧ l[k].customs ≤ ccustoms ∧ ccustoms ≤ maxLen := by
  obtain ⟨b, o, ds, rfl, hb, hc, hr⟩ := h.at_ k hk
  obtain ⟨Atypes, ctypes, Aimports, cimports, Afuncs, cfuncs, Atables, ctables, Amems, cmems, Aglobals, cglobals, Aexports, cexports, Aelems, celems, Adatas, cdatas, Acustoms, ccustoms, rfl, f0, f1, f2, f3, f4, f5, f6, f7, f8, f9, f10, f11, f12, f13, f14, f15, f16, f17, f18, f19, f20, f21, f22, f23, f24, f25, f26, f27, f28⟩ := Md_cells hr
  have e : tMd.size = 12 := rfl
  rw [e] at hc
  exact ⟨b, o, Atypes, ctypes, Aimports, cimports, Afuncs, cfuncs, Atables, ctables, Amems, cmems, Aglobals, cglobals, Aexports, cexports, Aelems, celems, Adatas, cdatas, Acustoms, ccustoms, rfl, hb, hc 0 _ rfl, (by have := hc 1 _ rfl; rwa [← Nat.add_assoc] at this), (by have := hc 2 _ rfl; rwa [← Nat.add_assoc] at this), (by have := hc 3 _ rfl; rwa [← Nat.add_assoc] at this), (by have := hc 4 _ rfl; rwa [← Nat.add_assoc] at this), (by have := hc 5 _ rfl; rwa [← Nat.add_assoc] at this), (by have := hc 6 _ rfl; rwa [← Nat.add_assoc] at this), (by have := hc 7 _ rfl; rwa [← Nat.add_assoc] at this), (by have := hc 8 _ rfl; rwa [← Nat.add_assoc] at this), (by have := hc 9 _ rfl; rwa [← Nat.add_assoc] at this), (by have := hc 10 _ rfl; rwa [← Nat.add_assoc] at this), (by have := hc 11 _ rfl; rwa [← Nat.add_assoc] at this), f0, f1, f2, f3, f4, f5, f6, f7, f8, f9, f10, f11, f12, f13, f14, f15, f16, f17, f18, f19, f20, f21, f22, f23, f24, f25, f26, f27, f28⟩

theorem ints_at {k : IntKind} {w : World} {S : Nat → Prop} {A : Option Addr} {l : List Int} (h : (Ty.int k).els w S A l) (i : Nat) (hi : i < l.length) : ∃ (b o : Nat), A = some ⟨b, o, none⟩ ∧ S b ∧
    w.cell? ⟨b, o + i, none⟩ = some (.int k l[i]) ∧ (Lit.int k l[i]).wf = true := by
  obtain ⟨b, o, ds, rfl, hb, hc, rfl, hw⟩ := h.at_ i hi
  have := hc 0 _ rfl
  have e : (Ty.int k).size = 1 := rfl
  rw [e, Nat.mul_one, Nat.add_zero] at this
  exact ⟨b, o, rfl, hb, this, hw⟩
theorem int_mk {k : IntKind} {w : World} {S : Nat → Prop} {n : Int} (h : (Lit.int k n).wf = true) : (Ty.int k).rd w S [.int k n] n := ⟨rfl, h⟩
theorem blk_els {α : Type} {t : Ty α} [TyOk t] [hm : TyMore t] {w : World} {q : Nat} {S : Nat → Prop} {e : TypeId} {css : List (List Value)} {xs : List α} (hb : Blk w q e css.flatten.toArray) (hq : S q) (h : Css t w S css xs) : t.els w S (some ⟨q, 0, none⟩) xs :=
  css_els h hm (fun _ h => h) hq 0 (fun k u hu => by rw [Nat.zero_add, hb.cell]; simpa using hu)
theorem wf_bool64 {n : Int} (h : -9223372036854775808 ≤ n ∧ n ≤ 9223372036854775807) : (Lit.int .i64 n).wf = true := by
  simpa [Lit.wf, IntKind.min, IntKind.max, IntKind.signed, IntKind.bits] using h

end Go.Proofs.Ytfngopoaegofhaa
