/- Types of data as structures, with their readings. -/
import Derived.Test.YthggdemiddjlgaaSels
namespace Go.Proofs.Ythggdemiddjlgaa
open Go.RowKit

structure Vl where
  t : Int
  n : Int
  deriving DecidableEq
def tVl0 : Ty (Int × Int) := (Ty.int .i64).pair ((Ty.int .u64))
def tVl : Ty Vl := tVl0.iso fun a => (a.t, a.n)
instance : TyOk tVl := by unfold tVl tVl0; infer_instance
instance : TyMore tVl := by unfold tVl tVl0; infer_instance
instance : TyOne tVl := by unfold tVl tVl0; infer_instance
theorem opens_Vl : Opens Try.prog 40 tVl := by
  refine opens_iso _ (fun x => ⟨x.1, x.2⟩) (fun _ => rfl) ?_
  exact opens_struct Try.underlying40 (by kernel_rfl) (Flds.cons rfl (by kernel_rfl) (opens_int Try.underlying35) (Flds.one rfl (by kernel_rfl) (opens_int Try.underlying38)))
theorem Vl_cells {w : World} {S : Nat → Prop} {cs : List Value} {a : Vl} (h : tVl.rd w S cs a) : cs = [.int .i64 a.t, .int .u64 a.n] ∧ (Lit.int .i64 a.t).wf = true ∧ (Lit.int .u64 a.n).wf = true := by
  obtain ⟨xt, rt, rfl, ⟨rfl, wt⟩, rfl, wn⟩ := h
  exact ⟨rfl, wt, wn⟩
theorem Vl_mk {w : World} {S : Nat → Prop} {a : Vl}  (f0 : (Lit.int .i64 a.t).wf = true) (f1 : (Lit.int .u64 a.n).wf = true) : tVl.rd w S [.int .i64 a.t, .int .u64 a.n] a :=
  ⟨[.int .i64 a.t], [.int .u64 a.n], rfl, ⟨rfl, f0⟩, ⟨rfl, f1⟩⟩
theorem Vl_at {w : World} {S : Nat → Prop} {A : Option Addr} {l : List Vl} (h : tVl.els w S A l) (k : Nat) (hk : k < l.length) : ∃ (b o : Nat), A = some ⟨b, o, none⟩ ∧ S b ∧ w.cell? ⟨b, o + k * 2, none⟩ = some (.int .i64 l[k].t) ∧ w.cell? ⟨b, o + k * 2 + 1, none⟩ = some (.int .u64 l[k].n) ∧ (Lit.int .i64 l[k].t).wf = true ∧ (Lit.int .u64 l[k].n).wf = true := by
  obtain ⟨b, o, ds, rfl, hb, hc, hr⟩ := h.at_ k hk
  obtain ⟨rfl, f0, f1⟩ := Vl_cells hr
  have e : tVl.size = 2 := rfl
  rw [e] at hc
  exact ⟨b, o, rfl, hb, hc 0 _ rfl, (by have := hc 1 _ rfl; rwa [← Nat.add_assoc] at this), f0, f1⟩

structure Ac where
  kind : Int
  vals : List Vl
  mem : Int
  at_ : Int
  byte : Int
def tAc0 : Ty (Int × List Vl × Int × Int × Int) := (Ty.int .i64).pair (tVl.slice.pair ((Ty.int .i64).pair ((Ty.int .i64).pair ((Ty.int .u8)))))
def tAc : Ty Ac := tAc0.iso fun a => (a.kind, a.vals, a.mem, a.at_, a.byte)
instance : TyOk tAc := by unfold tAc tAc0; infer_instance
instance : TyMore tAc := by unfold tAc tAc0; infer_instance
instance : TyOne tAc := by unfold tAc tAc0; infer_instance
theorem opens_Ac : Opens Try.prog 118 tAc := by
  refine opens_iso _ (fun x => ⟨x.1, x.2.1, x.2.2.1, x.2.2.2.1, x.2.2.2.2⟩) (fun _ => rfl) ?_
  exact opens_struct Try.underlying118 (by kernel_rfl) (Flds.cons rfl (by kernel_rfl) (opens_int Try.underlying3) (Flds.cons rfl (by kernel_rfl) (opens_slice Try.underlying116 (by kernel_rfl) (by decide) opens_Vl) (Flds.cons rfl (by kernel_rfl) (opens_int Try.underlying3) (Flds.cons rfl (by kernel_rfl) (opens_int Try.underlying3) (Flds.one rfl (by kernel_rfl) (opens_int Try.underlying5))))))
theorem Ac_cells {w : World} {S : Nat → Prop} {cs : List Value} {a : Ac} (h : tAc.rd w S cs a) : ∃ (Avals : Option Addr) (cvals : Nat), cs = [.int .i64 a.kind, .slice Avals a.vals.length cvals, .int .i64 a.mem, .int .i64 a.at_, .int .u8 a.byte] ∧ (Lit.int .i64 a.kind).wf = true ∧ a.vals.length ≤ cvals ∧ cvals ≤ maxLen ∧ tVl.els w S Avals a.vals ∧ (Lit.int .i64 a.mem).wf = true ∧ (Lit.int .i64 a.at_).wf = true ∧ (Lit.int .u8 a.byte).wf = true := by
  obtain ⟨xkind, rkind, rfl, ⟨rfl, wkind⟩, xvals, rvals, rfl, ⟨Avals, cvals, rfl, gvals, mvals, evals⟩, xmem, rmem, rfl, ⟨rfl, wmem⟩, xat_, rat_, rfl, ⟨rfl, wat_⟩, rfl, wbyte⟩ := h
  exact ⟨Avals, cvals, rfl, wkind, gvals, mvals, evals, wmem, wat_, wbyte⟩
theorem Ac_mk {w : World} {S : Nat → Prop} {a : Ac} {Avals : Option Addr} {cvals : Nat} (f0 : (Lit.int .i64 a.kind).wf = true) (f1 : a.vals.length ≤ cvals) (f2 : cvals ≤ maxLen) (f3 : tVl.els w S Avals a.vals) (f4 : (Lit.int .i64 a.mem).wf = true) (f5 : (Lit.int .i64 a.at_).wf = true) (f6 : (Lit.int .u8 a.byte).wf = true) : tAc.rd w S [.int .i64 a.kind, .slice Avals a.vals.length cvals, .int .i64 a.mem, .int .i64 a.at_, .int .u8 a.byte] a :=
  ⟨[.int .i64 a.kind], [.slice Avals a.vals.length cvals, .int .i64 a.mem, .int .i64 a.at_, .int .u8 a.byte], rfl, ⟨rfl, f0⟩, ⟨[.slice Avals a.vals.length cvals], [.int .i64 a.mem, .int .i64 a.at_, .int .u8 a.byte], rfl, ⟨_, _, rfl, f1, f2, f3⟩, ⟨[.int .i64 a.mem], [.int .i64 a.at_, .int .u8 a.byte], rfl, ⟨rfl, f4⟩, ⟨[.int .i64 a.at_], [.int .u8 a.byte], rfl, ⟨rfl, f5⟩, ⟨rfl, f6⟩⟩⟩⟩⟩
theorem Ac_at {w : World} {S : Nat → Prop} {A : Option Addr} {l : List Ac} (h : tAc.els w S A l) (k : Nat) (hk : k < l.length) : ∃ (b o : Nat) (Avals : Option Addr) (cvals : Nat), A = some ⟨b, o, none⟩ ∧ S b ∧ w.cell? ⟨b, o + k * 5, none⟩ = some (.int .i64 l[k].kind) ∧ w.cell? ⟨b, o + k * 5 + 1, none⟩ = some (.slice Avals l[k].vals.length cvals) ∧ w.cell? ⟨b, o + k * 5 + 2, none⟩ = some (.int .i64 l[k].mem) ∧ w.cell? ⟨b, o + k * 5 + 3, none⟩ = some (.int .i64 l[k].at_) ∧ w.cell? ⟨b, o + k * 5 + 4, none⟩ = some (.int .u8 l[k].byte) ∧ (Lit.int .i64 l[k].kind).wf = true ∧ l[k].vals.length ≤ cvals ∧ cvals ≤ maxLen ∧ tVl.els w S Avals l[k].vals ∧ (Lit.int .i64 l[k].mem).wf = true ∧ (Lit.int .i64 l[k].at_).wf = true ∧ (Lit.int .u8 l[k].byte).wf = true := by
  obtain ⟨b, o, ds, rfl, hb, hc, hr⟩ := h.at_ k hk
  obtain ⟨Avals, cvals, rfl, f0, f1, f2, f3, f4, f5, f6⟩ := Ac_cells hr
  have e : tAc.size = 5 := rfl
  rw [e] at hc
  exact ⟨b, o, Avals, cvals, rfl, hb, hc 0 _ rfl, (by have := hc 1 _ rfl; rwa [← Nat.add_assoc] at this), (by have := hc 2 _ rfl; rwa [← Nat.add_assoc] at this), (by have := hc 3 _ rfl; rwa [← Nat.add_assoc] at this), (by have := hc 4 _ rfl; rwa [← Nat.add_assoc] at this), f0, f1, f2, f3, f4, f5, f6⟩

structure Fn where
  params : List Int
  results : List Int
  deriving DecidableEq
def tFn0 : Ty (List Int × List Int) := (Ty.int .i64).slice.pair ((Ty.int .i64).slice)
def tFn : Ty Fn := tFn0.iso fun a => (a.params, a.results)
instance : TyOk tFn := by unfold tFn tFn0; infer_instance
instance : TyMore tFn := by unfold tFn tFn0; infer_instance
instance : TyOne tFn := by unfold tFn tFn0; infer_instance
theorem opens_Fn : Opens Try.prog 96 tFn := by
  refine opens_iso _ (fun x => ⟨x.1, x.2⟩) (fun _ => rfl) ?_
  exact opens_struct Try.underlying96 (by kernel_rfl) (Flds.cons rfl (by kernel_rfl) (opens_slice Try.underlying94 (by kernel_rfl) (by decide) (opens_int Try.underlying35)) (Flds.one rfl (by kernel_rfl) (opens_slice Try.underlying94 (by kernel_rfl) (by decide) (opens_int Try.underlying35))))
theorem Fn_cells {w : World} {S : Nat → Prop} {cs : List Value} {a : Fn} (h : tFn.rd w S cs a) : ∃ (Aparams : Option Addr) (cparams : Nat) (Aresults : Option Addr) (cresults : Nat), cs = [.slice Aparams a.params.length cparams, .slice Aresults a.results.length cresults] ∧ a.params.length ≤ cparams ∧ cparams ≤ maxLen ∧ (Ty.int .i64).els w S Aparams a.params ∧ a.results.length ≤ cresults ∧ cresults ≤ maxLen ∧ (Ty.int .i64).els w S Aresults a.results := by
  obtain ⟨xparams, rparams, rfl, ⟨Aparams, cparams, rfl, gparams, mparams, eparams⟩, Aresults, cresults, rfl, gresults, mresults, eresults⟩ := h
  exact ⟨Aparams, cparams, Aresults, cresults, rfl, gparams, mparams, eparams, gresults, mresults, eresults⟩
theorem Fn_mk {w : World} {S : Nat → Prop} {a : Fn} {Aparams : Option Addr} {cparams : Nat} {Aresults : Option Addr} {cresults : Nat} (f0 : a.params.length ≤ cparams) (f1 : cparams ≤ maxLen) (f2 : (Ty.int .i64).els w S Aparams a.params) (f3 : a.results.length ≤ cresults) (f4 : cresults ≤ maxLen) (f5 : (Ty.int .i64).els w S Aresults a.results) : tFn.rd w S [.slice Aparams a.params.length cparams, .slice Aresults a.results.length cresults] a :=
  ⟨[.slice Aparams a.params.length cparams], [.slice Aresults a.results.length cresults], rfl, ⟨_, _, rfl, f0, f1, f2⟩, ⟨_, _, rfl, f3, f4, f5⟩⟩
theorem Fn_at {w : World} {S : Nat → Prop} {A : Option Addr} {l : List Fn} (h : tFn.els w S A l) (k : Nat) (hk : k < l.length) : ∃ (b o : Nat) (Aparams : Option Addr) (cparams : Nat) (Aresults : Option Addr) (cresults : Nat), A = some ⟨b, o, none⟩ ∧ S b ∧ w.cell? ⟨b, o + k * 2, none⟩ = some (.slice Aparams l[k].params.length cparams) ∧ w.cell? ⟨b, o + k * 2 + 1, none⟩ = some (.slice Aresults l[k].results.length cresults) ∧ l[k].params.length ≤ cparams ∧ cparams ≤ maxLen ∧ (Ty.int .i64).els w S Aparams l[k].params ∧ l[k].results.length ≤ cresults ∧ cresults ≤ maxLen ∧ (Ty.int .i64).els w S Aresults l[k].results := by
  obtain ⟨b, o, ds, rfl, hb, hc, hr⟩ := h.at_ k hk
  obtain ⟨Aparams, cparams, Aresults, cresults, rfl, f0, f1, f2, f3, f4, f5⟩ := Fn_cells hr
  have e : tFn.size = 2 := rfl
  rw [e] at hc
  exact ⟨b, o, Aparams, cparams, Aresults, cresults, rfl, hb, hc 0 _ rfl, (by have := hc 1 _ rfl; rwa [← Nat.add_assoc] at this), f0, f1, f2, f3, f4, f5⟩

structure Ho where
  mod : ByteArray
  name : ByteArray
  ty : Fn
  acts : List Ac
def tHo0 : Ty (ByteArray × ByteArray × Fn × List Ac) := Ty.str.pair (Ty.str.pair (tFn.pair (tAc.slice)))
def tHo : Ty Ho := tHo0.iso fun a => (a.mod, a.name, a.ty, a.acts)
instance : TyOk tHo := by unfold tHo tHo0; infer_instance
instance : TyMore tHo := by unfold tHo tHo0; infer_instance
instance : TyOne tHo := by unfold tHo tHo0; infer_instance
theorem opens_Ho : Opens Try.prog 99 tHo := by
  refine opens_iso _ (fun x => ⟨x.1, x.2.1, x.2.2.1, x.2.2.2⟩) (fun _ => rfl) ?_
  exact opens_struct Try.underlying99 (by kernel_rfl) (Flds.cons rfl (by kernel_rfl) (opens_str Try.underlying9) (Flds.cons rfl (by kernel_rfl) (opens_str Try.underlying9) (Flds.cons rfl (by kernel_rfl) opens_Fn (Flds.one rfl (by kernel_rfl) (opens_slice Try.underlying97 (by kernel_rfl) (by decide) opens_Ac)))))
theorem Ho_cells {w : World} {S : Nat → Prop} {cs : List Value} {a : Ho} (h : tHo.rd w S cs a) : ∃ (Aty_params : Option Addr) (cty_params : Nat) (Aty_results : Option Addr) (cty_results : Nat) (Aacts : Option Addr) (cacts : Nat), cs = [.string a.mod, .string a.name, .slice Aty_params a.ty.params.length cty_params, .slice Aty_results a.ty.results.length cty_results, .slice Aacts a.acts.length cacts] ∧ a.mod.size ≤ maxLen ∧ a.name.size ≤ maxLen ∧ a.ty.params.length ≤ cty_params ∧ cty_params ≤ maxLen ∧ (Ty.int .i64).els w S Aty_params a.ty.params ∧ a.ty.results.length ≤ cty_results ∧ cty_results ≤ maxLen ∧ (Ty.int .i64).els w S Aty_results a.ty.results ∧ a.acts.length ≤ cacts ∧ cacts ≤ maxLen ∧ tAc.els w S Aacts a.acts := by
  obtain ⟨xmod, rmod, rfl, ⟨rfl, wmod⟩, xname, rname, rfl, ⟨rfl, wname⟩, xty, rty, rfl, hty, Aacts, cacts, rfl, gacts, macts, eacts⟩ := h
  obtain ⟨Aty_params, cty_params, Aty_results, cty_results, rfl, kty0, kty1, kty2, kty3, kty4, kty5⟩ := Fn_cells hty
  exact ⟨Aty_params, cty_params, Aty_results, cty_results, Aacts, cacts, rfl, wmod, wname, kty0, kty1, kty2, kty3, kty4, kty5, gacts, macts, eacts⟩
theorem Ho_mk {w : World} {S : Nat → Prop} {a : Ho} {Aty_params : Option Addr} {cty_params : Nat} {Aty_results : Option Addr} {cty_results : Nat} {Aacts : Option Addr} {cacts : Nat} (f0 : a.mod.size ≤ maxLen) (f1 : a.name.size ≤ maxLen) (f2 : a.ty.params.length ≤ cty_params) (f3 : cty_params ≤ maxLen) (f4 : (Ty.int .i64).els w S Aty_params a.ty.params) (f5 : a.ty.results.length ≤ cty_results) (f6 : cty_results ≤ maxLen) (f7 : (Ty.int .i64).els w S Aty_results a.ty.results) (f8 : a.acts.length ≤ cacts) (f9 : cacts ≤ maxLen) (f10 : tAc.els w S Aacts a.acts) : tHo.rd w S [.string a.mod, .string a.name, .slice Aty_params a.ty.params.length cty_params, .slice Aty_results a.ty.results.length cty_results, .slice Aacts a.acts.length cacts] a :=
  ⟨[.string a.mod], [.string a.name, .slice Aty_params a.ty.params.length cty_params, .slice Aty_results a.ty.results.length cty_results, .slice Aacts a.acts.length cacts], rfl, ⟨rfl, f0⟩, ⟨[.string a.name], [.slice Aty_params a.ty.params.length cty_params, .slice Aty_results a.ty.results.length cty_results, .slice Aacts a.acts.length cacts], rfl, ⟨rfl, f1⟩, ⟨[.slice Aty_params a.ty.params.length cty_params, .slice Aty_results a.ty.results.length cty_results], [.slice Aacts a.acts.length cacts], rfl, ⟨[.slice Aty_params a.ty.params.length cty_params], [.slice Aty_results a.ty.results.length cty_results], rfl, ⟨_, _, rfl, f2, f3, f4⟩, ⟨_, _, rfl, f5, f6, f7⟩⟩, ⟨_, _, rfl, f8, f9, f10⟩⟩⟩⟩
theorem Ho_at {w : World} {S : Nat → Prop} {A : Option Addr} {l : List Ho} (h : tHo.els w S A l) (k : Nat) (hk : k < l.length) : ∃ (b o : Nat) (Aty_params : Option Addr) (cty_params : Nat) (Aty_results : Option Addr) (cty_results : Nat) (Aacts : Option Addr) (cacts : Nat), A = some ⟨b, o, none⟩ ∧ S b ∧ w.cell? ⟨b, o + k * 5, none⟩ = some (.string l[k].mod) ∧ w.cell? ⟨b, o + k * 5 + 1, none⟩ = some (.string l[k].name) ∧ w.cell? ⟨b, o + k * 5 + 2, none⟩ = some (.slice Aty_params l[k].ty.params.length cty_params) ∧ w.cell? ⟨b, o + k * 5 + 3, none⟩ = some (.slice Aty_results l[k].ty.results.length cty_results) ∧ w.cell? ⟨b, o + k * 5 + 4, none⟩ = some (.slice Aacts l[k].acts.length cacts) ∧ l[k].mod.size ≤ maxLen ∧ l[k].name.size ≤ maxLen ∧ l[k].ty.params.length ≤ cty_params ∧ cty_params ≤ maxLen ∧ (Ty.int .i64).els w S Aty_params l[k].ty.params ∧ l[k].ty.results.length ≤ cty_results ∧ cty_results ≤ maxLen ∧ (Ty.int .i64).els w S Aty_results l[k].ty.results ∧ l[k].acts.length ≤ cacts ∧ cacts ≤ maxLen ∧ tAc.els w S Aacts l[k].acts := by
  obtain ⟨b, o, ds, rfl, hb, hc, hr⟩ := h.at_ k hk
  obtain ⟨Aty_params, cty_params, Aty_results, cty_results, Aacts, cacts, rfl, f0, f1, f2, f3, f4, f5, f6, f7, f8, f9, f10⟩ := Ho_cells hr
  have e : tHo.size = 5 := rfl
  rw [e] at hc
  exact ⟨b, o, Aty_params, cty_params, Aty_results, cty_results, Aacts, cacts, rfl, hb, hc 0 _ rfl, (by have := hc 1 _ rfl; rwa [← Nat.add_assoc] at this), (by have := hc 2 _ rfl; rwa [← Nat.add_assoc] at this), (by have := hc 3 _ rfl; rwa [← Nat.add_assoc] at this), (by have := hc 4 _ rfl; rwa [← Nat.add_assoc] at this), f0, f1, f2, f3, f4, f5, f6, f7, f8, f9, f10⟩

structure Lim where
  min : Int
  max : Int
  has : Bool
  deriving DecidableEq
def tLim0 : Ty (Int × Int × Bool) := (Ty.int .i64).pair ((Ty.int .i64).pair (Ty.bool))
def tLim : Ty Lim := tLim0.iso fun a => (a.min, a.max, a.has)
instance : TyOk tLim := by unfold tLim tLim0; infer_instance
instance : TyMore tLim := by unfold tLim tLim0; infer_instance
instance : TyOne tLim := by unfold tLim tLim0; infer_instance
theorem opens_Lim : Opens Try.prog 43 tLim := by
  refine opens_iso _ (fun x => ⟨x.1, x.2.1, x.2.2⟩) (fun _ => rfl) ?_
  exact opens_struct Try.underlying43 (by kernel_rfl) (Flds.cons rfl (by kernel_rfl) (opens_int Try.underlying3) (Flds.cons rfl (by kernel_rfl) (opens_int Try.underlying3) (Flds.one rfl (by kernel_rfl) (opens_bool Try.underlying4))))
theorem Lim_cells {w : World} {S : Nat → Prop} {cs : List Value} {a : Lim} (h : tLim.rd w S cs a) : cs = [.int .i64 a.min, .int .i64 a.max, .bool a.has] ∧ (Lit.int .i64 a.min).wf = true ∧ (Lit.int .i64 a.max).wf = true := by
  obtain ⟨xmin, rmin, rfl, ⟨rfl, wmin⟩, xmax, rmax, rfl, ⟨rfl, wmax⟩, rfl⟩ := h
  exact ⟨rfl, wmin, wmax⟩
theorem Lim_mk {w : World} {S : Nat → Prop} {a : Lim}  (f0 : (Lit.int .i64 a.min).wf = true) (f1 : (Lit.int .i64 a.max).wf = true) : tLim.rd w S [.int .i64 a.min, .int .i64 a.max, .bool a.has] a :=
  ⟨[.int .i64 a.min], [.int .i64 a.max, .bool a.has], rfl, ⟨rfl, f0⟩, ⟨[.int .i64 a.max], [.bool a.has], rfl, ⟨rfl, f1⟩, rfl⟩⟩
theorem Lim_at {w : World} {S : Nat → Prop} {A : Option Addr} {l : List Lim} (h : tLim.els w S A l) (k : Nat) (hk : k < l.length) : ∃ (b o : Nat), A = some ⟨b, o, none⟩ ∧ S b ∧ w.cell? ⟨b, o + k * 3, none⟩ = some (.int .i64 l[k].min) ∧ w.cell? ⟨b, o + k * 3 + 1, none⟩ = some (.int .i64 l[k].max) ∧ w.cell? ⟨b, o + k * 3 + 2, none⟩ = some (.bool l[k].has) ∧ (Lit.int .i64 l[k].min).wf = true ∧ (Lit.int .i64 l[k].max).wf = true := by
  obtain ⟨b, o, ds, rfl, hb, hc, hr⟩ := h.at_ k hk
  obtain ⟨rfl, f0, f1⟩ := Lim_cells hr
  have e : tLim.size = 3 := rfl
  rw [e] at hc
  exact ⟨b, o, rfl, hb, hc 0 _ rfl, (by have := hc 1 _ rfl; rwa [← Nat.add_assoc] at this), (by have := hc 2 _ rfl; rwa [← Nat.add_assoc] at this), f0, f1⟩

structure Tb where
  elem : Int
  lim : Lim
  deriving DecidableEq
def tTb0 : Ty (Int × Lim) := (Ty.int .i64).pair (tLim)
def tTb : Ty Tb := tTb0.iso fun a => (a.elem, a.lim)
instance : TyOk tTb := by unfold tTb tTb0; infer_instance
instance : TyMore tTb := by unfold tTb tTb0; infer_instance
instance : TyOne tTb := by unfold tTb tTb0; infer_instance
theorem opens_Tb : Opens Try.prog 45 tTb := by
  refine opens_iso _ (fun x => ⟨x.1, x.2⟩) (fun _ => rfl) ?_
  exact opens_struct Try.underlying45 (by kernel_rfl) (Flds.cons rfl (by kernel_rfl) (opens_int Try.underlying35) (Flds.one rfl (by kernel_rfl) opens_Lim))
theorem Tb_cells {w : World} {S : Nat → Prop} {cs : List Value} {a : Tb} (h : tTb.rd w S cs a) : cs = [.int .i64 a.elem, .int .i64 a.lim.min, .int .i64 a.lim.max, .bool a.lim.has] ∧ (Lit.int .i64 a.elem).wf = true ∧ (Lit.int .i64 a.lim.min).wf = true ∧ (Lit.int .i64 a.lim.max).wf = true := by
  obtain ⟨xelem, relem, rfl, ⟨rfl, welem⟩, hlim⟩ := h
  obtain ⟨rfl, klim0, klim1⟩ := Lim_cells hlim
  exact ⟨rfl, welem, klim0, klim1⟩
theorem Tb_mk {w : World} {S : Nat → Prop} {a : Tb}  (f0 : (Lit.int .i64 a.elem).wf = true) (f1 : (Lit.int .i64 a.lim.min).wf = true) (f2 : (Lit.int .i64 a.lim.max).wf = true) : tTb.rd w S [.int .i64 a.elem, .int .i64 a.lim.min, .int .i64 a.lim.max, .bool a.lim.has] a :=
  ⟨[.int .i64 a.elem], [.int .i64 a.lim.min, .int .i64 a.lim.max, .bool a.lim.has], rfl, ⟨rfl, f0⟩, ⟨[.int .i64 a.lim.min], [.int .i64 a.lim.max, .bool a.lim.has], rfl, ⟨rfl, f1⟩, ⟨[.int .i64 a.lim.max], [.bool a.lim.has], rfl, ⟨rfl, f2⟩, rfl⟩⟩⟩
theorem Tb_at {w : World} {S : Nat → Prop} {A : Option Addr} {l : List Tb} (h : tTb.els w S A l) (k : Nat) (hk : k < l.length) : ∃ (b o : Nat), A = some ⟨b, o, none⟩ ∧ S b ∧ w.cell? ⟨b, o + k * 4, none⟩ = some (.int .i64 l[k].elem) ∧ w.cell? ⟨b, o + k * 4 + 1, none⟩ = some (.int .i64 l[k].lim.min) ∧ w.cell? ⟨b, o + k * 4 + 2, none⟩ = some (.int .i64 l[k].lim.max) ∧ w.cell? ⟨b, o + k * 4 + 3, none⟩ = some (.bool l[k].lim.has) ∧ (Lit.int .i64 l[k].elem).wf = true ∧ (Lit.int .i64 l[k].lim.min).wf = true ∧ (Lit.int .i64 l[k].lim.max).wf = true := by
  obtain ⟨b, o, ds, rfl, hb, hc, hr⟩ := h.at_ k hk
  obtain ⟨rfl, f0, f1, f2⟩ := Tb_cells hr
  have e : tTb.size = 4 := rfl
  rw [e] at hc
  exact ⟨b, o, rfl, hb, hc 0 _ rfl, (by have := hc 1 _ rfl; rwa [← Nat.add_assoc] at this), (by have := hc 2 _ rfl; rwa [← Nat.add_assoc] at this), (by have := hc 3 _ rfl; rwa [← Nat.add_assoc] at this), f0, f1, f2⟩

structure Gl where
  val : Int
  mut_ : Bool
  deriving DecidableEq
def tGl0 : Ty (Int × Bool) := (Ty.int .i64).pair (Ty.bool)
def tGl : Ty Gl := tGl0.iso fun a => (a.val, a.mut_)
instance : TyOk tGl := by unfold tGl tGl0; infer_instance
instance : TyMore tGl := by unfold tGl tGl0; infer_instance
instance : TyOne tGl := by unfold tGl tGl0; infer_instance
theorem opens_Gl : Opens Try.prog 37 tGl := by
  refine opens_iso _ (fun x => ⟨x.1, x.2⟩) (fun _ => rfl) ?_
  exact opens_struct Try.underlying37 (by kernel_rfl) (Flds.cons rfl (by kernel_rfl) (opens_int Try.underlying35) (Flds.one rfl (by kernel_rfl) (opens_bool Try.underlying4)))
theorem Gl_cells {w : World} {S : Nat → Prop} {cs : List Value} {a : Gl} (h : tGl.rd w S cs a) : cs = [.int .i64 a.val, .bool a.mut_] ∧ (Lit.int .i64 a.val).wf = true := by
  obtain ⟨xval, rval, rfl, ⟨rfl, wval⟩, rfl⟩ := h
  exact ⟨rfl, wval⟩
theorem Gl_mk {w : World} {S : Nat → Prop} {a : Gl}  (f0 : (Lit.int .i64 a.val).wf = true) : tGl.rd w S [.int .i64 a.val, .bool a.mut_] a :=
  ⟨[.int .i64 a.val], [.bool a.mut_], rfl, ⟨rfl, f0⟩, rfl⟩
theorem Gl_at {w : World} {S : Nat → Prop} {A : Option Addr} {l : List Gl} (h : tGl.els w S A l) (k : Nat) (hk : k < l.length) : ∃ (b o : Nat), A = some ⟨b, o, none⟩ ∧ S b ∧ w.cell? ⟨b, o + k * 2, none⟩ = some (.int .i64 l[k].val) ∧ w.cell? ⟨b, o + k * 2 + 1, none⟩ = some (.bool l[k].mut_) ∧ (Lit.int .i64 l[k].val).wf = true := by
  obtain ⟨b, o, ds, rfl, hb, hc, hr⟩ := h.at_ k hk
  obtain ⟨rfl, f0⟩ := Gl_cells hr
  have e : tGl.size = 2 := rfl
  rw [e] at hc
  exact ⟨b, o, rfl, hb, hc 0 _ rfl, (by have := hc 1 _ rfl; rwa [← Nat.add_assoc] at this), f0⟩

structure Im where
  mod : ByteArray
  name : ByteArray
  kind : Int
  func : Int
  table : Tb
  mem : Lim
  glob : Gl
def tIm0 : Ty (ByteArray × ByteArray × Int × Int × Tb × Lim × Gl) := Ty.str.pair (Ty.str.pair ((Ty.int .i64).pair ((Ty.int .i64).pair (tTb.pair (tLim.pair (tGl))))))
def tIm : Ty Im := tIm0.iso fun a => (a.mod, a.name, a.kind, a.func, a.table, a.mem, a.glob)
instance : TyOk tIm := by unfold tIm tIm0; infer_instance
instance : TyMore tIm := by unfold tIm tIm0; infer_instance
instance : TyOne tIm := by unfold tIm tIm0; infer_instance
theorem opens_Im : Opens Try.prog 47 tIm := by
  refine opens_iso _ (fun x => ⟨x.1, x.2.1, x.2.2.1, x.2.2.2.1, x.2.2.2.2.1, x.2.2.2.2.2.1, x.2.2.2.2.2.2⟩) (fun _ => rfl) ?_
  exact opens_struct Try.underlying47 (by kernel_rfl) (Flds.cons rfl (by kernel_rfl) (opens_str Try.underlying9) (Flds.cons rfl (by kernel_rfl) (opens_str Try.underlying9) (Flds.cons rfl (by kernel_rfl) (opens_int Try.underlying24) (Flds.cons rfl (by kernel_rfl) (opens_int Try.underlying3) (Flds.cons rfl (by kernel_rfl) opens_Tb (Flds.cons rfl (by kernel_rfl) opens_Lim (Flds.one rfl (by kernel_rfl) opens_Gl)))))))
theorem Im_cells {w : World} {S : Nat → Prop} {cs : List Value} {a : Im} (h : tIm.rd w S cs a) : cs = [.string a.mod, .string a.name, .int .i64 a.kind, .int .i64 a.func, .int .i64 a.table.elem, .int .i64 a.table.lim.min, .int .i64 a.table.lim.max, .bool a.table.lim.has, .int .i64 a.mem.min, .int .i64 a.mem.max, .bool a.mem.has, .int .i64 a.glob.val, .bool a.glob.mut_] ∧ a.mod.size ≤ maxLen ∧ a.name.size ≤ maxLen ∧ (Lit.int .i64 a.kind).wf = true ∧ (Lit.int .i64 a.func).wf = true ∧ (Lit.int .i64 a.table.elem).wf = true ∧ (Lit.int .i64 a.table.lim.min).wf = true ∧ (Lit.int .i64 a.table.lim.max).wf = true ∧ (Lit.int .i64 a.mem.min).wf = true ∧ (Lit.int .i64 a.mem.max).wf = true ∧ (Lit.int .i64 a.glob.val).wf = true := by
  obtain ⟨xmod, rmod, rfl, ⟨rfl, wmod⟩, xname, rname, rfl, ⟨rfl, wname⟩, xkind, rkind, rfl, ⟨rfl, wkind⟩, xfunc, rfunc, rfl, ⟨rfl, wfunc⟩, xtable, rtable, rfl, htable, xmem, rmem, rfl, hmem, hglob⟩ := h
  obtain ⟨rfl, ktable0, ktable1, ktable2⟩ := Tb_cells htable
  obtain ⟨rfl, kmem0, kmem1⟩ := Lim_cells hmem
  obtain ⟨rfl, kglob0⟩ := Gl_cells hglob
  exact ⟨rfl, wmod, wname, wkind, wfunc, ktable0, ktable1, ktable2, kmem0, kmem1, kglob0⟩
theorem Im_mk {w : World} {S : Nat → Prop} {a : Im}  (f0 : a.mod.size ≤ maxLen) (f1 : a.name.size ≤ maxLen) (f2 : (Lit.int .i64 a.kind).wf = true) (f3 : (Lit.int .i64 a.func).wf = true) (f4 : (Lit.int .i64 a.table.elem).wf = true) (f5 : (Lit.int .i64 a.table.lim.min).wf = true) (f6 : (Lit.int .i64 a.table.lim.max).wf = true) (f7 : (Lit.int .i64 a.mem.min).wf = true) (f8 : (Lit.int .i64 a.mem.max).wf = true) (f9 : (Lit.int .i64 a.glob.val).wf = true) : tIm.rd w S [.string a.mod, .string a.name, .int .i64 a.kind, .int .i64 a.func, .int .i64 a.table.elem, .int .i64 a.table.lim.min, .int .i64 a.table.lim.max, .bool a.table.lim.has, .int .i64 a.mem.min, .int .i64 a.mem.max, .bool a.mem.has, .int .i64 a.glob.val, .bool a.glob.mut_] a :=
  ⟨[.string a.mod], [.string a.name, .int .i64 a.kind, .int .i64 a.func, .int .i64 a.table.elem, .int .i64 a.table.lim.min, .int .i64 a.table.lim.max, .bool a.table.lim.has, .int .i64 a.mem.min, .int .i64 a.mem.max, .bool a.mem.has, .int .i64 a.glob.val, .bool a.glob.mut_], rfl, ⟨rfl, f0⟩, ⟨[.string a.name], [.int .i64 a.kind, .int .i64 a.func, .int .i64 a.table.elem, .int .i64 a.table.lim.min, .int .i64 a.table.lim.max, .bool a.table.lim.has, .int .i64 a.mem.min, .int .i64 a.mem.max, .bool a.mem.has, .int .i64 a.glob.val, .bool a.glob.mut_], rfl, ⟨rfl, f1⟩, ⟨[.int .i64 a.kind], [.int .i64 a.func, .int .i64 a.table.elem, .int .i64 a.table.lim.min, .int .i64 a.table.lim.max, .bool a.table.lim.has, .int .i64 a.mem.min, .int .i64 a.mem.max, .bool a.mem.has, .int .i64 a.glob.val, .bool a.glob.mut_], rfl, ⟨rfl, f2⟩, ⟨[.int .i64 a.func], [.int .i64 a.table.elem, .int .i64 a.table.lim.min, .int .i64 a.table.lim.max, .bool a.table.lim.has, .int .i64 a.mem.min, .int .i64 a.mem.max, .bool a.mem.has, .int .i64 a.glob.val, .bool a.glob.mut_], rfl, ⟨rfl, f3⟩, ⟨[.int .i64 a.table.elem, .int .i64 a.table.lim.min, .int .i64 a.table.lim.max, .bool a.table.lim.has], [.int .i64 a.mem.min, .int .i64 a.mem.max, .bool a.mem.has, .int .i64 a.glob.val, .bool a.glob.mut_], rfl, ⟨[.int .i64 a.table.elem], [.int .i64 a.table.lim.min, .int .i64 a.table.lim.max, .bool a.table.lim.has], rfl, ⟨rfl, f4⟩, ⟨[.int .i64 a.table.lim.min], [.int .i64 a.table.lim.max, .bool a.table.lim.has], rfl, ⟨rfl, f5⟩, ⟨[.int .i64 a.table.lim.max], [.bool a.table.lim.has], rfl, ⟨rfl, f6⟩, rfl⟩⟩⟩, ⟨[.int .i64 a.mem.min, .int .i64 a.mem.max, .bool a.mem.has], [.int .i64 a.glob.val, .bool a.glob.mut_], rfl, ⟨[.int .i64 a.mem.min], [.int .i64 a.mem.max, .bool a.mem.has], rfl, ⟨rfl, f7⟩, ⟨[.int .i64 a.mem.max], [.bool a.mem.has], rfl, ⟨rfl, f8⟩, rfl⟩⟩, ⟨[.int .i64 a.glob.val], [.bool a.glob.mut_], rfl, ⟨rfl, f9⟩, rfl⟩⟩⟩⟩⟩⟩⟩
theorem Im_at {w : World} {S : Nat → Prop} {A : Option Addr} {l : List Im} (h : tIm.els w S A l) (k : Nat) (hk : k < l.length) : ∃ (b o : Nat), A = some ⟨b, o, none⟩ ∧ S b ∧ w.cell? ⟨b, o + k * 13, none⟩ = some (.string l[k].mod) ∧ w.cell? ⟨b, o + k * 13 + 1, none⟩ = some (.string l[k].name) ∧ w.cell? ⟨b, o + k * 13 + 2, none⟩ = some (.int .i64 l[k].kind) ∧ w.cell? ⟨b, o + k * 13 + 3, none⟩ = some (.int .i64 l[k].func) ∧ w.cell? ⟨b, o + k * 13 + 4, none⟩ = some (.int .i64 l[k].table.elem) ∧ w.cell? ⟨b, o + k * 13 + 5, none⟩ = some (.int .i64 l[k].table.lim.min) ∧ w.cell? ⟨b, o + k * 13 + 6, none⟩ = some (.int .i64 l[k].table.lim.max) ∧ w.cell? ⟨b, o + k * 13 + 7, none⟩ = some (.bool l[k].table.lim.has) ∧ w.cell? ⟨b, o + k * 13 + 8, none⟩ = some (.int .i64 l[k].mem.min) ∧ w.cell? ⟨b, o + k * 13 + 9, none⟩ = some (.int .i64 l[k].mem.max) ∧ w.cell? ⟨b, o + k * 13 + 10, none⟩ = some (.bool l[k].mem.has) ∧ w.cell? ⟨b, o + k * 13 + 11, none⟩ = some (.int .i64 l[k].glob.val) ∧ w.cell? ⟨b, o + k * 13 + 12, none⟩ = some (.bool l[k].glob.mut_) ∧ l[k].mod.size ≤ maxLen ∧ l[k].name.size ≤ maxLen ∧ (Lit.int .i64 l[k].kind).wf = true ∧ (Lit.int .i64 l[k].func).wf = true ∧ (Lit.int .i64 l[k].table.elem).wf = true ∧ (Lit.int .i64 l[k].table.lim.min).wf = true ∧ (Lit.int .i64 l[k].table.lim.max).wf = true ∧ (Lit.int .i64 l[k].mem.min).wf = true ∧ (Lit.int .i64 l[k].mem.max).wf = true ∧ (Lit.int .i64 l[k].glob.val).wf = true := by
  obtain ⟨b, o, ds, rfl, hb, hc, hr⟩ := h.at_ k hk
  obtain ⟨rfl, f0, f1, f2, f3, f4, f5, f6, f7, f8, f9⟩ := Im_cells hr
  have e : tIm.size = 13 := rfl
  rw [e] at hc
  exact ⟨b, o, rfl, hb, hc 0 _ rfl, (by have := hc 1 _ rfl; rwa [← Nat.add_assoc] at this), (by have := hc 2 _ rfl; rwa [← Nat.add_assoc] at this), (by have := hc 3 _ rfl; rwa [← Nat.add_assoc] at this), (by have := hc 4 _ rfl; rwa [← Nat.add_assoc] at this), (by have := hc 5 _ rfl; rwa [← Nat.add_assoc] at this), (by have := hc 6 _ rfl; rwa [← Nat.add_assoc] at this), (by have := hc 7 _ rfl; rwa [← Nat.add_assoc] at this), (by have := hc 8 _ rfl; rwa [← Nat.add_assoc] at this), (by have := hc 9 _ rfl; rwa [← Nat.add_assoc] at this), (by have := hc 10 _ rfl; rwa [← Nat.add_assoc] at this), (by have := hc 11 _ rfl; rwa [← Nat.add_assoc] at this), (by have := hc 12 _ rfl; rwa [← Nat.add_assoc] at this), f0, f1, f2, f3, f4, f5, f6, f7, f8, f9⟩

structure Bk where
  kind : Int
  val : Int
  index : Int
  deriving DecidableEq
def tBk0 : Ty (Int × Int × Int) := (Ty.int .i64).pair ((Ty.int .i64).pair ((Ty.int .i64)))
def tBk : Ty Bk := tBk0.iso fun a => (a.kind, a.val, a.index)
instance : TyOk tBk := by unfold tBk tBk0; infer_instance
instance : TyMore tBk := by unfold tBk tBk0; infer_instance
instance : TyOne tBk := by unfold tBk tBk0; infer_instance
theorem opens_Bk : Opens Try.prog 162 tBk := by
  refine opens_iso _ (fun x => ⟨x.1, x.2.1, x.2.2⟩) (fun _ => rfl) ?_
  exact opens_struct Try.underlying162 (by kernel_rfl) (Flds.cons rfl (by kernel_rfl) (opens_int Try.underlying3) (Flds.cons rfl (by kernel_rfl) (opens_int Try.underlying35) (Flds.one rfl (by kernel_rfl) (opens_int Try.underlying3))))
theorem Bk_cells {w : World} {S : Nat → Prop} {cs : List Value} {a : Bk} (h : tBk.rd w S cs a) : cs = [.int .i64 a.kind, .int .i64 a.val, .int .i64 a.index] ∧ (Lit.int .i64 a.kind).wf = true ∧ (Lit.int .i64 a.val).wf = true ∧ (Lit.int .i64 a.index).wf = true := by
  obtain ⟨xkind, rkind, rfl, ⟨rfl, wkind⟩, xval, rval, rfl, ⟨rfl, wval⟩, rfl, windex⟩ := h
  exact ⟨rfl, wkind, wval, windex⟩
theorem Bk_mk {w : World} {S : Nat → Prop} {a : Bk}  (f0 : (Lit.int .i64 a.kind).wf = true) (f1 : (Lit.int .i64 a.val).wf = true) (f2 : (Lit.int .i64 a.index).wf = true) : tBk.rd w S [.int .i64 a.kind, .int .i64 a.val, .int .i64 a.index] a :=
  ⟨[.int .i64 a.kind], [.int .i64 a.val, .int .i64 a.index], rfl, ⟨rfl, f0⟩, ⟨[.int .i64 a.val], [.int .i64 a.index], rfl, ⟨rfl, f1⟩, ⟨rfl, f2⟩⟩⟩
theorem Bk_at {w : World} {S : Nat → Prop} {A : Option Addr} {l : List Bk} (h : tBk.els w S A l) (k : Nat) (hk : k < l.length) : ∃ (b o : Nat), A = some ⟨b, o, none⟩ ∧ S b ∧ w.cell? ⟨b, o + k * 3, none⟩ = some (.int .i64 l[k].kind) ∧ w.cell? ⟨b, o + k * 3 + 1, none⟩ = some (.int .i64 l[k].val) ∧ w.cell? ⟨b, o + k * 3 + 2, none⟩ = some (.int .i64 l[k].index) ∧ (Lit.int .i64 l[k].kind).wf = true ∧ (Lit.int .i64 l[k].val).wf = true ∧ (Lit.int .i64 l[k].index).wf = true := by
  obtain ⟨b, o, ds, rfl, hb, hc, hr⟩ := h.at_ k hk
  obtain ⟨rfl, f0, f1, f2⟩ := Bk_cells hr
  have e : tBk.size = 3 := rfl
  rw [e] at hc
  exact ⟨b, o, rfl, hb, hc 0 _ rfl, (by have := hc 1 _ rfl; rwa [← Nat.add_assoc] at this), (by have := hc 2 _ rfl; rwa [← Nat.add_assoc] at this), f0, f1, f2⟩

structure Ins where
  op : Int
  a : Int
  b : Int
  n : Int
  block : Bk
  types : List Int
  labels : List Int
def tIns0 : Ty (Int × Int × Int × Int × Bk × List Int × List Int) := (Ty.int .i64).pair ((Ty.int .i64).pair ((Ty.int .i64).pair ((Ty.int .u64).pair (tBk.pair ((Ty.int .i64).slice.pair ((Ty.int .i64).slice))))))
def tIns : Ty Ins := tIns0.iso fun a => (a.op, a.a, a.b, a.n, a.block, a.types, a.labels)
instance : TyOk tIns := by unfold tIns tIns0; infer_instance
instance : TyMore tIns := by unfold tIns tIns0; infer_instance
instance : TyOne tIns := by unfold tIns tIns0; infer_instance
theorem opens_Ins : Opens Try.prog 164 tIns := by
  refine opens_iso _ (fun x => ⟨x.1, x.2.1, x.2.2.1, x.2.2.2.1, x.2.2.2.2.1, x.2.2.2.2.2.1, x.2.2.2.2.2.2⟩) (fun _ => rfl) ?_
  exact opens_struct Try.underlying164 (by kernel_rfl) (Flds.cons rfl (by kernel_rfl) (opens_int Try.underlying160) (Flds.cons rfl (by kernel_rfl) (opens_int Try.underlying3) (Flds.cons rfl (by kernel_rfl) (opens_int Try.underlying3) (Flds.cons rfl (by kernel_rfl) (opens_int Try.underlying38) (Flds.cons rfl (by kernel_rfl) opens_Bk (Flds.cons rfl (by kernel_rfl) (opens_slice Try.underlying94 (by kernel_rfl) (by decide) (opens_int Try.underlying35)) (Flds.one rfl (by kernel_rfl) (opens_slice Try.underlying69 (by kernel_rfl) (by decide) (opens_int Try.underlying3)))))))))
theorem Ins_cells {w : World} {S : Nat → Prop} {cs : List Value} {a : Ins} (h : tIns.rd w S cs a) : ∃ (Atypes : Option Addr) (ctypes : Nat) (Alabels : Option Addr) (clabels : Nat), cs = [.int .i64 a.op, .int .i64 a.a, .int .i64 a.b, .int .u64 a.n, .int .i64 a.block.kind, .int .i64 a.block.val, .int .i64 a.block.index, .slice Atypes a.types.length ctypes, .slice Alabels a.labels.length clabels] ∧ (Lit.int .i64 a.op).wf = true ∧ (Lit.int .i64 a.a).wf = true ∧ (Lit.int .i64 a.b).wf = true ∧ (Lit.int .u64 a.n).wf = true ∧ (Lit.int .i64 a.block.kind).wf = true ∧ (Lit.int .i64 a.block.val).wf = true ∧ (Lit.int .i64 a.block.index).wf = true ∧ a.types.length ≤ ctypes ∧ ctypes ≤ maxLen ∧ (Ty.int .i64).els w S Atypes a.types ∧ a.labels.length ≤ clabels ∧ clabels ≤ maxLen ∧ (Ty.int .i64).els w S Alabels a.labels := by
  obtain ⟨xop, rop, rfl, ⟨rfl, wop⟩, xa, ra, rfl, ⟨rfl, wa⟩, xb, rb, rfl, ⟨rfl, wb⟩, xn, rn, rfl, ⟨rfl, wn⟩, xblock, rblock, rfl, hblock, xtypes, rtypes, rfl, ⟨Atypes, ctypes, rfl, gtypes, mtypes, etypes⟩, Alabels, clabels, rfl, glabels, mlabels, elabels⟩ := h
  obtain ⟨rfl, kblock0, kblock1, kblock2⟩ := Bk_cells hblock
  exact ⟨Atypes, ctypes, Alabels, clabels, rfl, wop, wa, wb, wn, kblock0, kblock1, kblock2, gtypes, mtypes, etypes, glabels, mlabels, elabels⟩
theorem Ins_mk {w : World} {S : Nat → Prop} {a : Ins} {Atypes : Option Addr} {ctypes : Nat} {Alabels : Option Addr} {clabels : Nat} (f0 : (Lit.int .i64 a.op).wf = true) (f1 : (Lit.int .i64 a.a).wf = true) (f2 : (Lit.int .i64 a.b).wf = true) (f3 : (Lit.int .u64 a.n).wf = true) (f4 : (Lit.int .i64 a.block.kind).wf = true) (f5 : (Lit.int .i64 a.block.val).wf = true) (f6 : (Lit.int .i64 a.block.index).wf = true) (f7 : a.types.length ≤ ctypes) (f8 : ctypes ≤ maxLen) (f9 : (Ty.int .i64).els w S Atypes a.types) (f10 : a.labels.length ≤ clabels) (f11 : clabels ≤ maxLen) (f12 : (Ty.int .i64).els w S Alabels a.labels) : tIns.rd w S [.int .i64 a.op, .int .i64 a.a, .int .i64 a.b, .int .u64 a.n, .int .i64 a.block.kind, .int .i64 a.block.val, .int .i64 a.block.index, .slice Atypes a.types.length ctypes, .slice Alabels a.labels.length clabels] a :=
  ⟨[.int .i64 a.op], [.int .i64 a.a, .int .i64 a.b, .int .u64 a.n, .int .i64 a.block.kind, .int .i64 a.block.val, .int .i64 a.block.index, .slice Atypes a.types.length ctypes, .slice Alabels a.labels.length clabels], rfl, ⟨rfl, f0⟩, ⟨[.int .i64 a.a], [.int .i64 a.b, .int .u64 a.n, .int .i64 a.block.kind, .int .i64 a.block.val, .int .i64 a.block.index, .slice Atypes a.types.length ctypes, .slice Alabels a.labels.length clabels], rfl, ⟨rfl, f1⟩, ⟨[.int .i64 a.b], [.int .u64 a.n, .int .i64 a.block.kind, .int .i64 a.block.val, .int .i64 a.block.index, .slice Atypes a.types.length ctypes, .slice Alabels a.labels.length clabels], rfl, ⟨rfl, f2⟩, ⟨[.int .u64 a.n], [.int .i64 a.block.kind, .int .i64 a.block.val, .int .i64 a.block.index, .slice Atypes a.types.length ctypes, .slice Alabels a.labels.length clabels], rfl, ⟨rfl, f3⟩, ⟨[.int .i64 a.block.kind, .int .i64 a.block.val, .int .i64 a.block.index], [.slice Atypes a.types.length ctypes, .slice Alabels a.labels.length clabels], rfl, ⟨[.int .i64 a.block.kind], [.int .i64 a.block.val, .int .i64 a.block.index], rfl, ⟨rfl, f4⟩, ⟨[.int .i64 a.block.val], [.int .i64 a.block.index], rfl, ⟨rfl, f5⟩, ⟨rfl, f6⟩⟩⟩, ⟨[.slice Atypes a.types.length ctypes], [.slice Alabels a.labels.length clabels], rfl, ⟨_, _, rfl, f7, f8, f9⟩, ⟨_, _, rfl, f10, f11, f12⟩⟩⟩⟩⟩⟩⟩
theorem Ins_at {w : World} {S : Nat → Prop} {A : Option Addr} {l : List Ins} (h : tIns.els w S A l) (k : Nat) (hk : k < l.length) : ∃ (b o : Nat) (Atypes : Option Addr) (ctypes : Nat) (Alabels : Option Addr) (clabels : Nat), A = some ⟨b, o, none⟩ ∧ S b ∧ w.cell? ⟨b, o + k * 9, none⟩ = some (.int .i64 l[k].op) ∧ w.cell? ⟨b, o + k * 9 + 1, none⟩ = some (.int .i64 l[k].a) ∧ w.cell? ⟨b, o + k * 9 + 2, none⟩ = some (.int .i64 l[k].b) ∧ w.cell? ⟨b, o + k * 9 + 3, none⟩ = some (.int .u64 l[k].n) ∧ w.cell? ⟨b, o + k * 9 + 4, none⟩ = some (.int .i64 l[k].block.kind) ∧ w.cell? ⟨b, o + k * 9 + 5, none⟩ = some (.int .i64 l[k].block.val) ∧ w.cell? ⟨b, o + k * 9 + 6, none⟩ = some (.int .i64 l[k].block.index) ∧ w.cell? ⟨b, o + k * 9 + 7, none⟩ = some (.slice Atypes l[k].types.length ctypes) ∧ w.cell? ⟨b, o + k * 9 + 8, none⟩ = some (.slice Alabels l[k].labels.length clabels) ∧ (Lit.int .i64 l[k].op).wf = true ∧ (Lit.int .i64 l[k].a).wf = true ∧ (Lit.int .i64 l[k].b).wf = true ∧ (Lit.int .u64 l[k].n).wf = true ∧ (Lit.int .i64 l[k].block.kind).wf = true ∧ (Lit.int .i64 l[k].block.val).wf = true ∧ (Lit.int .i64 l[k].block.index).wf = true ∧ l[k].types.length ≤ ctypes ∧ ctypes ≤ maxLen ∧ (Ty.int .i64).els w S Atypes l[k].types ∧ l[k].labels.length ≤ clabels ∧ clabels ≤ maxLen ∧ (Ty.int .i64).els w S Alabels l[k].labels := by
  obtain ⟨b, o, ds, rfl, hb, hc, hr⟩ := h.at_ k hk
  obtain ⟨Atypes, ctypes, Alabels, clabels, rfl, f0, f1, f2, f3, f4, f5, f6, f7, f8, f9, f10, f11, f12⟩ := Ins_cells hr
  have e : tIns.size = 9 := rfl
  rw [e] at hc
  exact ⟨b, o, Atypes, ctypes, Alabels, clabels, rfl, hb, hc 0 _ rfl, (by have := hc 1 _ rfl; rwa [← Nat.add_assoc] at this), (by have := hc 2 _ rfl; rwa [← Nat.add_assoc] at this), (by have := hc 3 _ rfl; rwa [← Nat.add_assoc] at this), (by have := hc 4 _ rfl; rwa [← Nat.add_assoc] at this), (by have := hc 5 _ rfl; rwa [← Nat.add_assoc] at this), (by have := hc 6 _ rfl; rwa [← Nat.add_assoc] at this), (by have := hc 7 _ rfl; rwa [← Nat.add_assoc] at this), (by have := hc 8 _ rfl; rwa [← Nat.add_assoc] at this), f0, f1, f2, f3, f4, f5, f6, f7, f8, f9, f10, f11, f12⟩

structure Cd where
  type : Int
  locals : List Int
  body : List Ins
def tCd0 : Ty (Int × List Int × List Ins) := (Ty.int .i64).pair ((Ty.int .i64).slice.pair (tIns.slice))
def tCd : Ty Cd := tCd0.iso fun a => (a.type, a.locals, a.body)
instance : TyOk tCd := by unfold tCd tCd0; infer_instance
instance : TyMore tCd := by unfold tCd tCd0; infer_instance
instance : TyOne tCd := by unfold tCd tCd0; infer_instance
theorem opens_Cd : Opens Try.prog 159 tCd := by
  refine opens_iso _ (fun x => ⟨x.1, x.2.1, x.2.2⟩) (fun _ => rfl) ?_
  exact opens_struct Try.underlying159 (by kernel_rfl) (Flds.cons rfl (by kernel_rfl) (opens_int Try.underlying3) (Flds.cons rfl (by kernel_rfl) (opens_slice Try.underlying94 (by kernel_rfl) (by decide) (opens_int Try.underlying35)) (Flds.one rfl (by kernel_rfl) (opens_slice Try.underlying157 (by kernel_rfl) (by decide) opens_Ins))))
theorem Cd_cells {w : World} {S : Nat → Prop} {cs : List Value} {a : Cd} (h : tCd.rd w S cs a) : ∃ (Alocals : Option Addr) (clocals : Nat) (Abody : Option Addr) (cbody : Nat), cs = [.int .i64 a.type, .slice Alocals a.locals.length clocals, .slice Abody a.body.length cbody] ∧ (Lit.int .i64 a.type).wf = true ∧ a.locals.length ≤ clocals ∧ clocals ≤ maxLen ∧ (Ty.int .i64).els w S Alocals a.locals ∧ a.body.length ≤ cbody ∧ cbody ≤ maxLen ∧ tIns.els w S Abody a.body := by
  obtain ⟨xtype, rtype, rfl, ⟨rfl, wtype⟩, xlocals, rlocals, rfl, ⟨Alocals, clocals, rfl, glocals, mlocals, elocals⟩, Abody, cbody, rfl, gbody, mbody, ebody⟩ := h
  exact ⟨Alocals, clocals, Abody, cbody, rfl, wtype, glocals, mlocals, elocals, gbody, mbody, ebody⟩
theorem Cd_mk {w : World} {S : Nat → Prop} {a : Cd} {Alocals : Option Addr} {clocals : Nat} {Abody : Option Addr} {cbody : Nat} (f0 : (Lit.int .i64 a.type).wf = true) (f1 : a.locals.length ≤ clocals) (f2 : clocals ≤ maxLen) (f3 : (Ty.int .i64).els w S Alocals a.locals) (f4 : a.body.length ≤ cbody) (f5 : cbody ≤ maxLen) (f6 : tIns.els w S Abody a.body) : tCd.rd w S [.int .i64 a.type, .slice Alocals a.locals.length clocals, .slice Abody a.body.length cbody] a :=
  ⟨[.int .i64 a.type], [.slice Alocals a.locals.length clocals, .slice Abody a.body.length cbody], rfl, ⟨rfl, f0⟩, ⟨[.slice Alocals a.locals.length clocals], [.slice Abody a.body.length cbody], rfl, ⟨_, _, rfl, f1, f2, f3⟩, ⟨_, _, rfl, f4, f5, f6⟩⟩⟩
theorem Cd_at {w : World} {S : Nat → Prop} {A : Option Addr} {l : List Cd} (h : tCd.els w S A l) (k : Nat) (hk : k < l.length) : ∃ (b o : Nat) (Alocals : Option Addr) (clocals : Nat) (Abody : Option Addr) (cbody : Nat), A = some ⟨b, o, none⟩ ∧ S b ∧ w.cell? ⟨b, o + k * 3, none⟩ = some (.int .i64 l[k].type) ∧ w.cell? ⟨b, o + k * 3 + 1, none⟩ = some (.slice Alocals l[k].locals.length clocals) ∧ w.cell? ⟨b, o + k * 3 + 2, none⟩ = some (.slice Abody l[k].body.length cbody) ∧ (Lit.int .i64 l[k].type).wf = true ∧ l[k].locals.length ≤ clocals ∧ clocals ≤ maxLen ∧ (Ty.int .i64).els w S Alocals l[k].locals ∧ l[k].body.length ≤ cbody ∧ cbody ≤ maxLen ∧ tIns.els w S Abody l[k].body := by
  obtain ⟨b, o, ds, rfl, hb, hc, hr⟩ := h.at_ k hk
  obtain ⟨Alocals, clocals, Abody, cbody, rfl, f0, f1, f2, f3, f4, f5, f6⟩ := Cd_cells hr
  have e : tCd.size = 3 := rfl
  rw [e] at hc
  exact ⟨b, o, Alocals, clocals, Abody, cbody, rfl, hb, hc 0 _ rfl, (by have := hc 1 _ rfl; rwa [← Nat.add_assoc] at this), (by have := hc 2 _ rfl; rwa [← Nat.add_assoc] at this), f0, f1, f2, f3, f4, f5, f6⟩

structure Gd where
  type : Gl
  init : List Ins
def tGd0 : Ty (Gl × List Ins) := tGl.pair (tIns.slice)
def tGd : Ty Gd := tGd0.iso fun a => (a.type, a.init)
instance : TyOk tGd := by unfold tGd tGd0; infer_instance
instance : TyMore tGd := by unfold tGd tGd0; infer_instance
instance : TyOne tGd := by unfold tGd tGd0; infer_instance
theorem opens_Gd : Opens Try.prog 167 tGd := by
  refine opens_iso _ (fun x => ⟨x.1, x.2⟩) (fun _ => rfl) ?_
  exact opens_struct Try.underlying167 (by kernel_rfl) (Flds.cons rfl (by kernel_rfl) opens_Gl (Flds.one rfl (by kernel_rfl) (opens_slice Try.underlying157 (by kernel_rfl) (by decide) opens_Ins)))
theorem Gd_cells {w : World} {S : Nat → Prop} {cs : List Value} {a : Gd} (h : tGd.rd w S cs a) : ∃ (Ainit : Option Addr) (cinit : Nat), cs = [.int .i64 a.type.val, .bool a.type.mut_, .slice Ainit a.init.length cinit] ∧ (Lit.int .i64 a.type.val).wf = true ∧ a.init.length ≤ cinit ∧ cinit ≤ maxLen ∧ tIns.els w S Ainit a.init := by
  obtain ⟨xtype, rtype, rfl, htype, Ainit, cinit, rfl, ginit, minit, einit⟩ := h
  obtain ⟨rfl, ktype0⟩ := Gl_cells htype
  exact ⟨Ainit, cinit, rfl, ktype0, ginit, minit, einit⟩
theorem Gd_mk {w : World} {S : Nat → Prop} {a : Gd} {Ainit : Option Addr} {cinit : Nat} (f0 : (Lit.int .i64 a.type.val).wf = true) (f1 : a.init.length ≤ cinit) (f2 : cinit ≤ maxLen) (f3 : tIns.els w S Ainit a.init) : tGd.rd w S [.int .i64 a.type.val, .bool a.type.mut_, .slice Ainit a.init.length cinit] a :=
  ⟨[.int .i64 a.type.val, .bool a.type.mut_], [.slice Ainit a.init.length cinit], rfl, ⟨[.int .i64 a.type.val], [.bool a.type.mut_], rfl, ⟨rfl, f0⟩, rfl⟩, ⟨_, _, rfl, f1, f2, f3⟩⟩
theorem Gd_at {w : World} {S : Nat → Prop} {A : Option Addr} {l : List Gd} (h : tGd.els w S A l) (k : Nat) (hk : k < l.length) : ∃ (b o : Nat) (Ainit : Option Addr) (cinit : Nat), A = some ⟨b, o, none⟩ ∧ S b ∧ w.cell? ⟨b, o + k * 3, none⟩ = some (.int .i64 l[k].type.val) ∧ w.cell? ⟨b, o + k * 3 + 1, none⟩ = some (.bool l[k].type.mut_) ∧ w.cell? ⟨b, o + k * 3 + 2, none⟩ = some (.slice Ainit l[k].init.length cinit) ∧ (Lit.int .i64 l[k].type.val).wf = true ∧ l[k].init.length ≤ cinit ∧ cinit ≤ maxLen ∧ tIns.els w S Ainit l[k].init := by
  obtain ⟨b, o, ds, rfl, hb, hc, hr⟩ := h.at_ k hk
  obtain ⟨Ainit, cinit, rfl, f0, f1, f2, f3⟩ := Gd_cells hr
  have e : tGd.size = 3 := rfl
  rw [e] at hc
  exact ⟨b, o, Ainit, cinit, rfl, hb, hc 0 _ rfl, (by have := hc 1 _ rfl; rwa [← Nat.add_assoc] at this), (by have := hc 2 _ rfl; rwa [← Nat.add_assoc] at this), f0, f1, f2, f3⟩

structure Ex where
  name : ByteArray
  kind : Int
  index : Int
def tEx0 : Ty (ByteArray × Int × Int) := Ty.str.pair ((Ty.int .i64).pair ((Ty.int .i64)))
def tEx : Ty Ex := tEx0.iso fun a => (a.name, a.kind, a.index)
instance : TyOk tEx := by unfold tEx tEx0; infer_instance
instance : TyMore tEx := by unfold tEx tEx0; infer_instance
instance : TyOne tEx := by unfold tEx tEx0; infer_instance
theorem opens_Ex : Opens Try.prog 172 tEx := by
  refine opens_iso _ (fun x => ⟨x.1, x.2.1, x.2.2⟩) (fun _ => rfl) ?_
  exact opens_struct Try.underlying172 (by kernel_rfl) (Flds.cons rfl (by kernel_rfl) (opens_str Try.underlying9) (Flds.cons rfl (by kernel_rfl) (opens_int Try.underlying24) (Flds.one rfl (by kernel_rfl) (opens_int Try.underlying3))))
theorem Ex_cells {w : World} {S : Nat → Prop} {cs : List Value} {a : Ex} (h : tEx.rd w S cs a) : cs = [.string a.name, .int .i64 a.kind, .int .i64 a.index] ∧ a.name.size ≤ maxLen ∧ (Lit.int .i64 a.kind).wf = true ∧ (Lit.int .i64 a.index).wf = true := by
  obtain ⟨xname, rname, rfl, ⟨rfl, wname⟩, xkind, rkind, rfl, ⟨rfl, wkind⟩, rfl, windex⟩ := h
  exact ⟨rfl, wname, wkind, windex⟩
theorem Ex_mk {w : World} {S : Nat → Prop} {a : Ex}  (f0 : a.name.size ≤ maxLen) (f1 : (Lit.int .i64 a.kind).wf = true) (f2 : (Lit.int .i64 a.index).wf = true) : tEx.rd w S [.string a.name, .int .i64 a.kind, .int .i64 a.index] a :=
  ⟨[.string a.name], [.int .i64 a.kind, .int .i64 a.index], rfl, ⟨rfl, f0⟩, ⟨[.int .i64 a.kind], [.int .i64 a.index], rfl, ⟨rfl, f1⟩, ⟨rfl, f2⟩⟩⟩
theorem Ex_at {w : World} {S : Nat → Prop} {A : Option Addr} {l : List Ex} (h : tEx.els w S A l) (k : Nat) (hk : k < l.length) : ∃ (b o : Nat), A = some ⟨b, o, none⟩ ∧ S b ∧ w.cell? ⟨b, o + k * 3, none⟩ = some (.string l[k].name) ∧ w.cell? ⟨b, o + k * 3 + 1, none⟩ = some (.int .i64 l[k].kind) ∧ w.cell? ⟨b, o + k * 3 + 2, none⟩ = some (.int .i64 l[k].index) ∧ l[k].name.size ≤ maxLen ∧ (Lit.int .i64 l[k].kind).wf = true ∧ (Lit.int .i64 l[k].index).wf = true := by
  obtain ⟨b, o, ds, rfl, hb, hc, hr⟩ := h.at_ k hk
  obtain ⟨rfl, f0, f1, f2⟩ := Ex_cells hr
  have e : tEx.size = 3 := rfl
  rw [e] at hc
  exact ⟨b, o, rfl, hb, hc 0 _ rfl, (by have := hc 1 _ rfl; rwa [← Nat.add_assoc] at this), (by have := hc 2 _ rfl; rwa [← Nat.add_assoc] at this), f0, f1, f2⟩

structure El where
  mode : Int
  table : Int
  off : List Ins
  type : Int
  items : List (List Ins)
def tEl0 : Ty (Int × Int × List Ins × Int × List (List Ins)) := (Ty.int .i64).pair ((Ty.int .i64).pair (tIns.slice.pair ((Ty.int .i64).pair (tIns.slice.slice))))
def tEl : Ty El := tEl0.iso fun a => (a.mode, a.table, a.off, a.type, a.items)
instance : TyOk tEl := by unfold tEl tEl0; infer_instance
instance : TyMore tEl := by unfold tEl tEl0; infer_instance
instance : TyOne tEl := by unfold tEl tEl0; infer_instance
theorem opens_El : Opens Try.prog 170 tEl := by
  refine opens_iso _ (fun x => ⟨x.1, x.2.1, x.2.2.1, x.2.2.2.1, x.2.2.2.2⟩) (fun _ => rfl) ?_
  exact opens_struct Try.underlying170 (by kernel_rfl) (Flds.cons rfl (by kernel_rfl) (opens_int Try.underlying3) (Flds.cons rfl (by kernel_rfl) (opens_int Try.underlying3) (Flds.cons rfl (by kernel_rfl) (opens_slice Try.underlying157 (by kernel_rfl) (by decide) opens_Ins) (Flds.cons rfl (by kernel_rfl) (opens_int Try.underlying35) (Flds.one rfl (by kernel_rfl) (opens_slice Try.underlying168 (by kernel_rfl) (by decide) (opens_slice Try.underlying157 (by kernel_rfl) (by decide) opens_Ins)))))))
theorem El_cells {w : World} {S : Nat → Prop} {cs : List Value} {a : El} (h : tEl.rd w S cs a) : ∃ (Aoff : Option Addr) (coff : Nat) (Aitems : Option Addr) (citems : Nat), cs = [.int .i64 a.mode, .int .i64 a.table, .slice Aoff a.off.length coff, .int .i64 a.type, .slice Aitems a.items.length citems] ∧ (Lit.int .i64 a.mode).wf = true ∧ (Lit.int .i64 a.table).wf = true ∧ a.off.length ≤ coff ∧ coff ≤ maxLen ∧ tIns.els w S Aoff a.off ∧ (Lit.int .i64 a.type).wf = true ∧ a.items.length ≤ citems ∧ citems ≤ maxLen ∧ tIns.slice.els w S Aitems a.items := by
  obtain ⟨xmode, rmode, rfl, ⟨rfl, wmode⟩, xtable, rtable, rfl, ⟨rfl, wtable⟩, xoff, roff, rfl, ⟨Aoff, coff, rfl, goff, moff, eoff⟩, xtype, rtype, rfl, ⟨rfl, wtype⟩, Aitems, citems, rfl, gitems, mitems, eitems⟩ := h
  exact ⟨Aoff, coff, Aitems, citems, rfl, wmode, wtable, goff, moff, eoff, wtype, gitems, mitems, eitems⟩
theorem El_mk {w : World} {S : Nat → Prop} {a : El} {Aoff : Option Addr} {coff : Nat} {Aitems : Option Addr} {citems : Nat} (f0 : (Lit.int .i64 a.mode).wf = true) (f1 : (Lit.int .i64 a.table).wf = true) (f2 : a.off.length ≤ coff) (f3 : coff ≤ maxLen) (f4 : tIns.els w S Aoff a.off) (f5 : (Lit.int .i64 a.type).wf = true) (f6 : a.items.length ≤ citems) (f7 : citems ≤ maxLen) (f8 : tIns.slice.els w S Aitems a.items) : tEl.rd w S [.int .i64 a.mode, .int .i64 a.table, .slice Aoff a.off.length coff, .int .i64 a.type, .slice Aitems a.items.length citems] a :=
  ⟨[.int .i64 a.mode], [.int .i64 a.table, .slice Aoff a.off.length coff, .int .i64 a.type, .slice Aitems a.items.length citems], rfl, ⟨rfl, f0⟩, ⟨[.int .i64 a.table], [.slice Aoff a.off.length coff, .int .i64 a.type, .slice Aitems a.items.length citems], rfl, ⟨rfl, f1⟩, ⟨[.slice Aoff a.off.length coff], [.int .i64 a.type, .slice Aitems a.items.length citems], rfl, ⟨_, _, rfl, f2, f3, f4⟩, ⟨[.int .i64 a.type], [.slice Aitems a.items.length citems], rfl, ⟨rfl, f5⟩, ⟨_, _, rfl, f6, f7, f8⟩⟩⟩⟩⟩
theorem El_at {w : World} {S : Nat → Prop} {A : Option Addr} {l : List El} (h : tEl.els w S A l) (k : Nat) (hk : k < l.length) : ∃ (b o : Nat) (Aoff : Option Addr) (coff : Nat) (Aitems : Option Addr) (citems : Nat), A = some ⟨b, o, none⟩ ∧ S b ∧ w.cell? ⟨b, o + k * 5, none⟩ = some (.int .i64 l[k].mode) ∧ w.cell? ⟨b, o + k * 5 + 1, none⟩ = some (.int .i64 l[k].table) ∧ w.cell? ⟨b, o + k * 5 + 2, none⟩ = some (.slice Aoff l[k].off.length coff) ∧ w.cell? ⟨b, o + k * 5 + 3, none⟩ = some (.int .i64 l[k].type) ∧ w.cell? ⟨b, o + k * 5 + 4, none⟩ = some (.slice Aitems l[k].items.length citems) ∧ (Lit.int .i64 l[k].mode).wf = true ∧ (Lit.int .i64 l[k].table).wf = true ∧ l[k].off.length ≤ coff ∧ coff ≤ maxLen ∧ tIns.els w S Aoff l[k].off ∧ (Lit.int .i64 l[k].type).wf = true ∧ l[k].items.length ≤ citems ∧ citems ≤ maxLen ∧ tIns.slice.els w S Aitems l[k].items := by
  obtain ⟨b, o, ds, rfl, hb, hc, hr⟩ := h.at_ k hk
  obtain ⟨Aoff, coff, Aitems, citems, rfl, f0, f1, f2, f3, f4, f5, f6, f7, f8⟩ := El_cells hr
  have e : tEl.size = 5 := rfl
  rw [e] at hc
  exact ⟨b, o, Aoff, coff, Aitems, citems, rfl, hb, hc 0 _ rfl, (by have := hc 1 _ rfl; rwa [← Nat.add_assoc] at this), (by have := hc 2 _ rfl; rwa [← Nat.add_assoc] at this), (by have := hc 3 _ rfl; rwa [← Nat.add_assoc] at this), (by have := hc 4 _ rfl; rwa [← Nat.add_assoc] at this), f0, f1, f2, f3, f4, f5, f6, f7, f8⟩

structure Da where
  mode : Int
  mem : Int
  off : List Ins
  bytes : List Int
def tDa0 : Ty (Int × Int × List Ins × List Int) := (Ty.int .i64).pair ((Ty.int .i64).pair (tIns.slice.pair ((Ty.int .u8).slice)))
def tDa : Ty Da := tDa0.iso fun a => (a.mode, a.mem, a.off, a.bytes)
instance : TyOk tDa := by unfold tDa tDa0; infer_instance
instance : TyMore tDa := by unfold tDa tDa0; infer_instance
instance : TyOne tDa := by unfold tDa tDa0; infer_instance
theorem opens_Da : Opens Try.prog 211 tDa := by
  refine opens_iso _ (fun x => ⟨x.1, x.2.1, x.2.2.1, x.2.2.2⟩) (fun _ => rfl) ?_
  exact opens_struct Try.underlying211 (by kernel_rfl) (Flds.cons rfl (by kernel_rfl) (opens_int Try.underlying3) (Flds.cons rfl (by kernel_rfl) (opens_int Try.underlying3) (Flds.cons rfl (by kernel_rfl) (opens_slice Try.underlying157 (by kernel_rfl) (by decide) opens_Ins) (Flds.one rfl (by kernel_rfl) (opens_slice Try.underlying125 (by kernel_rfl) (by decide) (opens_int Try.underlying5))))))
theorem Da_cells {w : World} {S : Nat → Prop} {cs : List Value} {a : Da} (h : tDa.rd w S cs a) : ∃ (Aoff : Option Addr) (coff : Nat) (Abytes : Option Addr) (cbytes : Nat), cs = [.int .i64 a.mode, .int .i64 a.mem, .slice Aoff a.off.length coff, .slice Abytes a.bytes.length cbytes] ∧ (Lit.int .i64 a.mode).wf = true ∧ (Lit.int .i64 a.mem).wf = true ∧ a.off.length ≤ coff ∧ coff ≤ maxLen ∧ tIns.els w S Aoff a.off ∧ a.bytes.length ≤ cbytes ∧ cbytes ≤ maxLen ∧ (Ty.int .u8).els w S Abytes a.bytes := by
  obtain ⟨xmode, rmode, rfl, ⟨rfl, wmode⟩, xmem, rmem, rfl, ⟨rfl, wmem⟩, xoff, roff, rfl, ⟨Aoff, coff, rfl, goff, moff, eoff⟩, Abytes, cbytes, rfl, gbytes, mbytes, ebytes⟩ := h
  exact ⟨Aoff, coff, Abytes, cbytes, rfl, wmode, wmem, goff, moff, eoff, gbytes, mbytes, ebytes⟩
theorem Da_mk {w : World} {S : Nat → Prop} {a : Da} {Aoff : Option Addr} {coff : Nat} {Abytes : Option Addr} {cbytes : Nat} (f0 : (Lit.int .i64 a.mode).wf = true) (f1 : (Lit.int .i64 a.mem).wf = true) (f2 : a.off.length ≤ coff) (f3 : coff ≤ maxLen) (f4 : tIns.els w S Aoff a.off) (f5 : a.bytes.length ≤ cbytes) (f6 : cbytes ≤ maxLen) (f7 : (Ty.int .u8).els w S Abytes a.bytes) : tDa.rd w S [.int .i64 a.mode, .int .i64 a.mem, .slice Aoff a.off.length coff, .slice Abytes a.bytes.length cbytes] a :=
  ⟨[.int .i64 a.mode], [.int .i64 a.mem, .slice Aoff a.off.length coff, .slice Abytes a.bytes.length cbytes], rfl, ⟨rfl, f0⟩, ⟨[.int .i64 a.mem], [.slice Aoff a.off.length coff, .slice Abytes a.bytes.length cbytes], rfl, ⟨rfl, f1⟩, ⟨[.slice Aoff a.off.length coff], [.slice Abytes a.bytes.length cbytes], rfl, ⟨_, _, rfl, f2, f3, f4⟩, ⟨_, _, rfl, f5, f6, f7⟩⟩⟩⟩
theorem Da_at {w : World} {S : Nat → Prop} {A : Option Addr} {l : List Da} (h : tDa.els w S A l) (k : Nat) (hk : k < l.length) : ∃ (b o : Nat) (Aoff : Option Addr) (coff : Nat) (Abytes : Option Addr) (cbytes : Nat), A = some ⟨b, o, none⟩ ∧ S b ∧ w.cell? ⟨b, o + k * 4, none⟩ = some (.int .i64 l[k].mode) ∧ w.cell? ⟨b, o + k * 4 + 1, none⟩ = some (.int .i64 l[k].mem) ∧ w.cell? ⟨b, o + k * 4 + 2, none⟩ = some (.slice Aoff l[k].off.length coff) ∧ w.cell? ⟨b, o + k * 4 + 3, none⟩ = some (.slice Abytes l[k].bytes.length cbytes) ∧ (Lit.int .i64 l[k].mode).wf = true ∧ (Lit.int .i64 l[k].mem).wf = true ∧ l[k].off.length ≤ coff ∧ coff ≤ maxLen ∧ tIns.els w S Aoff l[k].off ∧ l[k].bytes.length ≤ cbytes ∧ cbytes ≤ maxLen ∧ (Ty.int .u8).els w S Abytes l[k].bytes := by
  obtain ⟨b, o, ds, rfl, hb, hc, hr⟩ := h.at_ k hk
  obtain ⟨Aoff, coff, Abytes, cbytes, rfl, f0, f1, f2, f3, f4, f5, f6, f7⟩ := Da_cells hr
  have e : tDa.size = 4 := rfl
  rw [e] at hc
  exact ⟨b, o, Aoff, coff, Abytes, cbytes, rfl, hb, hc 0 _ rfl, (by have := hc 1 _ rfl; rwa [← Nat.add_assoc] at this), (by have := hc 2 _ rfl; rwa [← Nat.add_assoc] at this), (by have := hc 3 _ rfl; rwa [← Nat.add_assoc] at this), f0, f1, f2, f3, f4, f5, f6, f7⟩

structure Cu where
  after : Int
  name : ByteArray
  bytes : List Int
def tCu0 : Ty (Int × ByteArray × List Int) := (Ty.int .i64).pair (Ty.str.pair ((Ty.int .u8).slice))
def tCu : Ty Cu := tCu0.iso fun a => (a.after, a.name, a.bytes)
instance : TyOk tCu := by unfold tCu tCu0; infer_instance
instance : TyMore tCu := by unfold tCu tCu0; infer_instance
instance : TyOne tCu := by unfold tCu tCu0; infer_instance
theorem opens_Cu : Opens Try.prog 213 tCu := by
  refine opens_iso _ (fun x => ⟨x.1, x.2.1, x.2.2⟩) (fun _ => rfl) ?_
  exact opens_struct Try.underlying213 (by kernel_rfl) (Flds.cons rfl (by kernel_rfl) (opens_int Try.underlying3) (Flds.cons rfl (by kernel_rfl) (opens_str Try.underlying9) (Flds.one rfl (by kernel_rfl) (opens_slice Try.underlying125 (by kernel_rfl) (by decide) (opens_int Try.underlying5)))))
theorem Cu_cells {w : World} {S : Nat → Prop} {cs : List Value} {a : Cu} (h : tCu.rd w S cs a) : ∃ (Abytes : Option Addr) (cbytes : Nat), cs = [.int .i64 a.after, .string a.name, .slice Abytes a.bytes.length cbytes] ∧ (Lit.int .i64 a.after).wf = true ∧ a.name.size ≤ maxLen ∧ a.bytes.length ≤ cbytes ∧ cbytes ≤ maxLen ∧ (Ty.int .u8).els w S Abytes a.bytes := by
  obtain ⟨xafter, rafter, rfl, ⟨rfl, wafter⟩, xname, rname, rfl, ⟨rfl, wname⟩, Abytes, cbytes, rfl, gbytes, mbytes, ebytes⟩ := h
  exact ⟨Abytes, cbytes, rfl, wafter, wname, gbytes, mbytes, ebytes⟩
theorem Cu_mk {w : World} {S : Nat → Prop} {a : Cu} {Abytes : Option Addr} {cbytes : Nat} (f0 : (Lit.int .i64 a.after).wf = true) (f1 : a.name.size ≤ maxLen) (f2 : a.bytes.length ≤ cbytes) (f3 : cbytes ≤ maxLen) (f4 : (Ty.int .u8).els w S Abytes a.bytes) : tCu.rd w S [.int .i64 a.after, .string a.name, .slice Abytes a.bytes.length cbytes] a :=
  ⟨[.int .i64 a.after], [.string a.name, .slice Abytes a.bytes.length cbytes], rfl, ⟨rfl, f0⟩, ⟨[.string a.name], [.slice Abytes a.bytes.length cbytes], rfl, ⟨rfl, f1⟩, ⟨_, _, rfl, f2, f3, f4⟩⟩⟩
theorem Cu_at {w : World} {S : Nat → Prop} {A : Option Addr} {l : List Cu} (h : tCu.els w S A l) (k : Nat) (hk : k < l.length) : ∃ (b o : Nat) (Abytes : Option Addr) (cbytes : Nat), A = some ⟨b, o, none⟩ ∧ S b ∧ w.cell? ⟨b, o + k * 3, none⟩ = some (.int .i64 l[k].after) ∧ w.cell? ⟨b, o + k * 3 + 1, none⟩ = some (.string l[k].name) ∧ w.cell? ⟨b, o + k * 3 + 2, none⟩ = some (.slice Abytes l[k].bytes.length cbytes) ∧ (Lit.int .i64 l[k].after).wf = true ∧ l[k].name.size ≤ maxLen ∧ l[k].bytes.length ≤ cbytes ∧ cbytes ≤ maxLen ∧ (Ty.int .u8).els w S Abytes l[k].bytes := by
  obtain ⟨b, o, ds, rfl, hb, hc, hr⟩ := h.at_ k hk
  obtain ⟨Abytes, cbytes, rfl, f0, f1, f2, f3, f4⟩ := Cu_cells hr
  have e : tCu.size = 3 := rfl
  rw [e] at hc
  exact ⟨b, o, Abytes, cbytes, rfl, hb, hc 0 _ rfl, (by have := hc 1 _ rfl; rwa [← Nat.add_assoc] at this), (by have := hc 2 _ rfl; rwa [← Nat.add_assoc] at this), f0, f1, f2, f3, f4⟩

structure Md where
  types : List Fn
  imports : List Im
  funcs : List Cd
  tables : List Tb
  mems : List Lim
  globals : List Gd
  exports : List Ex
  hasStart : Bool
  start : Int
  elems : List El
  datas : List Da
  customs : List Cu
def tMd0 : Ty (List Fn × List Im × List Cd × List Tb × List Lim × List Gd × List Ex × Bool × Int × List El × List Da × List Cu) := tFn.slice.pair (tIm.slice.pair (tCd.slice.pair (tTb.slice.pair (tLim.slice.pair (tGd.slice.pair (tEx.slice.pair (Ty.bool.pair ((Ty.int .i64).pair (tEl.slice.pair (tDa.slice.pair (tCu.slice)))))))))))
def tMd : Ty Md := tMd0.iso fun a => (a.types, a.imports, a.funcs, a.tables, a.mems, a.globals, a.exports, a.hasStart, a.start, a.elems, a.datas, a.customs)
instance : TyOk tMd := by unfold tMd tMd0; infer_instance
instance : TyMore tMd := by unfold tMd tMd0; infer_instance
instance : TyOne tMd := by unfold tMd tMd0; infer_instance
theorem opens_Md : Opens Try.prog 63 tMd := by
  refine opens_iso _ (fun x => ⟨x.1, x.2.1, x.2.2.1, x.2.2.2.1, x.2.2.2.2.1, x.2.2.2.2.2.1, x.2.2.2.2.2.2.1, x.2.2.2.2.2.2.2.1, x.2.2.2.2.2.2.2.2.1, x.2.2.2.2.2.2.2.2.2.1, x.2.2.2.2.2.2.2.2.2.2.1, x.2.2.2.2.2.2.2.2.2.2.2⟩) (fun _ => rfl) ?_
  exact opens_struct Try.underlying63 (by kernel_rfl) (Flds.cons rfl (by kernel_rfl) (opens_slice Try.underlying53 (by kernel_rfl) (by decide) opens_Fn) (Flds.cons rfl (by kernel_rfl) (opens_slice Try.underlying52 (by kernel_rfl) (by decide) opens_Im) (Flds.cons rfl (by kernel_rfl) (opens_slice Try.underlying54 (by kernel_rfl) (by decide) opens_Cd) (Flds.cons rfl (by kernel_rfl) (opens_slice Try.underlying55 (by kernel_rfl) (by decide) opens_Tb) (Flds.cons rfl (by kernel_rfl) (opens_slice Try.underlying56 (by kernel_rfl) (by decide) opens_Lim) (Flds.cons rfl (by kernel_rfl) (opens_slice Try.underlying57 (by kernel_rfl) (by decide) opens_Gd) (Flds.cons rfl (by kernel_rfl) (opens_slice Try.underlying58 (by kernel_rfl) (by decide) opens_Ex) (Flds.cons rfl (by kernel_rfl) (opens_bool Try.underlying4) (Flds.cons rfl (by kernel_rfl) (opens_int Try.underlying3) (Flds.cons rfl (by kernel_rfl) (opens_slice Try.underlying59 (by kernel_rfl) (by decide) opens_El) (Flds.cons rfl (by kernel_rfl) (opens_slice Try.underlying60 (by kernel_rfl) (by decide) opens_Da) (Flds.one rfl (by kernel_rfl) (opens_slice Try.underlying61 (by kernel_rfl) (by decide) opens_Cu)))))))))))))
theorem Md_cells {w : World} {S : Nat → Prop} {cs : List Value} {a : Md} (h : tMd.rd w S cs a) : ∃ (Atypes : Option Addr) (ctypes : Nat) (Aimports : Option Addr) (cimports : Nat) (Afuncs : Option Addr) (cfuncs : Nat) (Atables : Option Addr) (ctables : Nat) (Amems : Option Addr) (cmems : Nat) (Aglobals : Option Addr) (cglobals : Nat) (Aexports : Option Addr) (cexports : Nat) (Aelems : Option Addr) (celems : Nat) (Adatas : Option Addr) (cdatas : Nat) (Acustoms : Option Addr) (ccustoms : Nat), cs = [.slice Atypes a.types.length ctypes, .slice Aimports a.imports.length cimports, .slice Afuncs a.funcs.length cfuncs, .slice Atables a.tables.length ctables, .slice Amems a.mems.length cmems, .slice Aglobals a.globals.length cglobals, .slice Aexports a.exports.length cexports, .bool a.hasStart, .int .i64 a.start, .slice Aelems a.elems.length celems, .slice Adatas a.datas.length cdatas, .slice Acustoms a.customs.length ccustoms] ∧ a.types.length ≤ ctypes ∧ ctypes ≤ maxLen ∧ tFn.els w S Atypes a.types ∧ a.imports.length ≤ cimports ∧ cimports ≤ maxLen ∧ tIm.els w S Aimports a.imports ∧ a.funcs.length ≤ cfuncs ∧ cfuncs ≤ maxLen ∧ tCd.els w S Afuncs a.funcs ∧ a.tables.length ≤ ctables ∧ ctables ≤ maxLen ∧ tTb.els w S Atables a.tables ∧ a.mems.length ≤ cmems ∧ cmems ≤ maxLen ∧ tLim.els w S Amems a.mems ∧ a.globals.length ≤ cglobals ∧ cglobals ≤ maxLen ∧ tGd.els w S Aglobals a.globals ∧ a.exports.length ≤ cexports ∧ cexports ≤ maxLen ∧ tEx.els w S Aexports a.exports ∧ (Lit.int .i64 a.start).wf = true ∧ a.elems.length ≤ celems ∧ celems ≤ maxLen ∧ tEl.els w S Aelems a.elems ∧ a.datas.length ≤ cdatas ∧ cdatas ≤ maxLen ∧ tDa.els w S Adatas a.datas ∧ a.customs.length ≤ ccustoms ∧ ccustoms ≤ maxLen ∧ tCu.els w S Acustoms a.customs := by
  obtain ⟨xtypes, rtypes, rfl, ⟨Atypes, ctypes, rfl, gtypes, mtypes, etypes⟩, ximports, rimports, rfl, ⟨Aimports, cimports, rfl, gimports, mimports, eimports⟩, xfuncs, rfuncs, rfl, ⟨Afuncs, cfuncs, rfl, gfuncs, mfuncs, efuncs⟩, xtables, rtables, rfl, ⟨Atables, ctables, rfl, gtables, mtables, etables⟩, xmems, rmems, rfl, ⟨Amems, cmems, rfl, gmems, mmems, emems⟩, xglobals, rglobals, rfl, ⟨Aglobals, cglobals, rfl, gglobals, mglobals, eglobals⟩, xexports, rexports, rfl, ⟨Aexports, cexports, rfl, gexports, mexports, eexports⟩, xhasStart, rhasStart, rfl, rfl, xstart, rstart, rfl, ⟨rfl, wstart⟩, xelems, relems, rfl, ⟨Aelems, celems, rfl, gelems, melems, eelems⟩, xdatas, rdatas, rfl, ⟨Adatas, cdatas, rfl, gdatas, mdatas, edatas⟩, Acustoms, ccustoms, rfl, gcustoms, mcustoms, ecustoms⟩ := h
  exact ⟨Atypes, ctypes, Aimports, cimports, Afuncs, cfuncs, Atables, ctables, Amems, cmems, Aglobals, cglobals, Aexports, cexports, Aelems, celems, Adatas, cdatas, Acustoms, ccustoms, rfl, gtypes, mtypes, etypes, gimports, mimports, eimports, gfuncs, mfuncs, efuncs, gtables, mtables, etables, gmems, mmems, emems, gglobals, mglobals, eglobals, gexports, mexports, eexports, wstart, gelems, melems, eelems, gdatas, mdatas, edatas, gcustoms, mcustoms, ecustoms⟩
theorem Md_mk {w : World} {S : Nat → Prop} {a : Md} {Atypes : Option Addr} {ctypes : Nat} {Aimports : Option Addr} {cimports : Nat} {Afuncs : Option Addr} {cfuncs : Nat} {Atables : Option Addr} {ctables : Nat} {Amems : Option Addr} {cmems : Nat} {Aglobals : Option Addr} {cglobals : Nat} {Aexports : Option Addr} {cexports : Nat} {Aelems : Option Addr} {celems : Nat} {Adatas : Option Addr} {cdatas : Nat} {Acustoms : Option Addr} {ccustoms : Nat} (f0 : a.types.length ≤ ctypes) (f1 : ctypes ≤ maxLen) (f2 : tFn.els w S Atypes a.types) (f3 : a.imports.length ≤ cimports) (f4 : cimports ≤ maxLen) (f5 : tIm.els w S Aimports a.imports) (f6 : a.funcs.length ≤ cfuncs) (f7 : cfuncs ≤ maxLen) (f8 : tCd.els w S Afuncs a.funcs) (f9 : a.tables.length ≤ ctables) (f10 : ctables ≤ maxLen) (f11 : tTb.els w S Atables a.tables) (f12 : a.mems.length ≤ cmems) (f13 : cmems ≤ maxLen) (f14 : tLim.els w S Amems a.mems) (f15 : a.globals.length ≤ cglobals) (f16 : cglobals ≤ maxLen) (f17 : tGd.els w S Aglobals a.globals) (f18 : a.exports.length ≤ cexports) (f19 : cexports ≤ maxLen) (f20 : tEx.els w S Aexports a.exports) (f21 : (Lit.int .i64 a.start).wf = true) (f22 : a.elems.length ≤ celems) (f23 : celems ≤ maxLen) (f24 : tEl.els w S Aelems a.elems) (f25 : a.datas.length ≤ cdatas) (f26 : cdatas ≤ maxLen) (f27 : tDa.els w S Adatas a.datas) (f28 : a.customs.length ≤ ccustoms) (f29 : ccustoms ≤ maxLen) (f30 : tCu.els w S Acustoms a.customs) : tMd.rd w S [.slice Atypes a.types.length ctypes, .slice Aimports a.imports.length cimports, .slice Afuncs a.funcs.length cfuncs, .slice Atables a.tables.length ctables, .slice Amems a.mems.length cmems, .slice Aglobals a.globals.length cglobals, .slice Aexports a.exports.length cexports, .bool a.hasStart, .int .i64 a.start, .slice Aelems a.elems.length celems, .slice Adatas a.datas.length cdatas, .slice Acustoms a.customs.length ccustoms] a :=
  ⟨[.slice Atypes a.types.length ctypes], [.slice Aimports a.imports.length cimports, .slice Afuncs a.funcs.length cfuncs, .slice Atables a.tables.length ctables, .slice Amems a.mems.length cmems, .slice Aglobals a.globals.length cglobals, .slice Aexports a.exports.length cexports, .bool a.hasStart, .int .i64 a.start, .slice Aelems a.elems.length celems, .slice Adatas a.datas.length cdatas, .slice Acustoms a.customs.length ccustoms], rfl, ⟨_, _, rfl, f0, f1, f2⟩, ⟨[.slice Aimports a.imports.length cimports], [.slice Afuncs a.funcs.length cfuncs, .slice Atables a.tables.length ctables, .slice Amems a.mems.length cmems, .slice Aglobals a.globals.length cglobals, .slice Aexports a.exports.length cexports, .bool a.hasStart, .int .i64 a.start, .slice Aelems a.elems.length celems, .slice Adatas a.datas.length cdatas, .slice Acustoms a.customs.length ccustoms], rfl, ⟨_, _, rfl, f3, f4, f5⟩, ⟨[.slice Afuncs a.funcs.length cfuncs], [.slice Atables a.tables.length ctables, .slice Amems a.mems.length cmems, .slice Aglobals a.globals.length cglobals, .slice Aexports a.exports.length cexports, .bool a.hasStart, .int .i64 a.start, .slice Aelems a.elems.length celems, .slice Adatas a.datas.length cdatas, .slice Acustoms a.customs.length ccustoms], rfl, ⟨_, _, rfl, f6, f7, f8⟩, ⟨[.slice Atables a.tables.length ctables], [.slice Amems a.mems.length cmems, .slice Aglobals a.globals.length cglobals, .slice Aexports a.exports.length cexports, .bool a.hasStart, .int .i64 a.start, .slice Aelems a.elems.length celems, .slice Adatas a.datas.length cdatas, .slice Acustoms a.customs.length ccustoms], rfl, ⟨_, _, rfl, f9, f10, f11⟩, ⟨[.slice Amems a.mems.length cmems], [.slice Aglobals a.globals.length cglobals, .slice Aexports a.exports.length cexports, .bool a.hasStart, .int .i64 a.start, .slice Aelems a.elems.length celems, .slice Adatas a.datas.length cdatas, .slice Acustoms a.customs.length ccustoms], rfl, ⟨_, _, rfl, f12, f13, f14⟩, ⟨[.slice Aglobals a.globals.length cglobals], [.slice Aexports a.exports.length cexports, .bool a.hasStart, .int .i64 a.start, .slice Aelems a.elems.length celems, .slice Adatas a.datas.length cdatas, .slice Acustoms a.customs.length ccustoms], rfl, ⟨_, _, rfl, f15, f16, f17⟩, ⟨[.slice Aexports a.exports.length cexports], [.bool a.hasStart, .int .i64 a.start, .slice Aelems a.elems.length celems, .slice Adatas a.datas.length cdatas, .slice Acustoms a.customs.length ccustoms], rfl, ⟨_, _, rfl, f18, f19, f20⟩, ⟨[.bool a.hasStart], [.int .i64 a.start, .slice Aelems a.elems.length celems, .slice Adatas a.datas.length cdatas, .slice Acustoms a.customs.length ccustoms], rfl, rfl, ⟨[.int .i64 a.start], [.slice Aelems a.elems.length celems, .slice Adatas a.datas.length cdatas, .slice Acustoms a.customs.length ccustoms], rfl, ⟨rfl, f21⟩, ⟨[.slice Aelems a.elems.length celems], [.slice Adatas a.datas.length cdatas, .slice Acustoms a.customs.length ccustoms], rfl, ⟨_, _, rfl, f22, f23, f24⟩, ⟨[.slice Adatas a.datas.length cdatas], [.slice Acustoms a.customs.length ccustoms], rfl, ⟨_, _, rfl, f25, f26, f27⟩, ⟨_, _, rfl, f28, f29, f30⟩⟩⟩⟩⟩⟩⟩⟩⟩⟩⟩⟩
theorem Md_at {w : World} {S : Nat → Prop} {A : Option Addr} {l : List Md} (h : tMd.els w S A l) (k : Nat) (hk : k < l.length) : ∃ (b o : Nat) (Atypes : Option Addr) (ctypes : Nat) (Aimports : Option Addr) (cimports : Nat) (Afuncs : Option Addr) (cfuncs : Nat) (Atables : Option Addr) (ctables : Nat) (Amems : Option Addr) (cmems : Nat) (Aglobals : Option Addr) (cglobals : Nat) (Aexports : Option Addr) (cexports : Nat) (Aelems : Option Addr) (celems : Nat) (Adatas : Option Addr) (cdatas : Nat) (Acustoms : Option Addr) (ccustoms : Nat), A = some ⟨b, o, none⟩ ∧ S b ∧ w.cell? ⟨b, o + k * 12, none⟩ = some (.slice Atypes l[k].types.length ctypes) ∧ w.cell? ⟨b, o + k * 12 + 1, none⟩ = some (.slice Aimports l[k].imports.length cimports) ∧ w.cell? ⟨b, o + k * 12 + 2, none⟩ = some (.slice Afuncs l[k].funcs.length cfuncs) ∧ w.cell? ⟨b, o + k * 12 + 3, none⟩ = some (.slice Atables l[k].tables.length ctables) ∧ w.cell? ⟨b, o + k * 12 + 4, none⟩ = some (.slice Amems l[k].mems.length cmems) ∧ w.cell? ⟨b, o + k * 12 + 5, none⟩ = some (.slice Aglobals l[k].globals.length cglobals) ∧ w.cell? ⟨b, o + k * 12 + 6, none⟩ = some (.slice Aexports l[k].exports.length cexports) ∧ w.cell? ⟨b, o + k * 12 + 7, none⟩ = some (.bool l[k].hasStart) ∧ w.cell? ⟨b, o + k * 12 + 8, none⟩ = some (.int .i64 l[k].start) ∧ w.cell? ⟨b, o + k * 12 + 9, none⟩ = some (.slice Aelems l[k].elems.length celems) ∧ w.cell? ⟨b, o + k * 12 + 10, none⟩ = some (.slice Adatas l[k].datas.length cdatas) ∧ w.cell? ⟨b, o + k * 12 + 11, none⟩ = some (.slice Acustoms l[k].customs.length ccustoms) ∧ l[k].types.length ≤ ctypes ∧ ctypes ≤ maxLen ∧ tFn.els w S Atypes l[k].types ∧ l[k].imports.length ≤ cimports ∧ cimports ≤ maxLen ∧ tIm.els w S Aimports l[k].imports ∧ l[k].funcs.length ≤ cfuncs ∧ cfuncs ≤ maxLen ∧ tCd.els w S Afuncs l[k].funcs ∧ l[k].tables.length ≤ ctables ∧ ctables ≤ maxLen ∧ tTb.els w S Atables l[k].tables ∧ l[k].mems.length ≤ cmems ∧ cmems ≤ maxLen ∧ tLim.els w S Amems l[k].mems ∧ l[k].globals.length ≤ cglobals ∧ cglobals ≤ maxLen ∧ tGd.els w S Aglobals l[k].globals ∧ l[k].exports.length ≤ cexports ∧ cexports ≤ maxLen ∧ tEx.els w S Aexports l[k].exports ∧ (Lit.int .i64 l[k].start).wf = true ∧ l[k].elems.length ≤ celems ∧ celems ≤ maxLen ∧ tEl.els w S Aelems l[k].elems ∧ l[k].datas.length ≤ cdatas ∧ cdatas ≤ maxLen ∧ tDa.els w S Adatas l[k].datas ∧ l[k].customs.length ≤ ccustoms ∧ ccustoms ≤ maxLen ∧ tCu.els w S Acustoms l[k].customs := by
  obtain ⟨b, o, ds, rfl, hb, hc, hr⟩ := h.at_ k hk
  obtain ⟨Atypes, ctypes, Aimports, cimports, Afuncs, cfuncs, Atables, ctables, Amems, cmems, Aglobals, cglobals, Aexports, cexports, Aelems, celems, Adatas, cdatas, Acustoms, ccustoms, rfl, f0, f1, f2, f3, f4, f5, f6, f7, f8, f9, f10, f11, f12, f13, f14, f15, f16, f17, f18, f19, f20, f21, f22, f23, f24, f25, f26, f27, f28, f29, f30⟩ := Md_cells hr
  have e : tMd.size = 12 := rfl
  rw [e] at hc
  exact ⟨b, o, Atypes, ctypes, Aimports, cimports, Afuncs, cfuncs, Atables, ctables, Amems, cmems, Aglobals, cglobals, Aexports, cexports, Aelems, celems, Adatas, cdatas, Acustoms, ccustoms, rfl, hb, hc 0 _ rfl, (by have := hc 1 _ rfl; rwa [← Nat.add_assoc] at this), (by have := hc 2 _ rfl; rwa [← Nat.add_assoc] at this), (by have := hc 3 _ rfl; rwa [← Nat.add_assoc] at this), (by have := hc 4 _ rfl; rwa [← Nat.add_assoc] at this), (by have := hc 5 _ rfl; rwa [← Nat.add_assoc] at this), (by have := hc 6 _ rfl; rwa [← Nat.add_assoc] at this), (by have := hc 7 _ rfl; rwa [← Nat.add_assoc] at this), (by have := hc 8 _ rfl; rwa [← Nat.add_assoc] at this), (by have := hc 9 _ rfl; rwa [← Nat.add_assoc] at this), (by have := hc 10 _ rfl; rwa [← Nat.add_assoc] at this), (by have := hc 11 _ rfl; rwa [← Nat.add_assoc] at this), f0, f1, f2, f3, f4, f5, f6, f7, f8, f9, f10, f11, f12, f13, f14, f15, f16, f17, f18, f19, f20, f21, f22, f23, f24, f25, f26, f27, f28, f29, f30⟩

structure Ad where
  funcs : List Int
  tables : List Int
  mems : List Int
  globals : List Int
  elems : List Int
  datas : List Int
def tAd0 : Ty (List Int × List Int × List Int × List Int × List Int × List Int) := (Ty.int .i64).slice.pair ((Ty.int .i64).slice.pair ((Ty.int .i64).slice.pair ((Ty.int .i64).slice.pair ((Ty.int .i64).slice.pair ((Ty.int .i64).slice)))))
def tAd : Ty Ad := tAd0.iso fun a => (a.funcs, a.tables, a.mems, a.globals, a.elems, a.datas)
instance : TyOk tAd := by unfold tAd tAd0; infer_instance
instance : TyMore tAd := by unfold tAd tAd0; infer_instance
instance : TyOne tAd := by unfold tAd tAd0; infer_instance
theorem opens_Ad : Opens Try.prog 221 tAd := by
  refine opens_iso _ (fun x => ⟨x.1, x.2.1, x.2.2.1, x.2.2.2.1, x.2.2.2.2.1, x.2.2.2.2.2⟩) (fun _ => rfl) ?_
  exact opens_struct Try.underlying221 (by kernel_rfl) (Flds.cons rfl (by kernel_rfl) (opens_slice Try.underlying69 (by kernel_rfl) (by decide) (opens_int Try.underlying3)) (Flds.cons rfl (by kernel_rfl) (opens_slice Try.underlying69 (by kernel_rfl) (by decide) (opens_int Try.underlying3)) (Flds.cons rfl (by kernel_rfl) (opens_slice Try.underlying69 (by kernel_rfl) (by decide) (opens_int Try.underlying3)) (Flds.cons rfl (by kernel_rfl) (opens_slice Try.underlying69 (by kernel_rfl) (by decide) (opens_int Try.underlying3)) (Flds.cons rfl (by kernel_rfl) (opens_slice Try.underlying69 (by kernel_rfl) (by decide) (opens_int Try.underlying3)) (Flds.one rfl (by kernel_rfl) (opens_slice Try.underlying69 (by kernel_rfl) (by decide) (opens_int Try.underlying3))))))))
theorem Ad_cells {w : World} {S : Nat → Prop} {cs : List Value} {a : Ad} (h : tAd.rd w S cs a) : ∃ (Afuncs : Option Addr) (cfuncs : Nat) (Atables : Option Addr) (ctables : Nat) (Amems : Option Addr) (cmems : Nat) (Aglobals : Option Addr) (cglobals : Nat) (Aelems : Option Addr) (celems : Nat) (Adatas : Option Addr) (cdatas : Nat), cs = [.slice Afuncs a.funcs.length cfuncs, .slice Atables a.tables.length ctables, .slice Amems a.mems.length cmems, .slice Aglobals a.globals.length cglobals, .slice Aelems a.elems.length celems, .slice Adatas a.datas.length cdatas] ∧ a.funcs.length ≤ cfuncs ∧ cfuncs ≤ maxLen ∧ (Ty.int .i64).els w S Afuncs a.funcs ∧ a.tables.length ≤ ctables ∧ ctables ≤ maxLen ∧ (Ty.int .i64).els w S Atables a.tables ∧ a.mems.length ≤ cmems ∧ cmems ≤ maxLen ∧ (Ty.int .i64).els w S Amems a.mems ∧ a.globals.length ≤ cglobals ∧ cglobals ≤ maxLen ∧ (Ty.int .i64).els w S Aglobals a.globals ∧ a.elems.length ≤ celems ∧ celems ≤ maxLen ∧ (Ty.int .i64).els w S Aelems a.elems ∧ a.datas.length ≤ cdatas ∧ cdatas ≤ maxLen ∧ (Ty.int .i64).els w S Adatas a.datas := by
  obtain ⟨xfuncs, rfuncs, rfl, ⟨Afuncs, cfuncs, rfl, gfuncs, mfuncs, efuncs⟩, xtables, rtables, rfl, ⟨Atables, ctables, rfl, gtables, mtables, etables⟩, xmems, rmems, rfl, ⟨Amems, cmems, rfl, gmems, mmems, emems⟩, xglobals, rglobals, rfl, ⟨Aglobals, cglobals, rfl, gglobals, mglobals, eglobals⟩, xelems, relems, rfl, ⟨Aelems, celems, rfl, gelems, melems, eelems⟩, Adatas, cdatas, rfl, gdatas, mdatas, edatas⟩ := h
  exact ⟨Afuncs, cfuncs, Atables, ctables, Amems, cmems, Aglobals, cglobals, Aelems, celems, Adatas, cdatas, rfl, gfuncs, mfuncs, efuncs, gtables, mtables, etables, gmems, mmems, emems, gglobals, mglobals, eglobals, gelems, melems, eelems, gdatas, mdatas, edatas⟩
theorem Ad_mk {w : World} {S : Nat → Prop} {a : Ad} {Afuncs : Option Addr} {cfuncs : Nat} {Atables : Option Addr} {ctables : Nat} {Amems : Option Addr} {cmems : Nat} {Aglobals : Option Addr} {cglobals : Nat} {Aelems : Option Addr} {celems : Nat} {Adatas : Option Addr} {cdatas : Nat} (f0 : a.funcs.length ≤ cfuncs) (f1 : cfuncs ≤ maxLen) (f2 : (Ty.int .i64).els w S Afuncs a.funcs) (f3 : a.tables.length ≤ ctables) (f4 : ctables ≤ maxLen) (f5 : (Ty.int .i64).els w S Atables a.tables) (f6 : a.mems.length ≤ cmems) (f7 : cmems ≤ maxLen) (f8 : (Ty.int .i64).els w S Amems a.mems) (f9 : a.globals.length ≤ cglobals) (f10 : cglobals ≤ maxLen) (f11 : (Ty.int .i64).els w S Aglobals a.globals) (f12 : a.elems.length ≤ celems) (f13 : celems ≤ maxLen) (f14 : (Ty.int .i64).els w S Aelems a.elems) (f15 : a.datas.length ≤ cdatas) (f16 : cdatas ≤ maxLen) (f17 : (Ty.int .i64).els w S Adatas a.datas) : tAd.rd w S [.slice Afuncs a.funcs.length cfuncs, .slice Atables a.tables.length ctables, .slice Amems a.mems.length cmems, .slice Aglobals a.globals.length cglobals, .slice Aelems a.elems.length celems, .slice Adatas a.datas.length cdatas] a :=
  ⟨[.slice Afuncs a.funcs.length cfuncs], [.slice Atables a.tables.length ctables, .slice Amems a.mems.length cmems, .slice Aglobals a.globals.length cglobals, .slice Aelems a.elems.length celems, .slice Adatas a.datas.length cdatas], rfl, ⟨_, _, rfl, f0, f1, f2⟩, ⟨[.slice Atables a.tables.length ctables], [.slice Amems a.mems.length cmems, .slice Aglobals a.globals.length cglobals, .slice Aelems a.elems.length celems, .slice Adatas a.datas.length cdatas], rfl, ⟨_, _, rfl, f3, f4, f5⟩, ⟨[.slice Amems a.mems.length cmems], [.slice Aglobals a.globals.length cglobals, .slice Aelems a.elems.length celems, .slice Adatas a.datas.length cdatas], rfl, ⟨_, _, rfl, f6, f7, f8⟩, ⟨[.slice Aglobals a.globals.length cglobals], [.slice Aelems a.elems.length celems, .slice Adatas a.datas.length cdatas], rfl, ⟨_, _, rfl, f9, f10, f11⟩, ⟨[.slice Aelems a.elems.length celems], [.slice Adatas a.datas.length cdatas], rfl, ⟨_, _, rfl, f12, f13, f14⟩, ⟨_, _, rfl, f15, f16, f17⟩⟩⟩⟩⟩⟩
theorem Ad_at {w : World} {S : Nat → Prop} {A : Option Addr} {l : List Ad} (h : tAd.els w S A l) (k : Nat) (hk : k < l.length) : ∃ (b o : Nat) (Afuncs : Option Addr) (cfuncs : Nat) (Atables : Option Addr) (ctables : Nat) (Amems : Option Addr) (cmems : Nat) (Aglobals : Option Addr) (cglobals : Nat) (Aelems : Option Addr) (celems : Nat) (Adatas : Option Addr) (cdatas : Nat), A = some ⟨b, o, none⟩ ∧ S b ∧ w.cell? ⟨b, o + k * 6, none⟩ = some (.slice Afuncs l[k].funcs.length cfuncs) ∧ w.cell? ⟨b, o + k * 6 + 1, none⟩ = some (.slice Atables l[k].tables.length ctables) ∧ w.cell? ⟨b, o + k * 6 + 2, none⟩ = some (.slice Amems l[k].mems.length cmems) ∧ w.cell? ⟨b, o + k * 6 + 3, none⟩ = some (.slice Aglobals l[k].globals.length cglobals) ∧ w.cell? ⟨b, o + k * 6 + 4, none⟩ = some (.slice Aelems l[k].elems.length celems) ∧ w.cell? ⟨b, o + k * 6 + 5, none⟩ = some (.slice Adatas l[k].datas.length cdatas) ∧ l[k].funcs.length ≤ cfuncs ∧ cfuncs ≤ maxLen ∧ (Ty.int .i64).els w S Afuncs l[k].funcs ∧ l[k].tables.length ≤ ctables ∧ ctables ≤ maxLen ∧ (Ty.int .i64).els w S Atables l[k].tables ∧ l[k].mems.length ≤ cmems ∧ cmems ≤ maxLen ∧ (Ty.int .i64).els w S Amems l[k].mems ∧ l[k].globals.length ≤ cglobals ∧ cglobals ≤ maxLen ∧ (Ty.int .i64).els w S Aglobals l[k].globals ∧ l[k].elems.length ≤ celems ∧ celems ≤ maxLen ∧ (Ty.int .i64).els w S Aelems l[k].elems ∧ l[k].datas.length ≤ cdatas ∧ cdatas ≤ maxLen ∧ (Ty.int .i64).els w S Adatas l[k].datas := by
  obtain ⟨b, o, ds, rfl, hb, hc, hr⟩ := h.at_ k hk
  obtain ⟨Afuncs, cfuncs, Atables, ctables, Amems, cmems, Aglobals, cglobals, Aelems, celems, Adatas, cdatas, rfl, f0, f1, f2, f3, f4, f5, f6, f7, f8, f9, f10, f11, f12, f13, f14, f15, f16, f17⟩ := Ad_cells hr
  have e : tAd.size = 6 := rfl
  rw [e] at hc
  exact ⟨b, o, Afuncs, cfuncs, Atables, ctables, Amems, cmems, Aglobals, cglobals, Aelems, celems, Adatas, cdatas, rfl, hb, hc 0 _ rfl, (by have := hc 1 _ rfl; rwa [← Nat.add_assoc] at this), (by have := hc 2 _ rfl; rwa [← Nat.add_assoc] at this), (by have := hc 3 _ rfl; rwa [← Nat.add_assoc] at this), (by have := hc 4 _ rfl; rwa [← Nat.add_assoc] at this), (by have := hc 5 _ rfl; rwa [← Nat.add_assoc] at this), f0, f1, f2, f3, f4, f5, f6, f7, f8, f9, f10, f11, f12, f13, f14, f15, f16, f17⟩

structure Fi where
  ty : Fn
  inst : Int
  index : Int
def tFi0 : Ty (Fn × Int × Int) := tFn.pair ((Ty.int .i64).pair ((Ty.int .i64)))
def tFi : Ty Fi := tFi0.iso fun a => (a.ty, a.inst, a.index)
instance : TyOk tFi := by unfold tFi tFi0; infer_instance
instance : TyMore tFi := by unfold tFi tFi0; infer_instance
instance : TyOne tFi := by unfold tFi tFi0; infer_instance
theorem opens_Fi : Opens Try.prog 134 tFi := by
  refine opens_iso _ (fun x => ⟨x.1, x.2.1, x.2.2⟩) (fun _ => rfl) ?_
  exact opens_struct Try.underlying134 (by kernel_rfl) (Flds.cons rfl (by kernel_rfl) opens_Fn (Flds.cons rfl (by kernel_rfl) (opens_int Try.underlying3) (Flds.one rfl (by kernel_rfl) (opens_int Try.underlying3))))
theorem Fi_cells {w : World} {S : Nat → Prop} {cs : List Value} {a : Fi} (h : tFi.rd w S cs a) : ∃ (Aty_params : Option Addr) (cty_params : Nat) (Aty_results : Option Addr) (cty_results : Nat), cs = [.slice Aty_params a.ty.params.length cty_params, .slice Aty_results a.ty.results.length cty_results, .int .i64 a.inst, .int .i64 a.index] ∧ a.ty.params.length ≤ cty_params ∧ cty_params ≤ maxLen ∧ (Ty.int .i64).els w S Aty_params a.ty.params ∧ a.ty.results.length ≤ cty_results ∧ cty_results ≤ maxLen ∧ (Ty.int .i64).els w S Aty_results a.ty.results ∧ (Lit.int .i64 a.inst).wf = true ∧ (Lit.int .i64 a.index).wf = true := by
  obtain ⟨xty, rty, rfl, hty, xinst, rinst, rfl, ⟨rfl, winst⟩, rfl, windex⟩ := h
  obtain ⟨Aty_params, cty_params, Aty_results, cty_results, rfl, kty0, kty1, kty2, kty3, kty4, kty5⟩ := Fn_cells hty
  exact ⟨Aty_params, cty_params, Aty_results, cty_results, rfl, kty0, kty1, kty2, kty3, kty4, kty5, winst, windex⟩
theorem Fi_mk {w : World} {S : Nat → Prop} {a : Fi} {Aty_params : Option Addr} {cty_params : Nat} {Aty_results : Option Addr} {cty_results : Nat} (f0 : a.ty.params.length ≤ cty_params) (f1 : cty_params ≤ maxLen) (f2 : (Ty.int .i64).els w S Aty_params a.ty.params) (f3 : a.ty.results.length ≤ cty_results) (f4 : cty_results ≤ maxLen) (f5 : (Ty.int .i64).els w S Aty_results a.ty.results) (f6 : (Lit.int .i64 a.inst).wf = true) (f7 : (Lit.int .i64 a.index).wf = true) : tFi.rd w S [.slice Aty_params a.ty.params.length cty_params, .slice Aty_results a.ty.results.length cty_results, .int .i64 a.inst, .int .i64 a.index] a :=
  ⟨[.slice Aty_params a.ty.params.length cty_params, .slice Aty_results a.ty.results.length cty_results], [.int .i64 a.inst, .int .i64 a.index], rfl, ⟨[.slice Aty_params a.ty.params.length cty_params], [.slice Aty_results a.ty.results.length cty_results], rfl, ⟨_, _, rfl, f0, f1, f2⟩, ⟨_, _, rfl, f3, f4, f5⟩⟩, ⟨[.int .i64 a.inst], [.int .i64 a.index], rfl, ⟨rfl, f6⟩, ⟨rfl, f7⟩⟩⟩
theorem Fi_at {w : World} {S : Nat → Prop} {A : Option Addr} {l : List Fi} (h : tFi.els w S A l) (k : Nat) (hk : k < l.length) : ∃ (b o : Nat) (Aty_params : Option Addr) (cty_params : Nat) (Aty_results : Option Addr) (cty_results : Nat), A = some ⟨b, o, none⟩ ∧ S b ∧ w.cell? ⟨b, o + k * 4, none⟩ = some (.slice Aty_params l[k].ty.params.length cty_params) ∧ w.cell? ⟨b, o + k * 4 + 1, none⟩ = some (.slice Aty_results l[k].ty.results.length cty_results) ∧ w.cell? ⟨b, o + k * 4 + 2, none⟩ = some (.int .i64 l[k].inst) ∧ w.cell? ⟨b, o + k * 4 + 3, none⟩ = some (.int .i64 l[k].index) ∧ l[k].ty.params.length ≤ cty_params ∧ cty_params ≤ maxLen ∧ (Ty.int .i64).els w S Aty_params l[k].ty.params ∧ l[k].ty.results.length ≤ cty_results ∧ cty_results ≤ maxLen ∧ (Ty.int .i64).els w S Aty_results l[k].ty.results ∧ (Lit.int .i64 l[k].inst).wf = true ∧ (Lit.int .i64 l[k].index).wf = true := by
  obtain ⟨b, o, ds, rfl, hb, hc, hr⟩ := h.at_ k hk
  obtain ⟨Aty_params, cty_params, Aty_results, cty_results, rfl, f0, f1, f2, f3, f4, f5, f6, f7⟩ := Fi_cells hr
  have e : tFi.size = 4 := rfl
  rw [e] at hc
  exact ⟨b, o, Aty_params, cty_params, Aty_results, cty_results, rfl, hb, hc 0 _ rfl, (by have := hc 1 _ rfl; rwa [← Nat.add_assoc] at this), (by have := hc 2 _ rfl; rwa [← Nat.add_assoc] at this), (by have := hc 3 _ rfl; rwa [← Nat.add_assoc] at this), f0, f1, f2, f3, f4, f5, f6, f7⟩

structure Ca where
  host : Int
  args : List Vl
def tCa0 : Ty (Int × List Vl) := (Ty.int .i64).pair (tVl.slice)
def tCa : Ty Ca := tCa0.iso fun a => (a.host, a.args)
instance : TyOk tCa := by unfold tCa tCa0; infer_instance
instance : TyMore tCa := by unfold tCa tCa0; infer_instance
instance : TyOne tCa := by unfold tCa tCa0; infer_instance
theorem opens_Ca : Opens Try.prog 215 tCa := by
  refine opens_iso _ (fun x => ⟨x.1, x.2⟩) (fun _ => rfl) ?_
  exact opens_struct Try.underlying215 (by kernel_rfl) (Flds.cons rfl (by kernel_rfl) (opens_int Try.underlying3) (Flds.one rfl (by kernel_rfl) (opens_slice Try.underlying116 (by kernel_rfl) (by decide) opens_Vl)))
theorem Ca_cells {w : World} {S : Nat → Prop} {cs : List Value} {a : Ca} (h : tCa.rd w S cs a) : ∃ (Aargs : Option Addr) (cargs : Nat), cs = [.int .i64 a.host, .slice Aargs a.args.length cargs] ∧ (Lit.int .i64 a.host).wf = true ∧ a.args.length ≤ cargs ∧ cargs ≤ maxLen ∧ tVl.els w S Aargs a.args := by
  obtain ⟨xhost, rhost, rfl, ⟨rfl, whost⟩, Aargs, cargs, rfl, gargs, margs, eargs⟩ := h
  exact ⟨Aargs, cargs, rfl, whost, gargs, margs, eargs⟩
theorem Ca_mk {w : World} {S : Nat → Prop} {a : Ca} {Aargs : Option Addr} {cargs : Nat} (f0 : (Lit.int .i64 a.host).wf = true) (f1 : a.args.length ≤ cargs) (f2 : cargs ≤ maxLen) (f3 : tVl.els w S Aargs a.args) : tCa.rd w S [.int .i64 a.host, .slice Aargs a.args.length cargs] a :=
  ⟨[.int .i64 a.host], [.slice Aargs a.args.length cargs], rfl, ⟨rfl, f0⟩, ⟨_, _, rfl, f1, f2, f3⟩⟩
theorem Ca_at {w : World} {S : Nat → Prop} {A : Option Addr} {l : List Ca} (h : tCa.els w S A l) (k : Nat) (hk : k < l.length) : ∃ (b o : Nat) (Aargs : Option Addr) (cargs : Nat), A = some ⟨b, o, none⟩ ∧ S b ∧ w.cell? ⟨b, o + k * 2, none⟩ = some (.int .i64 l[k].host) ∧ w.cell? ⟨b, o + k * 2 + 1, none⟩ = some (.slice Aargs l[k].args.length cargs) ∧ (Lit.int .i64 l[k].host).wf = true ∧ l[k].args.length ≤ cargs ∧ cargs ≤ maxLen ∧ tVl.els w S Aargs l[k].args := by
  obtain ⟨b, o, ds, rfl, hb, hc, hr⟩ := h.at_ k hk
  obtain ⟨Aargs, cargs, rfl, f0, f1, f2, f3⟩ := Ca_cells hr
  have e : tCa.size = 2 := rfl
  rw [e] at hc
  exact ⟨b, o, Aargs, cargs, rfl, hb, hc 0 _ rfl, (by have := hc 1 _ rfl; rwa [← Nat.add_assoc] at this), f0, f1, f2, f3⟩

structure Sh where
  mems : List (List Int)
  tables : List (List Int)
  globals : List Vl
  elems : List Bool
  datas : List Bool
  calls : List Ca
def tSh0 : Ty (List (List Int) × List (List Int) × List Vl × List Bool × List Bool × List Ca) := (Ty.int .u8).slice.slice.pair ((Ty.int .u64).slice.slice.pair (tVl.slice.pair (Ty.bool.slice.pair (Ty.bool.slice.pair (tCa.slice)))))
def tSh : Ty Sh := tSh0.iso fun a => (a.mems, a.tables, a.globals, a.elems, a.datas, a.calls)
instance : TyOk tSh := by unfold tSh tSh0; infer_instance
instance : TyMore tSh := by unfold tSh tSh0; infer_instance
instance : TyOne tSh := by unfold tSh tSh0; infer_instance
theorem Sh_cells {w : World} {S : Nat → Prop} {cs : List Value} {a : Sh} (h : tSh.rd w S cs a) : ∃ (Amems : Option Addr) (cmems : Nat) (Atables : Option Addr) (ctables : Nat) (Aglobals : Option Addr) (cglobals : Nat) (Aelems : Option Addr) (celems : Nat) (Adatas : Option Addr) (cdatas : Nat) (Acalls : Option Addr) (ccalls : Nat), cs = [.slice Amems a.mems.length cmems, .slice Atables a.tables.length ctables, .slice Aglobals a.globals.length cglobals, .slice Aelems a.elems.length celems, .slice Adatas a.datas.length cdatas, .slice Acalls a.calls.length ccalls] ∧ a.mems.length ≤ cmems ∧ cmems ≤ maxLen ∧ (Ty.int .u8).slice.els w S Amems a.mems ∧ a.tables.length ≤ ctables ∧ ctables ≤ maxLen ∧ (Ty.int .u64).slice.els w S Atables a.tables ∧ a.globals.length ≤ cglobals ∧ cglobals ≤ maxLen ∧ tVl.els w S Aglobals a.globals ∧ a.elems.length ≤ celems ∧ celems ≤ maxLen ∧ Ty.bool.els w S Aelems a.elems ∧ a.datas.length ≤ cdatas ∧ cdatas ≤ maxLen ∧ Ty.bool.els w S Adatas a.datas ∧ a.calls.length ≤ ccalls ∧ ccalls ≤ maxLen ∧ tCa.els w S Acalls a.calls := by
  obtain ⟨xmems, rmems, rfl, ⟨Amems, cmems, rfl, gmems, mmems, emems⟩, xtables, rtables, rfl, ⟨Atables, ctables, rfl, gtables, mtables, etables⟩, xglobals, rglobals, rfl, ⟨Aglobals, cglobals, rfl, gglobals, mglobals, eglobals⟩, xelems, relems, rfl, ⟨Aelems, celems, rfl, gelems, melems, eelems⟩, xdatas, rdatas, rfl, ⟨Adatas, cdatas, rfl, gdatas, mdatas, edatas⟩, Acalls, ccalls, rfl, gcalls, mcalls, ecalls⟩ := h
  exact ⟨Amems, cmems, Atables, ctables, Aglobals, cglobals, Aelems, celems, Adatas, cdatas, Acalls, ccalls, rfl, gmems, mmems, emems, gtables, mtables, etables, gglobals, mglobals, eglobals, gelems, melems, eelems, gdatas, mdatas, edatas, gcalls, mcalls, ecalls⟩
theorem Sh_mk {w : World} {S : Nat → Prop} {a : Sh} {Amems : Option Addr} {cmems : Nat} {Atables : Option Addr} {ctables : Nat} {Aglobals : Option Addr} {cglobals : Nat} {Aelems : Option Addr} {celems : Nat} {Adatas : Option Addr} {cdatas : Nat} {Acalls : Option Addr} {ccalls : Nat} (f0 : a.mems.length ≤ cmems) (f1 : cmems ≤ maxLen) (f2 : (Ty.int .u8).slice.els w S Amems a.mems) (f3 : a.tables.length ≤ ctables) (f4 : ctables ≤ maxLen) (f5 : (Ty.int .u64).slice.els w S Atables a.tables) (f6 : a.globals.length ≤ cglobals) (f7 : cglobals ≤ maxLen) (f8 : tVl.els w S Aglobals a.globals) (f9 : a.elems.length ≤ celems) (f10 : celems ≤ maxLen) (f11 : Ty.bool.els w S Aelems a.elems) (f12 : a.datas.length ≤ cdatas) (f13 : cdatas ≤ maxLen) (f14 : Ty.bool.els w S Adatas a.datas) (f15 : a.calls.length ≤ ccalls) (f16 : ccalls ≤ maxLen) (f17 : tCa.els w S Acalls a.calls) : tSh.rd w S [.slice Amems a.mems.length cmems, .slice Atables a.tables.length ctables, .slice Aglobals a.globals.length cglobals, .slice Aelems a.elems.length celems, .slice Adatas a.datas.length cdatas, .slice Acalls a.calls.length ccalls] a :=
  ⟨[.slice Amems a.mems.length cmems], [.slice Atables a.tables.length ctables, .slice Aglobals a.globals.length cglobals, .slice Aelems a.elems.length celems, .slice Adatas a.datas.length cdatas, .slice Acalls a.calls.length ccalls], rfl, ⟨_, _, rfl, f0, f1, f2⟩, ⟨[.slice Atables a.tables.length ctables], [.slice Aglobals a.globals.length cglobals, .slice Aelems a.elems.length celems, .slice Adatas a.datas.length cdatas, .slice Acalls a.calls.length ccalls], rfl, ⟨_, _, rfl, f3, f4, f5⟩, ⟨[.slice Aglobals a.globals.length cglobals], [.slice Aelems a.elems.length celems, .slice Adatas a.datas.length cdatas, .slice Acalls a.calls.length ccalls], rfl, ⟨_, _, rfl, f6, f7, f8⟩, ⟨[.slice Aelems a.elems.length celems], [.slice Adatas a.datas.length cdatas, .slice Acalls a.calls.length ccalls], rfl, ⟨_, _, rfl, f9, f10, f11⟩, ⟨[.slice Adatas a.datas.length cdatas], [.slice Acalls a.calls.length ccalls], rfl, ⟨_, _, rfl, f12, f13, f14⟩, ⟨_, _, rfl, f15, f16, f17⟩⟩⟩⟩⟩⟩
theorem Sh_at {w : World} {S : Nat → Prop} {A : Option Addr} {l : List Sh} (h : tSh.els w S A l) (k : Nat) (hk : k < l.length) : ∃ (b o : Nat) (Amems : Option Addr) (cmems : Nat) (Atables : Option Addr) (ctables : Nat) (Aglobals : Option Addr) (cglobals : Nat) (Aelems : Option Addr) (celems : Nat) (Adatas : Option Addr) (cdatas : Nat) (Acalls : Option Addr) (ccalls : Nat), A = some ⟨b, o, none⟩ ∧ S b ∧ w.cell? ⟨b, o + k * 6, none⟩ = some (.slice Amems l[k].mems.length cmems) ∧ w.cell? ⟨b, o + k * 6 + 1, none⟩ = some (.slice Atables l[k].tables.length ctables) ∧ w.cell? ⟨b, o + k * 6 + 2, none⟩ = some (.slice Aglobals l[k].globals.length cglobals) ∧ w.cell? ⟨b, o + k * 6 + 3, none⟩ = some (.slice Aelems l[k].elems.length celems) ∧ w.cell? ⟨b, o + k * 6 + 4, none⟩ = some (.slice Adatas l[k].datas.length cdatas) ∧ w.cell? ⟨b, o + k * 6 + 5, none⟩ = some (.slice Acalls l[k].calls.length ccalls) ∧ l[k].mems.length ≤ cmems ∧ cmems ≤ maxLen ∧ (Ty.int .u8).slice.els w S Amems l[k].mems ∧ l[k].tables.length ≤ ctables ∧ ctables ≤ maxLen ∧ (Ty.int .u64).slice.els w S Atables l[k].tables ∧ l[k].globals.length ≤ cglobals ∧ cglobals ≤ maxLen ∧ tVl.els w S Aglobals l[k].globals ∧ l[k].elems.length ≤ celems ∧ celems ≤ maxLen ∧ Ty.bool.els w S Aelems l[k].elems ∧ l[k].datas.length ≤ cdatas ∧ cdatas ≤ maxLen ∧ Ty.bool.els w S Adatas l[k].datas ∧ l[k].calls.length ≤ ccalls ∧ ccalls ≤ maxLen ∧ tCa.els w S Acalls l[k].calls := by
  obtain ⟨b, o, ds, rfl, hb, hc, hr⟩ := h.at_ k hk
  obtain ⟨Amems, cmems, Atables, ctables, Aglobals, cglobals, Aelems, celems, Adatas, cdatas, Acalls, ccalls, rfl, f0, f1, f2, f3, f4, f5, f6, f7, f8, f9, f10, f11, f12, f13, f14, f15, f16, f17⟩ := Sh_cells hr
  have e : tSh.size = 6 := rfl
  rw [e] at hc
  exact ⟨b, o, Amems, cmems, Atables, ctables, Aglobals, cglobals, Aelems, celems, Adatas, cdatas, Acalls, ccalls, rfl, hb, hc 0 _ rfl, (by have := hc 1 _ rfl; rwa [← Nat.add_assoc] at this), (by have := hc 2 _ rfl; rwa [← Nat.add_assoc] at this), (by have := hc 3 _ rfl; rwa [← Nat.add_assoc] at this), (by have := hc 4 _ rfl; rwa [← Nat.add_assoc] at this), (by have := hc 5 _ rfl; rwa [← Nat.add_assoc] at this), f0, f1, f2, f3, f4, f5, f6, f7, f8, f9, f10, f11, f12, f13, f14, f15, f16, f17⟩

structure Rg where
  t : Gl
  v : Vl
def tRg0 : Ty (Gl × Vl) := tGl.pair (tVl)
def tRg : Ty Rg := tRg0.iso fun a => (a.t, a.v)
instance : TyOk tRg := by unfold tRg tRg0; infer_instance
instance : TyMore tRg := by unfold tRg tRg0; infer_instance
instance : TyOne tRg := by unfold tRg tRg0; infer_instance
theorem Rg_cells {w : World} {S : Nat → Prop} {cs : List Value} {a : Rg} (h : tRg.rd w S cs a) : cs = [.int .i64 a.t.val, .bool a.t.mut_, .int .i64 a.v.t, .int .u64 a.v.n] ∧ (Lit.int .i64 a.t.val).wf = true ∧ (Lit.int .i64 a.v.t).wf = true ∧ (Lit.int .u64 a.v.n).wf = true := by
  obtain ⟨xt, rt, rfl, ht, hv⟩ := h
  obtain ⟨rfl, kt0⟩ := Gl_cells ht
  obtain ⟨rfl, kv0, kv1⟩ := Vl_cells hv
  exact ⟨rfl, kt0, kv0, kv1⟩
theorem Rg_mk {w : World} {S : Nat → Prop} {a : Rg}  (f0 : (Lit.int .i64 a.t.val).wf = true) (f1 : (Lit.int .i64 a.v.t).wf = true) (f2 : (Lit.int .u64 a.v.n).wf = true) : tRg.rd w S [.int .i64 a.t.val, .bool a.t.mut_, .int .i64 a.v.t, .int .u64 a.v.n] a :=
  ⟨[.int .i64 a.t.val, .bool a.t.mut_], [.int .i64 a.v.t, .int .u64 a.v.n], rfl, ⟨[.int .i64 a.t.val], [.bool a.t.mut_], rfl, ⟨rfl, f0⟩, rfl⟩, ⟨[.int .i64 a.v.t], [.int .u64 a.v.n], rfl, ⟨rfl, f1⟩, ⟨rfl, f2⟩⟩⟩
theorem Rg_at {w : World} {S : Nat → Prop} {A : Option Addr} {l : List Rg} (h : tRg.els w S A l) (k : Nat) (hk : k < l.length) : ∃ (b o : Nat), A = some ⟨b, o, none⟩ ∧ S b ∧ w.cell? ⟨b, o + k * 4, none⟩ = some (.int .i64 l[k].t.val) ∧ w.cell? ⟨b, o + k * 4 + 1, none⟩ = some (.bool l[k].t.mut_) ∧ w.cell? ⟨b, o + k * 4 + 2, none⟩ = some (.int .i64 l[k].v.t) ∧ w.cell? ⟨b, o + k * 4 + 3, none⟩ = some (.int .u64 l[k].v.n) ∧ (Lit.int .i64 l[k].t.val).wf = true ∧ (Lit.int .i64 l[k].v.t).wf = true ∧ (Lit.int .u64 l[k].v.n).wf = true := by
  obtain ⟨b, o, ds, rfl, hb, hc, hr⟩ := h.at_ k hk
  obtain ⟨rfl, f0, f1, f2⟩ := Rg_cells hr
  have e : tRg.size = 4 := rfl
  rw [e] at hc
  exact ⟨b, o, rfl, hb, hc 0 _ rfl, (by have := hc 1 _ rfl; rwa [← Nat.add_assoc] at this), (by have := hc 2 _ rfl; rwa [← Nat.add_assoc] at this), (by have := hc 3 _ rfl; rwa [← Nat.add_assoc] at this), f0, f1, f2⟩

structure Rs where
  l : List Int
  gone : Bool
  deriving DecidableEq
def tRs0 : Ty (List Int × Bool) := (Ty.int .u64).slice.pair (Ty.bool)
def tRs : Ty Rs := tRs0.iso fun a => (a.l, a.gone)
instance : TyOk tRs := by unfold tRs tRs0; infer_instance
instance : TyMore tRs := by unfold tRs tRs0; infer_instance
instance : TyOne tRs := by unfold tRs tRs0; infer_instance
theorem Rs_cells {w : World} {S : Nat → Prop} {cs : List Value} {a : Rs} (h : tRs.rd w S cs a) : ∃ (Al : Option Addr) (cl : Nat), cs = [.slice Al a.l.length cl, .bool a.gone] ∧ a.l.length ≤ cl ∧ cl ≤ maxLen ∧ (Ty.int .u64).els w S Al a.l := by
  obtain ⟨xl, rl, rfl, ⟨Al, cl, rfl, gl, ml, el⟩, rfl⟩ := h
  exact ⟨Al, cl, rfl, gl, ml, el⟩
theorem Rs_mk {w : World} {S : Nat → Prop} {a : Rs} {Al : Option Addr} {cl : Nat} (f0 : a.l.length ≤ cl) (f1 : cl ≤ maxLen) (f2 : (Ty.int .u64).els w S Al a.l) : tRs.rd w S [.slice Al a.l.length cl, .bool a.gone] a :=
  ⟨[.slice Al a.l.length cl], [.bool a.gone], rfl, ⟨_, _, rfl, f0, f1, f2⟩, rfl⟩
theorem Rs_at {w : World} {S : Nat → Prop} {A : Option Addr} {l : List Rs} (h : tRs.els w S A l) (k : Nat) (hk : k < l.length) : ∃ (b o : Nat) (Al : Option Addr) (cl : Nat), A = some ⟨b, o, none⟩ ∧ S b ∧ w.cell? ⟨b, o + k * 2, none⟩ = some (.slice Al l[k].l.length cl) ∧ w.cell? ⟨b, o + k * 2 + 1, none⟩ = some (.bool l[k].gone) ∧ l[k].l.length ≤ cl ∧ cl ≤ maxLen ∧ (Ty.int .u64).els w S Al l[k].l := by
  obtain ⟨b, o, ds, rfl, hb, hc, hr⟩ := h.at_ k hk
  obtain ⟨Al, cl, rfl, f0, f1, f2⟩ := Rs_cells hr
  have e : tRs.size = 2 := rfl
  rw [e] at hc
  exact ⟨b, o, Al, cl, rfl, hb, hc 0 _ rfl, (by have := hc 1 _ rfl; rwa [← Nat.add_assoc] at this), f0, f1, f2⟩

structure Rb where
  b : List Int
  gone : Bool
  deriving DecidableEq
def tRb0 : Ty (List Int × Bool) := (Ty.int .u8).slice.pair (Ty.bool)
def tRb : Ty Rb := tRb0.iso fun a => (a.b, a.gone)
instance : TyOk tRb := by unfold tRb tRb0; infer_instance
instance : TyMore tRb := by unfold tRb tRb0; infer_instance
instance : TyOne tRb := by unfold tRb tRb0; infer_instance
theorem Rb_cells {w : World} {S : Nat → Prop} {cs : List Value} {a : Rb} (h : tRb.rd w S cs a) : ∃ (Ab : Option Addr) (cb : Nat), cs = [.slice Ab a.b.length cb, .bool a.gone] ∧ a.b.length ≤ cb ∧ cb ≤ maxLen ∧ (Ty.int .u8).els w S Ab a.b := by
  obtain ⟨xb, rb, rfl, ⟨Ab, cb, rfl, gb, mb, eb⟩, rfl⟩ := h
  exact ⟨Ab, cb, rfl, gb, mb, eb⟩
theorem Rb_mk {w : World} {S : Nat → Prop} {a : Rb} {Ab : Option Addr} {cb : Nat} (f0 : a.b.length ≤ cb) (f1 : cb ≤ maxLen) (f2 : (Ty.int .u8).els w S Ab a.b) : tRb.rd w S [.slice Ab a.b.length cb, .bool a.gone] a :=
  ⟨[.slice Ab a.b.length cb], [.bool a.gone], rfl, ⟨_, _, rfl, f0, f1, f2⟩, rfl⟩
theorem Rb_at {w : World} {S : Nat → Prop} {A : Option Addr} {l : List Rb} (h : tRb.els w S A l) (k : Nat) (hk : k < l.length) : ∃ (b o : Nat) (Ab : Option Addr) (cb : Nat), A = some ⟨b, o, none⟩ ∧ S b ∧ w.cell? ⟨b, o + k * 2, none⟩ = some (.slice Ab l[k].b.length cb) ∧ w.cell? ⟨b, o + k * 2 + 1, none⟩ = some (.bool l[k].gone) ∧ l[k].b.length ≤ cb ∧ cb ≤ maxLen ∧ (Ty.int .u8).els w S Ab l[k].b := by
  obtain ⟨b, o, ds, rfl, hb, hc, hr⟩ := h.at_ k hk
  obtain ⟨Ab, cb, rfl, f0, f1, f2⟩ := Rb_cells hr
  have e : tRb.size = 2 := rfl
  rw [e] at hc
  exact ⟨b, o, Ab, cb, rfl, hb, hc 0 _ rfl, (by have := hc 1 _ rfl; rwa [← Nat.add_assoc] at this), f0, f1, f2⟩

structure Ri where
  m : Md
  a : Ad
def tRi0 : Ty (Md × Ad) := tMd.pair (tAd)
def tRi : Ty Ri := tRi0.iso fun a => (a.m, a.a)
instance : TyOk tRi := by unfold tRi tRi0; infer_instance
instance : TyMore tRi := by unfold tRi tRi0; infer_instance
instance : TyOne tRi := by unfold tRi tRi0; infer_instance
theorem Ri_cells {w : World} {S : Nat → Prop} {cs : List Value} {a : Ri} (h : tRi.rd w S cs a) : ∃ (Am_types : Option Addr) (cm_types : Nat) (Am_imports : Option Addr) (cm_imports : Nat) (Am_funcs : Option Addr) (cm_funcs : Nat) (Am_tables : Option Addr) (cm_tables : Nat) (Am_mems : Option Addr) (cm_mems : Nat) (Am_globals : Option Addr) (cm_globals : Nat) (Am_exports : Option Addr) (cm_exports : Nat) (Am_elems : Option Addr) (cm_elems : Nat) (Am_datas : Option Addr) (cm_datas : Nat) (Am_customs : Option Addr) (cm_customs : Nat) (Aa_funcs : Option Addr) (ca_funcs : Nat) (Aa_tables : Option Addr) (ca_tables : Nat) (Aa_mems : Option Addr) (ca_mems : Nat) (Aa_globals : Option Addr) (ca_globals : Nat) (Aa_elems : Option Addr) (ca_elems : Nat) (Aa_datas : Option Addr) (ca_datas : Nat), cs = [.slice Am_types a.m.types.length cm_types, .slice Am_imports a.m.imports.length cm_imports, .slice Am_funcs a.m.funcs.length cm_funcs, .slice Am_tables a.m.tables.length cm_tables, .slice Am_mems a.m.mems.length cm_mems, .slice Am_globals a.m.globals.length cm_globals, .slice Am_exports a.m.exports.length cm_exports, .bool a.m.hasStart, .int .i64 a.m.start, .slice Am_elems a.m.elems.length cm_elems, .slice Am_datas a.m.datas.length cm_datas, .slice Am_customs a.m.customs.length cm_customs, .slice Aa_funcs a.a.funcs.length ca_funcs, .slice Aa_tables a.a.tables.length ca_tables, .slice Aa_mems a.a.mems.length ca_mems, .slice Aa_globals a.a.globals.length ca_globals, .slice Aa_elems a.a.elems.length ca_elems, .slice Aa_datas a.a.datas.length ca_datas] ∧ a.m.types.length ≤ cm_types ∧ cm_types ≤ maxLen ∧ tFn.els w S Am_types a.m.types ∧ a.m.imports.length ≤ cm_imports ∧ cm_imports ≤ maxLen ∧ tIm.els w S Am_imports a.m.imports ∧ a.m.funcs.length ≤ cm_funcs ∧ cm_funcs ≤ maxLen ∧ tCd.els w S Am_funcs a.m.funcs ∧ a.m.tables.length ≤ cm_tables ∧ cm_tables ≤ maxLen ∧ tTb.els w S Am_tables a.m.tables ∧ a.m.mems.length ≤ cm_mems ∧ cm_mems ≤ maxLen ∧ tLim.els w S Am_mems a.m.mems ∧ a.m.globals.length ≤ cm_globals ∧ cm_globals ≤ maxLen ∧ tGd.els w S Am_globals a.m.globals ∧ a.m.exports.length ≤ cm_exports ∧ cm_exports ≤ maxLen ∧ tEx.els w S Am_exports a.m.exports ∧ (Lit.int .i64 a.m.start).wf = true ∧ a.m.elems.length ≤ cm_elems ∧ cm_elems ≤ maxLen ∧ tEl.els w S Am_elems a.m.elems ∧ a.m.datas.length ≤ cm_datas ∧ cm_datas ≤ maxLen ∧ tDa.els w S Am_datas a.m.datas ∧ a.m.customs.length ≤ cm_customs ∧ cm_customs ≤ maxLen ∧ tCu.els w S Am_customs a.m.customs ∧ a.a.funcs.length ≤ ca_funcs ∧ ca_funcs ≤ maxLen ∧ (Ty.int .i64).els w S Aa_funcs a.a.funcs ∧ a.a.tables.length ≤ ca_tables ∧ ca_tables ≤ maxLen ∧ (Ty.int .i64).els w S Aa_tables a.a.tables ∧ a.a.mems.length ≤ ca_mems ∧ ca_mems ≤ maxLen ∧ (Ty.int .i64).els w S Aa_mems a.a.mems ∧ a.a.globals.length ≤ ca_globals ∧ ca_globals ≤ maxLen ∧ (Ty.int .i64).els w S Aa_globals a.a.globals ∧ a.a.elems.length ≤ ca_elems ∧ ca_elems ≤ maxLen ∧ (Ty.int .i64).els w S Aa_elems a.a.elems ∧ a.a.datas.length ≤ ca_datas ∧ ca_datas ≤ maxLen ∧ (Ty.int .i64).els w S Aa_datas a.a.datas := by
  obtain ⟨xm, rm, rfl, hm, ha⟩ := h
  obtain ⟨Am_types, cm_types, Am_imports, cm_imports, Am_funcs, cm_funcs, Am_tables, cm_tables, Am_mems, cm_mems, Am_globals, cm_globals, Am_exports, cm_exports, Am_elems, cm_elems, Am_datas, cm_datas, Am_customs, cm_customs, rfl, km0, km1, km2, km3, km4, km5, km6, km7, km8, km9, km10, km11, km12, km13, km14, km15, km16, km17, km18, km19, km20, km21, km22, km23, km24, km25, km26, km27, km28, km29, km30⟩ := Md_cells hm
  obtain ⟨Aa_funcs, ca_funcs, Aa_tables, ca_tables, Aa_mems, ca_mems, Aa_globals, ca_globals, Aa_elems, ca_elems, Aa_datas, ca_datas, rfl, ka0, ka1, ka2, ka3, ka4, ka5, ka6, ka7, ka8, ka9, ka10, ka11, ka12, ka13, ka14, ka15, ka16, ka17⟩ := Ad_cells ha
  exact ⟨Am_types, cm_types, Am_imports, cm_imports, Am_funcs, cm_funcs, Am_tables, cm_tables, Am_mems, cm_mems, Am_globals, cm_globals, Am_exports, cm_exports, Am_elems, cm_elems, Am_datas, cm_datas, Am_customs, cm_customs, Aa_funcs, ca_funcs, Aa_tables, ca_tables, Aa_mems, ca_mems, Aa_globals, ca_globals, Aa_elems, ca_elems, Aa_datas, ca_datas, rfl, km0, km1, km2, km3, km4, km5, km6, km7, km8, km9, km10, km11, km12, km13, km14, km15, km16, km17, km18, km19, km20, km21, km22, km23, km24, km25, km26, km27, km28, km29, km30, ka0, ka1, ka2, ka3, ka4, ka5, ka6, ka7, ka8, ka9, ka10, ka11, ka12, ka13, ka14, ka15, ka16, ka17⟩
theorem Ri_mk {w : World} {S : Nat → Prop} {a : Ri} {Am_types : Option Addr} {cm_types : Nat} {Am_imports : Option Addr} {cm_imports : Nat} {Am_funcs : Option Addr} {cm_funcs : Nat} {Am_tables : Option Addr} {cm_tables : Nat} {Am_mems : Option Addr} {cm_mems : Nat} {Am_globals : Option Addr} {cm_globals : Nat} {Am_exports : Option Addr} {cm_exports : Nat} {Am_elems : Option Addr} {cm_elems : Nat} {Am_datas : Option Addr} {cm_datas : Nat} {Am_customs : Option Addr} {cm_customs : Nat} {Aa_funcs : Option Addr} {ca_funcs : Nat} {Aa_tables : Option Addr} {ca_tables : Nat} {Aa_mems : Option Addr} {ca_mems : Nat} {Aa_globals : Option Addr} {ca_globals : Nat} {Aa_elems : Option Addr} {ca_elems : Nat} {Aa_datas : Option Addr} {ca_datas : Nat} (f0 : a.m.types.length ≤ cm_types) (f1 : cm_types ≤ maxLen) (f2 : tFn.els w S Am_types a.m.types) (f3 : a.m.imports.length ≤ cm_imports) (f4 : cm_imports ≤ maxLen) (f5 : tIm.els w S Am_imports a.m.imports) (f6 : a.m.funcs.length ≤ cm_funcs) (f7 : cm_funcs ≤ maxLen) (f8 : tCd.els w S Am_funcs a.m.funcs) (f9 : a.m.tables.length ≤ cm_tables) (f10 : cm_tables ≤ maxLen) (f11 : tTb.els w S Am_tables a.m.tables) (f12 : a.m.mems.length ≤ cm_mems) (f13 : cm_mems ≤ maxLen) (f14 : tLim.els w S Am_mems a.m.mems) (f15 : a.m.globals.length ≤ cm_globals) (f16 : cm_globals ≤ maxLen) (f17 : tGd.els w S Am_globals a.m.globals) (f18 : a.m.exports.length ≤ cm_exports) (f19 : cm_exports ≤ maxLen) (f20 : tEx.els w S Am_exports a.m.exports) (f21 : (Lit.int .i64 a.m.start).wf = true) (f22 : a.m.elems.length ≤ cm_elems) (f23 : cm_elems ≤ maxLen) (f24 : tEl.els w S Am_elems a.m.elems) (f25 : a.m.datas.length ≤ cm_datas) (f26 : cm_datas ≤ maxLen) (f27 : tDa.els w S Am_datas a.m.datas) (f28 : a.m.customs.length ≤ cm_customs) (f29 : cm_customs ≤ maxLen) (f30 : tCu.els w S Am_customs a.m.customs) (f31 : a.a.funcs.length ≤ ca_funcs) (f32 : ca_funcs ≤ maxLen) (f33 : (Ty.int .i64).els w S Aa_funcs a.a.funcs) (f34 : a.a.tables.length ≤ ca_tables) (f35 : ca_tables ≤ maxLen) (f36 : (Ty.int .i64).els w S Aa_tables a.a.tables) (f37 : a.a.mems.length ≤ ca_mems) (f38 : ca_mems ≤ maxLen) (f39 : (Ty.int .i64).els w S Aa_mems a.a.mems) (f40 : a.a.globals.length ≤ ca_globals) (f41 : ca_globals ≤ maxLen) (f42 : (Ty.int .i64).els w S Aa_globals a.a.globals) (f43 : a.a.elems.length ≤ ca_elems) (f44 : ca_elems ≤ maxLen) (f45 : (Ty.int .i64).els w S Aa_elems a.a.elems) (f46 : a.a.datas.length ≤ ca_datas) (f47 : ca_datas ≤ maxLen) (f48 : (Ty.int .i64).els w S Aa_datas a.a.datas) : tRi.rd w S [.slice Am_types a.m.types.length cm_types, .slice Am_imports a.m.imports.length cm_imports, .slice Am_funcs a.m.funcs.length cm_funcs, .slice Am_tables a.m.tables.length cm_tables, .slice Am_mems a.m.mems.length cm_mems, .slice Am_globals a.m.globals.length cm_globals, .slice Am_exports a.m.exports.length cm_exports, .bool a.m.hasStart, .int .i64 a.m.start, .slice Am_elems a.m.elems.length cm_elems, .slice Am_datas a.m.datas.length cm_datas, .slice Am_customs a.m.customs.length cm_customs, .slice Aa_funcs a.a.funcs.length ca_funcs, .slice Aa_tables a.a.tables.length ca_tables, .slice Aa_mems a.a.mems.length ca_mems, .slice Aa_globals a.a.globals.length ca_globals, .slice Aa_elems a.a.elems.length ca_elems, .slice Aa_datas a.a.datas.length ca_datas] a :=
  ⟨[.slice Am_types a.m.types.length cm_types, .slice Am_imports a.m.imports.length cm_imports, .slice Am_funcs a.m.funcs.length cm_funcs, .slice Am_tables a.m.tables.length cm_tables, .slice Am_mems a.m.mems.length cm_mems, .slice Am_globals a.m.globals.length cm_globals, .slice Am_exports a.m.exports.length cm_exports, .bool a.m.hasStart, .int .i64 a.m.start, .slice Am_elems a.m.elems.length cm_elems, .slice Am_datas a.m.datas.length cm_datas, .slice Am_customs a.m.customs.length cm_customs], [.slice Aa_funcs a.a.funcs.length ca_funcs, .slice Aa_tables a.a.tables.length ca_tables, .slice Aa_mems a.a.mems.length ca_mems, .slice Aa_globals a.a.globals.length ca_globals, .slice Aa_elems a.a.elems.length ca_elems, .slice Aa_datas a.a.datas.length ca_datas], rfl, ⟨[.slice Am_types a.m.types.length cm_types], [.slice Am_imports a.m.imports.length cm_imports, .slice Am_funcs a.m.funcs.length cm_funcs, .slice Am_tables a.m.tables.length cm_tables, .slice Am_mems a.m.mems.length cm_mems, .slice Am_globals a.m.globals.length cm_globals, .slice Am_exports a.m.exports.length cm_exports, .bool a.m.hasStart, .int .i64 a.m.start, .slice Am_elems a.m.elems.length cm_elems, .slice Am_datas a.m.datas.length cm_datas, .slice Am_customs a.m.customs.length cm_customs], rfl, ⟨_, _, rfl, f0, f1, f2⟩, ⟨[.slice Am_imports a.m.imports.length cm_imports], [.slice Am_funcs a.m.funcs.length cm_funcs, .slice Am_tables a.m.tables.length cm_tables, .slice Am_mems a.m.mems.length cm_mems, .slice Am_globals a.m.globals.length cm_globals, .slice Am_exports a.m.exports.length cm_exports, .bool a.m.hasStart, .int .i64 a.m.start, .slice Am_elems a.m.elems.length cm_elems, .slice Am_datas a.m.datas.length cm_datas, .slice Am_customs a.m.customs.length cm_customs], rfl, ⟨_, _, rfl, f3, f4, f5⟩, ⟨[.slice Am_funcs a.m.funcs.length cm_funcs], [.slice Am_tables a.m.tables.length cm_tables, .slice Am_mems a.m.mems.length cm_mems, .slice Am_globals a.m.globals.length cm_globals, .slice Am_exports a.m.exports.length cm_exports, .bool a.m.hasStart, .int .i64 a.m.start, .slice Am_elems a.m.elems.length cm_elems, .slice Am_datas a.m.datas.length cm_datas, .slice Am_customs a.m.customs.length cm_customs], rfl, ⟨_, _, rfl, f6, f7, f8⟩, ⟨[.slice Am_tables a.m.tables.length cm_tables], [.slice Am_mems a.m.mems.length cm_mems, .slice Am_globals a.m.globals.length cm_globals, .slice Am_exports a.m.exports.length cm_exports, .bool a.m.hasStart, .int .i64 a.m.start, .slice Am_elems a.m.elems.length cm_elems, .slice Am_datas a.m.datas.length cm_datas, .slice Am_customs a.m.customs.length cm_customs], rfl, ⟨_, _, rfl, f9, f10, f11⟩, ⟨[.slice Am_mems a.m.mems.length cm_mems], [.slice Am_globals a.m.globals.length cm_globals, .slice Am_exports a.m.exports.length cm_exports, .bool a.m.hasStart, .int .i64 a.m.start, .slice Am_elems a.m.elems.length cm_elems, .slice Am_datas a.m.datas.length cm_datas, .slice Am_customs a.m.customs.length cm_customs], rfl, ⟨_, _, rfl, f12, f13, f14⟩, ⟨[.slice Am_globals a.m.globals.length cm_globals], [.slice Am_exports a.m.exports.length cm_exports, .bool a.m.hasStart, .int .i64 a.m.start, .slice Am_elems a.m.elems.length cm_elems, .slice Am_datas a.m.datas.length cm_datas, .slice Am_customs a.m.customs.length cm_customs], rfl, ⟨_, _, rfl, f15, f16, f17⟩, ⟨[.slice Am_exports a.m.exports.length cm_exports], [.bool a.m.hasStart, .int .i64 a.m.start, .slice Am_elems a.m.elems.length cm_elems, .slice Am_datas a.m.datas.length cm_datas, .slice Am_customs a.m.customs.length cm_customs], rfl, ⟨_, _, rfl, f18, f19, f20⟩, ⟨[.bool a.m.hasStart], [.int .i64 a.m.start, .slice Am_elems a.m.elems.length cm_elems, .slice Am_datas a.m.datas.length cm_datas, .slice Am_customs a.m.customs.length cm_customs], rfl, rfl, ⟨[.int .i64 a.m.start], [.slice Am_elems a.m.elems.length cm_elems, .slice Am_datas a.m.datas.length cm_datas, .slice Am_customs a.m.customs.length cm_customs], rfl, ⟨rfl, f21⟩, ⟨[.slice Am_elems a.m.elems.length cm_elems], [.slice Am_datas a.m.datas.length cm_datas, .slice Am_customs a.m.customs.length cm_customs], rfl, ⟨_, _, rfl, f22, f23, f24⟩, ⟨[.slice Am_datas a.m.datas.length cm_datas], [.slice Am_customs a.m.customs.length cm_customs], rfl, ⟨_, _, rfl, f25, f26, f27⟩, ⟨_, _, rfl, f28, f29, f30⟩⟩⟩⟩⟩⟩⟩⟩⟩⟩⟩⟩, ⟨[.slice Aa_funcs a.a.funcs.length ca_funcs], [.slice Aa_tables a.a.tables.length ca_tables, .slice Aa_mems a.a.mems.length ca_mems, .slice Aa_globals a.a.globals.length ca_globals, .slice Aa_elems a.a.elems.length ca_elems, .slice Aa_datas a.a.datas.length ca_datas], rfl, ⟨_, _, rfl, f31, f32, f33⟩, ⟨[.slice Aa_tables a.a.tables.length ca_tables], [.slice Aa_mems a.a.mems.length ca_mems, .slice Aa_globals a.a.globals.length ca_globals, .slice Aa_elems a.a.elems.length ca_elems, .slice Aa_datas a.a.datas.length ca_datas], rfl, ⟨_, _, rfl, f34, f35, f36⟩, ⟨[.slice Aa_mems a.a.mems.length ca_mems], [.slice Aa_globals a.a.globals.length ca_globals, .slice Aa_elems a.a.elems.length ca_elems, .slice Aa_datas a.a.datas.length ca_datas], rfl, ⟨_, _, rfl, f37, f38, f39⟩, ⟨[.slice Aa_globals a.a.globals.length ca_globals], [.slice Aa_elems a.a.elems.length ca_elems, .slice Aa_datas a.a.datas.length ca_datas], rfl, ⟨_, _, rfl, f40, f41, f42⟩, ⟨[.slice Aa_elems a.a.elems.length ca_elems], [.slice Aa_datas a.a.datas.length ca_datas], rfl, ⟨_, _, rfl, f43, f44, f45⟩, ⟨_, _, rfl, f46, f47, f48⟩⟩⟩⟩⟩⟩⟩
theorem Ri_at {w : World} {S : Nat → Prop} {A : Option Addr} {l : List Ri} (h : tRi.els w S A l) (k : Nat) (hk : k < l.length) : ∃ (b o : Nat) (Am_types : Option Addr) (cm_types : Nat) (Am_imports : Option Addr) (cm_imports : Nat) (Am_funcs : Option Addr) (cm_funcs : Nat) (Am_tables : Option Addr) (cm_tables : Nat) (Am_mems : Option Addr) (cm_mems : Nat) (Am_globals : Option Addr) (cm_globals : Nat) (Am_exports : Option Addr) (cm_exports : Nat) (Am_elems : Option Addr) (cm_elems : Nat) (Am_datas : Option Addr) (cm_datas : Nat) (Am_customs : Option Addr) (cm_customs : Nat) (Aa_funcs : Option Addr) (ca_funcs : Nat) (Aa_tables : Option Addr) (ca_tables : Nat) (Aa_mems : Option Addr) (ca_mems : Nat) (Aa_globals : Option Addr) (ca_globals : Nat) (Aa_elems : Option Addr) (ca_elems : Nat) (Aa_datas : Option Addr) (ca_datas : Nat), A = some ⟨b, o, none⟩ ∧ S b ∧ w.cell? ⟨b, o + k * 18, none⟩ = some (.slice Am_types l[k].m.types.length cm_types) ∧ w.cell? ⟨b, o + k * 18 + 1, none⟩ = some (.slice Am_imports l[k].m.imports.length cm_imports) ∧ w.cell? ⟨b, o + k * 18 + 2, none⟩ = some (.slice Am_funcs l[k].m.funcs.length cm_funcs) ∧ w.cell? ⟨b, o + k * 18 + 3, none⟩ = some (.slice Am_tables l[k].m.tables.length cm_tables) ∧ w.cell? ⟨b, o + k * 18 + 4, none⟩ = some (.slice Am_mems l[k].m.mems.length cm_mems) ∧ w.cell? ⟨b, o + k * 18 + 5, none⟩ = some (.slice Am_globals l[k].m.globals.length cm_globals) ∧ w.cell? ⟨b, o + k * 18 + 6, none⟩ = some (.slice Am_exports l[k].m.exports.length cm_exports) ∧ w.cell? ⟨b, o + k * 18 + 7, none⟩ = some (.bool l[k].m.hasStart) ∧ w.cell? ⟨b, o + k * 18 + 8, none⟩ = some (.int .i64 l[k].m.start) ∧ w.cell? ⟨b, o + k * 18 + 9, none⟩ = some (.slice Am_elems l[k].m.elems.length cm_elems) ∧ w.cell? ⟨b, o + k * 18 + 10, none⟩ = some (.slice Am_datas l[k].m.datas.length cm_datas) ∧ w.cell? ⟨b, o + k * 18 + 11, none⟩ = some (.slice Am_customs l[k].m.customs.length cm_customs) ∧ w.cell? ⟨b, o + k * 18 + 12, none⟩ = some (.slice Aa_funcs l[k].a.funcs.length ca_funcs) ∧ w.cell? ⟨b, o + k * 18 + 13, none⟩ = some (.slice Aa_tables l[k].a.tables.length ca_tables) ∧ w.cell? ⟨b, o + k * 18 + 14, none⟩ = some (.slice Aa_mems l[k].a.mems.length ca_mems) ∧ w.cell? ⟨b, o + k * 18 + 15, none⟩ = some (.slice Aa_globals l[k].a.globals.length ca_globals) ∧ w.cell? ⟨b, o + k * 18 + 16, none⟩ = some (.slice Aa_elems l[k].a.elems.length ca_elems) ∧ w.cell? ⟨b, o + k * 18 + 17, none⟩ = some (.slice Aa_datas l[k].a.datas.length ca_datas) ∧ l[k].m.types.length ≤ cm_types ∧ cm_types ≤ maxLen ∧ tFn.els w S Am_types l[k].m.types ∧ l[k].m.imports.length ≤ cm_imports ∧ cm_imports ≤ maxLen ∧ tIm.els w S Am_imports l[k].m.imports ∧ l[k].m.funcs.length ≤ cm_funcs ∧ cm_funcs ≤ maxLen ∧ tCd.els w S Am_funcs l[k].m.funcs ∧ l[k].m.tables.length ≤ cm_tables ∧ cm_tables ≤ maxLen ∧ tTb.els w S Am_tables l[k].m.tables ∧ l[k].m.mems.length ≤ cm_mems ∧ cm_mems ≤ maxLen ∧ tLim.els w S Am_mems l[k].m.mems ∧ l[k].m.globals.length ≤ cm_globals ∧ cm_globals ≤ maxLen ∧ tGd.els w S Am_globals l[k].m.globals ∧ l[k].m.exports.length ≤ cm_exports ∧ cm_exports ≤ maxLen ∧ tEx.els w S Am_exports l[k].m.exports ∧ (Lit.int .i64 l[k].m.start).wf = true ∧ l[k].m.elems.length ≤ cm_elems ∧ cm_elems ≤ maxLen ∧ tEl.els w S Am_elems l[k].m.elems ∧ l[k].m.datas.length ≤ cm_datas ∧ cm_datas ≤ maxLen ∧ tDa.els w S Am_datas l[k].m.datas ∧ l[k].m.customs.length ≤ cm_customs ∧ cm_customs ≤ maxLen ∧ tCu.els w S Am_customs l[k].m.customs ∧ l[k].a.funcs.length ≤ ca_funcs ∧ ca_funcs ≤ maxLen ∧ (Ty.int .i64).els w S Aa_funcs l[k].a.funcs ∧ l[k].a.tables.length ≤ ca_tables ∧ ca_tables ≤ maxLen ∧ (Ty.int .i64).els w S Aa_tables l[k].a.tables ∧ l[k].a.mems.length ≤ ca_mems ∧ ca_mems ≤ maxLen ∧ (Ty.int .i64).els w S Aa_mems l[k].a.mems ∧ l[k].a.globals.length ≤ ca_globals ∧ ca_globals ≤ maxLen ∧ (Ty.int .i64).els w S Aa_globals l[k].a.globals ∧ l[k].a.elems.length ≤ ca_elems ∧ ca_elems ≤ maxLen ∧ (Ty.int .i64).els w S Aa_elems l[k].a.elems ∧ l[k].a.datas.length ≤ ca_datas ∧ ca_datas ≤ maxLen ∧ (Ty.int .i64).els w S Aa_datas l[k].a.datas := by
  obtain ⟨b, o, ds, rfl, hb, hc, hr⟩ := h.at_ k hk
  obtain ⟨Am_types, cm_types, Am_imports, cm_imports, Am_funcs, cm_funcs, Am_tables, cm_tables, Am_mems, cm_mems, Am_globals, cm_globals, Am_exports, cm_exports, Am_elems, cm_elems, Am_datas, cm_datas, Am_customs, cm_customs, Aa_funcs, ca_funcs, Aa_tables, ca_tables, Aa_mems, ca_mems, Aa_globals, ca_globals, Aa_elems, ca_elems, Aa_datas, ca_datas, rfl, f0, f1, f2, f3, f4, f5, f6, f7, f8, f9, f10, f11, f12, f13, f14, f15, f16, f17, f18, f19, f20, f21, f22, f23, f24, f25, f26, f27, f28, f29, f30, f31, f32, f33, f34, f35, f36, f37, f38, f39, f40, f41, f42, f43, f44, f45, f46, f47, f48⟩ := Ri_cells hr
  have e : tRi.size = 18 := rfl
  rw [e] at hc
  exact ⟨b, o, Am_types, cm_types, Am_imports, cm_imports, Am_funcs, cm_funcs, Am_tables, cm_tables, Am_mems, cm_mems, Am_globals, cm_globals, Am_exports, cm_exports, Am_elems, cm_elems, Am_datas, cm_datas, Am_customs, cm_customs, Aa_funcs, ca_funcs, Aa_tables, ca_tables, Aa_mems, ca_mems, Aa_globals, ca_globals, Aa_elems, ca_elems, Aa_datas, ca_datas, rfl, hb, hc 0 _ rfl, (by have := hc 1 _ rfl; rwa [← Nat.add_assoc] at this), (by have := hc 2 _ rfl; rwa [← Nat.add_assoc] at this), (by have := hc 3 _ rfl; rwa [← Nat.add_assoc] at this), (by have := hc 4 _ rfl; rwa [← Nat.add_assoc] at this), (by have := hc 5 _ rfl; rwa [← Nat.add_assoc] at this), (by have := hc 6 _ rfl; rwa [← Nat.add_assoc] at this), (by have := hc 7 _ rfl; rwa [← Nat.add_assoc] at this), (by have := hc 8 _ rfl; rwa [← Nat.add_assoc] at this), (by have := hc 9 _ rfl; rwa [← Nat.add_assoc] at this), (by have := hc 10 _ rfl; rwa [← Nat.add_assoc] at this), (by have := hc 11 _ rfl; rwa [← Nat.add_assoc] at this), (by have := hc 12 _ rfl; rwa [← Nat.add_assoc] at this), (by have := hc 13 _ rfl; rwa [← Nat.add_assoc] at this), (by have := hc 14 _ rfl; rwa [← Nat.add_assoc] at this), (by have := hc 15 _ rfl; rwa [← Nat.add_assoc] at this), (by have := hc 16 _ rfl; rwa [← Nat.add_assoc] at this), (by have := hc 17 _ rfl; rwa [← Nat.add_assoc] at this), f0, f1, f2, f3, f4, f5, f6, f7, f8, f9, f10, f11, f12, f13, f14, f15, f16, f17, f18, f19, f20, f21, f22, f23, f24, f25, f26, f27, f28, f29, f30, f31, f32, f33, f34, f35, f36, f37, f38, f39, f40, f41, f42, f43, f44, f45, f46, f47, f48⟩

structure Rt where
  t : Tb
  l : List Int
def tRt0 : Ty (Tb × List Int) := tTb.pair ((Ty.int .u64).slice)
def tRt : Ty Rt := tRt0.iso fun a => (a.t, a.l)
instance : TyOk tRt := by unfold tRt tRt0; infer_instance
instance : TyMore tRt := by unfold tRt tRt0; infer_instance
instance : TyOne tRt := by unfold tRt tRt0; infer_instance
theorem Rt_cells {w : World} {S : Nat → Prop} {cs : List Value} {a : Rt} (h : tRt.rd w S cs a) : ∃ (Al : Option Addr) (cl : Nat), cs = [.int .i64 a.t.elem, .int .i64 a.t.lim.min, .int .i64 a.t.lim.max, .bool a.t.lim.has, .slice Al a.l.length cl] ∧ (Lit.int .i64 a.t.elem).wf = true ∧ (Lit.int .i64 a.t.lim.min).wf = true ∧ (Lit.int .i64 a.t.lim.max).wf = true ∧ a.l.length ≤ cl ∧ cl ≤ maxLen ∧ (Ty.int .u64).els w S Al a.l := by
  obtain ⟨xt, rt, rfl, ht, Al, cl, rfl, gl, ml, el⟩ := h
  obtain ⟨rfl, kt0, kt1, kt2⟩ := Tb_cells ht
  exact ⟨Al, cl, rfl, kt0, kt1, kt2, gl, ml, el⟩
theorem Rt_mk {w : World} {S : Nat → Prop} {a : Rt} {Al : Option Addr} {cl : Nat} (f0 : (Lit.int .i64 a.t.elem).wf = true) (f1 : (Lit.int .i64 a.t.lim.min).wf = true) (f2 : (Lit.int .i64 a.t.lim.max).wf = true) (f3 : a.l.length ≤ cl) (f4 : cl ≤ maxLen) (f5 : (Ty.int .u64).els w S Al a.l) : tRt.rd w S [.int .i64 a.t.elem, .int .i64 a.t.lim.min, .int .i64 a.t.lim.max, .bool a.t.lim.has, .slice Al a.l.length cl] a :=
  ⟨[.int .i64 a.t.elem, .int .i64 a.t.lim.min, .int .i64 a.t.lim.max, .bool a.t.lim.has], [.slice Al a.l.length cl], rfl, ⟨[.int .i64 a.t.elem], [.int .i64 a.t.lim.min, .int .i64 a.t.lim.max, .bool a.t.lim.has], rfl, ⟨rfl, f0⟩, ⟨[.int .i64 a.t.lim.min], [.int .i64 a.t.lim.max, .bool a.t.lim.has], rfl, ⟨rfl, f1⟩, ⟨[.int .i64 a.t.lim.max], [.bool a.t.lim.has], rfl, ⟨rfl, f2⟩, rfl⟩⟩⟩, ⟨_, _, rfl, f3, f4, f5⟩⟩
theorem Rt_at {w : World} {S : Nat → Prop} {A : Option Addr} {l : List Rt} (h : tRt.els w S A l) (k : Nat) (hk : k < l.length) : ∃ (b o : Nat) (Al : Option Addr) (cl : Nat), A = some ⟨b, o, none⟩ ∧ S b ∧ w.cell? ⟨b, o + k * 5, none⟩ = some (.int .i64 l[k].t.elem) ∧ w.cell? ⟨b, o + k * 5 + 1, none⟩ = some (.int .i64 l[k].t.lim.min) ∧ w.cell? ⟨b, o + k * 5 + 2, none⟩ = some (.int .i64 l[k].t.lim.max) ∧ w.cell? ⟨b, o + k * 5 + 3, none⟩ = some (.bool l[k].t.lim.has) ∧ w.cell? ⟨b, o + k * 5 + 4, none⟩ = some (.slice Al l[k].l.length cl) ∧ (Lit.int .i64 l[k].t.elem).wf = true ∧ (Lit.int .i64 l[k].t.lim.min).wf = true ∧ (Lit.int .i64 l[k].t.lim.max).wf = true ∧ l[k].l.length ≤ cl ∧ cl ≤ maxLen ∧ (Ty.int .u64).els w S Al l[k].l := by
  obtain ⟨b, o, ds, rfl, hb, hc, hr⟩ := h.at_ k hk
  obtain ⟨Al, cl, rfl, f0, f1, f2, f3, f4, f5⟩ := Rt_cells hr
  have e : tRt.size = 5 := rfl
  rw [e] at hc
  exact ⟨b, o, Al, cl, rfl, hb, hc 0 _ rfl, (by have := hc 1 _ rfl; rwa [← Nat.add_assoc] at this), (by have := hc 2 _ rfl; rwa [← Nat.add_assoc] at this), (by have := hc 3 _ rfl; rwa [← Nat.add_assoc] at this), (by have := hc 4 _ rfl; rwa [← Nat.add_assoc] at this), f0, f1, f2, f3, f4, f5⟩

structure Rm where
  lim : Lim
  b : List Int
def tRm0 : Ty (Lim × List Int) := tLim.pair ((Ty.int .u8).slice)
def tRm : Ty Rm := tRm0.iso fun a => (a.lim, a.b)
instance : TyOk tRm := by unfold tRm tRm0; infer_instance
instance : TyMore tRm := by unfold tRm tRm0; infer_instance
instance : TyOne tRm := by unfold tRm tRm0; infer_instance
theorem Rm_cells {w : World} {S : Nat → Prop} {cs : List Value} {a : Rm} (h : tRm.rd w S cs a) : ∃ (Ab : Option Addr) (cb : Nat), cs = [.int .i64 a.lim.min, .int .i64 a.lim.max, .bool a.lim.has, .slice Ab a.b.length cb] ∧ (Lit.int .i64 a.lim.min).wf = true ∧ (Lit.int .i64 a.lim.max).wf = true ∧ a.b.length ≤ cb ∧ cb ≤ maxLen ∧ (Ty.int .u8).els w S Ab a.b := by
  obtain ⟨xlim, rlim, rfl, hlim, Ab, cb, rfl, gb, mb, eb⟩ := h
  obtain ⟨rfl, klim0, klim1⟩ := Lim_cells hlim
  exact ⟨Ab, cb, rfl, klim0, klim1, gb, mb, eb⟩
theorem Rm_mk {w : World} {S : Nat → Prop} {a : Rm} {Ab : Option Addr} {cb : Nat} (f0 : (Lit.int .i64 a.lim.min).wf = true) (f1 : (Lit.int .i64 a.lim.max).wf = true) (f2 : a.b.length ≤ cb) (f3 : cb ≤ maxLen) (f4 : (Ty.int .u8).els w S Ab a.b) : tRm.rd w S [.int .i64 a.lim.min, .int .i64 a.lim.max, .bool a.lim.has, .slice Ab a.b.length cb] a :=
  ⟨[.int .i64 a.lim.min, .int .i64 a.lim.max, .bool a.lim.has], [.slice Ab a.b.length cb], rfl, ⟨[.int .i64 a.lim.min], [.int .i64 a.lim.max, .bool a.lim.has], rfl, ⟨rfl, f0⟩, ⟨[.int .i64 a.lim.max], [.bool a.lim.has], rfl, ⟨rfl, f1⟩, rfl⟩⟩, ⟨_, _, rfl, f2, f3, f4⟩⟩
theorem Rm_at {w : World} {S : Nat → Prop} {A : Option Addr} {l : List Rm} (h : tRm.els w S A l) (k : Nat) (hk : k < l.length) : ∃ (b o : Nat) (Ab : Option Addr) (cb : Nat), A = some ⟨b, o, none⟩ ∧ S b ∧ w.cell? ⟨b, o + k * 4, none⟩ = some (.int .i64 l[k].lim.min) ∧ w.cell? ⟨b, o + k * 4 + 1, none⟩ = some (.int .i64 l[k].lim.max) ∧ w.cell? ⟨b, o + k * 4 + 2, none⟩ = some (.bool l[k].lim.has) ∧ w.cell? ⟨b, o + k * 4 + 3, none⟩ = some (.slice Ab l[k].b.length cb) ∧ (Lit.int .i64 l[k].lim.min).wf = true ∧ (Lit.int .i64 l[k].lim.max).wf = true ∧ l[k].b.length ≤ cb ∧ cb ≤ maxLen ∧ (Ty.int .u8).els w S Ab l[k].b := by
  obtain ⟨b, o, ds, rfl, hb, hc, hr⟩ := h.at_ k hk
  obtain ⟨Ab, cb, rfl, f0, f1, f2, f3, f4⟩ := Rm_cells hr
  have e : tRm.size = 4 := rfl
  rw [e] at hc
  exact ⟨b, o, Ab, cb, rfl, hb, hc 0 _ rfl, (by have := hc 1 _ rfl; rwa [← Nat.add_assoc] at this), (by have := hc 2 _ rfl; rwa [← Nat.add_assoc] at this), (by have := hc 3 _ rfl; rwa [← Nat.add_assoc] at this), f0, f1, f2, f3, f4⟩

structure Rx where
  hosts : List Ho
  counts : List Int
  calls : List Ca
  funcs : List Fi
  tabs : List Rt
  mems : List Rm
  globs : List Rg
  elems : List Rs
  datas : List Rb
  insts : List Ri
def tRx0 : Ty (List Ho × List Int × List Ca × List Fi × List Rt × List Rm × List Rg × List Rs × List Rb × List Ri) := tHo.slice.pair ((Ty.int .i64).slice.pair (tCa.slice.pair (tFi.slice.pair (tRt.slice.pair (tRm.slice.pair (tRg.slice.pair (tRs.slice.pair (tRb.slice.pair (tRi.slice)))))))))
def tRx : Ty Rx := tRx0.iso fun a => (a.hosts, a.counts, a.calls, a.funcs, a.tabs, a.mems, a.globs, a.elems, a.datas, a.insts)
instance : TyOk tRx := by unfold tRx tRx0; infer_instance
instance : TyMore tRx := by unfold tRx tRx0; infer_instance
instance : TyOne tRx := by unfold tRx tRx0; infer_instance
theorem Rx_cells {w : World} {S : Nat → Prop} {cs : List Value} {a : Rx} (h : tRx.rd w S cs a) : ∃ (Ahosts : Option Addr) (chosts : Nat) (Acounts : Option Addr) (ccounts : Nat) (Acalls : Option Addr) (ccalls : Nat) (Afuncs : Option Addr) (cfuncs : Nat) (Atabs : Option Addr) (ctabs : Nat) (Amems : Option Addr) (cmems : Nat) (Aglobs : Option Addr) (cglobs : Nat) (Aelems : Option Addr) (celems : Nat) (Adatas : Option Addr) (cdatas : Nat) (Ainsts : Option Addr) (cinsts : Nat), cs = [.slice Ahosts a.hosts.length chosts, .slice Acounts a.counts.length ccounts, .slice Acalls a.calls.length ccalls, .slice Afuncs a.funcs.length cfuncs, .slice Atabs a.tabs.length ctabs, .slice Amems a.mems.length cmems, .slice Aglobs a.globs.length cglobs, .slice Aelems a.elems.length celems, .slice Adatas a.datas.length cdatas, .slice Ainsts a.insts.length cinsts] ∧ a.hosts.length ≤ chosts ∧ chosts ≤ maxLen ∧ tHo.els w S Ahosts a.hosts ∧ a.counts.length ≤ ccounts ∧ ccounts ≤ maxLen ∧ (Ty.int .i64).els w S Acounts a.counts ∧ a.calls.length ≤ ccalls ∧ ccalls ≤ maxLen ∧ tCa.els w S Acalls a.calls ∧ a.funcs.length ≤ cfuncs ∧ cfuncs ≤ maxLen ∧ tFi.els w S Afuncs a.funcs ∧ a.tabs.length ≤ ctabs ∧ ctabs ≤ maxLen ∧ tRt.els w S Atabs a.tabs ∧ a.mems.length ≤ cmems ∧ cmems ≤ maxLen ∧ tRm.els w S Amems a.mems ∧ a.globs.length ≤ cglobs ∧ cglobs ≤ maxLen ∧ tRg.els w S Aglobs a.globs ∧ a.elems.length ≤ celems ∧ celems ≤ maxLen ∧ tRs.els w S Aelems a.elems ∧ a.datas.length ≤ cdatas ∧ cdatas ≤ maxLen ∧ tRb.els w S Adatas a.datas ∧ a.insts.length ≤ cinsts ∧ cinsts ≤ maxLen ∧ tRi.els w S Ainsts a.insts := by
  obtain ⟨xhosts, rhosts, rfl, ⟨Ahosts, chosts, rfl, ghosts, mhosts, ehosts⟩, xcounts, rcounts, rfl, ⟨Acounts, ccounts, rfl, gcounts, mcounts, ecounts⟩, xcalls, rcalls, rfl, ⟨Acalls, ccalls, rfl, gcalls, mcalls, ecalls⟩, xfuncs, rfuncs, rfl, ⟨Afuncs, cfuncs, rfl, gfuncs, mfuncs, efuncs⟩, xtabs, rtabs, rfl, ⟨Atabs, ctabs, rfl, gtabs, mtabs, etabs⟩, xmems, rmems, rfl, ⟨Amems, cmems, rfl, gmems, mmems, emems⟩, xglobs, rglobs, rfl, ⟨Aglobs, cglobs, rfl, gglobs, mglobs, eglobs⟩, xelems, relems, rfl, ⟨Aelems, celems, rfl, gelems, melems, eelems⟩, xdatas, rdatas, rfl, ⟨Adatas, cdatas, rfl, gdatas, mdatas, edatas⟩, Ainsts, cinsts, rfl, ginsts, minsts, einsts⟩ := h
  exact ⟨Ahosts, chosts, Acounts, ccounts, Acalls, ccalls, Afuncs, cfuncs, Atabs, ctabs, Amems, cmems, Aglobs, cglobs, Aelems, celems, Adatas, cdatas, Ainsts, cinsts, rfl, ghosts, mhosts, ehosts, gcounts, mcounts, ecounts, gcalls, mcalls, ecalls, gfuncs, mfuncs, efuncs, gtabs, mtabs, etabs, gmems, mmems, emems, gglobs, mglobs, eglobs, gelems, melems, eelems, gdatas, mdatas, edatas, ginsts, minsts, einsts⟩
theorem Rx_mk {w : World} {S : Nat → Prop} {a : Rx} {Ahosts : Option Addr} {chosts : Nat} {Acounts : Option Addr} {ccounts : Nat} {Acalls : Option Addr} {ccalls : Nat} {Afuncs : Option Addr} {cfuncs : Nat} {Atabs : Option Addr} {ctabs : Nat} {Amems : Option Addr} {cmems : Nat} {Aglobs : Option Addr} {cglobs : Nat} {Aelems : Option Addr} {celems : Nat} {Adatas : Option Addr} {cdatas : Nat} {Ainsts : Option Addr} {cinsts : Nat} (f0 : a.hosts.length ≤ chosts) (f1 : chosts ≤ maxLen) (f2 : tHo.els w S Ahosts a.hosts) (f3 : a.counts.length ≤ ccounts) (f4 : ccounts ≤ maxLen) (f5 : (Ty.int .i64).els w S Acounts a.counts) (f6 : a.calls.length ≤ ccalls) (f7 : ccalls ≤ maxLen) (f8 : tCa.els w S Acalls a.calls) (f9 : a.funcs.length ≤ cfuncs) (f10 : cfuncs ≤ maxLen) (f11 : tFi.els w S Afuncs a.funcs) (f12 : a.tabs.length ≤ ctabs) (f13 : ctabs ≤ maxLen) (f14 : tRt.els w S Atabs a.tabs) (f15 : a.mems.length ≤ cmems) (f16 : cmems ≤ maxLen) (f17 : tRm.els w S Amems a.mems) (f18 : a.globs.length ≤ cglobs) (f19 : cglobs ≤ maxLen) (f20 : tRg.els w S Aglobs a.globs) (f21 : a.elems.length ≤ celems) (f22 : celems ≤ maxLen) (f23 : tRs.els w S Aelems a.elems) (f24 : a.datas.length ≤ cdatas) (f25 : cdatas ≤ maxLen) (f26 : tRb.els w S Adatas a.datas) (f27 : a.insts.length ≤ cinsts) (f28 : cinsts ≤ maxLen) (f29 : tRi.els w S Ainsts a.insts) : tRx.rd w S [.slice Ahosts a.hosts.length chosts, .slice Acounts a.counts.length ccounts, .slice Acalls a.calls.length ccalls, .slice Afuncs a.funcs.length cfuncs, .slice Atabs a.tabs.length ctabs, .slice Amems a.mems.length cmems, .slice Aglobs a.globs.length cglobs, .slice Aelems a.elems.length celems, .slice Adatas a.datas.length cdatas, .slice Ainsts a.insts.length cinsts] a :=
  ⟨[.slice Ahosts a.hosts.length chosts], [.slice Acounts a.counts.length ccounts, .slice Acalls a.calls.length ccalls, .slice Afuncs a.funcs.length cfuncs, .slice Atabs a.tabs.length ctabs, .slice Amems a.mems.length cmems, .slice Aglobs a.globs.length cglobs, .slice Aelems a.elems.length celems, .slice Adatas a.datas.length cdatas, .slice Ainsts a.insts.length cinsts], rfl, ⟨_, _, rfl, f0, f1, f2⟩, ⟨[.slice Acounts a.counts.length ccounts], [.slice Acalls a.calls.length ccalls, .slice Afuncs a.funcs.length cfuncs, .slice Atabs a.tabs.length ctabs, .slice Amems a.mems.length cmems, .slice Aglobs a.globs.length cglobs, .slice Aelems a.elems.length celems, .slice Adatas a.datas.length cdatas, .slice Ainsts a.insts.length cinsts], rfl, ⟨_, _, rfl, f3, f4, f5⟩, ⟨[.slice Acalls a.calls.length ccalls], [.slice Afuncs a.funcs.length cfuncs, .slice Atabs a.tabs.length ctabs, .slice Amems a.mems.length cmems, .slice Aglobs a.globs.length cglobs, .slice Aelems a.elems.length celems, .slice Adatas a.datas.length cdatas, .slice Ainsts a.insts.length cinsts], rfl, ⟨_, _, rfl, f6, f7, f8⟩, ⟨[.slice Afuncs a.funcs.length cfuncs], [.slice Atabs a.tabs.length ctabs, .slice Amems a.mems.length cmems, .slice Aglobs a.globs.length cglobs, .slice Aelems a.elems.length celems, .slice Adatas a.datas.length cdatas, .slice Ainsts a.insts.length cinsts], rfl, ⟨_, _, rfl, f9, f10, f11⟩, ⟨[.slice Atabs a.tabs.length ctabs], [.slice Amems a.mems.length cmems, .slice Aglobs a.globs.length cglobs, .slice Aelems a.elems.length celems, .slice Adatas a.datas.length cdatas, .slice Ainsts a.insts.length cinsts], rfl, ⟨_, _, rfl, f12, f13, f14⟩, ⟨[.slice Amems a.mems.length cmems], [.slice Aglobs a.globs.length cglobs, .slice Aelems a.elems.length celems, .slice Adatas a.datas.length cdatas, .slice Ainsts a.insts.length cinsts], rfl, ⟨_, _, rfl, f15, f16, f17⟩, ⟨[.slice Aglobs a.globs.length cglobs], [.slice Aelems a.elems.length celems, .slice Adatas a.datas.length cdatas, .slice Ainsts a.insts.length cinsts], rfl, ⟨_, _, rfl, f18, f19, f20⟩, ⟨[.slice Aelems a.elems.length celems], [.slice Adatas a.datas.length cdatas, .slice Ainsts a.insts.length cinsts], rfl, ⟨_, _, rfl, f21, f22, f23⟩, ⟨[.slice Adatas a.datas.length cdatas], [.slice Ainsts a.insts.length cinsts], rfl, ⟨_, _, rfl, f24, f25, f26⟩, ⟨_, _, rfl, f27, f28, f29⟩⟩⟩⟩⟩⟩⟩⟩⟩⟩
theorem Rx_at {w : World} {S : Nat → Prop} {A : Option Addr} {l : List Rx} (h : tRx.els w S A l) (k : Nat) (hk : k < l.length) : ∃ (b o : Nat) (Ahosts : Option Addr) (chosts : Nat) (Acounts : Option Addr) (ccounts : Nat) (Acalls : Option Addr) (ccalls : Nat) (Afuncs : Option Addr) (cfuncs : Nat) (Atabs : Option Addr) (ctabs : Nat) (Amems : Option Addr) (cmems : Nat) (Aglobs : Option Addr) (cglobs : Nat) (Aelems : Option Addr) (celems : Nat) (Adatas : Option Addr) (cdatas : Nat) (Ainsts : Option Addr) (cinsts : Nat), A = some ⟨b, o, none⟩ ∧ S b ∧ w.cell? ⟨b, o + k * 10, none⟩ = some (.slice Ahosts l[k].hosts.length chosts) ∧ w.cell? ⟨b, o + k * 10 + 1, none⟩ = some (.slice Acounts l[k].counts.length ccounts) ∧ w.cell? ⟨b, o + k * 10 + 2, none⟩ = some (.slice Acalls l[k].calls.length ccalls) ∧ w.cell? ⟨b, o + k * 10 + 3, none⟩ = some (.slice Afuncs l[k].funcs.length cfuncs) ∧ w.cell? ⟨b, o + k * 10 + 4, none⟩ = some (.slice Atabs l[k].tabs.length ctabs) ∧ w.cell? ⟨b, o + k * 10 + 5, none⟩ = some (.slice Amems l[k].mems.length cmems) ∧ w.cell? ⟨b, o + k * 10 + 6, none⟩ = some (.slice Aglobs l[k].globs.length cglobs) ∧ w.cell? ⟨b, o + k * 10 + 7, none⟩ = some (.slice Aelems l[k].elems.length celems) ∧ w.cell? ⟨b, o + k * 10 + 8, none⟩ = some (.slice Adatas l[k].datas.length cdatas) ∧ w.cell? ⟨b, o + k * 10 + 9, none⟩ = some (.slice Ainsts l[k].insts.length cinsts) ∧ l[k].hosts.length ≤ chosts ∧ chosts ≤ maxLen ∧ tHo.els w S Ahosts l[k].hosts ∧ l[k].counts.length ≤ ccounts ∧ ccounts ≤ maxLen ∧ (Ty.int .i64).els w S Acounts l[k].counts ∧ l[k].calls.length ≤ ccalls ∧ ccalls ≤ maxLen ∧ tCa.els w S Acalls l[k].calls ∧ l[k].funcs.length ≤ cfuncs ∧ cfuncs ≤ maxLen ∧ tFi.els w S Afuncs l[k].funcs ∧ l[k].tabs.length ≤ ctabs ∧ ctabs ≤ maxLen ∧ tRt.els w S Atabs l[k].tabs ∧ l[k].mems.length ≤ cmems ∧ cmems ≤ maxLen ∧ tRm.els w S Amems l[k].mems ∧ l[k].globs.length ≤ cglobs ∧ cglobs ≤ maxLen ∧ tRg.els w S Aglobs l[k].globs ∧ l[k].elems.length ≤ celems ∧ celems ≤ maxLen ∧ tRs.els w S Aelems l[k].elems ∧ l[k].datas.length ≤ cdatas ∧ cdatas ≤ maxLen ∧ tRb.els w S Adatas l[k].datas ∧ l[k].insts.length ≤ cinsts ∧ cinsts ≤ maxLen ∧ tRi.els w S Ainsts l[k].insts := by
  obtain ⟨b, o, ds, rfl, hb, hc, hr⟩ := h.at_ k hk
  obtain ⟨Ahosts, chosts, Acounts, ccounts, Acalls, ccalls, Afuncs, cfuncs, Atabs, ctabs, Amems, cmems, Aglobs, cglobs, Aelems, celems, Adatas, cdatas, Ainsts, cinsts, rfl, f0, f1, f2, f3, f4, f5, f6, f7, f8, f9, f10, f11, f12, f13, f14, f15, f16, f17, f18, f19, f20, f21, f22, f23, f24, f25, f26, f27, f28, f29⟩ := Rx_cells hr
  have e : tRx.size = 10 := rfl
  rw [e] at hc
  exact ⟨b, o, Ahosts, chosts, Acounts, ccounts, Acalls, ccalls, Afuncs, cfuncs, Atabs, ctabs, Amems, cmems, Aglobs, cglobs, Aelems, celems, Adatas, cdatas, Ainsts, cinsts, rfl, hb, hc 0 _ rfl, (by have := hc 1 _ rfl; rwa [← Nat.add_assoc] at this), (by have := hc 2 _ rfl; rwa [← Nat.add_assoc] at this), (by have := hc 3 _ rfl; rwa [← Nat.add_assoc] at this), (by have := hc 4 _ rfl; rwa [← Nat.add_assoc] at this), (by have := hc 5 _ rfl; rwa [← Nat.add_assoc] at this), (by have := hc 6 _ rfl; rwa [← Nat.add_assoc] at this), (by have := hc 7 _ rfl; rwa [← Nat.add_assoc] at this), (by have := hc 8 _ rfl; rwa [← Nat.add_assoc] at this), (by have := hc 9 _ rfl; rwa [← Nat.add_assoc] at this), f0, f1, f2, f3, f4, f5, f6, f7, f8, f9, f10, f11, f12, f13, f14, f15, f16, f17, f18, f19, f20, f21, f22, f23, f24, f25, f26, f27, f28, f29⟩

theorem ints_at {k : IntKind} {w : World} {S : Nat → Prop} {A : Option Addr} {l : List Int} (h : (Ty.int k).els w S A l) (i : Nat) (hi : i < l.length) : ∃ (b o : Nat), A = some ⟨b, o, none⟩ ∧ S b ∧
    w.cell? ⟨b, o + i, none⟩ = some (.int k l[i]) ∧ (Lit.int k l[i]).wf = true := by
  obtain ⟨b, o, ds, rfl, hb, hc, rfl, hw⟩ := h.at_ i hi
  have := hc 0 _ rfl
  have e : (Ty.int k).size = 1 := rfl
  rw [e, Nat.mul_one, Nat.add_zero] at this
  exact ⟨b, o, rfl, hb, this, hw⟩
theorem int_mk {k : IntKind} {w : World} {S : Nat → Prop} {n : Int} (h : (Lit.int k n).wf = true) : (Ty.int k).rd w S [.int k n] n := ⟨rfl, h⟩
theorem blk_els {α : Type} {t : Ty α} [TyOk t] [hm : TyMore t] {w : World} {q : Nat} {S : Nat → Prop} {e : TypeId} {css : List (List Value)} {xs : List α} (hb : Blk w q e css.flatten.toArray) (hq : S q) (h : Css t w S css xs) : t.els w S (some ⟨q, 0, none⟩) xs :=
  css_els h hm (fun _ h => h) hq 0 (fun k u hu => by rw [Nat.zero_add, hb.cell]; simpa using hu)
theorem wf_bool64 {n : Int} (h : -9223372036854775808 ≤ n ∧ n ≤ 9223372036854775807) : (Lit.int .i64 n).wf = true := by
  simpa [Lit.wf, IntKind.min, IntKind.max, IntKind.signed, IntKind.bits] using h

end Go.Proofs.Ythggdemiddjlgaa
