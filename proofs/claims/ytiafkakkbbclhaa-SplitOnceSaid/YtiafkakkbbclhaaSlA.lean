/- Types of data as structures, with their readings. -/
import Derived.Test.YtiafkakkbbclhaaSels
namespace Go.Proofs.Ytiafkakkbbclhaa
open Go.RowKit

/-- A slice of which nothing is read. -/
structure Rw where
  A : Option Addr
  n : Nat
  c : Nat
def tRw : Ty Rw := ⟨1, fun _ _ cs x => cs = [.slice x.A x.n x.c], fun _ _ => True, 24, fun _ _ => True⟩
instance : TyOk tRw := ⟨fun _ _ _ _ h => by rw [show _ = _ from h]; rfl, fun _ _ _ _ _ h _ => h⟩
instance : TyMore tRw := ⟨fun _ _ _ _ _ h _ => h⟩
instance : TyOne tRw := ⟨fun _ _ _ _ h u hu => by rw [show _ = _ from h] at hu; simp at hu; subst hu; rfl⟩

structure Fn where
  params : List Int
  results : List Int
def tFn0 : Ty (List Int × List Int) := (Ty.int .i64).slice.pair ((Ty.int .i64).slice)
def tFn : Ty Fn := tFn0.iso fun a => (a.params, a.results)
instance : TyOk tFn := by unfold tFn tFn0; infer_instance
instance : TyMore tFn := by unfold tFn tFn0; infer_instance
instance : TyOne tFn := by unfold tFn tFn0; infer_instance
theorem opens_Fn : Opens Try.prog 24 tFn := by
  refine opens_iso _ (fun x => ⟨x.1, x.2⟩) (fun _ => rfl) ?_
  exact opens_struct Try.underlying24 (by kernel_rfl) (Flds.cons rfl (by kernel_rfl) (opens_slice Try.underlying22 (by kernel_rfl) (by decide) (opens_int Try.underlying63)) (Flds.one rfl (by kernel_rfl) (opens_slice Try.underlying22 (by kernel_rfl) (by decide) (opens_int Try.underlying63))))
theorem Fn_cells {w : World} {S : Nat → Prop} {cs : List Value} {a : Fn} (h : tFn.rd w S cs a) : ∃ (Aparams : Option Addr) (cparams : Nat) (Aresults : Option Addr) (cresults : Nat), cs = [.slice Aparams a.params.length cparams, .slice Aresults a.results.length cresults] ∧ a.params.length ≤ cparams ∧ cparams ≤ maxLen ∧ (Ty.int .i64).els w S Aparams a.params ∧ a.results.length ≤ cresults ∧ cresults ≤ maxLen ∧ (Ty.int .i64).els w S Aresults a.results := by
  obtain ⟨xparams, rparams, rfl, ⟨Aparams, cparams, rfl, gparams, mparams, eparams⟩, Aresults, cresults, rfl, gresults, mresults, eresults⟩ := h
  exact ⟨Aparams, cparams, Aresults, cresults, rfl, gparams, mparams, eparams, gresults, mresults, eresults⟩
theorem Fn_mk {w : World} {S : Nat → Prop} {a : Fn} {Aparams : Option Addr} {cparams : Nat} {Aresults : Option Addr} {cresults : Nat} (f0 : a.params.length ≤ cparams) (f1 : cparams ≤ maxLen) (f2 : (Ty.int .i64).els w S Aparams a.params) (f3 : a.results.length ≤ cresults) (f4 : cresults ≤ maxLen) (f5 : (Ty.int .i64).els w S Aresults a.results) : tFn.rd w S [.slice Aparams a.params.length cparams, .slice Aresults a.results.length cresults] a :=
  ⟨[.slice Aparams a.params.length cparams], [.slice Aresults a.results.length cresults], rfl, ⟨_, _, rfl, f0, f1, f2⟩, ⟨_, _, rfl, f3, f4, f5⟩⟩
theorem Fn_at {w : World} {S : Nat → Prop} {A : Option Addr} {l : List Fn} (h : tFn.els w S A l) (k : Nat) (hk : k < l.length) : ∃ (b o : Nat) (Aparams : Option Addr) (cparams : Nat) (Aresults : Option Addr) (cresults : Nat), A = some ⟨b, o, none⟩ ∧ S b ∧ w.cell? ⟨b, o + k * 2, none⟩ = some (.slice Aparams l[k].params.length cparams) ∧ w.cell? ⟨b, o + k * 2 + 1, none⟩ = some (.slice Aresults l[k].results.length cresults) ∧ l[k].params.length ≤ cparams ∧ cparams ≤ maxLen ∧ (Ty.int .i64).els w S Aparams l[k].params ∧ l[k].results.length ≤ cresults ∧ cresults ≤ maxLen ∧ (Ty.int .i64).els w S Aresults l[k].results := by
  obtain ⟨b, o, ds, rfl, hb, hc, hr⟩ := h.at_ k hk
  obtain ⟨Aparams, cparams, Aresults, cresults, rfl, f0, f1, f2, f3, f4, f5⟩ := Fn_cells hr
  have e : tFn.size = 2 := rfl
  rw [e] at hc
  exact ⟨b, o, Aparams, cparams, Aresults, cresults, rfl, hb, hc 0 _ rfl, (by have := hc 1 _ rfl; rwa [← Nat.add_assoc] at this), f0, f1, f2, f3, f4, f5⟩

structure Ed where
  to : Int
  args : List Int
def tEd0 : Ty (Int × List Int) := (Ty.int .i64).pair ((Ty.int .i64).slice)
def tEd : Ty Ed := tEd0.iso fun a => (a.to, a.args)
instance : TyOk tEd := by unfold tEd tEd0; infer_instance
instance : TyMore tEd := by unfold tEd tEd0; infer_instance
instance : TyOne tEd := by unfold tEd tEd0; infer_instance
theorem opens_Ed : Opens Try.prog 44 tEd := by
  refine opens_iso _ (fun x => ⟨x.1, x.2⟩) (fun _ => rfl) ?_
  exact opens_struct Try.underlying44 (by kernel_rfl) (Flds.cons rfl (by kernel_rfl) (opens_int Try.underlying3) (Flds.one rfl (by kernel_rfl) (opens_slice Try.underlying35 (by kernel_rfl) (by decide) (opens_int Try.underlying3))))
theorem Ed_cells {w : World} {S : Nat → Prop} {cs : List Value} {a : Ed} (h : tEd.rd w S cs a) : ∃ (Aargs : Option Addr) (cargs : Nat), cs = [.int .i64 a.to, .slice Aargs a.args.length cargs] ∧ (Lit.int .i64 a.to).wf = true ∧ a.args.length ≤ cargs ∧ cargs ≤ maxLen ∧ (Ty.int .i64).els w S Aargs a.args := by
  obtain ⟨xto, rto, rfl, ⟨rfl, wto⟩, Aargs, cargs, rfl, gargs, margs, eargs⟩ := h
  exact ⟨Aargs, cargs, rfl, wto, gargs, margs, eargs⟩
theorem Ed_mk {w : World} {S : Nat → Prop} {a : Ed} {Aargs : Option Addr} {cargs : Nat} (f0 : (Lit.int .i64 a.to).wf = true) (f1 : a.args.length ≤ cargs) (f2 : cargs ≤ maxLen) (f3 : (Ty.int .i64).els w S Aargs a.args) : tEd.rd w S [.int .i64 a.to, .slice Aargs a.args.length cargs] a :=
  ⟨[.int .i64 a.to], [.slice Aargs a.args.length cargs], rfl, ⟨rfl, f0⟩, ⟨_, _, rfl, f1, f2, f3⟩⟩
theorem Ed_at {w : World} {S : Nat → Prop} {A : Option Addr} {l : List Ed} (h : tEd.els w S A l) (k : Nat) (hk : k < l.length) : ∃ (b o : Nat) (Aargs : Option Addr) (cargs : Nat), A = some ⟨b, o, none⟩ ∧ S b ∧ w.cell? ⟨b, o + k * 2, none⟩ = some (.int .i64 l[k].to) ∧ w.cell? ⟨b, o + k * 2 + 1, none⟩ = some (.slice Aargs l[k].args.length cargs) ∧ (Lit.int .i64 l[k].to).wf = true ∧ l[k].args.length ≤ cargs ∧ cargs ≤ maxLen ∧ (Ty.int .i64).els w S Aargs l[k].args := by
  obtain ⟨b, o, ds, rfl, hb, hc, hr⟩ := h.at_ k hk
  obtain ⟨Aargs, cargs, rfl, f0, f1, f2, f3⟩ := Ed_cells hr
  have e : tEd.size = 2 := rfl
  rw [e] at hc
  exact ⟨b, o, Aargs, cargs, rfl, hb, hc 0 _ rfl, (by have := hc 1 _ rfl; rwa [← Nat.add_assoc] at this), f0, f1, f2, f3⟩

structure En where
  kind : Int
  cond : Int
  args : List Int
  to : List Ed
  trap : Int
def tEn0 : Ty (Int × Int × List Int × List Ed × Int) := (Ty.int .i64).pair ((Ty.int .i64).pair ((Ty.int .i64).slice.pair (tEd.slice.pair ((Ty.int .i64)))))
def tEn : Ty En := tEn0.iso fun a => (a.kind, a.cond, a.args, a.to, a.trap)
instance : TyOk tEn := by unfold tEn tEn0; infer_instance
instance : TyMore tEn := by unfold tEn tEn0; infer_instance
instance : TyOne tEn := by unfold tEn tEn0; infer_instance
theorem opens_En : Opens Try.prog 40 tEn := by
  refine opens_iso _ (fun x => ⟨x.1, x.2.1, x.2.2.1, x.2.2.2.1, x.2.2.2.2⟩) (fun _ => rfl) ?_
  exact opens_struct Try.underlying40 (by kernel_rfl) (Flds.cons rfl (by kernel_rfl) (opens_int Try.underlying3) (Flds.cons rfl (by kernel_rfl) (opens_int Try.underlying3) (Flds.cons rfl (by kernel_rfl) (opens_slice Try.underlying35 (by kernel_rfl) (by decide) (opens_int Try.underlying3)) (Flds.cons rfl (by kernel_rfl) (opens_slice Try.underlying37 (by kernel_rfl) (by decide) opens_Ed) (Flds.one rfl (by kernel_rfl) (opens_int Try.underlying38))))))
theorem En_cells {w : World} {S : Nat → Prop} {cs : List Value} {a : En} (h : tEn.rd w S cs a) : ∃ (Aargs : Option Addr) (cargs : Nat) (Ato : Option Addr) (cto : Nat), cs = [.int .i64 a.kind, .int .i64 a.cond, .slice Aargs a.args.length cargs, .slice Ato a.to.length cto, .int .i64 a.trap] ∧ (Lit.int .i64 a.kind).wf = true ∧ (Lit.int .i64 a.cond).wf = true ∧ a.args.length ≤ cargs ∧ cargs ≤ maxLen ∧ (Ty.int .i64).els w S Aargs a.args ∧ a.to.length ≤ cto ∧ cto ≤ maxLen ∧ tEd.els w S Ato a.to ∧ (Lit.int .i64 a.trap).wf = true := by
  obtain ⟨xkind, rkind, rfl, ⟨rfl, wkind⟩, xcond, rcond, rfl, ⟨rfl, wcond⟩, xargs, rargs, rfl, ⟨Aargs, cargs, rfl, gargs, margs, eargs⟩, xto, rto, rfl, ⟨Ato, cto, rfl, gto, mto, eto⟩, rfl, wtrap⟩ := h
  exact ⟨Aargs, cargs, Ato, cto, rfl, wkind, wcond, gargs, margs, eargs, gto, mto, eto, wtrap⟩
theorem En_mk {w : World} {S : Nat → Prop} {a : En} {Aargs : Option Addr} {cargs : Nat} {Ato : Option Addr} {cto : Nat} (f0 : (Lit.int .i64 a.kind).wf = true) (f1 : (Lit.int .i64 a.cond).wf = true) (f2 : a.args.length ≤ cargs) (f3 : cargs ≤ maxLen) (f4 : (Ty.int .i64).els w S Aargs a.args) (f5 : a.to.length ≤ cto) (f6 : cto ≤ maxLen) (f7 : tEd.els w S Ato a.to) (f8 : (Lit.int .i64 a.trap).wf = true) : tEn.rd w S [.int .i64 a.kind, .int .i64 a.cond, .slice Aargs a.args.length cargs, .slice Ato a.to.length cto, .int .i64 a.trap] a :=
  ⟨[.int .i64 a.kind], [.int .i64 a.cond, .slice Aargs a.args.length cargs, .slice Ato a.to.length cto, .int .i64 a.trap], rfl, ⟨rfl, f0⟩, ⟨[.int .i64 a.cond], [.slice Aargs a.args.length cargs, .slice Ato a.to.length cto, .int .i64 a.trap], rfl, ⟨rfl, f1⟩, ⟨[.slice Aargs a.args.length cargs], [.slice Ato a.to.length cto, .int .i64 a.trap], rfl, ⟨_, _, rfl, f2, f3, f4⟩, ⟨[.slice Ato a.to.length cto], [.int .i64 a.trap], rfl, ⟨_, _, rfl, f5, f6, f7⟩, ⟨rfl, f8⟩⟩⟩⟩⟩
theorem En_at {w : World} {S : Nat → Prop} {A : Option Addr} {l : List En} (h : tEn.els w S A l) (k : Nat) (hk : k < l.length) : ∃ (b o : Nat) (Aargs : Option Addr) (cargs : Nat) (Ato : Option Addr) (cto : Nat), A = some ⟨b, o, none⟩ ∧ S b ∧ w.cell? ⟨b, o + k * 5, none⟩ = some (.int .i64 l[k].kind) ∧ w.cell? ⟨b, o + k * 5 + 1, none⟩ = some (.int .i64 l[k].cond) ∧ w.cell? ⟨b, o + k * 5 + 2, none⟩ = some (.slice Aargs l[k].args.length cargs) ∧ w.cell? ⟨b, o + k * 5 + 3, none⟩ = some (.slice Ato l[k].to.length cto) ∧ w.cell? ⟨b, o + k * 5 + 4, none⟩ = some (.int .i64 l[k].trap) ∧ (Lit.int .i64 l[k].kind).wf = true ∧ (Lit.int .i64 l[k].cond).wf = true ∧ l[k].args.length ≤ cargs ∧ cargs ≤ maxLen ∧ (Ty.int .i64).els w S Aargs l[k].args ∧ l[k].to.length ≤ cto ∧ cto ≤ maxLen ∧ tEd.els w S Ato l[k].to ∧ (Lit.int .i64 l[k].trap).wf = true := by
  obtain ⟨b, o, ds, rfl, hb, hc, hr⟩ := h.at_ k hk
  obtain ⟨Aargs, cargs, Ato, cto, rfl, f0, f1, f2, f3, f4, f5, f6, f7, f8⟩ := En_cells hr
  have e : tEn.size = 5 := rfl
  rw [e] at hc
  exact ⟨b, o, Aargs, cargs, Ato, cto, rfl, hb, hc 0 _ rfl, (by have := hc 1 _ rfl; rwa [← Nat.add_assoc] at this), (by have := hc 2 _ rfl; rwa [← Nat.add_assoc] at this), (by have := hc 3 _ rfl; rwa [← Nat.add_assoc] at this), (by have := hc 4 _ rfl; rwa [← Nat.add_assoc] at this), f0, f1, f2, f3, f4, f5, f6, f7, f8⟩

structure Si where
  kind : Int
  op : Int
  a : Int
  b : Int
  n : Int
  args : List Int
  outs : List Int
def tSi0 : Ty (Int × Int × Int × Int × Int × List Int × List Int) := (Ty.int .i64).pair ((Ty.int .i64).pair ((Ty.int .i64).pair ((Ty.int .i64).pair ((Ty.int .u64).pair ((Ty.int .i64).slice.pair ((Ty.int .i64).slice))))))
def tSi : Ty Si := tSi0.iso fun a => (a.kind, a.op, a.a, a.b, a.n, a.args, a.outs)
instance : TyOk tSi := by unfold tSi tSi0; infer_instance
instance : TyMore tSi := by unfold tSi tSi0; infer_instance
instance : TyOne tSi := by unfold tSi tSi0; infer_instance
theorem opens_Si : Opens Try.prog 48 tSi := by
  refine opens_iso _ (fun x => ⟨x.1, x.2.1, x.2.2.1, x.2.2.2.1, x.2.2.2.2.1, x.2.2.2.2.2.1, x.2.2.2.2.2.2⟩) (fun _ => rfl) ?_
  exact opens_struct Try.underlying48 (by kernel_rfl) (Flds.cons rfl (by kernel_rfl) (opens_int Try.underlying3) (Flds.cons rfl (by kernel_rfl) (opens_int Try.underlying45) (Flds.cons rfl (by kernel_rfl) (opens_int Try.underlying3) (Flds.cons rfl (by kernel_rfl) (opens_int Try.underlying3) (Flds.cons rfl (by kernel_rfl) (opens_int Try.underlying46) (Flds.cons rfl (by kernel_rfl) (opens_slice Try.underlying35 (by kernel_rfl) (by decide) (opens_int Try.underlying3)) (Flds.one rfl (by kernel_rfl) (opens_slice Try.underlying35 (by kernel_rfl) (by decide) (opens_int Try.underlying3)))))))))
theorem Si_cells {w : World} {S : Nat → Prop} {cs : List Value} {a : Si} (h : tSi.rd w S cs a) : ∃ (Aargs : Option Addr) (cargs : Nat) (Aouts : Option Addr) (couts : Nat), cs = [.int .i64 a.kind, .int .i64 a.op, .int .i64 a.a, .int .i64 a.b, .int .u64 a.n, .slice Aargs a.args.length cargs, .slice Aouts a.outs.length couts] ∧ (Lit.int .i64 a.kind).wf = true ∧ (Lit.int .i64 a.op).wf = true ∧ (Lit.int .i64 a.a).wf = true ∧ (Lit.int .i64 a.b).wf = true ∧ (Lit.int .u64 a.n).wf = true ∧ a.args.length ≤ cargs ∧ cargs ≤ maxLen ∧ (Ty.int .i64).els w S Aargs a.args ∧ a.outs.length ≤ couts ∧ couts ≤ maxLen ∧ (Ty.int .i64).els w S Aouts a.outs := by
  obtain ⟨xkind, rkind, rfl, ⟨rfl, wkind⟩, xop, rop, rfl, ⟨rfl, wop⟩, xa, ra, rfl, ⟨rfl, wa⟩, xb, rb, rfl, ⟨rfl, wb⟩, xn, rn, rfl, ⟨rfl, wn⟩, xargs, rargs, rfl, ⟨Aargs, cargs, rfl, gargs, margs, eargs⟩, Aouts, couts, rfl, gouts, mouts, eouts⟩ := h
  exact ⟨Aargs, cargs, Aouts, couts, rfl, wkind, wop, wa, wb, wn, gargs, margs, eargs, gouts, mouts, eouts⟩
theorem Si_mk {w : World} {S : Nat → Prop} {a : Si} {Aargs : Option Addr} {cargs : Nat} {Aouts : Option Addr} {couts : Nat} (f0 : (Lit.int .i64 a.kind).wf = true) (f1 : (Lit.int .i64 a.op).wf = true) (f2 : (Lit.int .i64 a.a).wf = true) (f3 : (Lit.int .i64 a.b).wf = true) (f4 : (Lit.int .u64 a.n).wf = true) (f5 : a.args.length ≤ cargs) (f6 : cargs ≤ maxLen) (f7 : (Ty.int .i64).els w S Aargs a.args) (f8 : a.outs.length ≤ couts) (f9 : couts ≤ maxLen) (f10 : (Ty.int .i64).els w S Aouts a.outs) : tSi.rd w S [.int .i64 a.kind, .int .i64 a.op, .int .i64 a.a, .int .i64 a.b, .int .u64 a.n, .slice Aargs a.args.length cargs, .slice Aouts a.outs.length couts] a :=
  ⟨[.int .i64 a.kind], [.int .i64 a.op, .int .i64 a.a, .int .i64 a.b, .int .u64 a.n, .slice Aargs a.args.length cargs, .slice Aouts a.outs.length couts], rfl, ⟨rfl, f0⟩, ⟨[.int .i64 a.op], [.int .i64 a.a, .int .i64 a.b, .int .u64 a.n, .slice Aargs a.args.length cargs, .slice Aouts a.outs.length couts], rfl, ⟨rfl, f1⟩, ⟨[.int .i64 a.a], [.int .i64 a.b, .int .u64 a.n, .slice Aargs a.args.length cargs, .slice Aouts a.outs.length couts], rfl, ⟨rfl, f2⟩, ⟨[.int .i64 a.b], [.int .u64 a.n, .slice Aargs a.args.length cargs, .slice Aouts a.outs.length couts], rfl, ⟨rfl, f3⟩, ⟨[.int .u64 a.n], [.slice Aargs a.args.length cargs, .slice Aouts a.outs.length couts], rfl, ⟨rfl, f4⟩, ⟨[.slice Aargs a.args.length cargs], [.slice Aouts a.outs.length couts], rfl, ⟨_, _, rfl, f5, f6, f7⟩, ⟨_, _, rfl, f8, f9, f10⟩⟩⟩⟩⟩⟩⟩
theorem Si_at {w : World} {S : Nat → Prop} {A : Option Addr} {l : List Si} (h : tSi.els w S A l) (k : Nat) (hk : k < l.length) : ∃ (b o : Nat) (Aargs : Option Addr) (cargs : Nat) (Aouts : Option Addr) (couts : Nat), A = some ⟨b, o, none⟩ ∧ S b ∧ w.cell? ⟨b, o + k * 7, none⟩ = some (.int .i64 l[k].kind) ∧ w.cell? ⟨b, o + k * 7 + 1, none⟩ = some (.int .i64 l[k].op) ∧ w.cell? ⟨b, o + k * 7 + 2, none⟩ = some (.int .i64 l[k].a) ∧ w.cell? ⟨b, o + k * 7 + 3, none⟩ = some (.int .i64 l[k].b) ∧ w.cell? ⟨b, o + k * 7 + 4, none⟩ = some (.int .u64 l[k].n) ∧ w.cell? ⟨b, o + k * 7 + 5, none⟩ = some (.slice Aargs l[k].args.length cargs) ∧ w.cell? ⟨b, o + k * 7 + 6, none⟩ = some (.slice Aouts l[k].outs.length couts) ∧ (Lit.int .i64 l[k].kind).wf = true ∧ (Lit.int .i64 l[k].op).wf = true ∧ (Lit.int .i64 l[k].a).wf = true ∧ (Lit.int .i64 l[k].b).wf = true ∧ (Lit.int .u64 l[k].n).wf = true ∧ l[k].args.length ≤ cargs ∧ cargs ≤ maxLen ∧ (Ty.int .i64).els w S Aargs l[k].args ∧ l[k].outs.length ≤ couts ∧ couts ≤ maxLen ∧ (Ty.int .i64).els w S Aouts l[k].outs := by
  obtain ⟨b, o, ds, rfl, hb, hc, hr⟩ := h.at_ k hk
  obtain ⟨Aargs, cargs, Aouts, couts, rfl, f0, f1, f2, f3, f4, f5, f6, f7, f8, f9, f10⟩ := Si_cells hr
  have e : tSi.size = 7 := rfl
  rw [e] at hc
  exact ⟨b, o, Aargs, cargs, Aouts, couts, rfl, hb, hc 0 _ rfl, (by have := hc 1 _ rfl; rwa [← Nat.add_assoc] at this), (by have := hc 2 _ rfl; rwa [← Nat.add_assoc] at this), (by have := hc 3 _ rfl; rwa [← Nat.add_assoc] at this), (by have := hc 4 _ rfl; rwa [← Nat.add_assoc] at this), (by have := hc 5 _ rfl; rwa [← Nat.add_assoc] at this), (by have := hc 6 _ rfl; rwa [← Nat.add_assoc] at this), f0, f1, f2, f3, f4, f5, f6, f7, f8, f9, f10⟩

structure Sb where
  params : List Int
  ins : List Si
  end_ : En
def tSb0 : Ty (List Int × List Si × En) := (Ty.int .i64).slice.pair (tSi.slice.pair (tEn))
def tSb : Ty Sb := tSb0.iso fun a => (a.params, a.ins, a.end_)
instance : TyOk tSb := by unfold tSb tSb0; infer_instance
instance : TyMore tSb := by unfold tSb tSb0; infer_instance
instance : TyOne tSb := by unfold tSb tSb0; infer_instance
theorem opens_Sb : Opens Try.prog 42 tSb := by
  refine opens_iso _ (fun x => ⟨x.1, x.2.1, x.2.2⟩) (fun _ => rfl) ?_
  exact opens_struct Try.underlying42 (by kernel_rfl) (Flds.cons rfl (by kernel_rfl) (opens_slice Try.underlying35 (by kernel_rfl) (by decide) (opens_int Try.underlying3)) (Flds.cons rfl (by kernel_rfl) (opens_slice Try.underlying36 (by kernel_rfl) (by decide) opens_Si) (Flds.one rfl (by kernel_rfl) opens_En)))
theorem Sb_cells {w : World} {S : Nat → Prop} {cs : List Value} {a : Sb} (h : tSb.rd w S cs a) : ∃ (Aparams : Option Addr) (cparams : Nat) (Ains : Option Addr) (cins : Nat) (Aend__args : Option Addr) (cend__args : Nat) (Aend__to : Option Addr) (cend__to : Nat), cs = [.slice Aparams a.params.length cparams, .slice Ains a.ins.length cins, .int .i64 a.end_.kind, .int .i64 a.end_.cond, .slice Aend__args a.end_.args.length cend__args, .slice Aend__to a.end_.to.length cend__to, .int .i64 a.end_.trap] ∧ a.params.length ≤ cparams ∧ cparams ≤ maxLen ∧ (Ty.int .i64).els w S Aparams a.params ∧ a.ins.length ≤ cins ∧ cins ≤ maxLen ∧ tSi.els w S Ains a.ins ∧ (Lit.int .i64 a.end_.kind).wf = true ∧ (Lit.int .i64 a.end_.cond).wf = true ∧ a.end_.args.length ≤ cend__args ∧ cend__args ≤ maxLen ∧ (Ty.int .i64).els w S Aend__args a.end_.args ∧ a.end_.to.length ≤ cend__to ∧ cend__to ≤ maxLen ∧ tEd.els w S Aend__to a.end_.to ∧ (Lit.int .i64 a.end_.trap).wf = true := by
  obtain ⟨xparams, rparams, rfl, ⟨Aparams, cparams, rfl, gparams, mparams, eparams⟩, xins, rins, rfl, ⟨Ains, cins, rfl, gins, mins, eins⟩, hend_⟩ := h
  obtain ⟨Aend__args, cend__args, Aend__to, cend__to, rfl, kend_0, kend_1, kend_2, kend_3, kend_4, kend_5, kend_6, kend_7, kend_8⟩ := En_cells hend_
  exact ⟨Aparams, cparams, Ains, cins, Aend__args, cend__args, Aend__to, cend__to, rfl, gparams, mparams, eparams, gins, mins, eins, kend_0, kend_1, kend_2, kend_3, kend_4, kend_5, kend_6, kend_7, kend_8⟩
theorem Sb_mk {w : World} {S : Nat → Prop} {a : Sb} {Aparams : Option Addr} {cparams : Nat} {Ains : Option Addr} {cins : Nat} {Aend__args : Option Addr} {cend__args : Nat} {Aend__to : Option Addr} {cend__to : Nat} (f0 : a.params.length ≤ cparams) (f1 : cparams ≤ maxLen) (f2 : (Ty.int .i64).els w S Aparams a.params) (f3 : a.ins.length ≤ cins) (f4 : cins ≤ maxLen) (f5 : tSi.els w S Ains a.ins) (f6 : (Lit.int .i64 a.end_.kind).wf = true) (f7 : (Lit.int .i64 a.end_.cond).wf = true) (f8 : a.end_.args.length ≤ cend__args) (f9 : cend__args ≤ maxLen) (f10 : (Ty.int .i64).els w S Aend__args a.end_.args) (f11 : a.end_.to.length ≤ cend__to) (f12 : cend__to ≤ maxLen) (f13 : tEd.els w S Aend__to a.end_.to) (f14 : (Lit.int .i64 a.end_.trap).wf = true) : tSb.rd w S [.slice Aparams a.params.length cparams, .slice Ains a.ins.length cins, .int .i64 a.end_.kind, .int .i64 a.end_.cond, .slice Aend__args a.end_.args.length cend__args, .slice Aend__to a.end_.to.length cend__to, .int .i64 a.end_.trap] a :=
  ⟨[.slice Aparams a.params.length cparams], [.slice Ains a.ins.length cins, .int .i64 a.end_.kind, .int .i64 a.end_.cond, .slice Aend__args a.end_.args.length cend__args, .slice Aend__to a.end_.to.length cend__to, .int .i64 a.end_.trap], rfl, ⟨_, _, rfl, f0, f1, f2⟩, ⟨[.slice Ains a.ins.length cins], [.int .i64 a.end_.kind, .int .i64 a.end_.cond, .slice Aend__args a.end_.args.length cend__args, .slice Aend__to a.end_.to.length cend__to, .int .i64 a.end_.trap], rfl, ⟨_, _, rfl, f3, f4, f5⟩, ⟨[.int .i64 a.end_.kind], [.int .i64 a.end_.cond, .slice Aend__args a.end_.args.length cend__args, .slice Aend__to a.end_.to.length cend__to, .int .i64 a.end_.trap], rfl, ⟨rfl, f6⟩, ⟨[.int .i64 a.end_.cond], [.slice Aend__args a.end_.args.length cend__args, .slice Aend__to a.end_.to.length cend__to, .int .i64 a.end_.trap], rfl, ⟨rfl, f7⟩, ⟨[.slice Aend__args a.end_.args.length cend__args], [.slice Aend__to a.end_.to.length cend__to, .int .i64 a.end_.trap], rfl, ⟨_, _, rfl, f8, f9, f10⟩, ⟨[.slice Aend__to a.end_.to.length cend__to], [.int .i64 a.end_.trap], rfl, ⟨_, _, rfl, f11, f12, f13⟩, ⟨rfl, f14⟩⟩⟩⟩⟩⟩⟩
theorem Sb_at {w : World} {S : Nat → Prop} {A : Option Addr} {l : List Sb} (h : tSb.els w S A l) (k : Nat) (hk : k < l.length) : ∃ (b o : Nat) (Aparams : Option Addr) (cparams : Nat) (Ains : Option Addr) (cins : Nat) (Aend__args : Option Addr) (cend__args : Nat) (Aend__to : Option Addr) (cend__to : Nat), A = some ⟨b, o, none⟩ ∧ S b ∧ w.cell? ⟨b, o + k * 7, none⟩ = some (.slice Aparams l[k].params.length cparams) ∧ w.cell? ⟨b, o + k * 7 + 1, none⟩ = some (.slice Ains l[k].ins.length cins) ∧ w.cell? ⟨b, o + k * 7 + 2, none⟩ = some (.int .i64 l[k].end_.kind) ∧ w.cell? ⟨b, o + k * 7 + 3, none⟩ = some (.int .i64 l[k].end_.cond) ∧ w.cell? ⟨b, o + k * 7 + 4, none⟩ = some (.slice Aend__args l[k].end_.args.length cend__args) ∧ w.cell? ⟨b, o + k * 7 + 5, none⟩ = some (.slice Aend__to l[k].end_.to.length cend__to) ∧ w.cell? ⟨b, o + k * 7 + 6, none⟩ = some (.int .i64 l[k].end_.trap) ∧ l[k].params.length ≤ cparams ∧ cparams ≤ maxLen ∧ (Ty.int .i64).els w S Aparams l[k].params ∧ l[k].ins.length ≤ cins ∧ cins ≤ maxLen ∧ tSi.els w S Ains l[k].ins ∧ (Lit.int .i64 l[k].end_.kind).wf = true ∧ (Lit.int .i64 l[k].end_.cond).wf = true ∧ l[k].end_.args.length ≤ cend__args ∧ cend__args ≤ maxLen ∧ (Ty.int .i64).els w S Aend__args l[k].end_.args ∧ l[k].end_.to.length ≤ cend__to ∧ cend__to ≤ maxLen ∧ tEd.els w S Aend__to l[k].end_.to ∧ (Lit.int .i64 l[k].end_.trap).wf = true := by
  obtain ⟨b, o, ds, rfl, hb, hc, hr⟩ := h.at_ k hk
  obtain ⟨Aparams, cparams, Ains, cins, Aend__args, cend__args, Aend__to, cend__to, rfl, f0, f1, f2, f3, f4, f5, f6, f7, f8, f9, f10, f11, f12, f13, f14⟩ := Sb_cells hr
  have e : tSb.size = 7 := rfl
  rw [e] at hc
  exact ⟨b, o, Aparams, cparams, Ains, cins, Aend__args, cend__args, Aend__to, cend__to, rfl, hb, hc 0 _ rfl, (by have := hc 1 _ rfl; rwa [← Nat.add_assoc] at this), (by have := hc 2 _ rfl; rwa [← Nat.add_assoc] at this), (by have := hc 3 _ rfl; rwa [← Nat.add_assoc] at this), (by have := hc 4 _ rfl; rwa [← Nat.add_assoc] at this), (by have := hc 5 _ rfl; rwa [← Nat.add_assoc] at this), (by have := hc 6 _ rfl; rwa [← Nat.add_assoc] at this), f0, f1, f2, f3, f4, f5, f6, f7, f8, f9, f10, f11, f12, f13, f14⟩

structure Sf where
  type : Fn
  vals : List Int
  blocks : List Sb
def tSf0 : Ty (Fn × List Int × List Sb) := tFn.pair ((Ty.int .i64).slice.pair (tSb.slice))
def tSf : Ty Sf := tSf0.iso fun a => (a.type, a.vals, a.blocks)
instance : TyOk tSf := by unfold tSf tSf0; infer_instance
instance : TyMore tSf := by unfold tSf tSf0; infer_instance
instance : TyOne tSf := by unfold tSf tSf0; infer_instance
theorem opens_Sf : Opens Try.prog 27 tSf := by
  refine opens_iso _ (fun x => ⟨x.1, x.2.1, x.2.2⟩) (fun _ => rfl) ?_
  exact opens_struct Try.underlying27 (by kernel_rfl) (Flds.cons rfl (by kernel_rfl) opens_Fn (Flds.cons rfl (by kernel_rfl) (opens_slice Try.underlying22 (by kernel_rfl) (by decide) (opens_int Try.underlying63)) (Flds.one rfl (by kernel_rfl) (opens_slice Try.underlying25 (by kernel_rfl) (by decide) opens_Sb))))
theorem Sf_cells {w : World} {S : Nat → Prop} {cs : List Value} {a : Sf} (h : tSf.rd w S cs a) : ∃ (Atype_params : Option Addr) (ctype_params : Nat) (Atype_results : Option Addr) (ctype_results : Nat) (Avals : Option Addr) (cvals : Nat) (Ablocks : Option Addr) (cblocks : Nat), cs = [.slice Atype_params a.type.params.length ctype_params, .slice Atype_results a.type.results.length ctype_results, .slice Avals a.vals.length cvals, .slice Ablocks a.blocks.length cblocks] ∧ a.type.params.length ≤ ctype_params ∧ ctype_params ≤ maxLen ∧ (Ty.int .i64).els w S Atype_params a.type.params ∧ a.type.results.length ≤ ctype_results ∧ ctype_results ≤ maxLen ∧ (Ty.int .i64).els w S Atype_results a.type.results ∧ a.vals.length ≤ cvals ∧ cvals ≤ maxLen ∧ (Ty.int .i64).els w S Avals a.vals ∧ a.blocks.length ≤ cblocks ∧ cblocks ≤ maxLen ∧ tSb.els w S Ablocks a.blocks := by
  obtain ⟨xtype, rtype, rfl, htype, xvals, rvals, rfl, ⟨Avals, cvals, rfl, gvals, mvals, evals⟩, Ablocks, cblocks, rfl, gblocks, mblocks, eblocks⟩ := h
  obtain ⟨Atype_params, ctype_params, Atype_results, ctype_results, rfl, ktype0, ktype1, ktype2, ktype3, ktype4, ktype5⟩ := Fn_cells htype
  exact ⟨Atype_params, ctype_params, Atype_results, ctype_results, Avals, cvals, Ablocks, cblocks, rfl, ktype0, ktype1, ktype2, ktype3, ktype4, ktype5, gvals, mvals, evals, gblocks, mblocks, eblocks⟩
theorem Sf_mk {w : World} {S : Nat → Prop} {a : Sf} {Atype_params : Option Addr} {ctype_params : Nat} {Atype_results : Option Addr} {ctype_results : Nat} {Avals : Option Addr} {cvals : Nat} {Ablocks : Option Addr} {cblocks : Nat} (f0 : a.type.params.length ≤ ctype_params) (f1 : ctype_params ≤ maxLen) (f2 : (Ty.int .i64).els w S Atype_params a.type.params) (f3 : a.type.results.length ≤ ctype_results) (f4 : ctype_results ≤ maxLen) (f5 : (Ty.int .i64).els w S Atype_results a.type.results) (f6 : a.vals.length ≤ cvals) (f7 : cvals ≤ maxLen) (f8 : (Ty.int .i64).els w S Avals a.vals) (f9 : a.blocks.length ≤ cblocks) (f10 : cblocks ≤ maxLen) (f11 : tSb.els w S Ablocks a.blocks) : tSf.rd w S [.slice Atype_params a.type.params.length ctype_params, .slice Atype_results a.type.results.length ctype_results, .slice Avals a.vals.length cvals, .slice Ablocks a.blocks.length cblocks] a :=
  ⟨[.slice Atype_params a.type.params.length ctype_params, .slice Atype_results a.type.results.length ctype_results], [.slice Avals a.vals.length cvals, .slice Ablocks a.blocks.length cblocks], rfl, ⟨[.slice Atype_params a.type.params.length ctype_params], [.slice Atype_results a.type.results.length ctype_results], rfl, ⟨_, _, rfl, f0, f1, f2⟩, ⟨_, _, rfl, f3, f4, f5⟩⟩, ⟨[.slice Avals a.vals.length cvals], [.slice Ablocks a.blocks.length cblocks], rfl, ⟨_, _, rfl, f6, f7, f8⟩, ⟨_, _, rfl, f9, f10, f11⟩⟩⟩
theorem Sf_at {w : World} {S : Nat → Prop} {A : Option Addr} {l : List Sf} (h : tSf.els w S A l) (k : Nat) (hk : k < l.length) : ∃ (b o : Nat) (Atype_params : Option Addr) (ctype_params : Nat) (Atype_results : Option Addr) (ctype_results : Nat) (Avals : Option Addr) (cvals : Nat) (Ablocks : Option Addr) (cblocks : Nat), A = some ⟨b, o, none⟩ ∧ S b ∧ w.cell? ⟨b, o + k * 4, none⟩ = some (.slice Atype_params l[k].type.params.length ctype_params) ∧ w.cell? ⟨b, o + k * 4 + 1, none⟩ = some (.slice Atype_results l[k].type.results.length ctype_results) ∧ w.cell? ⟨b, o + k * 4 + 2, none⟩ = some (.slice Avals l[k].vals.length cvals) ∧ w.cell? ⟨b, o + k * 4 + 3, none⟩ = some (.slice Ablocks l[k].blocks.length cblocks) ∧ l[k].type.params.length ≤ ctype_params ∧ ctype_params ≤ maxLen ∧ (Ty.int .i64).els w S Atype_params l[k].type.params ∧ l[k].type.results.length ≤ ctype_results ∧ ctype_results ≤ maxLen ∧ (Ty.int .i64).els w S Atype_results l[k].type.results ∧ l[k].vals.length ≤ cvals ∧ cvals ≤ maxLen ∧ (Ty.int .i64).els w S Avals l[k].vals ∧ l[k].blocks.length ≤ cblocks ∧ cblocks ≤ maxLen ∧ tSb.els w S Ablocks l[k].blocks := by
  obtain ⟨b, o, ds, rfl, hb, hc, hr⟩ := h.at_ k hk
  obtain ⟨Atype_params, ctype_params, Atype_results, ctype_results, Avals, cvals, Ablocks, cblocks, rfl, f0, f1, f2, f3, f4, f5, f6, f7, f8, f9, f10, f11⟩ := Sf_cells hr
  have e : tSf.size = 4 := rfl
  rw [e] at hc
  exact ⟨b, o, Atype_params, ctype_params, Atype_results, ctype_results, Avals, cvals, Ablocks, cblocks, rfl, hb, hc 0 _ rfl, (by have := hc 1 _ rfl; rwa [← Nat.add_assoc] at this), (by have := hc 2 _ rfl; rwa [← Nat.add_assoc] at this), (by have := hc 3 _ rfl; rwa [← Nat.add_assoc] at this), f0, f1, f2, f3, f4, f5, f6, f7, f8, f9, f10, f11⟩

structure Er where
  kind : Int
  cond : Int
  args : List Int
  to : Rw
  trap : Int
def tEr0 : Ty (Int × Int × List Int × Rw × Int) := (Ty.int .i64).pair ((Ty.int .i64).pair ((Ty.int .i64).slice.pair (tRw.pair ((Ty.int .i64)))))
def tEr : Ty Er := tEr0.iso fun a => (a.kind, a.cond, a.args, a.to, a.trap)
instance : TyOk tEr := by unfold tEr tEr0; infer_instance
instance : TyMore tEr := by unfold tEr tEr0; infer_instance
instance : TyOne tEr := by unfold tEr tEr0; infer_instance
theorem Er_cells {w : World} {S : Nat → Prop} {cs : List Value} {a : Er} (h : tEr.rd w S cs a) : ∃ (Aargs : Option Addr) (cargs : Nat), cs = [.int .i64 a.kind, .int .i64 a.cond, .slice Aargs a.args.length cargs, .slice a.to.A a.to.n a.to.c, .int .i64 a.trap] ∧ (Lit.int .i64 a.kind).wf = true ∧ (Lit.int .i64 a.cond).wf = true ∧ a.args.length ≤ cargs ∧ cargs ≤ maxLen ∧ (Ty.int .i64).els w S Aargs a.args ∧ (Lit.int .i64 a.trap).wf = true := by
  obtain ⟨xkind, rkind, rfl, ⟨rfl, wkind⟩, xcond, rcond, rfl, ⟨rfl, wcond⟩, xargs, rargs, rfl, ⟨Aargs, cargs, rfl, gargs, margs, eargs⟩, xto, rto, rfl, rfl, rfl, wtrap⟩ := h
  exact ⟨Aargs, cargs, rfl, wkind, wcond, gargs, margs, eargs, wtrap⟩
theorem Er_mk {w : World} {S : Nat → Prop} {a : Er} {Aargs : Option Addr} {cargs : Nat} (f0 : (Lit.int .i64 a.kind).wf = true) (f1 : (Lit.int .i64 a.cond).wf = true) (f2 : a.args.length ≤ cargs) (f3 : cargs ≤ maxLen) (f4 : (Ty.int .i64).els w S Aargs a.args) (f5 : (Lit.int .i64 a.trap).wf = true) : tEr.rd w S [.int .i64 a.kind, .int .i64 a.cond, .slice Aargs a.args.length cargs, .slice a.to.A a.to.n a.to.c, .int .i64 a.trap] a :=
  ⟨[.int .i64 a.kind], [.int .i64 a.cond, .slice Aargs a.args.length cargs, .slice a.to.A a.to.n a.to.c, .int .i64 a.trap], rfl, ⟨rfl, f0⟩, ⟨[.int .i64 a.cond], [.slice Aargs a.args.length cargs, .slice a.to.A a.to.n a.to.c, .int .i64 a.trap], rfl, ⟨rfl, f1⟩, ⟨[.slice Aargs a.args.length cargs], [.slice a.to.A a.to.n a.to.c, .int .i64 a.trap], rfl, ⟨_, _, rfl, f2, f3, f4⟩, ⟨[.slice a.to.A a.to.n a.to.c], [.int .i64 a.trap], rfl, rfl, ⟨rfl, f5⟩⟩⟩⟩⟩
theorem Er_at {w : World} {S : Nat → Prop} {A : Option Addr} {l : List Er} (h : tEr.els w S A l) (k : Nat) (hk : k < l.length) : ∃ (b o : Nat) (Aargs : Option Addr) (cargs : Nat), A = some ⟨b, o, none⟩ ∧ S b ∧ w.cell? ⟨b, o + k * 5, none⟩ = some (.int .i64 l[k].kind) ∧ w.cell? ⟨b, o + k * 5 + 1, none⟩ = some (.int .i64 l[k].cond) ∧ w.cell? ⟨b, o + k * 5 + 2, none⟩ = some (.slice Aargs l[k].args.length cargs) ∧ w.cell? ⟨b, o + k * 5 + 3, none⟩ = some (.slice l[k].to.A l[k].to.n l[k].to.c) ∧ w.cell? ⟨b, o + k * 5 + 4, none⟩ = some (.int .i64 l[k].trap) ∧ (Lit.int .i64 l[k].kind).wf = true ∧ (Lit.int .i64 l[k].cond).wf = true ∧ l[k].args.length ≤ cargs ∧ cargs ≤ maxLen ∧ (Ty.int .i64).els w S Aargs l[k].args ∧ (Lit.int .i64 l[k].trap).wf = true := by
  obtain ⟨b, o, ds, rfl, hb, hc, hr⟩ := h.at_ k hk
  obtain ⟨Aargs, cargs, rfl, f0, f1, f2, f3, f4, f5⟩ := Er_cells hr
  have e : tEr.size = 5 := rfl
  rw [e] at hc
  exact ⟨b, o, Aargs, cargs, rfl, hb, hc 0 _ rfl, (by have := hc 1 _ rfl; rwa [← Nat.add_assoc] at this), (by have := hc 2 _ rfl; rwa [← Nat.add_assoc] at this), (by have := hc 3 _ rfl; rwa [← Nat.add_assoc] at this), (by have := hc 4 _ rfl; rwa [← Nat.add_assoc] at this), f0, f1, f2, f3, f4, f5⟩

structure Sr where
  params : List Int
  ins : List Si
  end_ : Er
def tSr0 : Ty (List Int × List Si × Er) := (Ty.int .i64).slice.pair (tSi.slice.pair (tEr))
def tSr : Ty Sr := tSr0.iso fun a => (a.params, a.ins, a.end_)
instance : TyOk tSr := by unfold tSr tSr0; infer_instance
instance : TyMore tSr := by unfold tSr tSr0; infer_instance
instance : TyOne tSr := by unfold tSr tSr0; infer_instance
theorem Sr_cells {w : World} {S : Nat → Prop} {cs : List Value} {a : Sr} (h : tSr.rd w S cs a) : ∃ (Aparams : Option Addr) (cparams : Nat) (Ains : Option Addr) (cins : Nat) (Aend__args : Option Addr) (cend__args : Nat), cs = [.slice Aparams a.params.length cparams, .slice Ains a.ins.length cins, .int .i64 a.end_.kind, .int .i64 a.end_.cond, .slice Aend__args a.end_.args.length cend__args, .slice a.end_.to.A a.end_.to.n a.end_.to.c, .int .i64 a.end_.trap] ∧ a.params.length ≤ cparams ∧ cparams ≤ maxLen ∧ (Ty.int .i64).els w S Aparams a.params ∧ a.ins.length ≤ cins ∧ cins ≤ maxLen ∧ tSi.els w S Ains a.ins ∧ (Lit.int .i64 a.end_.kind).wf = true ∧ (Lit.int .i64 a.end_.cond).wf = true ∧ a.end_.args.length ≤ cend__args ∧ cend__args ≤ maxLen ∧ (Ty.int .i64).els w S Aend__args a.end_.args ∧ (Lit.int .i64 a.end_.trap).wf = true := by
  obtain ⟨xparams, rparams, rfl, ⟨Aparams, cparams, rfl, gparams, mparams, eparams⟩, xins, rins, rfl, ⟨Ains, cins, rfl, gins, mins, eins⟩, hend_⟩ := h
  obtain ⟨Aend__args, cend__args, rfl, kend_0, kend_1, kend_2, kend_3, kend_4, kend_5⟩ := Er_cells hend_
  exact ⟨Aparams, cparams, Ains, cins, Aend__args, cend__args, rfl, gparams, mparams, eparams, gins, mins, eins, kend_0, kend_1, kend_2, kend_3, kend_4, kend_5⟩
theorem Sr_mk {w : World} {S : Nat → Prop} {a : Sr} {Aparams : Option Addr} {cparams : Nat} {Ains : Option Addr} {cins : Nat} {Aend__args : Option Addr} {cend__args : Nat} (f0 : a.params.length ≤ cparams) (f1 : cparams ≤ maxLen) (f2 : (Ty.int .i64).els w S Aparams a.params) (f3 : a.ins.length ≤ cins) (f4 : cins ≤ maxLen) (f5 : tSi.els w S Ains a.ins) (f6 : (Lit.int .i64 a.end_.kind).wf = true) (f7 : (Lit.int .i64 a.end_.cond).wf = true) (f8 : a.end_.args.length ≤ cend__args) (f9 : cend__args ≤ maxLen) (f10 : (Ty.int .i64).els w S Aend__args a.end_.args) (f11 : (Lit.int .i64 a.end_.trap).wf = true) : tSr.rd w S [.slice Aparams a.params.length cparams, .slice Ains a.ins.length cins, .int .i64 a.end_.kind, .int .i64 a.end_.cond, .slice Aend__args a.end_.args.length cend__args, .slice a.end_.to.A a.end_.to.n a.end_.to.c, .int .i64 a.end_.trap] a :=
  ⟨[.slice Aparams a.params.length cparams], [.slice Ains a.ins.length cins, .int .i64 a.end_.kind, .int .i64 a.end_.cond, .slice Aend__args a.end_.args.length cend__args, .slice a.end_.to.A a.end_.to.n a.end_.to.c, .int .i64 a.end_.trap], rfl, ⟨_, _, rfl, f0, f1, f2⟩, ⟨[.slice Ains a.ins.length cins], [.int .i64 a.end_.kind, .int .i64 a.end_.cond, .slice Aend__args a.end_.args.length cend__args, .slice a.end_.to.A a.end_.to.n a.end_.to.c, .int .i64 a.end_.trap], rfl, ⟨_, _, rfl, f3, f4, f5⟩, ⟨[.int .i64 a.end_.kind], [.int .i64 a.end_.cond, .slice Aend__args a.end_.args.length cend__args, .slice a.end_.to.A a.end_.to.n a.end_.to.c, .int .i64 a.end_.trap], rfl, ⟨rfl, f6⟩, ⟨[.int .i64 a.end_.cond], [.slice Aend__args a.end_.args.length cend__args, .slice a.end_.to.A a.end_.to.n a.end_.to.c, .int .i64 a.end_.trap], rfl, ⟨rfl, f7⟩, ⟨[.slice Aend__args a.end_.args.length cend__args], [.slice a.end_.to.A a.end_.to.n a.end_.to.c, .int .i64 a.end_.trap], rfl, ⟨_, _, rfl, f8, f9, f10⟩, ⟨[.slice a.end_.to.A a.end_.to.n a.end_.to.c], [.int .i64 a.end_.trap], rfl, rfl, ⟨rfl, f11⟩⟩⟩⟩⟩⟩⟩
theorem Sr_at {w : World} {S : Nat → Prop} {A : Option Addr} {l : List Sr} (h : tSr.els w S A l) (k : Nat) (hk : k < l.length) : ∃ (b o : Nat) (Aparams : Option Addr) (cparams : Nat) (Ains : Option Addr) (cins : Nat) (Aend__args : Option Addr) (cend__args : Nat), A = some ⟨b, o, none⟩ ∧ S b ∧ w.cell? ⟨b, o + k * 7, none⟩ = some (.slice Aparams l[k].params.length cparams) ∧ w.cell? ⟨b, o + k * 7 + 1, none⟩ = some (.slice Ains l[k].ins.length cins) ∧ w.cell? ⟨b, o + k * 7 + 2, none⟩ = some (.int .i64 l[k].end_.kind) ∧ w.cell? ⟨b, o + k * 7 + 3, none⟩ = some (.int .i64 l[k].end_.cond) ∧ w.cell? ⟨b, o + k * 7 + 4, none⟩ = some (.slice Aend__args l[k].end_.args.length cend__args) ∧ w.cell? ⟨b, o + k * 7 + 5, none⟩ = some (.slice l[k].end_.to.A l[k].end_.to.n l[k].end_.to.c) ∧ w.cell? ⟨b, o + k * 7 + 6, none⟩ = some (.int .i64 l[k].end_.trap) ∧ l[k].params.length ≤ cparams ∧ cparams ≤ maxLen ∧ (Ty.int .i64).els w S Aparams l[k].params ∧ l[k].ins.length ≤ cins ∧ cins ≤ maxLen ∧ tSi.els w S Ains l[k].ins ∧ (Lit.int .i64 l[k].end_.kind).wf = true ∧ (Lit.int .i64 l[k].end_.cond).wf = true ∧ l[k].end_.args.length ≤ cend__args ∧ cend__args ≤ maxLen ∧ (Ty.int .i64).els w S Aend__args l[k].end_.args ∧ (Lit.int .i64 l[k].end_.trap).wf = true := by
  obtain ⟨b, o, ds, rfl, hb, hc, hr⟩ := h.at_ k hk
  obtain ⟨Aparams, cparams, Ains, cins, Aend__args, cend__args, rfl, f0, f1, f2, f3, f4, f5, f6, f7, f8, f9, f10, f11⟩ := Sr_cells hr
  have e : tSr.size = 7 := rfl
  rw [e] at hc
  exact ⟨b, o, Aparams, cparams, Ains, cins, Aend__args, cend__args, rfl, hb, hc 0 _ rfl, (by have := hc 1 _ rfl; rwa [← Nat.add_assoc] at this), (by have := hc 2 _ rfl; rwa [← Nat.add_assoc] at this), (by have := hc 3 _ rfl; rwa [← Nat.add_assoc] at this), (by have := hc 4 _ rfl; rwa [← Nat.add_assoc] at this), (by have := hc 5 _ rfl; rwa [← Nat.add_assoc] at this), (by have := hc 6 _ rfl; rwa [← Nat.add_assoc] at this), f0, f1, f2, f3, f4, f5, f6, f7, f8, f9, f10, f11⟩

theorem ints_at {k : IntKind} {w : World} {S : Nat → Prop} {A : Option Addr} {l : List Int} (h : (Ty.int k).els w S A l) (i : Nat) (hi : i < l.length) : ∃ (b o : Nat), A = some ⟨b, o, none⟩ ∧ S b ∧
    w.cell? ⟨b, o + i, none⟩ = some (.int k l[i]) ∧ (Lit.int k l[i]).wf = true := by
  obtain ⟨b, o, ds, rfl, hb, hc, rfl, hw⟩ := h.at_ i hi
  have := hc 0 _ rfl
  have e : (Ty.int k).size = 1 := rfl
  rw [e, Nat.mul_one, Nat.add_zero] at this
  exact ⟨b, o, rfl, hb, this, hw⟩
theorem int_mk {k : IntKind} {w : World} {S : Nat → Prop} {n : Int} (h : (Lit.int k n).wf = true) : (Ty.int k).rd w S [.int k n] n := ⟨rfl, h⟩
theorem blk_els {α : Type} {t : Ty α} [TyOk t] [hm : TyMore t] {w : World} {q : Nat} {S : Nat → Prop} {e : TypeId} {css : List (List Value)} {xs : List α} (hb : Blk w q e css.flatten.toArray) (hq : S q) (h : Css t w S css xs) : t.els w S (some ⟨q, 0, none⟩) xs :=
  css_els h hm (fun _ h => h) hq 0 (fun k u hu => by rw [Nat.zero_add, hb.cell]; simpa using hu)
theorem wf_bool64 {n : Int} (h : -9223372036854775808 ≤ n ∧ n ≤ 9223372036854775807) : (Lit.int .i64 n).wf = true := by
  simpa [Lit.wf, IntKind.min, IntKind.max, IntKind.signed, IntKind.bits] using h

end Go.Proofs.Ytiafkakkbbclhaa
