/- For every input SplitRight returns true, part 2: what the proof rests on. Condition: the arguments are of bulk at most 1048576. -/
import Derived.Test.YtiafkakkbbclhaaGreatR1
set_option maxRecDepth 100000
set_option maxHeartbeats 12800000
set_option linter.unusedVariables false
set_option linter.unusedSimpArgs false
set_option linter.unusedSectionVars false
namespace Go.Proofs.YtiafkakkbbclhaaGreat
open Go.RowKit
structure Rw where
  A : Option Addr
  n : Nat
  c : Nat
def tRw : Ty Rw := ⟨1, fun _ _ cs x => cs = [.slice x.A x.n x.c], fun _ _ => True, 24, fun _ _ => True⟩
instance : TyOk tRw := ⟨fun _ _ _ _ h => by rw [show _ = _ from h]; rfl, fun _ _ _ _ _ h _ => h⟩
instance : TyMore tRw := ⟨fun _ _ _ _ _ h _ => h⟩
instance : TyOne tRw := ⟨fun _ _ _ _ h u hu => by rw [show _ = _ from h] at hu; simp at hu; subst hu; rfl⟩
structure Fn where
  params : List Int
  results : List Int
def tFn0 : Ty (List Int × List Int) := (Ty.int .i64).slice.pair ((Ty.int .i64).slice)
def tFn : Ty Fn := tFn0.iso fun a => (a.params, a.results)
instance : TyOk tFn := by unfold tFn tFn0; infer_instance
instance : TyMore tFn := by unfold tFn tFn0; infer_instance
theorem opens_Fn : Opens Tryz.prog 36 tFn := by
  refine opens_iso _ (fun x => ⟨x.1, x.2⟩) (fun _ => rfl) ?_
  exact opens_struct Tryz.underlying36 (by kernel_rfl) (Flds.cons rfl (by kernel_rfl) (opens_slice Tryz.underlying34 (by kernel_rfl) (by decide) (opens_int Tryz.underlying59)) (Flds.one rfl (by kernel_rfl) (opens_slice Tryz.underlying34 (by kernel_rfl) (by decide) (opens_int Tryz.underlying59))))
theorem Fn_cells {w : World} {S : Nat → Prop} {cs : List Value} {a : Fn} (h : tFn.rd w S cs a) : ∃ (Aparams : Option Addr) (cparams : Nat) (Aresults : Option Addr) (cresults : Nat), cs = [.slice Aparams a.params.length cparams, .slice Aresults a.results.length cresults] ∧ a.params.length ≤ cparams ∧ cparams ≤ maxLen ∧ (Ty.int .i64).els w S Aparams a.params ∧ a.results.length ≤ cresults ∧ cresults ≤ maxLen ∧ (Ty.int .i64).els w S Aresults a.results := by
  obtain ⟨xparams, rparams, rfl, ⟨Aparams, cparams, rfl, gparams, mparams, eparams⟩, Aresults, cresults, rfl, gresults, mresults, eresults⟩ := h
  exact ⟨Aparams, cparams, Aresults, cresults, rfl, gparams, mparams, eparams, gresults, mresults, eresults⟩
theorem Fn_at {w : World} {S : Nat → Prop} {A : Option Addr} {l : List Fn} (h : tFn.els w S A l) (k : Nat) (hk : k < l.length) : ∃ (b o : Nat) (Aparams : Option Addr) (cparams : Nat) (Aresults : Option Addr) (cresults : Nat), A = some ⟨b, o, none⟩ ∧ S b ∧ w.cell? ⟨b, o + k * 2, none⟩ = some (.slice Aparams l[k].params.length cparams) ∧ w.cell? ⟨b, o + k * 2 + 1, none⟩ = some (.slice Aresults l[k].results.length cresults) ∧ l[k].params.length ≤ cparams ∧ cparams ≤ maxLen ∧ (Ty.int .i64).els w S Aparams l[k].params ∧ l[k].results.length ≤ cresults ∧ cresults ≤ maxLen ∧ (Ty.int .i64).els w S Aresults l[k].results := by
  obtain ⟨b, o, ds, rfl, hb, hc, hr⟩ := h.at_ k hk
  obtain ⟨Aparams, cparams, Aresults, cresults, rfl, f0, f1, f2, f3, f4, f5⟩ := Fn_cells hr
  have e : tFn.size = 2 := rfl
  rw [e] at hc
  exact ⟨b, o, Aparams, cparams, Aresults, cresults, rfl, hb, hc 0 _ rfl, (by have := hc 1 _ rfl; rwa [← Nat.add_assoc] at this), f0, f1, f2, f3, f4, f5⟩
structure Ed where
  to : Int
  args : List Int
def tEd0 : Ty (Int × List Int) := (Ty.int .i64).pair ((Ty.int .i64).slice)
def tEd : Ty Ed := tEd0.iso fun a => (a.to, a.args)
instance : TyOk tEd := by unfold tEd tEd0; infer_instance
instance : TyMore tEd := by unfold tEd tEd0; infer_instance
instance : TyOne tEd := by unfold tEd tEd0; infer_instance
theorem opens_Ed : Opens Tryz.prog 65 tEd := by
  refine opens_iso _ (fun x => ⟨x.1, x.2⟩) (fun _ => rfl) ?_
  exact opens_struct Tryz.underlying65 (by kernel_rfl) (Flds.cons rfl (by kernel_rfl) (opens_int Tryz.underlying3) (Flds.one rfl (by kernel_rfl) (opens_slice Tryz.underlying50 (by kernel_rfl) (by decide) (opens_int Tryz.underlying3))))
theorem Ed_cells {w : World} {S : Nat → Prop} {cs : List Value} {a : Ed} (h : tEd.rd w S cs a) : ∃ (Aargs : Option Addr) (cargs : Nat), cs = [.int .i64 a.to, .slice Aargs a.args.length cargs] ∧ (Lit.int .i64 a.to).wf = true ∧ a.args.length ≤ cargs ∧ cargs ≤ maxLen ∧ (Ty.int .i64).els w S Aargs a.args := by
  obtain ⟨xto, rto, rfl, ⟨rfl, wto⟩, Aargs, cargs, rfl, gargs, margs, eargs⟩ := h
  exact ⟨Aargs, cargs, rfl, wto, gargs, margs, eargs⟩
theorem Ed_mk {w : World} {S : Nat → Prop} {a : Ed} {Aargs : Option Addr} {cargs : Nat} (f0 : (Lit.int .i64 a.to).wf = true) (f1 : a.args.length ≤ cargs) (f2 : cargs ≤ maxLen) (f3 : (Ty.int .i64).els w S Aargs a.args) : tEd.rd w S [.int .i64 a.to, .slice Aargs a.args.length cargs] a :=
  ⟨[.int .i64 a.to], [.slice Aargs a.args.length cargs], rfl, ⟨rfl, f0⟩, ⟨_, _, rfl, f1, f2, f3⟩⟩
theorem Ed_at {w : World} {S : Nat → Prop} {A : Option Addr} {l : List Ed} (h : tEd.els w S A l) (k : Nat) (hk : k < l.length) : ∃ (b o : Nat) (Aargs : Option Addr) (cargs : Nat), A = some ⟨b, o, none⟩ ∧ S b ∧ w.cell? ⟨b, o + k * 2, none⟩ = some (.int .i64 l[k].to) ∧ w.cell? ⟨b, o + k * 2 + 1, none⟩ = some (.slice Aargs l[k].args.length cargs) ∧ (Lit.int .i64 l[k].to).wf = true ∧ l[k].args.length ≤ cargs ∧ cargs ≤ maxLen ∧ (Ty.int .i64).els w S Aargs l[k].args := by
  obtain ⟨b, o, ds, rfl, hb, hc, hr⟩ := h.at_ k hk
  obtain ⟨Aargs, cargs, rfl, f0, f1, f2, f3⟩ := Ed_cells hr
  have e : tEd.size = 2 := rfl
  rw [e] at hc
  exact ⟨b, o, Aargs, cargs, rfl, hb, hc 0 _ rfl, (by have := hc 1 _ rfl; rwa [← Nat.add_assoc] at this), f0, f1, f2, f3⟩
structure En where
  kind : Int
  cond : Int
  args : List Int
  to : List Ed
  trap : Int
def tEn0 : Ty (Int × Int × List Int × List Ed × Int) := (Ty.int .i64).pair ((Ty.int .i64).pair ((Ty.int .i64).slice.pair (tEd.slice.pair ((Ty.int .i64)))))
def tEn : Ty En := tEn0.iso fun a => (a.kind, a.cond, a.args, a.to, a.trap)
instance : TyOk tEn := by unfold tEn tEn0; infer_instance
instance : TyMore tEn := by unfold tEn tEn0; infer_instance
theorem opens_En : Opens Tryz.prog 55 tEn := by
  refine opens_iso _ (fun x => ⟨x.1, x.2.1, x.2.2.1, x.2.2.2.1, x.2.2.2.2⟩) (fun _ => rfl) ?_
  exact opens_struct Tryz.underlying55 (by kernel_rfl) (Flds.cons rfl (by kernel_rfl) (opens_int Tryz.underlying3) (Flds.cons rfl (by kernel_rfl) (opens_int Tryz.underlying3) (Flds.cons rfl (by kernel_rfl) (opens_slice Tryz.underlying50 (by kernel_rfl) (by decide) (opens_int Tryz.underlying3)) (Flds.cons rfl (by kernel_rfl) (opens_slice Tryz.underlying52 (by kernel_rfl) (by decide) opens_Ed) (Flds.one rfl (by kernel_rfl) (opens_int Tryz.underlying53))))))
theorem En_cells {w : World} {S : Nat → Prop} {cs : List Value} {a : En} (h : tEn.rd w S cs a) : ∃ (Aargs : Option Addr) (cargs : Nat) (Ato : Option Addr) (cto : Nat), cs = [.int .i64 a.kind, .int .i64 a.cond, .slice Aargs a.args.length cargs, .slice Ato a.to.length cto, .int .i64 a.trap] ∧ (Lit.int .i64 a.kind).wf = true ∧ (Lit.int .i64 a.cond).wf = true ∧ a.args.length ≤ cargs ∧ cargs ≤ maxLen ∧ (Ty.int .i64).els w S Aargs a.args ∧ a.to.length ≤ cto ∧ cto ≤ maxLen ∧ tEd.els w S Ato a.to ∧ (Lit.int .i64 a.trap).wf = true := by
  obtain ⟨xkind, rkind, rfl, ⟨rfl, wkind⟩, xcond, rcond, rfl, ⟨rfl, wcond⟩, xargs, rargs, rfl, ⟨Aargs, cargs, rfl, gargs, margs, eargs⟩, xto, rto, rfl, ⟨Ato, cto, rfl, gto, mto, eto⟩, rfl, wtrap⟩ := h
  exact ⟨Aargs, cargs, Ato, cto, rfl, wkind, wcond, gargs, margs, eargs, gto, mto, eto, wtrap⟩
structure Si where
  kind : Int
  op : Int
  a : Int
  b : Int
  n : Int
  args : List Int
  outs : List Int
def tSi0 : Ty (Int × Int × Int × Int × Int × List Int × List Int) := (Ty.int .i64).pair ((Ty.int .i64).pair ((Ty.int .i64).pair ((Ty.int .i64).pair ((Ty.int .u64).pair ((Ty.int .i64).slice.pair ((Ty.int .i64).slice))))))
def tSi : Ty Si := tSi0.iso fun a => (a.kind, a.op, a.a, a.b, a.n, a.args, a.outs)
instance : TyOk tSi := by unfold tSi tSi0; infer_instance
instance : TyMore tSi := by unfold tSi tSi0; infer_instance
instance : TyOne tSi := by unfold tSi tSi0; infer_instance
theorem opens_Si : Opens Tryz.prog 82 tSi := by
  refine opens_iso _ (fun x => ⟨x.1, x.2.1, x.2.2.1, x.2.2.2.1, x.2.2.2.2.1, x.2.2.2.2.2.1, x.2.2.2.2.2.2⟩) (fun _ => rfl) ?_
  exact opens_struct Tryz.underlying82 (by kernel_rfl) (Flds.cons rfl (by kernel_rfl) (opens_int Tryz.underlying3) (Flds.cons rfl (by kernel_rfl) (opens_int Tryz.underlying79) (Flds.cons rfl (by kernel_rfl) (opens_int Tryz.underlying3) (Flds.cons rfl (by kernel_rfl) (opens_int Tryz.underlying3) (Flds.cons rfl (by kernel_rfl) (opens_int Tryz.underlying80) (Flds.cons rfl (by kernel_rfl) (opens_slice Tryz.underlying50 (by kernel_rfl) (by decide) (opens_int Tryz.underlying3)) (Flds.one rfl (by kernel_rfl) (opens_slice Tryz.underlying50 (by kernel_rfl) (by decide) (opens_int Tryz.underlying3)))))))))
theorem Si_cells {w : World} {S : Nat → Prop} {cs : List Value} {a : Si} (h : tSi.rd w S cs a) : ∃ (Aargs : Option Addr) (cargs : Nat) (Aouts : Option Addr) (couts : Nat), cs = [.int .i64 a.kind, .int .i64 a.op, .int .i64 a.a, .int .i64 a.b, .int .u64 a.n, .slice Aargs a.args.length cargs, .slice Aouts a.outs.length couts] ∧ (Lit.int .i64 a.kind).wf = true ∧ (Lit.int .i64 a.op).wf = true ∧ (Lit.int .i64 a.a).wf = true ∧ (Lit.int .i64 a.b).wf = true ∧ (Lit.int .u64 a.n).wf = true ∧ a.args.length ≤ cargs ∧ cargs ≤ maxLen ∧ (Ty.int .i64).els w S Aargs a.args ∧ a.outs.length ≤ couts ∧ couts ≤ maxLen ∧ (Ty.int .i64).els w S Aouts a.outs := by
  obtain ⟨xkind, rkind, rfl, ⟨rfl, wkind⟩, xop, rop, rfl, ⟨rfl, wop⟩, xa, ra, rfl, ⟨rfl, wa⟩, xb, rb, rfl, ⟨rfl, wb⟩, xn, rn, rfl, ⟨rfl, wn⟩, xargs, rargs, rfl, ⟨Aargs, cargs, rfl, gargs, margs, eargs⟩, Aouts, couts, rfl, gouts, mouts, eouts⟩ := h
  exact ⟨Aargs, cargs, Aouts, couts, rfl, wkind, wop, wa, wb, wn, gargs, margs, eargs, gouts, mouts, eouts⟩
theorem Si_mk {w : World} {S : Nat → Prop} {a : Si} {Aargs : Option Addr} {cargs : Nat} {Aouts : Option Addr} {couts : Nat} (f0 : (Lit.int .i64 a.kind).wf = true) (f1 : (Lit.int .i64 a.op).wf = true) (f2 : (Lit.int .i64 a.a).wf = true) (f3 : (Lit.int .i64 a.b).wf = true) (f4 : (Lit.int .u64 a.n).wf = true) (f5 : a.args.length ≤ cargs) (f6 : cargs ≤ maxLen) (f7 : (Ty.int .i64).els w S Aargs a.args) (f8 : a.outs.length ≤ couts) (f9 : couts ≤ maxLen) (f10 : (Ty.int .i64).els w S Aouts a.outs) : tSi.rd w S [.int .i64 a.kind, .int .i64 a.op, .int .i64 a.a, .int .i64 a.b, .int .u64 a.n, .slice Aargs a.args.length cargs, .slice Aouts a.outs.length couts] a :=
  ⟨[.int .i64 a.kind], [.int .i64 a.op, .int .i64 a.a, .int .i64 a.b, .int .u64 a.n, .slice Aargs a.args.length cargs, .slice Aouts a.outs.length couts], rfl, ⟨rfl, f0⟩, ⟨[.int .i64 a.op], [.int .i64 a.a, .int .i64 a.b, .int .u64 a.n, .slice Aargs a.args.length cargs, .slice Aouts a.outs.length couts], rfl, ⟨rfl, f1⟩, ⟨[.int .i64 a.a], [.int .i64 a.b, .int .u64 a.n, .slice Aargs a.args.length cargs, .slice Aouts a.outs.length couts], rfl, ⟨rfl, f2⟩, ⟨[.int .i64 a.b], [.int .u64 a.n, .slice Aargs a.args.length cargs, .slice Aouts a.outs.length couts], rfl, ⟨rfl, f3⟩, ⟨[.int .u64 a.n], [.slice Aargs a.args.length cargs, .slice Aouts a.outs.length couts], rfl, ⟨rfl, f4⟩, ⟨[.slice Aargs a.args.length cargs], [.slice Aouts a.outs.length couts], rfl, ⟨_, _, rfl, f5, f6, f7⟩, ⟨_, _, rfl, f8, f9, f10⟩⟩⟩⟩⟩⟩⟩
theorem Si_at {w : World} {S : Nat → Prop} {A : Option Addr} {l : List Si} (h : tSi.els w S A l) (k : Nat) (hk : k < l.length) : ∃ (b o : Nat) (Aargs : Option Addr) (cargs : Nat) (Aouts : Option Addr) (couts : Nat), A = some ⟨b, o, none⟩ ∧ S b ∧ w.cell? ⟨b, o + k * 7, none⟩ = some (.int .i64 l[k].kind) ∧ w.cell? ⟨b, o + k * 7 + 1, none⟩ = some (.int .i64 l[k].op) ∧ w.cell? ⟨b, o + k * 7 + 2, none⟩ = some (.int .i64 l[k].a) ∧ w.cell? ⟨b, o + k * 7 + 3, none⟩ = some (.int .i64 l[k].b) ∧ w.cell? ⟨b, o + k * 7 + 4, none⟩ = some (.int .u64 l[k].n) ∧ w.cell? ⟨b, o + k * 7 + 5, none⟩ = some (.slice Aargs l[k].args.length cargs) ∧ w.cell? ⟨b, o + k * 7 + 6, none⟩ = some (.slice Aouts l[k].outs.length couts) ∧ (Lit.int .i64 l[k].kind).wf = true ∧ (Lit.int .i64 l[k].op).wf = true ∧ (Lit.int .i64 l[k].a).wf = true ∧ (Lit.int .i64 l[k].b).wf = true ∧ (Lit.int .u64 l[k].n).wf = true ∧ l[k].args.length ≤ cargs ∧ cargs ≤ maxLen ∧ (Ty.int .i64).els w S Aargs l[k].args ∧ l[k].outs.length ≤ couts ∧ couts ≤ maxLen ∧ (Ty.int .i64).els w S Aouts l[k].outs := by
  obtain ⟨b, o, ds, rfl, hb, hc, hr⟩ := h.at_ k hk
  obtain ⟨Aargs, cargs, Aouts, couts, rfl, f0, f1, f2, f3, f4, f5, f6, f7, f8, f9, f10⟩ := Si_cells hr
  have e : tSi.size = 7 := rfl
  rw [e] at hc
  exact ⟨b, o, Aargs, cargs, Aouts, couts, rfl, hb, hc 0 _ rfl, (by have := hc 1 _ rfl; rwa [← Nat.add_assoc] at this), (by have := hc 2 _ rfl; rwa [← Nat.add_assoc] at this), (by have := hc 3 _ rfl; rwa [← Nat.add_assoc] at this), (by have := hc 4 _ rfl; rwa [← Nat.add_assoc] at this), (by have := hc 5 _ rfl; rwa [← Nat.add_assoc] at this), (by have := hc 6 _ rfl; rwa [← Nat.add_assoc] at this), f0, f1, f2, f3, f4, f5, f6, f7, f8, f9, f10⟩
structure Sb where
  params : List Int
  ins : List Si
  end_ : En
def tSb0 : Ty (List Int × List Si × En) := (Ty.int .i64).slice.pair (tSi.slice.pair (tEn))
def tSb : Ty Sb := tSb0.iso fun a => (a.params, a.ins, a.end_)
instance : TyOk tSb := by unfold tSb tSb0; infer_instance
instance : TyMore tSb := by unfold tSb tSb0; infer_instance
theorem opens_Sb : Opens Tryz.prog 57 tSb := by
  refine opens_iso _ (fun x => ⟨x.1, x.2.1, x.2.2⟩) (fun _ => rfl) ?_
  exact opens_struct Tryz.underlying57 (by kernel_rfl) (Flds.cons rfl (by kernel_rfl) (opens_slice Tryz.underlying50 (by kernel_rfl) (by decide) (opens_int Tryz.underlying3)) (Flds.cons rfl (by kernel_rfl) (opens_slice Tryz.underlying51 (by kernel_rfl) (by decide) opens_Si) (Flds.one rfl (by kernel_rfl) opens_En)))
theorem Sb_cells {w : World} {S : Nat → Prop} {cs : List Value} {a : Sb} (h : tSb.rd w S cs a) : ∃ (Aparams : Option Addr) (cparams : Nat) (Ains : Option Addr) (cins : Nat) (Aend__args : Option Addr) (cend__args : Nat) (Aend__to : Option Addr) (cend__to : Nat), cs = [.slice Aparams a.params.length cparams, .slice Ains a.ins.length cins, .int .i64 a.end_.kind, .int .i64 a.end_.cond, .slice Aend__args a.end_.args.length cend__args, .slice Aend__to a.end_.to.length cend__to, .int .i64 a.end_.trap] ∧ a.params.length ≤ cparams ∧ cparams ≤ maxLen ∧ (Ty.int .i64).els w S Aparams a.params ∧ a.ins.length ≤ cins ∧ cins ≤ maxLen ∧ tSi.els w S Ains a.ins ∧ (Lit.int .i64 a.end_.kind).wf = true ∧ (Lit.int .i64 a.end_.cond).wf = true ∧ a.end_.args.length ≤ cend__args ∧ cend__args ≤ maxLen ∧ (Ty.int .i64).els w S Aend__args a.end_.args ∧ a.end_.to.length ≤ cend__to ∧ cend__to ≤ maxLen ∧ tEd.els w S Aend__to a.end_.to ∧ (Lit.int .i64 a.end_.trap).wf = true := by
  obtain ⟨xparams, rparams, rfl, ⟨Aparams, cparams, rfl, gparams, mparams, eparams⟩, xins, rins, rfl, ⟨Ains, cins, rfl, gins, mins, eins⟩, hend_⟩ := h
  obtain ⟨Aend__args, cend__args, Aend__to, cend__to, rfl, kend_0, kend_1, kend_2, kend_3, kend_4, kend_5, kend_6, kend_7, kend_8⟩ := En_cells hend_
  exact ⟨Aparams, cparams, Ains, cins, Aend__args, cend__args, Aend__to, cend__to, rfl, gparams, mparams, eparams, gins, mins, eins, kend_0, kend_1, kend_2, kend_3, kend_4, kend_5, kend_6, kend_7, kend_8⟩
theorem Sb_mk {w : World} {S : Nat → Prop} {a : Sb} {Aparams : Option Addr} {cparams : Nat} {Ains : Option Addr} {cins : Nat} {Aend__args : Option Addr} {cend__args : Nat} {Aend__to : Option Addr} {cend__to : Nat} (f0 : a.params.length ≤ cparams) (f1 : cparams ≤ maxLen) (f2 : (Ty.int .i64).els w S Aparams a.params) (f3 : a.ins.length ≤ cins) (f4 : cins ≤ maxLen) (f5 : tSi.els w S Ains a.ins) (f6 : (Lit.int .i64 a.end_.kind).wf = true) (f7 : (Lit.int .i64 a.end_.cond).wf = true) (f8 : a.end_.args.length ≤ cend__args) (f9 : cend__args ≤ maxLen) (f10 : (Ty.int .i64).els w S Aend__args a.end_.args) (f11 : a.end_.to.length ≤ cend__to) (f12 : cend__to ≤ maxLen) (f13 : tEd.els w S Aend__to a.end_.to) (f14 : (Lit.int .i64 a.end_.trap).wf = true) : tSb.rd w S [.slice Aparams a.params.length cparams, .slice Ains a.ins.length cins, .int .i64 a.end_.kind, .int .i64 a.end_.cond, .slice Aend__args a.end_.args.length cend__args, .slice Aend__to a.end_.to.length cend__to, .int .i64 a.end_.trap] a :=
  ⟨[.slice Aparams a.params.length cparams], [.slice Ains a.ins.length cins, .int .i64 a.end_.kind, .int .i64 a.end_.cond, .slice Aend__args a.end_.args.length cend__args, .slice Aend__to a.end_.to.length cend__to, .int .i64 a.end_.trap], rfl, ⟨_, _, rfl, f0, f1, f2⟩, ⟨[.slice Ains a.ins.length cins], [.int .i64 a.end_.kind, .int .i64 a.end_.cond, .slice Aend__args a.end_.args.length cend__args, .slice Aend__to a.end_.to.length cend__to, .int .i64 a.end_.trap], rfl, ⟨_, _, rfl, f3, f4, f5⟩, ⟨[.int .i64 a.end_.kind], [.int .i64 a.end_.cond, .slice Aend__args a.end_.args.length cend__args, .slice Aend__to a.end_.to.length cend__to, .int .i64 a.end_.trap], rfl, ⟨rfl, f6⟩, ⟨[.int .i64 a.end_.cond], [.slice Aend__args a.end_.args.length cend__args, .slice Aend__to a.end_.to.length cend__to, .int .i64 a.end_.trap], rfl, ⟨rfl, f7⟩, ⟨[.slice Aend__args a.end_.args.length cend__args], [.slice Aend__to a.end_.to.length cend__to, .int .i64 a.end_.trap], rfl, ⟨_, _, rfl, f8, f9, f10⟩, ⟨[.slice Aend__to a.end_.to.length cend__to], [.int .i64 a.end_.trap], rfl, ⟨_, _, rfl, f11, f12, f13⟩, ⟨rfl, f14⟩⟩⟩⟩⟩⟩⟩
theorem Sb_at {w : World} {S : Nat → Prop} {A : Option Addr} {l : List Sb} (h : tSb.els w S A l) (k : Nat) (hk : k < l.length) : ∃ (b o : Nat) (Aparams : Option Addr) (cparams : Nat) (Ains : Option Addr) (cins : Nat) (Aend__args : Option Addr) (cend__args : Nat) (Aend__to : Option Addr) (cend__to : Nat), A = some ⟨b, o, none⟩ ∧ S b ∧ w.cell? ⟨b, o + k * 7, none⟩ = some (.slice Aparams l[k].params.length cparams) ∧ w.cell? ⟨b, o + k * 7 + 1, none⟩ = some (.slice Ains l[k].ins.length cins) ∧ w.cell? ⟨b, o + k * 7 + 2, none⟩ = some (.int .i64 l[k].end_.kind) ∧ w.cell? ⟨b, o + k * 7 + 3, none⟩ = some (.int .i64 l[k].end_.cond) ∧ w.cell? ⟨b, o + k * 7 + 4, none⟩ = some (.slice Aend__args l[k].end_.args.length cend__args) ∧ w.cell? ⟨b, o + k * 7 + 5, none⟩ = some (.slice Aend__to l[k].end_.to.length cend__to) ∧ w.cell? ⟨b, o + k * 7 + 6, none⟩ = some (.int .i64 l[k].end_.trap) ∧ l[k].params.length ≤ cparams ∧ cparams ≤ maxLen ∧ (Ty.int .i64).els w S Aparams l[k].params ∧ l[k].ins.length ≤ cins ∧ cins ≤ maxLen ∧ tSi.els w S Ains l[k].ins ∧ (Lit.int .i64 l[k].end_.kind).wf = true ∧ (Lit.int .i64 l[k].end_.cond).wf = true ∧ l[k].end_.args.length ≤ cend__args ∧ cend__args ≤ maxLen ∧ (Ty.int .i64).els w S Aend__args l[k].end_.args ∧ l[k].end_.to.length ≤ cend__to ∧ cend__to ≤ maxLen ∧ tEd.els w S Aend__to l[k].end_.to ∧ (Lit.int .i64 l[k].end_.trap).wf = true := by
  obtain ⟨b, o, ds, rfl, hb, hc, hr⟩ := h.at_ k hk
  obtain ⟨Aparams, cparams, Ains, cins, Aend__args, cend__args, Aend__to, cend__to, rfl, f0, f1, f2, f3, f4, f5, f6, f7, f8, f9, f10, f11, f12, f13, f14⟩ := Sb_cells hr
  have e : tSb.size = 7 := rfl
  rw [e] at hc
  exact ⟨b, o, Aparams, cparams, Ains, cins, Aend__args, cend__args, Aend__to, cend__to, rfl, hb, hc 0 _ rfl, (by have := hc 1 _ rfl; rwa [← Nat.add_assoc] at this), (by have := hc 2 _ rfl; rwa [← Nat.add_assoc] at this), (by have := hc 3 _ rfl; rwa [← Nat.add_assoc] at this), (by have := hc 4 _ rfl; rwa [← Nat.add_assoc] at this), (by have := hc 5 _ rfl; rwa [← Nat.add_assoc] at this), (by have := hc 6 _ rfl; rwa [← Nat.add_assoc] at this), f0, f1, f2, f3, f4, f5, f6, f7, f8, f9, f10, f11, f12, f13, f14⟩
structure Sf where
  type : Fn
  vals : List Int
  blocks : List Sb
def tSf0 : Ty (Fn × List Int × List Sb) := tFn.pair ((Ty.int .i64).slice.pair (tSb.slice))
def tSf : Ty Sf := tSf0.iso fun a => (a.type, a.vals, a.blocks)
instance : TyOk tSf := by unfold tSf tSf0; infer_instance
instance : TyMore tSf := by unfold tSf tSf0; infer_instance
theorem opens_Sf : Opens Tryz.prog 39 tSf := by
  refine opens_iso _ (fun x => ⟨x.1, x.2.1, x.2.2⟩) (fun _ => rfl) ?_
  exact opens_struct Tryz.underlying39 (by kernel_rfl) (Flds.cons rfl (by kernel_rfl) opens_Fn (Flds.cons rfl (by kernel_rfl) (opens_slice Tryz.underlying34 (by kernel_rfl) (by decide) (opens_int Tryz.underlying59)) (Flds.one rfl (by kernel_rfl) (opens_slice Tryz.underlying37 (by kernel_rfl) (by decide) opens_Sb))))
theorem Sf_cells {w : World} {S : Nat → Prop} {cs : List Value} {a : Sf} (h : tSf.rd w S cs a) : ∃ (Atype_params : Option Addr) (ctype_params : Nat) (Atype_results : Option Addr) (ctype_results : Nat) (Avals : Option Addr) (cvals : Nat) (Ablocks : Option Addr) (cblocks : Nat), cs = [.slice Atype_params a.type.params.length ctype_params, .slice Atype_results a.type.results.length ctype_results, .slice Avals a.vals.length cvals, .slice Ablocks a.blocks.length cblocks] ∧ a.type.params.length ≤ ctype_params ∧ ctype_params ≤ maxLen ∧ (Ty.int .i64).els w S Atype_params a.type.params ∧ a.type.results.length ≤ ctype_results ∧ ctype_results ≤ maxLen ∧ (Ty.int .i64).els w S Atype_results a.type.results ∧ a.vals.length ≤ cvals ∧ cvals ≤ maxLen ∧ (Ty.int .i64).els w S Avals a.vals ∧ a.blocks.length ≤ cblocks ∧ cblocks ≤ maxLen ∧ tSb.els w S Ablocks a.blocks := by
  obtain ⟨xtype, rtype, rfl, htype, xvals, rvals, rfl, ⟨Avals, cvals, rfl, gvals, mvals, evals⟩, Ablocks, cblocks, rfl, gblocks, mblocks, eblocks⟩ := h
  obtain ⟨Atype_params, ctype_params, Atype_results, ctype_results, rfl, ktype0, ktype1, ktype2, ktype3, ktype4, ktype5⟩ := Fn_cells htype
  exact ⟨Atype_params, ctype_params, Atype_results, ctype_results, Avals, cvals, Ablocks, cblocks, rfl, ktype0, ktype1, ktype2, ktype3, ktype4, ktype5, gvals, mvals, evals, gblocks, mblocks, eblocks⟩
theorem Sf_mk {w : World} {S : Nat → Prop} {a : Sf} {Atype_params : Option Addr} {ctype_params : Nat} {Atype_results : Option Addr} {ctype_results : Nat} {Avals : Option Addr} {cvals : Nat} {Ablocks : Option Addr} {cblocks : Nat} (f0 : a.type.params.length ≤ ctype_params) (f1 : ctype_params ≤ maxLen) (f2 : (Ty.int .i64).els w S Atype_params a.type.params) (f3 : a.type.results.length ≤ ctype_results) (f4 : ctype_results ≤ maxLen) (f5 : (Ty.int .i64).els w S Atype_results a.type.results) (f6 : a.vals.length ≤ cvals) (f7 : cvals ≤ maxLen) (f8 : (Ty.int .i64).els w S Avals a.vals) (f9 : a.blocks.length ≤ cblocks) (f10 : cblocks ≤ maxLen) (f11 : tSb.els w S Ablocks a.blocks) : tSf.rd w S [.slice Atype_params a.type.params.length ctype_params, .slice Atype_results a.type.results.length ctype_results, .slice Avals a.vals.length cvals, .slice Ablocks a.blocks.length cblocks] a :=
  ⟨[.slice Atype_params a.type.params.length ctype_params, .slice Atype_results a.type.results.length ctype_results], [.slice Avals a.vals.length cvals, .slice Ablocks a.blocks.length cblocks], rfl, ⟨[.slice Atype_params a.type.params.length ctype_params], [.slice Atype_results a.type.results.length ctype_results], rfl, ⟨_, _, rfl, f0, f1, f2⟩, ⟨_, _, rfl, f3, f4, f5⟩⟩, ⟨[.slice Avals a.vals.length cvals], [.slice Ablocks a.blocks.length cblocks], rfl, ⟨_, _, rfl, f6, f7, f8⟩, ⟨_, _, rfl, f9, f10, f11⟩⟩⟩
structure Er where
  kind : Int
  cond : Int
  args : List Int
  to : Rw
  trap : Int
def tEr0 : Ty (Int × Int × List Int × Rw × Int) := (Ty.int .i64).pair ((Ty.int .i64).pair ((Ty.int .i64).slice.pair (tRw.pair ((Ty.int .i64)))))
def tEr : Ty Er := tEr0.iso fun a => (a.kind, a.cond, a.args, a.to, a.trap)
instance : TyOk tEr := by unfold tEr tEr0; infer_instance
instance : TyMore tEr := by unfold tEr tEr0; infer_instance
instance : TyOne tEr := by unfold tEr tEr0; infer_instance
theorem Er_cells {w : World} {S : Nat → Prop} {cs : List Value} {a : Er} (h : tEr.rd w S cs a) : ∃ (Aargs : Option Addr) (cargs : Nat), cs = [.int .i64 a.kind, .int .i64 a.cond, .slice Aargs a.args.length cargs, .slice a.to.A a.to.n a.to.c, .int .i64 a.trap] ∧ (Lit.int .i64 a.kind).wf = true ∧ (Lit.int .i64 a.cond).wf = true ∧ a.args.length ≤ cargs ∧ cargs ≤ maxLen ∧ (Ty.int .i64).els w S Aargs a.args ∧ (Lit.int .i64 a.trap).wf = true := by
  obtain ⟨xkind, rkind, rfl, ⟨rfl, wkind⟩, xcond, rcond, rfl, ⟨rfl, wcond⟩, xargs, rargs, rfl, ⟨Aargs, cargs, rfl, gargs, margs, eargs⟩, xto, rto, rfl, rfl, rfl, wtrap⟩ := h
  exact ⟨Aargs, cargs, rfl, wkind, wcond, gargs, margs, eargs, wtrap⟩
structure Sr where
  params : List Int
  ins : List Si
  end_ : Er
def tSr0 : Ty (List Int × List Si × Er) := (Ty.int .i64).slice.pair (tSi.slice.pair (tEr))
def tSr : Ty Sr := tSr0.iso fun a => (a.params, a.ins, a.end_)
instance : TyOk tSr := by unfold tSr tSr0; infer_instance
instance : TyMore tSr := by unfold tSr tSr0; infer_instance
instance : TyOne tSr := by unfold tSr tSr0; infer_instance
theorem Sr_cells {w : World} {S : Nat → Prop} {cs : List Value} {a : Sr} (h : tSr.rd w S cs a) : ∃ (Aparams : Option Addr) (cparams : Nat) (Ains : Option Addr) (cins : Nat) (Aend__args : Option Addr) (cend__args : Nat), cs = [.slice Aparams a.params.length cparams, .slice Ains a.ins.length cins, .int .i64 a.end_.kind, .int .i64 a.end_.cond, .slice Aend__args a.end_.args.length cend__args, .slice a.end_.to.A a.end_.to.n a.end_.to.c, .int .i64 a.end_.trap] ∧ a.params.length ≤ cparams ∧ cparams ≤ maxLen ∧ (Ty.int .i64).els w S Aparams a.params ∧ a.ins.length ≤ cins ∧ cins ≤ maxLen ∧ tSi.els w S Ains a.ins ∧ (Lit.int .i64 a.end_.kind).wf = true ∧ (Lit.int .i64 a.end_.cond).wf = true ∧ a.end_.args.length ≤ cend__args ∧ cend__args ≤ maxLen ∧ (Ty.int .i64).els w S Aend__args a.end_.args ∧ (Lit.int .i64 a.end_.trap).wf = true := by
  obtain ⟨xparams, rparams, rfl, ⟨Aparams, cparams, rfl, gparams, mparams, eparams⟩, xins, rins, rfl, ⟨Ains, cins, rfl, gins, mins, eins⟩, hend_⟩ := h
  obtain ⟨Aend__args, cend__args, rfl, kend_0, kend_1, kend_2, kend_3, kend_4, kend_5⟩ := Er_cells hend_
  exact ⟨Aparams, cparams, Ains, cins, Aend__args, cend__args, rfl, gparams, mparams, eparams, gins, mins, eins, kend_0, kend_1, kend_2, kend_3, kend_4, kend_5⟩
theorem Sr_mk {w : World} {S : Nat → Prop} {a : Sr} {Aparams : Option Addr} {cparams : Nat} {Ains : Option Addr} {cins : Nat} {Aend__args : Option Addr} {cend__args : Nat} (f0 : a.params.length ≤ cparams) (f1 : cparams ≤ maxLen) (f2 : (Ty.int .i64).els w S Aparams a.params) (f3 : a.ins.length ≤ cins) (f4 : cins ≤ maxLen) (f5 : tSi.els w S Ains a.ins) (f6 : (Lit.int .i64 a.end_.kind).wf = true) (f7 : (Lit.int .i64 a.end_.cond).wf = true) (f8 : a.end_.args.length ≤ cend__args) (f9 : cend__args ≤ maxLen) (f10 : (Ty.int .i64).els w S Aend__args a.end_.args) (f11 : (Lit.int .i64 a.end_.trap).wf = true) : tSr.rd w S [.slice Aparams a.params.length cparams, .slice Ains a.ins.length cins, .int .i64 a.end_.kind, .int .i64 a.end_.cond, .slice Aend__args a.end_.args.length cend__args, .slice a.end_.to.A a.end_.to.n a.end_.to.c, .int .i64 a.end_.trap] a :=
  ⟨[.slice Aparams a.params.length cparams], [.slice Ains a.ins.length cins, .int .i64 a.end_.kind, .int .i64 a.end_.cond, .slice Aend__args a.end_.args.length cend__args, .slice a.end_.to.A a.end_.to.n a.end_.to.c, .int .i64 a.end_.trap], rfl, ⟨_, _, rfl, f0, f1, f2⟩, ⟨[.slice Ains a.ins.length cins], [.int .i64 a.end_.kind, .int .i64 a.end_.cond, .slice Aend__args a.end_.args.length cend__args, .slice a.end_.to.A a.end_.to.n a.end_.to.c, .int .i64 a.end_.trap], rfl, ⟨_, _, rfl, f3, f4, f5⟩, ⟨[.int .i64 a.end_.kind], [.int .i64 a.end_.cond, .slice Aend__args a.end_.args.length cend__args, .slice a.end_.to.A a.end_.to.n a.end_.to.c, .int .i64 a.end_.trap], rfl, ⟨rfl, f6⟩, ⟨[.int .i64 a.end_.cond], [.slice Aend__args a.end_.args.length cend__args, .slice a.end_.to.A a.end_.to.n a.end_.to.c, .int .i64 a.end_.trap], rfl, ⟨rfl, f7⟩, ⟨[.slice Aend__args a.end_.args.length cend__args], [.slice a.end_.to.A a.end_.to.n a.end_.to.c, .int .i64 a.end_.trap], rfl, ⟨_, _, rfl, f8, f9, f10⟩, ⟨[.slice a.end_.to.A a.end_.to.n a.end_.to.c], [.int .i64 a.end_.trap], rfl, rfl, ⟨rfl, f11⟩⟩⟩⟩⟩⟩⟩
theorem Sr_at {w : World} {S : Nat → Prop} {A : Option Addr} {l : List Sr} (h : tSr.els w S A l) (k : Nat) (hk : k < l.length) : ∃ (b o : Nat) (Aparams : Option Addr) (cparams : Nat) (Ains : Option Addr) (cins : Nat) (Aend__args : Option Addr) (cend__args : Nat), A = some ⟨b, o, none⟩ ∧ S b ∧ w.cell? ⟨b, o + k * 7, none⟩ = some (.slice Aparams l[k].params.length cparams) ∧ w.cell? ⟨b, o + k * 7 + 1, none⟩ = some (.slice Ains l[k].ins.length cins) ∧ w.cell? ⟨b, o + k * 7 + 2, none⟩ = some (.int .i64 l[k].end_.kind) ∧ w.cell? ⟨b, o + k * 7 + 3, none⟩ = some (.int .i64 l[k].end_.cond) ∧ w.cell? ⟨b, o + k * 7 + 4, none⟩ = some (.slice Aend__args l[k].end_.args.length cend__args) ∧ w.cell? ⟨b, o + k * 7 + 5, none⟩ = some (.slice l[k].end_.to.A l[k].end_.to.n l[k].end_.to.c) ∧ w.cell? ⟨b, o + k * 7 + 6, none⟩ = some (.int .i64 l[k].end_.trap) ∧ l[k].params.length ≤ cparams ∧ cparams ≤ maxLen ∧ (Ty.int .i64).els w S Aparams l[k].params ∧ l[k].ins.length ≤ cins ∧ cins ≤ maxLen ∧ tSi.els w S Ains l[k].ins ∧ (Lit.int .i64 l[k].end_.kind).wf = true ∧ (Lit.int .i64 l[k].end_.cond).wf = true ∧ l[k].end_.args.length ≤ cend__args ∧ cend__args ≤ maxLen ∧ (Ty.int .i64).els w S Aend__args l[k].end_.args ∧ (Lit.int .i64 l[k].end_.trap).wf = true := by
  obtain ⟨b, o, ds, rfl, hb, hc, hr⟩ := h.at_ k hk
  obtain ⟨Aparams, cparams, Ains, cins, Aend__args, cend__args, rfl, f0, f1, f2, f3, f4, f5, f6, f7, f8, f9, f10, f11⟩ := Sr_cells hr
  have e : tSr.size = 7 := rfl
  rw [e] at hc
  exact ⟨b, o, Aparams, cparams, Ains, cins, Aend__args, cend__args, rfl, hb, hc 0 _ rfl, (by have := hc 1 _ rfl; rwa [← Nat.add_assoc] at this), (by have := hc 2 _ rfl; rwa [← Nat.add_assoc] at this), (by have := hc 3 _ rfl; rwa [← Nat.add_assoc] at this), (by have := hc 4 _ rfl; rwa [← Nat.add_assoc] at this), (by have := hc 5 _ rfl; rwa [← Nat.add_assoc] at this), (by have := hc 6 _ rfl; rwa [← Nat.add_assoc] at this), f0, f1, f2, f3, f4, f5, f6, f7, f8, f9, f10, f11⟩
theorem ints_at {k : IntKind} {w : World} {S : Nat → Prop} {A : Option Addr} {l : List Int} (h : (Ty.int k).els w S A l) (i : Nat) (hi : i < l.length) : ∃ (b o : Nat), A = some ⟨b, o, none⟩ ∧ S b ∧
    w.cell? ⟨b, o + i, none⟩ = some (.int k l[i]) ∧ (Lit.int k l[i]).wf = true := by
  obtain ⟨b, o, ds, rfl, hb, hc, rfl, hw⟩ := h.at_ i hi
  have := hc 0 _ rfl
  have e : (Ty.int k).size = 1 := rfl
  rw [e, Nat.mul_one, Nat.add_zero] at this
  exact ⟨b, o, rfl, hb, this, hw⟩
theorem int_mk {k : IntKind} {w : World} {S : Nat → Prop} {n : Int} (h : (Lit.int k n).wf = true) : (Ty.int k).rd w S [.int k n] n := ⟨rfl, h⟩
theorem blk_els {α : Type} {t : Ty α} [TyOk t] [hm : TyMore t] {w : World} {q : Nat} {S : Nat → Prop} {e : TypeId} {css : List (List Value)} {xs : List α} (hb : Blk w q e css.flatten.toArray) (hq : S q) (h : Css t w S css xs) : t.els w S (some ⟨q, 0, none⟩) xs :=
  css_els h hm (fun _ h => h) hq 0 (fun k u hu => by rw [Nat.zero_add, hb.cell]; simpa using hu)
theorem wf_bool64 {n : Int} (h : -9223372036854775808 ≤ n ∧ n ≤ 9223372036854775807) : (Lit.int .i64 n).wf = true := by
  simpa [Lit.wf, IntKind.min, IntKind.max, IntKind.signed, IntKind.bits] using h
end Go.Proofs.YtiafkakkbbclhaaGreat
namespace Go.Proofs.YtiafkakkbbclhaaGreat
def isReal (n : Nat) (t : Int) : Bool := decide (0 ≤ t) && decide (t < n)
def cntT (T : List (List Int)) (t : Int) : Nat := (T.map fun l => l.count t).sum
def outsR (n : Nat) (l : List Int) : Nat := l.countP (isReal n)
def pk (T : List (List Int)) (l : List Int) (j : Nat) : Bool := isReal T.length (l.getD j 0) && decide (2 ≤ cntT T (l.getD j 0))
def rowC (T : List (List Int)) (b : Nat) (l : List Int) (k : Nat) : List (Nat × Nat) := ((List.range k).filter (pk T l)).map fun j => (b, j)
def rowD (T : List (List Int)) (b k : Nat) : List (Nat × Nat) := if 2 ≤ outsR T.length (T.getD b []) then rowC T b (T.getD b []) k else []
def critR (T : List (List Int)) : Nat → List (Nat × Nat)
  | 0 => []
  | b + 1 => critR T b ++ rowD T b (T.getD b []).length
def crit (T : List (List Int)) : List (Nat × Nat) := critR T T.length
theorem rowC_succ (T : List (List Int)) (b : Nat) (l : List Int) (k : Nat) : rowC T b l (k + 1) = rowC T b l k ++ if pk T l k then [(b, k)] else [] := by
  unfold rowC
  rw [List.range_succ, List.filter_append, List.map_append]
  congr 1
  by_cases h : pk T l k <;> simp [h]
theorem rowC_mem {T : List (List Int)} {b : Nat} {l : List Int} {k : Nat} {p : Nat × Nat} : p ∈ rowC T b l k ↔ p.1 = b ∧ p.2 < k ∧ pk T l p.2 = true := by
  unfold rowC
  rw [List.mem_map]
  constructor
  · rintro ⟨j, hj, rfl⟩
    rw [List.mem_filter, List.mem_range] at hj
    exact ⟨rfl, hj.1, hj.2⟩
  · rintro ⟨h1, h2, h3⟩
    exact ⟨p.2, by rw [List.mem_filter, List.mem_range]; exact ⟨h2, h3⟩, by rw [← h1]⟩
theorem rowD_mem {T : List (List Int)} {b k : Nat} {p : Nat × Nat} : p ∈ rowD T b k ↔ p.1 = b ∧ p.2 < k ∧ 2 ≤ outsR T.length (T.getD p.1 []) ∧ pk T (T.getD p.1 []) p.2 = true := by
  unfold rowD
  split
  · rename_i h
    rw [rowC_mem]
    constructor
    · rintro ⟨h1, h2, h3⟩; subst h1; exact ⟨rfl, h2, h, h3⟩
    · rintro ⟨h1, h2, _, h3⟩; subst h1; exact ⟨rfl, h2, h3⟩
  · rename_i h
    constructor
    · intro h; simp at h
    · rintro ⟨h1, h2, h3, _⟩; subst h1; exact absurd h3 h
theorem critR_mem {T : List (List Int)} {b : Nat} {p : Nat × Nat} : p ∈ critR T b ↔ p.1 < b ∧ p.2 < (T.getD p.1 []).length ∧ 2 ≤ outsR T.length (T.getD p.1 []) ∧ pk T (T.getD p.1 []) p.2 = true := by
  induction b with
  | zero => simp [critR]
  | succ b ih =>
    rw [critR, List.mem_append, ih, rowD_mem]
    constructor
    · rintro (⟨h1, h2⟩ | ⟨h1, h2, h3⟩)
      · exact ⟨by omega, h2⟩
      · subst h1; exact ⟨by omega, h2, h3⟩
    · rintro ⟨h1, h2, h3⟩
      by_cases h : p.1 = b
      · subst h; exact .inr ⟨rfl, h2, h3⟩
      · exact .inl ⟨by omega, h2, h3⟩
theorem rowC_nodup (T : List (List Int)) (b : Nat) (l : List Int) (k : Nat) : (rowC T b l k).Nodup := by
  induction k with
  | zero => simp [rowC]
  | succ k ih =>
    rw [rowC_succ, List.nodup_append]
    refine ⟨ih, by split <;> simp, fun p hp q hq => ?_⟩
    have h1 := (rowC_mem.1 hp).2.1
    split at hq
    · simp at hq; subst hq; intro h; subst h; simp at h1
    · simp at hq
theorem critR_nodup (T : List (List Int)) (b : Nat) : (critR T b).Nodup := by
  induction b with
  | zero => simp [critR]
  | succ b ih =>
    rw [critR, List.nodup_append]
    refine ⟨ih, by unfold rowD; split; exact rowC_nodup ..; simp, fun p hp q hq => ?_⟩
    have h1 := (critR_mem.1 hp).1
    have h2 := (rowD_mem.1 hq).1
    intro h; subst h; omega
theorem critR_len (T : List (List Int)) : ∀ b : Nat, (critR T b).length ≤ ((T.take b).map List.length).sum := by
  intro b
  induction b with
  | zero => simp [critR]
  | succ b ih =>
    have h : (rowD T b (T.getD b []).length).length ≤ (T.getD b []).length := by
      unfold rowD; split
      · unfold rowC; rw [List.length_map]; exact Nat.le_trans (List.length_filter_le ..) (by simp)
      · simp
    rw [critR, List.length_append]
    by_cases hb : b < T.length
    · have e : T.getD b [] = T[b] := by rw [List.getD_eq_getElem?_getD, List.getElem?_eq_getElem hb]; rfl
      rw [e] at h ⊢
      rw [List.take_succ_eq_append_getElem hb, List.map_append, List.sum_append, List.map_cons, List.map_nil, List.sum_cons, List.sum_nil]
      omega
    · have e : T.getD b [] = [] := by rw [List.getD_eq_getElem?_getD, List.getElem?_eq_none (by omega)]; rfl
      rw [e] at h ⊢
      rw [List.take_of_length_le (by omega : T.length ≤ b)] at ih
      rw [List.take_of_length_le (by omega)]
      simp only [List.length_nil] at h ⊢
      omega
theorem cntT_append (T U : List (List Int)) (t : Int) : cntT (T ++ U) t = cntT T t + cntT U t := by simp [cntT]
theorem count_set_ (l : List Int) (k : Nat) (x t : Int) (hk : k < l.length) : (l.set k x).count t + (if l[k] = t then 1 else 0) = l.count t + (if x = t then 1 else 0) := by
  induction l generalizing k with
  | nil => simp at hk
  | cons a l ih =>
    cases k with
    | zero => simp only [List.set_cons_zero, List.count_cons, List.getElem_cons_zero, beq_iff_eq]; omega
    | succ k =>
      have := ih k (by simpa using hk)
      simp only [List.set_cons_succ, List.count_cons, List.getElem_cons_succ] at *
      omega
theorem cntT_set (T : List (List Int)) (b : Nat) (l : List Int) (t : Int) (hb : b < T.length) : cntT (T.set b l) t + T[b].count t = cntT T t + l.count t := by
  induction T generalizing b with
  | nil => simp at hb
  | cons a T ih =>
    cases b with
    | zero => simp [cntT]; omega
    | succ b =>
      have := ih b (by simpa using hb)
      simp only [cntT, List.set_cons_succ, List.map_cons, List.sum_cons, List.getElem_cons_succ] at *
      omega
def stepT (T : List (List Int)) (x : Int) (p : Nat × Nat) : List (List Int) := T.set p.1 ((T.getD p.1 []).set p.2 x) ++ [[(T.getD p.1 []).getD p.2 0]]
theorem stepT_cnt (T : List (List Int)) (x : Int) (p : Nat × Nat) (t : Int) (h1 : p.1 < T.length) (h2 : p.2 < (T.getD p.1 []).length) : cntT (stepT T x p) t = cntT T t + if x = t then 1 else 0 := by
  have e1 : T.getD p.1 [] = T[p.1] := by rw [List.getD_eq_getElem?_getD, List.getElem?_eq_getElem h1]; rfl
  rw [stepT, cntT_append, e1]
  rw [e1] at h2
  have a := cntT_set T p.1 (T[p.1].set p.2 x) t h1
  have b := count_set_ T[p.1] p.2 x t h2
  have e2 : T[p.1].getD p.2 0 = T[p.1][p.2] := by rw [List.getD_eq_getElem?_getD, List.getElem?_eq_getElem h2]; rfl
  have c : cntT [[T[p.1].getD p.2 0]] t = if T[p.1][p.2] = t then 1 else 0 := by
    rw [e2]
    simp only [cntT, List.map_cons, List.map_nil, List.sum_cons, List.sum_nil, List.count_cons, List.count_nil, beq_iff_eq]
    omega
  rw [c]
  omega
theorem countP_set_ (q : Int → Bool) (l : List Int) (k : Nat) (x : Int) (hk : k < l.length) (h : q x = q l[k]) : (l.set k x).countP q = l.countP q := by
  induction l generalizing k with
  | nil => simp at hk
  | cons a l ih =>
    cases k with
    | zero => simp only [List.getElem_cons_zero] at h; simp only [List.set_cons_zero, List.countP_cons, h]
    | succ k =>
      have := ih k (by simpa using hk) (by simpa using h)
      simp only [List.set_cons_succ, List.countP_cons, this]
end Go.Proofs.YtiafkakkbbclhaaGreat
namespace Go.Proofs.YtiafkakkbbclhaaGreat
def Ts (T : List (List Int)) (cr : List (Nat × Nat)) : Nat → List (List Int)
  | 0 => T
  | j + 1 => stepT (Ts T cr j) ((T.length + j : Nat) : Int) (cr.getD j (0, 0))
structure CrOk (T : List (List Int)) (cr : List (Nat × Nat)) : Prop where
  at_ : ∀ p ∈ cr, p.1 < T.length ∧ p.2 < (T.getD p.1 []).length ∧ isReal T.length ((T.getD p.1 []).getD p.2 0) = true
  once : cr.Nodup
theorem crOk_crit (T : List (List Int)) : CrOk T (crit T) :=
  ⟨fun p hp => by
    obtain ⟨h1, h2, _, h4⟩ := critR_mem.1 hp
    unfold pk at h4
    rw [Bool.and_eq_true] at h4
    exact ⟨h1, h2, h4.1⟩, critR_nodup ..⟩
theorem getD_set {α : Type} (l : List α) (i j : Nat) (x d : α) (hi : i < l.length) : (l.set i x).getD j d = if i = j then x else l.getD j d := by
  rw [List.getD_eq_getElem?_getD, List.getD_eq_getElem?_getD, List.getElem?_set]
  by_cases h : i = j
  · subst h; simp [hi]
  · simp [h]
theorem getD_app {α : Type} (l m : List α) (j : Nat) (d : α) : (l ++ m).getD j d = if j < l.length then l.getD j d else m.getD (j - l.length) d := by
  rw [List.getD_eq_getElem?_getD, List.getD_eq_getElem?_getD, List.getD_eq_getElem?_getD]
  by_cases h : j < l.length
  · rw [List.getElem?_append_left h, if_pos h]
  · rw [List.getElem?_append_right (by omega), if_neg h]
theorem getD_el {α : Type} {l : List α} {j : Nat} (d : α) (h : j < l.length) : l.getD j d = l[j] := by rw [List.getD_eq_getElem?_getD, List.getElem?_eq_getElem h]; rfl
structure TsOk (T : List (List Int)) (cr : List (Nat × Nat)) (j : Nat) : Prop where
  len : (Ts T cr j).length = T.length + j
  row : ∀ b, b < T.length → ((Ts T cr j).getD b []).length = (T.getD b []).length
  cnt : ∀ t : Int, cntT (Ts T cr j) t = cntT T t + if (T.length : Int) ≤ t ∧ t < (T.length + j : Nat) then 1 else 0
  outs : ∀ q : Int → Bool, (∀ t, isReal T.length t = true → q t = true) → (∀ i, i < cr.length → q ((T.length + i : Nat) : Int) = true) → ∀ b, b < T.length → ((Ts T cr j).getD b []).countP q = (T.getD b []).countP q
  new : ∀ i, i < j → (Ts T cr j).getD (T.length + i) [] = [(T.getD (cr.getD i (0, 0)).1 []).getD (cr.getD i (0, 0)).2 0]
  old : ∀ b k, b < T.length → k < (T.getD b []).length → ((b, k) ∈ cr.take j ∧ ∃ i : Nat, i < j ∧ ((Ts T cr j).getD b []).getD k 0 = ((T.length + i : Nat) : Int)) ∨ ((b, k) ∉ cr.take j ∧ ((Ts T cr j).getD b []).getD k 0 = (T.getD b []).getD k 0)
theorem take_mem_succ {α : Type} {l : List α} {j : Nat} (h : j < l.length) (x : α) : x ∈ l.take (j + 1) ↔ x ∈ l.take j ∨ x = l[j] := by
  rw [List.take_succ_eq_append_getElem h, List.mem_append, List.mem_singleton]
theorem nodup_take {α : Type} {l : List α} (h : l.Nodup) {j : Nat} (hj : j < l.length) : l[j] ∉ l.take j := fun hm => by
  obtain ⟨i, hi, e⟩ := List.getElem_of_mem hm
  have hi' : i < j := by rw [List.length_take] at hi; omega
  rw [List.getElem_take] at e
  have := (List.getElem_inj h).1 e
  omega
theorem tsOk {T : List (List Int)} {cr : List (Nat × Nat)} (H : CrOk T cr) : ∀ j, j ≤ cr.length → TsOk T cr j
  | 0, _ => ⟨rfl, fun _ _ => rfl, fun t => by rw [if_neg (by omega)]; rfl, fun _ _ _ _ _ => rfl, fun i hi => by omega, fun b k _ _ => .inr ⟨by simp, rfl⟩⟩
  | j + 1, hj => by
    have I := tsOk H j (by omega)
    have hj' : j < cr.length := by omega
    have eP := getD_el (0, 0) hj'
    obtain ⟨a1, a2, a3⟩ := H.at_ _ (List.getElem_mem hj')
    have hno := nodup_take H.once hj'
    have hcur : ((Ts T cr j).getD cr[j].1 []).getD cr[j].2 0 = (T.getD cr[j].1 []).getD cr[j].2 0 := by
      rcases I.old cr[j].1 cr[j].2 a1 a2 with ⟨h, _⟩ | ⟨_, h⟩
      · exact absurd h hno
      · exact h
    have hl1 : cr[j].1 < (Ts T cr j).length := by rw [I.len]; omega
    have hl2 : cr[j].2 < ((Ts T cr j).getD cr[j].1 []).length := by rw [I.row _ a1]; exact a2
    have hst : Ts T cr (j + 1) = (Ts T cr j).set cr[j].1 (((Ts T cr j).getD cr[j].1 []).set cr[j].2 ((T.length + j : Nat) : Int)) ++ [[(T.getD cr[j].1 []).getD cr[j].2 0]] := by
      rw [Ts, eP, stepT, hcur]
    have hget : ∀ b, b < T.length → (Ts T cr (j + 1)).getD b [] = if cr[j].1 = b then ((Ts T cr j).getD cr[j].1 []).set cr[j].2 ((T.length + j : Nat) : Int) else (Ts T cr j).getD b [] := fun b hb => by
      rw [hst, getD_app, if_pos (by rw [List.length_set, I.len]; omega), getD_set _ _ _ _ _ hl1]
    refine ⟨?_, ?_, ?_, ?_, ?_, ?_⟩
    · rw [hst, List.length_append, List.length_set, I.len]; simp; omega
    · intro b hb
      rw [hget b hb]
      split
      · rename_i h; subst h; rw [List.length_set]; exact I.row _ hb
      · exact I.row _ hb
    · intro t
      rw [Ts, eP, stepT_cnt _ _ _ _ hl1 hl2, I.cnt t]
      by_cases h1 : ((T.length + j : Nat) : Int) = t
      · rw [if_pos h1, if_neg (by omega), if_pos (by omega)]
      · rw [if_neg h1]
        by_cases h2 : (T.length : Int) ≤ t ∧ t < ((T.length + j : Nat) : Int)
        · rw [if_pos h2, if_pos (by omega)]
        · rw [if_neg h2, if_neg (by omega)]
    · intro q q1 q2 b hb
      rw [hget b hb]
      split
      · rename_i h
        subst h
        rw [countP_set_ _ _ _ _ hl2, I.outs q q1 q2 _ hb]
        rw [q2 j hj', ← getD_el 0 hl2, hcur, q1 _ a3]
      · exact I.outs q q1 q2 _ hb
    · intro i hi
      rw [hst, getD_app]
      by_cases h : i < j
      · rw [if_pos (by rw [List.length_set, I.len]; omega), getD_set _ _ _ _ _ hl1, if_neg (by omega)]
        exact I.new i h
      · have : i = j := by omega
        subst this
        rw [if_neg (by rw [List.length_set, I.len]; omega), List.length_set, I.len, Nat.sub_self, eP]
        rfl
    · intro b k hb hk
      rw [hget b hb, take_mem_succ hj']
      by_cases h : cr[j].1 = b
      · rw [if_pos h]
        subst h
        rw [getD_set _ _ _ _ _ hl2]
        by_cases h2 : cr[j].2 = k
        · subst h2
          exact .inl ⟨.inr rfl, j, by omega, by rw [if_pos rfl]⟩
        · rw [if_neg h2]
          rcases I.old cr[j].1 k hb hk with ⟨h3, i, h4, h5⟩ | ⟨h3, h4⟩
          · exact .inl ⟨.inl h3, i, by omega, h5⟩
          · exact .inr ⟨fun h => by rcases h with h | h; exact h3 h; exact h2 (by rw [← h]), h4⟩
      · rw [if_neg h]
        rcases I.old b k hb hk with ⟨h3, i, h4, h5⟩ | ⟨h3, h4⟩
        · exact .inl ⟨.inl h3, i, by omega, h5⟩
        · exact .inr ⟨fun h' => by rcases h' with h' | h'; exact h3 h'; exact h (by rw [← h']), h4⟩
theorem sum_zero : ∀ {l : List Nat}, (∀ c ∈ l, c = 0) → l.sum = 0
  | [], _ => rfl
  | a :: l, h => by rw [List.sum_cons, h a (by simp), sum_zero fun c hc => h c (by simp [hc])]
theorem isReal_iff {n : Nat} {t : Int} : isReal n t = true ↔ 0 ≤ t ∧ t < n := by unfold isReal; rw [Bool.and_eq_true, decide_eq_true_eq, decide_eq_true_eq]
theorem crit_none {T : List (List Int)} (hb : ∀ b k, b < T.length → k < (T.getD b []).length → (T.getD b []).getD k 0 < T.length) : crit (Ts T (crit T) (crit T).length) = [] := by
  have I := tsOk (crOk_crit T) (crit T).length (Nat.le_refl _)
  refine List.eq_nil_iff_forall_not_mem.2 fun p hp => ?_
  obtain ⟨h1, h2, h3, h4⟩ := critR_mem.1 hp
  unfold pk at h4
  rw [Bool.and_eq_true] at h4
  obtain ⟨h4, h5⟩ := h4
  have h5 := of_decide_eq_true h5
  rw [I.len] at h1
  by_cases hlt : p.1 < T.length
  · rw [I.row _ hlt] at h2
    have hc0 : ∀ t : Int, (T.length : Int) ≤ t → cntT T t = 0 := fun t ht => by
      unfold cntT
      refine sum_zero fun c hc => ?_
      obtain ⟨l, hl, rfl⟩ := List.mem_map.1 hc
      rw [List.count_eq_zero]
      intro hm
      obtain ⟨b, hb', rfl⟩ := List.getElem_of_mem hl
      obtain ⟨k, hk, rfl⟩ := List.getElem_of_mem hm
      have := hb b k hb' (by rw [getD_el _ hb']; exact hk)
      rw [getD_el _ hb', getD_el _ hk] at this
      omega
    rw [I.cnt] at h5
    rcases I.old p.1 p.2 hlt h2 with ⟨_, i, hi, e⟩ | ⟨hno, e⟩
    · rw [e, hc0 _ (by omega)] at h5
      split at h5 <;> omega
    · rw [e] at h5 h4
      have hk := hb p.1 p.2 hlt h2
      rw [if_neg (by omega)] at h5
      rw [List.take_length] at hno
      refine hno (critR_mem.2 ⟨hlt, h2, ?_, ?_⟩)
      · have ho := I.outs (isReal (Ts T (crit T) (crit T).length).length) (fun t ht => by
          rw [isReal_iff] at ht ⊢
          rw [I.len]
          omega) (fun i hi => by
          rw [isReal_iff, I.len]
          omega) p.1 hlt
        unfold outsR at h3 ⊢
        rw [ho] at h3
        rw [show (T.getD p.1 []).countP (isReal T.length) = (T.getD p.1 []).countP (isReal (Ts T (crit T) (crit T).length).length) from ?_]
        · exact h3
        · refine List.countP_congr fun t ht => ?_
          obtain ⟨k, hk, rfl⟩ := List.getElem_of_mem ht
          have := hb p.1 k hlt hk
          rw [getD_el _ hk] at this
          rw [isReal_iff, isReal_iff, I.len]
          omega
      · unfold pk
        rw [Bool.and_eq_true]
        refine ⟨?_, decide_eq_true (by omega)⟩
        rw [isReal_iff] at h4 ⊢
        exact ⟨h4.1, hk⟩
  · obtain ⟨i, hi⟩ : ∃ i, p.1 = T.length + i := ⟨p.1 - T.length, by omega⟩
    rw [hi, I.new i (by omega)] at h3
    unfold outsR at h3
    have := List.countP_le_length (p := isReal (Ts T (crit T) (crit T).length).length) (l := [(T.getD ((crit T).getD i (0, 0)).1 []).getD ((crit T).getD i (0, 0)).2 0])
    simp only [List.length_cons, List.length_nil] at this
    omega
end Go.Proofs.YtiafkakkbbclhaaGreat
namespace Go.Proofs.YtiafkakkbbclhaaGreat
def eD : Ed := ⟨0, []⟩
def bD : Sb := ⟨[], [], ⟨0, 0, [], [], 0⟩⟩
def toOf (bs : List Sb) (b : Nat) : List Ed := (bs.getD b bD).end_.to
def tosOf (bs : List Sb) : List (List Int) := bs.map fun b => b.end_.to.map (·.to)
def withTo (x : Sb) (to : List Ed) : Sb := ⟨x.params, x.ins, ⟨x.end_.kind, x.end_.cond, x.end_.args, to, x.end_.trap⟩⟩
def jmp (e : Ed) : Sb := ⟨[], [], ⟨0, 0, [], [e], 0⟩⟩
def stepB (bs : List Sb) (x : Int) (p : Nat × Nat) : List Sb := bs.set p.1 (withTo (bs.getD p.1 bD) ((toOf bs p.1).set p.2 ⟨x, []⟩)) ++ [jmp ((toOf bs p.1).getD p.2 eD)]
def Sp (bs : List Sb) (cr : List (Nat × Nat)) : Nat → List Sb
  | 0 => bs
  | j + 1 => stepB (Sp bs cr j) ((bs.length + j : Nat) : Int) (cr.getD j (0, 0))
theorem tosOf_len (bs : List Sb) : (tosOf bs).length = bs.length := by simp [tosOf]
theorem tosOf_getD (bs : List Sb) (b : Nat) : (tosOf bs).getD b [] = (toOf bs b).map (·.to) := by
  unfold tosOf toOf
  rw [List.getD_eq_getElem?_getD, List.getElem?_map, List.getD_eq_getElem?_getD]
  cases bs[b]? <;> simp [bD]
theorem to_getD (to : List Ed) (k : Nat) : (to.map (·.to)).getD k 0 = (to.getD k eD).to := by
  rw [List.getD_eq_getElem?_getD, List.getElem?_map, List.getD_eq_getElem?_getD]
  cases to[k]? <;> simp [eD]
theorem tosOf_step (bs : List Sb) (x : Int) (p : Nat × Nat) : tosOf (stepB bs x p) = stepT (tosOf bs) x p := by
  unfold stepB stepT
  rw [tosOf_getD, to_getD]
  unfold tosOf
  rw [List.map_append, List.map_set, List.map_cons, List.map_nil]
  simp only [withTo, List.map_set]
  rfl
theorem tosOf_Sp (bs : List Sb) (cr : List (Nat × Nat)) : ∀ j, tosOf (Sp bs cr j) = Ts (tosOf bs) cr j
  | 0 => rfl
  | j + 1 => by rw [Sp, tosOf_step, tosOf_Sp bs cr j, Ts, tosOf_len]
theorem Sp_len (bs : List Sb) (cr : List (Nat × Nat)) : ∀ j, (Sp bs cr j).length = bs.length + j
  | 0 => rfl
  | j + 1 => by rw [Sp, stepB, List.length_append, List.length_set, Sp_len bs cr j]; rfl
def redir (n : Nat) (cr : List (Nat × Nat)) (b i : Nat) (e : Ed) : Nat → Ed
  | 0 => e
  | k + 1 => if cr.getD k (0, 0) = (b, i) then ⟨((n + k : Nat) : Int), []⟩ else redir n cr b i e k
def turnTo (n : Nat) (cr : List (Nat × Nat)) (b : Nat) (to : List Ed) (k : Nat) : List Ed := to.mapIdx fun i e => redir n cr b i e k
def refA (bs : List Sb) (cr : List (Nat × Nat)) (k : Nat) : List Sb := bs.mapIdx fun b x => withTo x (turnTo bs.length cr b x.end_.to k)
def refJ (bs : List Sb) (cr : List (Nat × Nat)) : List Sb := cr.map fun p => jmp ((toOf bs p.1).getD p.2 eD)
def refB (bs : List Sb) (cr : List (Nat × Nat)) : List Sb := refA bs cr cr.length ++ refJ bs cr
theorem redir_none (n : Nat) (cr : List (Nat × Nat)) (b i : Nat) (e : Ed) : ∀ k, k ≤ cr.length → (b, i) ∉ cr.take k → redir n cr b i e k = e
  | 0, _, _ => rfl
  | k + 1, hk, h => by
    have hk' : k < cr.length := by omega
    rw [take_mem_succ hk'] at h
    rw [redir, getD_el _ hk', if_neg (fun h' => h (.inr h'.symm))]
    exact redir_none n cr b i e k (by omega) (fun h' => h (.inl h'))
structure CrB (bs : List Sb) (cr : List (Nat × Nat)) : Prop where
  at_ : ∀ p ∈ cr, p.1 < bs.length ∧ p.2 < (toOf bs p.1).length
  once : cr.Nodup
theorem CrOk.b {bs : List Sb} {cr : List (Nat × Nat)} (h : CrOk (tosOf bs) cr) : CrB bs cr :=
  ⟨fun p hp => by
    obtain ⟨h1, h2, _⟩ := h.at_ p hp
    rw [tosOf_len] at h1
    rw [tosOf_getD, List.length_map] at h2
    exact ⟨h1, h2⟩, h.once⟩
theorem refA_len (bs : List Sb) (cr : List (Nat × Nat)) (k : Nat) : (refA bs cr k).length = bs.length := by simp [refA]
theorem refA_getD (bs : List Sb) (cr : List (Nat × Nat)) (k b : Nat) (hb : b < bs.length) : (refA bs cr k).getD b bD = withTo (bs.getD b bD) (turnTo bs.length cr b (toOf bs b) k) := by
  rw [getD_el _ (by rw [refA_len]; exact hb)]
  unfold refA toOf
  rw [List.getElem_mapIdx, getD_el _ hb]
theorem turnTo_getD (n : Nat) (cr : List (Nat × Nat)) (b : Nat) (to : List Ed) (k i : Nat) (hi : i < to.length) : (turnTo n cr b to k).getD i eD = redir n cr b i (to.getD i eD) k := by
  rw [getD_el _ (by unfold turnTo; simpa using hi)]
  unfold turnTo
  rw [List.getElem_mapIdx, getD_el _ hi]
theorem turnTo_len (n : Nat) (cr : List (Nat × Nat)) (b : Nat) (to : List Ed) (k : Nat) : (turnTo n cr b to k).length = to.length := by simp [turnTo]
theorem turnTo_succ (n : Nat) (cr : List (Nat × Nat)) (b : Nat) (to : List Ed) (k : Nat) : turnTo n cr b to (k + 1) = if (cr.getD k (0, 0)).1 = b then (turnTo n cr b to k).set (cr.getD k (0, 0)).2 ⟨((n + k : Nat) : Int), []⟩ else turnTo n cr b to k := by
  apply List.ext_getElem
  · split <;> simp [turnTo]
  · intro i h1 h2
    have hi : i < to.length := by rw [turnTo_len] at h1; exact h1
    have e : (turnTo n cr b to (k + 1))[i] = redir n cr b i to[i] (k + 1) := by simp only [turnTo, List.getElem_mapIdx]
    have e' : (turnTo n cr b to k)[i]'(by rw [turnTo_len]; exact hi) = redir n cr b i to[i] k := by simp only [turnTo, List.getElem_mapIdx]
    rw [e, redir]
    by_cases hb : (cr.getD k (0, 0)).1 = b
    · simp only [hb, if_true] at h2 ⊢
      rw [List.getElem_set]
      by_cases hk : (cr.getD k (0, 0)).2 = i
      · rw [if_pos (Prod.ext hb hk), if_pos hk]
      · rw [if_neg (fun h => hk (by rw [h])), if_neg hk, e']
    · simp only [hb, if_false] at h2 ⊢
      rw [if_neg (fun h => hb (by rw [h])), e']
theorem Sp_ref {bs : List Sb} {cr : List (Nat × Nat)} (H : CrB bs cr) : ∀ j, j ≤ cr.length → Sp bs cr j = refA bs cr j ++ refJ bs (cr.take j)
  | 0, _ => by
    rw [Sp, List.take_zero, refJ, List.map_nil, List.append_nil]
    unfold refA turnTo
    apply List.ext_getElem
    · simp
    · intro i h1 h2
      rw [List.getElem_mapIdx]
      have : (bs[i].end_.to.mapIdx fun k e => redir bs.length cr i k e 0) = bs[i].end_.to := by
        apply List.ext_getElem
        · simp
        · intro k _ _; rw [List.getElem_mapIdx]; rfl
      rw [this]
      rfl
  | j + 1, hj => by
    have hj' : j < cr.length := by omega
    obtain ⟨a1, a2⟩ := H.at_ _ (List.getElem_mem hj')
    have hno := nodup_take H.once hj'
    rw [Sp, Sp_ref H j (by omega), getD_el _ hj', stepB]
    have hg : (refA bs cr j ++ refJ bs (cr.take j)).getD cr[j].1 bD = withTo (bs.getD cr[j].1 bD) (turnTo bs.length cr cr[j].1 (toOf bs cr[j].1) j) := by
      rw [getD_app, if_pos (by rw [refA_len]; exact a1), refA_getD _ _ _ _ a1]
    have ht : toOf (refA bs cr j ++ refJ bs (cr.take j)) cr[j].1 = turnTo bs.length cr cr[j].1 (toOf bs cr[j].1) j := by
      unfold toOf; rw [hg]; rfl
    rw [hg, ht, turnTo_getD _ _ _ _ _ _ a2, show redir bs.length cr cr[j].1 cr[j].2 ((toOf bs cr[j].1).getD cr[j].2 eD) j = _ from redir_none _ _ _ _ _ _ (by omega) hno]
    have hJ : refJ bs (cr.take (j + 1)) = refJ bs (cr.take j) ++ [jmp ((toOf bs cr[j].1).getD cr[j].2 eD)] := by
      rw [List.take_succ_eq_append_getElem hj', refJ, List.map_append]; rfl
    rw [hJ, ← List.append_assoc]
    congr 1
    rw [List.set_append_left _ _ (by rw [refA_len]; exact a1)]
    congr 1
    apply List.ext_getElem
    · simp [refA]
    · intro b h1 h2
      rw [List.getElem_set]
      have hb : b < bs.length := by rw [refA_len] at h2; exact h2
      have e2 : (refA bs cr (j + 1))[b] = withTo bs[b] (turnTo bs.length cr b bs[b].end_.to (j + 1)) := by simp only [refA, List.getElem_mapIdx]
      have e1 : (refA bs cr j)[b]'(by rw [refA_len]; exact hb) = withTo bs[b] (turnTo bs.length cr b bs[b].end_.to j) := by simp only [refA, List.getElem_mapIdx]
      rw [e2, e1, turnTo_succ, getD_el _ hj']
      split
      · rename_i h
        subst h
        unfold toOf
        rw [getD_el _ a1]
        rfl
      · rfl
theorem Sp_all {bs : List Sb} {cr : List (Nat × Nat)} (H : CrB bs cr) : Sp bs cr cr.length = refB bs cr := by
  rw [Sp_ref H _ (Nat.le_refl _), List.take_length]; rfl
end Go.Proofs.YtiafkakkbbclhaaGreat
namespace Go.Proofs.YtiafkakkbbclhaaGreat
def Edg (nx : List (List Int)) (a b : Nat) : Prop := b < nx.length ∧ ∃ l, nx[a]? = some l ∧ (b : Int) ∈ l
inductive Rch (nx : List (List Int)) (W : Nat → Prop) : Nat → Prop
  | zero : 0 < nx.length → ¬ W 0 → Rch nx W 0
  | step {a b : Nat} : Rch nx W a → Edg nx a b → ¬ W b → Rch nx W b
inductive Pth (nx : List (List Int)) (W : Nat → Prop) (s : Nat) : Nat → Prop
  | refl : Pth nx W s s
  | step {a b : Nat} : Pth nx W s a → Edg nx a b → ¬ W b → Pth nx W s b
section
variable {nx : List (List Int)} {W W' : Nat → Prop} {a b c s x : Nat}
theorem Rch.out (h : Rch nx W x) : ¬ W x := by cases h <;> assumption
theorem Rch.lt (h : Rch nx W x) : x < nx.length := by
  cases h with
  | zero h _ => exact h
  | step _ e _ => exact e.1
theorem Rch.mono (h : Rch nx W x) (hw : ∀ k, W' k → W k) : Rch nx W' x := by
  induction h with
  | zero h w => exact .zero h (fun k => w (hw _ k))
  | step _ e w ih => exact .step ih e (fun k => w (hw _ k))
theorem Rch.path (h : Rch nx W s) (p : Pth nx W s x) : Rch nx W x := by
  induction p with
  | refl => exact h
  | step _ e w ih => exact .step ih e w
theorem Pth.mono (h : Pth nx W s x) (hw : ∀ k, W' k → W k) : Pth nx W' s x := by
  induction h with
  | refl => exact .refl
  | step _ e w ih => exact .step ih e (fun k => w (hw _ k))
theorem Rch.split (b : Nat) (h : Rch nx W x) : Rch nx (fun k => W k ∨ k = b) x ∨ Rch nx W b := by
  induction h with
  | zero h w =>
    by_cases hb : 0 = b
    · exact .inr (hb ▸ .zero h w)
    · exact .inl (.zero h (fun k => k.elim w hb))
  | step r e w ih =>
    rename_i u v
    rcases ih with ih | ih
    · by_cases hb : v = b
      · exact .inr (hb ▸ .step r e w)
      · exact .inl (.step ih e (fun k => k.elim w hb))
    · exact .inr ih
theorem Rch.first (hab : a ≠ b) (h : Rch nx (fun _ => False) x) : Rch nx (· = b) a ∨ Rch nx (· = a) b ∨ Rch nx (fun k => k = a ∨ k = b) x := by
  induction h with
  | zero h _ =>
    by_cases ha : 0 = a
    · exact .inl (ha ▸ .zero h (fun k => hab (ha ▸ k)))
    · by_cases hb : 0 = b
      · exact .inr (.inl (hb ▸ .zero h (fun k => hab (hb ▸ k.symm))))
      · exact .inr (.inr (.zero h (fun k => k.elim ha hb)))
  | step r e w0 ih =>
    rename_i u v
    rcases ih with ih | ih | ih
    · exact .inl ih
    · exact .inr (.inl ih)
    · by_cases ha : v = a
      · exact .inl (ha ▸ .step (ih.mono (fun k h => .inr h)) e (fun k => hab (ha ▸ k)))
      · by_cases hb : v = b
        · exact .inr (.inl (hb ▸ .step (ih.mono (fun k h => .inl h)) e (fun k => hab (hb ▸ k.symm))))
        · exact .inr (.inr (.step ih e (fun k => k.elim ha hb)))
theorem Rch.last (a b : Nat) (h : Rch nx (fun _ => False) x) : Rch nx (fun k => k = a ∨ k = b) x ∨ Pth nx (fun k => k = a ∨ k = b) a x ∨ Pth nx (fun k => k = a ∨ k = b) b x := by
  induction h with
  | zero h _ =>
    by_cases ha : 0 = a
    · exact .inr (.inl (ha ▸ .refl))
    · by_cases hb : 0 = b
      · exact .inr (.inr (hb ▸ .refl))
      · exact .inl (.zero h (fun k => k.elim ha hb))
  | step r e w0 ih =>
    rename_i u v
    by_cases ha : v = a
    · exact .inr (.inl (ha ▸ .refl))
    · by_cases hb : v = b
      · exact .inr (.inr (hb ▸ .refl))
      · rcases ih with ih | ih | ih
        · exact .inl (.step ih e (fun k => k.elim ha hb))
        · exact .inr (.inl (.step ih e (fun k => k.elim ha hb)))
        · exact .inr (.inr (.step ih e (fun k => k.elim ha hb)))
def Dom (nx : List (List Int)) (a b : Nat) : Prop := Rch nx (fun _ => False) b ∧ ¬ Rch nx (· = a) b
theorem Dom.refl (h : Rch nx (fun _ => False) b) : Dom nx b b := ⟨h, fun r => r.out rfl⟩
theorem Dom.left (h : Dom nx a b) : Rch nx (fun _ => False) a := (h.1.split a).elim (fun r => absurd (r.mono (fun _ e => .inr e)) h.2) (fun r => r)
theorem Dom.trans (h : Dom nx a b) (k : Dom nx b c) : Dom nx a c :=
  ⟨k.1, fun r => (r.split b).elim (fun q => k.2 (q.mono (fun _ e => .inr e))) h.2⟩
theorem Dom.anti (h : Dom nx a b) (k : Dom nx b a) : a = b := by
  by_cases hab : a = b
  · exact hab
  · rcases h.1.first hab with r | r | r
    · exact absurd r k.2
    · exact absurd r h.2
    · exact absurd (.inr rfl) r.out
theorem Dom.total (h : Dom nx a b) (k : Dom nx c b) : Dom nx a c ∨ Dom nx c a := by
  by_cases h1 : Rch nx (· = a) c
  · by_cases h2 : Rch nx (· = c) a
    · exfalso
      rcases h.1.last a c with r | r | r
      · exact h.2 (r.mono (fun _ e => .inl e))
      · exact k.2 (h2.path (r.mono (fun _ e => .inr e)))
      · exact h.2 (h1.path (r.mono (fun _ e => .inl e)))
    · exact .inr ⟨h.left, h2⟩
  · exact .inl ⟨k.left, h1⟩
end
open Classical in
noncomputable def bestF (nx : List (List Int)) (b : Nat) : Nat → Int
  | 0 => -1
  | k + 1 => if k ≠ b ∧ Dom nx k b ∧ (bestF nx b k < 0 ∨ Dom nx (bestF nx b k).toNat k) then (k : Int) else bestF nx b k
section
variable {nx : List (List Int)} {a b c : Nat}
theorem bestF_spec (nx : List (List Int)) (b : Nat) : ∀ k, (bestF nx b k = -1 ∧ ∀ c, c < k → c ≠ b → ¬ Dom nx c b) ∨ (∃ d : Nat, bestF nx b k = (d : Int) ∧ d < k ∧ d ≠ b ∧ Dom nx d b ∧ ∀ c, c < k → c ≠ b → Dom nx c b → c = d ∨ Dom nx c d)
  | 0 => .inl ⟨rfl, fun c h => by omega⟩
  | k + 1 => by
    have ih := bestF_spec nx b k
    unfold bestF
    by_cases hk : k ≠ b ∧ Dom nx k b
    · rcases ih with ⟨e, h⟩ | ⟨d, e, hd, hb, hD, h⟩
      · rw [if_pos ⟨hk.1, hk.2, .inl (by omega)⟩]
        refine .inr ⟨k, rfl, by omega, hk.1, hk.2, fun c hc hcb hcd => ?_⟩
        rcases Nat.lt_or_ge c k with h1 | h1
        · exact absurd hcd (h c h1 hcb)
        · exact .inl (by omega)
      · by_cases hdk : Dom nx d k
        · rw [if_pos ⟨hk.1, hk.2, .inr (by rw [e]; exact hdk)⟩]
          refine .inr ⟨k, rfl, by omega, hk.1, hk.2, fun c hc hcb hcd => ?_⟩
          rcases Nat.lt_or_ge c k with h1 | h1
          · rcases h c h1 hcb hcd with rfl | h2
            · exact .inr hdk
            · exact .inr (h2.trans hdk)
          · exact .inl (by omega)
        · rw [if_neg (fun hh => hh.2.2.elim (fun h1 => by omega) (fun h1 => hdk (by rw [e] at h1; exact h1)))]
          refine .inr ⟨d, e, by omega, hb, hD, fun c hc hcb hcd => ?_⟩
          rcases Nat.lt_or_ge c k with h1 | h1
          · exact h c h1 hcb hcd
          · have : c = k := by omega
            subst this
            exact .inr ((hcd.total hD).resolve_right hdk)
    · rw [if_neg (fun hh => hk ⟨hh.1, hh.2.1⟩)]
      have hne : ∀ c, c < k + 1 → c ≠ b → Dom nx c b → c < k := fun c hc hcb hcd => by
        rcases Nat.lt_or_ge c k with h1 | h1
        · exact h1
        · have : c = k := by omega
          subst this
          exact absurd ⟨hcb, hcd⟩ hk
      rcases ih with ⟨e, h⟩ | ⟨d, e, hd, hb, hD, h⟩
      · exact .inl ⟨e, fun c hc hcb hcd => h c (hne c hc hcb hcd) hcb hcd⟩
      · exact .inr ⟨d, e, by omega, hb, hD, fun c hc hcb hcd => h c (hne c hc hcb hcd) hcb hcd⟩
end
noncomputable def idomF (nx : List (List Int)) : List Int := (List.range nx.length).map fun b => bestF nx b nx.length
def upF (idom : List Int) (a : Int) : Int := if a < 0 ∨ (idom.length : Int) ≤ a then -1 else match idom[a.toNat]? with
  | some d => if d < 0 ∨ (idom.length : Int) ≤ d then -1 else d
  | none => -1
def walkF (idom : List Int) (a : Int) : Nat → Int → Bool
  | 0, _ => false
  | k + 1, b => if b < 0 then false else if a = b then true else walkF idom a k (upF idom b)
open Classical in
noncomputable def above (nx : List (List Int)) (b : Nat) : Nat := (List.range nx.length).countP fun c => decide (c ≠ b ∧ Dom nx c b)
theorem countP_lt {α : Type} {p q : α → Bool} : ∀ {l : List α} {d : α}, d ∈ l → (∀ c ∈ l, p c = true → q c = true) → p d = false → q d = true → l.countP p < l.countP q
  | [], _, h, _, _, _ => by cases h
  | a :: l, d, hm, hi, hp, hq => by
    rw [List.countP_cons, List.countP_cons]
    rcases List.mem_cons.1 hm with rfl | hm
    · have := List.countP_mono_left (l := l) (p := p) (q := q) (fun c hc => hi c (List.mem_cons_of_mem _ hc))
      rw [hp, hq]
      simp
      omega
    · have := countP_lt hm (fun c hc => hi c (List.mem_cons_of_mem _ hc)) hp hq
      have h2 := hi a List.mem_cons_self
      cases hpa : p a <;> cases hqa : q a <;> simp_all <;> omega
section
variable {nx : List (List Int)} {a b c d : Nat}
theorem idomF_get (hb : b < nx.length) : (idomF nx)[b]? = some (bestF nx b nx.length) := by simp [idomF, hb]
theorem upF_idom (hb : b < nx.length) : upF (idomF nx) b = bestF nx b nx.length := by
  unfold upF
  have hl : (idomF nx).length = nx.length := by simp [idomF]
  rw [if_neg (by omega), Int.toNat_natCast, idomF_get hb]
  rcases bestF_spec nx b nx.length with ⟨e, -⟩ | ⟨d, e, hd, -⟩
  · simp only [e]
    split <;> rfl
  · simp only [e]; rw [if_neg (by omega)]
theorem above_lt (h : Dom nx d b) (hne : d ≠ b) : above nx d < above nx b := by
  unfold above
  refine countP_lt (d := d) (List.mem_range.2 h.left.lt) (fun c _ hc => ?_) (by simp) (by simp [hne, h])
  simp only [decide_eq_true_eq] at hc ⊢
  exact ⟨fun e => by subst e; exact hne ((h.anti hc.2)), hc.2.trans h⟩
theorem walkF_spec : ∀ (k b : Nat), Rch nx (fun _ => False) b → above nx b < k → (walkF (idomF nx) (a : Int) k (b : Int) = true ↔ Dom nx a b)
  | 0, b, _, h => by omega
  | k + 1, b, hr, h => by
    unfold walkF
    rw [if_neg (by omega)]
    by_cases hab : (a : Int) = b
    · have : a = b := by omega
      subst this
      simp [Dom.refl hr]
    · rw [if_neg hab, upF_idom hr.lt]
      have hne : a ≠ b := fun e => hab (by rw [e])
      rcases bestF_spec nx b nx.length with ⟨e, hn⟩ | ⟨d, e, hd, hdb, hD, hn⟩
      · rw [e]
        have hf : walkF (idomF nx) (a : Int) k (-1) = false := by cases k <;> simp [walkF]
        rw [hf]
        exact ⟨(fun h => by cases h), fun hh => absurd hh (hn a hh.left.lt hne)⟩
      · rw [e, walkF_spec k d hD.left (by have := above_lt hD hdb; omega)]
        refine ⟨fun hh => hh.trans hD, fun hh => ?_⟩
        rcases hn a hh.left.lt hne hh with rfl | h2
        · exact Dom.refl hD.left
        · exact h2
theorem above_le : above nx b < nx.length + 1 := by
  unfold above
  exact Nat.lt_succ_of_le (Nat.le_trans List.countP_le_length (by rw [List.length_range]; exact Nat.le_refl _))
theorem over_dom (h : Rch nx (fun _ => False) b) : walkF (idomF nx) (a : Int) (nx.length + 1) (b : Int) = true ↔ Dom nx a b := walkF_spec _ _ h above_le
end
structure Spl (nx nx' : List (List Int)) (m : Nat) (src tgt : Nat → Nat) : Prop where
  len : nx'.length = nx.length + m
  pos : 0 < nx.length
  hs : ∀ j, j < m → src j < nx.length
  ht : ∀ j, j < m → tgt j < nx.length
  to : ∀ a b, a < nx.length → b < nx.length → Edg nx a b → Edg nx' a b ∨ ∃ j, j < m ∧ src j = a ∧ tgt j = b
  from_ : ∀ a b, a < nx.length → b < nx.length → Edg nx' a b → Edg nx a b
  e : ∀ j, j < m → Edg nx (src j) (tgt j)
  in_ : ∀ j, j < m → Edg nx' (src j) (nx.length + j)
  out : ∀ j, j < m → Edg nx' (nx.length + j) (tgt j)
  pre : ∀ a j, j < m → Edg nx' a (nx.length + j) → a = src j
  post : ∀ j b, j < m → Edg nx' (nx.length + j) b → b = tgt j
section
variable {nx nx' : List (List Int)} {m : Nat} {src tgt : Nat → Nat} {W : Nat → Prop} {a b j : Nat}
theorem Edg.src_lt (h : Edg nx a b) : a < nx.length := by
  obtain ⟨_, l, hl, _⟩ := h
  exact (List.getElem?_eq_some_iff.1 hl).1
theorem Spl.rch1 (s : Spl nx nx' m src tgt) (hW : ∀ k, W k → k < nx.length) (h : Rch nx W b) : Rch nx' W b := by
  induction h with
  | zero h w => exact .zero (by have := s.len; omega) w
  | step r e w ih =>
    rename_i u v
    rcases s.to u v r.lt e.1 e with h | ⟨j, hj, rfl, rfl⟩
    · exact .step ih h w
    · exact .step (.step ih (s.in_ j hj) (fun k => by have := hW _ k; omega)) (s.out j hj) w
theorem Spl.rch2 (s : Spl nx nx' m src tgt) (h : Rch nx' W b) : (b < nx.length → Rch nx W b) ∧ (∀ j, j < m → b = nx.length + j → Rch nx W (src j)) := by
  induction h with
  | zero h w => exact ⟨fun h => .zero h w, fun j _ e => by have := s.pos; omega⟩
  | step r e w ih =>
    rename_i u v
    have hu := Edg.src_lt e
    rw [s.len] at hu
    refine ⟨fun hv => ?_, fun j hj hv => ?_⟩
    · by_cases hun : u < nx.length
      · exact .step (ih.1 hun) (s.from_ u v hun hv e) w
      · have hj : u - nx.length < m := by omega
        have eu : u = nx.length + (u - nx.length) := by omega
        have ev := s.post (u - nx.length) v hj (by rw [← eu]; exact e)
        have hr := ih.2 (u - nx.length) hj eu
        rw [ev]
        exact .step hr (s.e _ hj) (by rw [← ev]; exact w)
    · subst hv
      have eu := s.pre u j hj e
      rw [← eu]
      exact ih.1 (by rw [eu]; exact s.hs j hj)
theorem Spl.rch (s : Spl nx nx' m src tgt) (hW : ∀ k, W k → k < nx.length) (hb : b < nx.length) : Rch nx' W b ↔ Rch nx W b := ⟨fun h => (s.rch2 h).1 hb, s.rch1 hW⟩
theorem Spl.rchN (s : Spl nx nx' m src tgt) (hW : ∀ k, W k → k < nx.length) (hj : j < m) : Rch nx' W (nx.length + j) ↔ Rch nx W (src j) :=
  ⟨fun h => (s.rch2 h).2 j hj rfl, fun h => .step (s.rch1 hW h) (s.in_ j hj) (fun k => by have := hW _ k; omega)⟩
theorem Spl.dom (s : Spl nx nx' m src tgt) (ha : a < nx.length) (hb : b < nx.length) : Dom nx' a b ↔ Dom nx a b := by
  unfold Dom
  rw [s.rch (fun _ h => h.elim) hb, s.rch (W := (· = a)) (fun k h => by omega) hb]
theorem Spl.domN (s : Spl nx nx' m src tgt) (ha : a < nx.length) (hj : j < m) : Dom nx' a (nx.length + j) ↔ Dom nx a (src j) := by
  unfold Dom
  rw [s.rchN (fun _ h => h.elim) hj, s.rchN (W := (· = a)) (fun k h => by omega) hj]
end
end Go.Proofs.YtiafkakkbbclhaaGreat
namespace Go.Proofs.YtiafkakkbbclhaaGreat
section
variable (vals : List Int)
def inR (v : Int) : Prop := 0 ≤ v ∧ v < (vals.length : Int)
instance (v : Int) : Decidable (inR vals v) := by unfold inR; infer_instance
def allT (l : List Int) : Option (List Int) := if ∀ v ∈ l, inR vals v then some (l.map fun v => vals.getD v.toNat 0) else none
def typedB (l ts : List Int) : Bool := allT vals l == some ts
end
def outsB (b : Sb) : List Int := b.params ++ b.ins.flatMap (·.outs)
def dfn (bs : List Sb) (v : Int) : Int := match bs.findIdx? (fun b => (outsB b).contains v) with
  | some b => (b : Int)
  | none => -1
def nextOf (bs : List Sb) : List (List Int) := bs.map fun b => (b.end_.to.map (·.to)).filter (isReal bs.length)
def usedE (e : En) : List Int := (if e.kind = 1 ∨ e.kind = 2 then [e.cond] else []) ++ e.args ++ e.to.flatMap (·.args)
open Classical in
def Stnd (vals : List Int) (bs : List Sb) (b : Nat) (here : List Int) (v : Int) : Prop :=
  inR vals v ∧ 0 ≤ dfn bs v ∧ (¬ Rch (nextOf bs) (fun _ => False) b ∨ (dfn bs v = b ∧ v ∈ here) ∨ (dfn bs v ≠ b ∧ walkF (idomF (nextOf bs)) (dfn bs v) (bs.length + 1) b = true))
def InsV (T : Si → Option Fn) (vals : List Int) (P : Si → Prop) (bs : List Sb) (b : Nat) : List Int → List Si → Prop
  | _, [] => True
  | here, x :: r => (∃ f, T x = some f ∧ typedB vals x.args f.params = true ∧ typedB vals x.outs f.results = true) ∧ P x ∧ (∀ v ∈ x.args, Stnd vals bs b here v) ∧ InsV T vals P bs b (here ++ x.outs) r
structure BlkV (T : Si → Option Fn) (vals : List Int) (P : Si → Prop) (Q : Int → Int → List Int → Nat → Int → Prop) (bs : List Sb) (b : Nat) (x : Sb) : Prop where
  par : ∀ v ∈ x.params, inR vals v
  ins : InsV T vals P bs b x.params x.ins
  end_ : Q x.end_.kind x.end_.cond x.end_.args x.end_.to.length x.end_.trap
  edge : ∀ e ∈ x.end_.to, isReal bs.length e.to = true ∧ ∃ ts, allT vals (bs.getD e.to.toNat bD).params = some ts ∧ typedB vals e.args ts = true
  use : ∀ v ∈ usedE x.end_, Stnd vals bs b (outsB x) v
structure FormV (T : Si → Option Fn) (vals : List Int) (P : Si → Prop) (Q : Int → Int → List Int → Nat → Int → Prop) (bs : List Sb) : Prop where
  ne : bs ≠ []
  par0 : (bs.getD 0 bD).params = []
  once : ∀ v, inR vals v → (bs.flatMap outsB).count v ≤ 1
  blk : ∀ b (h : b < bs.length), BlkV T vals P Q bs b bs[b]
theorem outsB_jmp (e : Ed) : outsB (jmp e) = [] := rfl
section
variable {bs : List Sb} {cr : List (Nat × Nat)}
theorem refB_len : (refB bs cr).length = bs.length + cr.length := by simp [refB, refA, refJ]
theorem refB_old {b : Nat} (hb : b < bs.length) : (refB bs cr)[b]? = some (withTo bs[b] (turnTo bs.length cr b bs[b].end_.to cr.length)) := by
  unfold refB
  rw [List.getElem?_append_left (by rw [refA_len]; exact hb)]
  simp [refA, hb]
theorem refB_new {j : Nat} (hj : j < cr.length) : (refB bs cr)[bs.length + j]? = some (jmp ((toOf bs cr[j].1).getD cr[j].2 eD)) := by
  unfold refB
  rw [List.getElem?_append_right (by rw [refA_len]; omega), refA_len, Nat.add_sub_cancel_left]
  simp [refJ, hj]
theorem findIdx_map {α β : Type} {p : α → Bool} {q : β → Bool} : ∀ {l : List α} {m : List β}, l.length = m.length → (∀ i (h1 : i < l.length) (h2 : i < m.length), p l[i] = q m[i]) → l.findIdx? p = m.findIdx? q
  | [], [], _, _ => rfl
  | [], _ :: _, h, _ => by simp at h
  | _ :: _, [], h, _ => by simp at h
  | a :: l, b :: m, h, k => by
    have h0 := k 0 (by simp) (by simp)
    simp only [List.getElem_cons_zero] at h0
    rw [List.findIdx?_cons, List.findIdx?_cons, h0, findIdx_map (by simpa using h) (fun i h1 h2 => by have := k (i + 1) (by simpa using h1) (by simpa using h2); rwa [List.getElem_cons_succ, List.getElem_cons_succ] at this)]
theorem outs_refA : ∀ i (h1 : i < (refA bs cr cr.length).length) (h2 : i < bs.length), outsB (refA bs cr cr.length)[i] = outsB bs[i] := fun i h1 h2 => by
  simp only [refA, List.getElem_mapIdx]
  rfl
theorem dfn_refB (v : Int) : dfn (refB bs cr) v = dfn bs v := by
  unfold dfn refB
  rw [List.findIdx?_append, findIdx_map (q := fun b => (outsB b).contains v) (m := bs) (refA_len bs cr cr.length) (fun i h1 h2 => by rw [outs_refA i h1 h2])]
  have hJ : (refJ bs cr).findIdx? (fun b => (outsB b).contains v) = none := by
    rw [List.findIdx?_eq_none_iff]
    intro x hx
    unfold refJ at hx
    obtain ⟨p, _, rfl⟩ := List.mem_map.1 hx
    simp [outsB_jmp]
  rw [hJ]
  cases bs.findIdx? (fun b => (outsB b).contains v) <;> rfl
theorem flat_refB : (refB bs cr).flatMap outsB = bs.flatMap outsB := by
  unfold refB
  rw [List.flatMap_append]
  have hJ : (refJ bs cr).flatMap outsB = [] := by
    unfold refJ
    rw [List.flatMap_map]
    simp [outsB_jmp]
  rw [hJ, List.append_nil]
  have : (refA bs cr cr.length).map outsB = bs.map outsB := by
    apply List.ext_getElem
    · simp [refA_len]
    · intro i h1 h2
      rw [List.getElem_map, List.getElem_map]
      exact outs_refA i (by simpa using h1) (by simpa using h2)
  rw [List.flatMap_def, List.flatMap_def, this]
theorem redir_cases (n : Nat) (cr : List (Nat × Nat)) (b i : Nat) (e : Ed) : ∀ k, redir n cr b i e k = e ∨ ∃ j, j < k ∧ redir n cr b i e k = ⟨((n + j : Nat) : Int), []⟩ ∧ cr.getD j (0, 0) = (b, i)
  | 0 => .inl rfl
  | k + 1 => by
    unfold redir
    by_cases h : cr.getD k (0, 0) = (b, i)
    · rw [if_pos h]
      exact .inr ⟨k, by omega, rfl, h⟩
    · rw [if_neg h]
      rcases redir_cases n cr b i e k with h1 | ⟨j, hj, h1, h2⟩
      · exact .inl h1
      · exact .inr ⟨j, by omega, h1, h2⟩
theorem nodup_inj {α : Type} {l : List α} (h : l.Nodup) {i j : Nat} (hi : i < l.length) (hj : j < l.length) (e : l[i] = l[j]) : i = j := by
  rcases Nat.lt_trichotomy i j with h1 | h1 | h1
  · exact absurd (e ▸ List.mem_take_iff_getElem.2 ⟨i, by omega, rfl⟩) (nodup_take h hj)
  · exact h1
  · exact absurd (e ▸ List.mem_take_iff_getElem.2 ⟨j, by omega, rfl⟩) (nodup_take h hi)
theorem redir_hit {n : Nat} {cr : List (Nat × Nat)} (hn : cr.Nodup) {b i : Nat} {e : Ed} {j : Nat} (hj : j < cr.length) (h : cr[j] = (b, i)) : ∀ k, j < k → k ≤ cr.length → redir n cr b i e k = ⟨((n + j : Nat) : Int), []⟩
  | 0, h0, _ => by omega
  | k + 1, h0, hk => by
    unfold redir
    by_cases hkj : k = j
    · subst hkj
      rw [if_pos (by rw [getD_el _ hj]; exact h)]
    · have hk' : k < cr.length := by omega
      rw [if_neg (fun hh => by
        rw [getD_el _ hk'] at hh
        exact hkj (nodup_inj hn hk' hj (hh.trans h.symm)))]
      exact redir_hit hn hj h k (by omega) (by omega)
theorem edg_iff {bs : List Sb} {a b : Nat} : Edg (nextOf bs) a b ↔ b < bs.length ∧ ∃ x : Sb, bs[a]? = some x ∧ ∃ (i : Nat) (e : Ed), x.end_.to[i]? = some e ∧ e.to = (b : Int) := by
  unfold Edg nextOf
  rw [List.length_map, List.getElem?_map]
  constructor
  · rintro ⟨hb, l, hl, hm⟩
    obtain ⟨x, hx, rfl⟩ := Option.map_eq_some_iff.1 hl
    obtain ⟨e, he, hq⟩ := List.mem_map.1 (List.mem_filter.1 hm).1
    obtain ⟨i, hi, rfl⟩ := List.getElem_of_mem he
    exact ⟨hb, x, hx, i, _, List.getElem?_eq_getElem hi, hq⟩
  · rintro ⟨hb, x, hx, i, e, hi, hq⟩
    refine ⟨hb, _, by rw [hx]; rfl, List.mem_filter.2 ⟨List.mem_map.2 ⟨e, List.mem_of_getElem? hi, hq⟩, ?_⟩⟩
    rw [isReal_iff]
    omega
def srcOf (cr : List (Nat × Nat)) (j : Nat) : Nat := (cr.getD j (0, 0)).1
def tgtOf (bs : List Sb) (cr : List (Nat × Nat)) (j : Nat) : Nat := ((toOf bs (srcOf cr j)).getD (cr.getD j (0, 0)).2 eD).to.toNat
def AllReal (bs : List Sb) : Prop := ∀ x ∈ bs, ∀ e ∈ x.end_.to, isReal bs.length e.to = true
theorem crit_edge (H : CrB bs cr) {j : Nat} (hj : j < cr.length) : ∃ (h1 : cr[j].1 < bs.length) (h2 : cr[j].2 < (bs[cr[j].1]).end_.to.length), srcOf cr j = cr[j].1 ∧ (toOf bs cr[j].1).getD cr[j].2 eD = (bs[cr[j].1]).end_.to[cr[j].2] := by
  obtain ⟨a1, a2⟩ := H.at_ _ (List.getElem_mem hj)
  have e : toOf bs cr[j].1 = bs[cr[j].1].end_.to := by unfold toOf; rw [getD_el _ a1]
  rw [e] at a2
  exact ⟨a1, a2, by unfold srcOf; rw [getD_el _ hj], by rw [e, getD_el _ a2]⟩
theorem spl_refB (H : CrB bs cr) (R : AllReal bs) (hne : bs ≠ []) : Spl (nextOf bs) (nextOf (refB bs cr)) cr.length (srcOf cr) (tgtOf bs cr) := by
  have hl : (nextOf bs).length = bs.length := by simp [nextOf]
  have hl' : (nextOf (refB bs cr)).length = bs.length + cr.length := by simp [nextOf, refB_len]
  have ht : ∀ j (hj : j < cr.length), ∃ (h1 : cr[j].1 < bs.length) (h2 : cr[j].2 < (bs[cr[j].1]).end_.to.length), srcOf cr j = cr[j].1 ∧ ((bs[cr[j].1]).end_.to[cr[j].2]).to = (tgtOf bs cr j : Nat) ∧ tgtOf bs cr j < bs.length ∧ (toOf bs cr[j].1).getD cr[j].2 eD = (bs[cr[j].1]).end_.to[cr[j].2] := fun j hj => by
    obtain ⟨h1, h2, h3, h4⟩ := crit_edge H hj
    have hr := R _ (List.getElem_mem h1) _ (List.getElem_mem h2)
    rw [isReal_iff] at hr
    have e : tgtOf bs cr j = ((bs[cr[j].1]).end_.to[cr[j].2]).to.toNat := by unfold tgtOf; rw [h3, getD_el _ hj, h4]
    exact ⟨h1, h2, h3, by omega, by omega, h4⟩
  constructor
  case len => rw [hl, hl']
  case pos => rw [hl]; exact List.length_pos_iff.2 hne
  case hs => intro j hj; obtain ⟨h1, _, h3, _⟩ := ht j hj; rw [hl, h3]; exact h1
  case ht => intro j hj; obtain ⟨_, _, _, _, h5, _⟩ := ht j hj; rw [hl]; exact h5
  case to =>
    intro a b ha hb h
    rw [hl] at ha hb
    obtain ⟨-, x, hx, i, e, hi, hq⟩ := edg_iff.1 h
    have ex : x = bs[a] := by rw [List.getElem?_eq_getElem ha] at hx; exact (Option.some.inj hx).symm
    subst ex
    by_cases hm : (a, i) ∈ cr
    · obtain ⟨j, hj, ej⟩ := List.getElem_of_mem hm
      obtain ⟨h1, h2, h3, h4, h5, -⟩ := ht j hj
      refine .inr ⟨j, hj, by rw [h3, ej], ?_⟩
      simp only [ej] at h4
      have : bs[a].end_.to[i]? = some (bs[a].end_.to[i]'(by simpa only [ej] using h2)) := List.getElem?_eq_getElem _
      rw [this] at hi
      rw [Option.some.inj hi, hq] at h4
      omega
    · refine .inl (edg_iff.2 ⟨by rw [refB_len]; omega, _, refB_old ha, i, redir bs.length cr a i e cr.length, ?_, ?_⟩)
      · simp only [withTo, turnTo, List.getElem?_mapIdx, hi, Option.map_some]
      · rw [redir_none _ _ _ _ _ _ (Nat.le_refl _) (by rw [List.take_length]; exact hm)]
        exact hq
  case from_ =>
    intro a b ha hb h
    rw [hl] at ha hb
    obtain ⟨-, x, hx, i, e, hi, hq⟩ := edg_iff.1 h
    rw [refB_old ha] at hx
    have ex := (Option.some.inj hx).symm
    subst ex
    simp only [withTo, turnTo, List.getElem?_mapIdx] at hi
    obtain ⟨e0, he0, rfl⟩ := Option.map_eq_some_iff.1 hi
    rcases redir_cases bs.length cr a i e0 cr.length with h1 | ⟨j, hj, h1, -⟩
    · rw [h1] at hq
      exact edg_iff.2 ⟨hb, _, List.getElem?_eq_getElem ha, i, e0, he0, hq⟩
    · rw [h1] at hq
      simp only at hq
      omega
  case e =>
    intro j hj
    obtain ⟨h1, h2, h3, h4, h5, -⟩ := ht j hj
    rw [h3]
    exact edg_iff.2 ⟨h5, _, List.getElem?_eq_getElem h1, cr[j].2, _, List.getElem?_eq_getElem h2, h4⟩
  case in_ =>
    intro j hj
    obtain ⟨h1, h2, h3, h4, h5, -⟩ := ht j hj
    rw [h3, hl]
    refine edg_iff.2 ⟨by rw [refB_len]; omega, _, refB_old h1, cr[j].2, redir bs.length cr cr[j].1 cr[j].2 (bs[cr[j].1]).end_.to[cr[j].2] cr.length, ?_, ?_⟩
    · simp only [withTo, turnTo, List.getElem?_mapIdx, List.getElem?_eq_getElem h2, Option.map_some]
    · rw [redir_hit (e := (bs[cr[j].1]).end_.to[cr[j].2]) H.once hj (show cr[j] = (cr[j].1, cr[j].2) from rfl) cr.length hj (Nat.le_refl _)]
  case out =>
    intro j hj
    obtain ⟨h1, h2, h3, h4, h5, h6⟩ := ht j hj
    rw [hl]
    refine edg_iff.2 ⟨by rw [refB_len]; omega, _, refB_new hj, 0, _, rfl, ?_⟩
    rw [h6]
    exact h4
  case pre =>
    intro a j hj h
    rw [hl] at h
    obtain ⟨-, x, hx, i, e, hi, hq⟩ := edg_iff.1 h
    obtain ⟨g1, g2, g3, -⟩ := ht j hj
    rw [g3]
    by_cases ha : a < bs.length
    · rw [refB_old ha] at hx
      have ex := (Option.some.inj hx).symm
      subst ex
      simp only [withTo, turnTo, List.getElem?_mapIdx] at hi
      obtain ⟨e0, he0, rfl⟩ := Option.map_eq_some_iff.1 hi
      rcases redir_cases bs.length cr a i e0 cr.length with h1 | ⟨k, hk, h1, h2⟩
      · rw [h1] at hq
        have hr := R _ (List.getElem_mem ha) _ (List.mem_of_getElem? he0)
        rw [isReal_iff] at hr
        omega
      · rw [h1] at hq
        simp only at hq
        have : k = j := by omega
        subst this
        rw [getD_el _ hj] at h2
        rw [h2]
    · have hk : a - bs.length < cr.length := by
        have := (List.getElem?_eq_some_iff.1 hx).1
        rw [refB_len] at this
        omega
      rw [show a = bs.length + (a - bs.length) by omega, refB_new hk] at hx
      have ex := (Option.some.inj hx).symm
      subst ex
      obtain ⟨k1, k2, k3, k4, k5, k6⟩ := ht _ hk
      have hi0 : i = 0 := by
        have := (List.getElem?_eq_some_iff.1 hi).1
        simpa [jmp] using this
      subst hi0
      simp only [jmp, List.getElem?_cons_zero, Option.some.injEq] at hi
      rw [← hi, k6, k4] at hq
      omega
  case post =>
    intro j b hj h
    rw [hl] at h
    obtain ⟨-, x, hx, i, e, hi, hq⟩ := edg_iff.1 h
    obtain ⟨k1, k2, k3, k4, k5, k6⟩ := ht j hj
    rw [refB_new hj] at hx
    have ex := (Option.some.inj hx).symm
    subst ex
    have hi0 : i = 0 := by
      have := (List.getElem?_eq_some_iff.1 hi).1
      simpa [jmp] using this
    subst hi0
    simp only [jmp, List.getElem?_cons_zero, Option.some.injEq] at hi
    rw [← hi, k6, k4] at hq
    omega
theorem dfn_lt {bs : List Sb} {v : Int} (h : 0 ≤ dfn bs v) : ∃ d : Nat, dfn bs v = (d : Int) ∧ d < bs.length := by
  unfold dfn at *
  split at h
  · next b hb => exact ⟨b, rfl, (List.findIdx?_eq_some_iff_getElem.1 hb).1⟩
  · omega
theorem next_len (bs : List Sb) : (nextOf bs).length = bs.length := by simp [nextOf]
variable {vals : List Int}
theorem stnd_old (H : CrB bs cr) (R : AllReal bs) (hne : bs ≠ []) {b : Nat} (hb : b < bs.length) {here : List Int} {v : Int} (h : Stnd vals bs b here v) : Stnd vals (refB bs cr) b here v := by
  have s := spl_refB H R hne
  obtain ⟨h1, h2, h3⟩ := h
  obtain ⟨d, hd, hdl⟩ := dfn_lt h2
  refine ⟨h1, by rw [dfn_refB]; exact h2, ?_⟩
  rw [dfn_refB]
  rcases h3 with h3 | h3 | ⟨h3, h4⟩
  · exact .inl (fun hr => h3 ((s.rch (fun _ h => h.elim) (by rw [next_len]; exact hb)).1 hr))
  · exact .inr (.inl h3)
  · by_cases hr : Rch (nextOf (refB bs cr)) (fun _ => False) b
    · refine .inr (.inr ⟨h3, ?_⟩)
      rw [hd] at h4 ⊢
      have e1 := next_len (refB bs cr)
      have e0 := next_len bs
      rw [← e0] at h4
      have hD := (over_dom ((s.rch (fun _ h => h.elim) (by rw [e0]; exact hb)).1 hr)).1 h4
      rw [← e1]
      exact (over_dom hr).2 ((s.dom (by rw [e0]; exact hdl) (by rw [e0]; exact hb)).2 hD)
    · exact .inl hr
theorem stnd_new (H : CrB bs cr) (R : AllReal bs) (hne : bs ≠ []) {j : Nat} (hj : j < cr.length) {here : List Int} {v : Int} (h : Stnd vals bs (srcOf cr j) here v) : Stnd vals (refB bs cr) (bs.length + j) [] v := by
  have s := spl_refB H R hne
  obtain ⟨h1, h2, h3⟩ := h
  obtain ⟨d, hd, hdl⟩ := dfn_lt h2
  have e1 := next_len (refB bs cr)
  have e0 := next_len bs
  refine ⟨h1, by rw [dfn_refB]; exact h2, ?_⟩
  rw [dfn_refB, hd]
  by_cases hr : Rch (nextOf (refB bs cr)) (fun _ => False) (bs.length + j)
  · refine .inr (.inr ⟨by omega, ?_⟩)
    have hrs : Rch (nextOf bs) (fun _ => False) (srcOf cr j) := (s.rchN (fun _ h => h.elim) hj).1 (by rw [e0]; exact hr)
    have hD : Dom (nextOf bs) d (srcOf cr j) := by
      rcases h3 with h3 | h3 | ⟨h3, h4⟩
      · exact absurd hrs h3
      · have : d = srcOf cr j := by have := h3.1; omega
        rw [this]
        exact Dom.refl hrs
      · rw [hd, ← e0] at h4
        exact (over_dom hrs).1 h4
    rw [← e1]
    have := (s.domN (by rw [e0]; exact hdl) hj).2 hD
    rw [e0] at this
    exact (over_dom hr).2 this
  · exact .inl hr
theorem insV_old {T : Si → Option Fn} {P : Si → Prop} (H : CrB bs cr) (R : AllReal bs) (hne : bs ≠ []) {b : Nat} (hb : b < bs.length) : ∀ {here : List Int} {l : List Si}, InsV T vals P bs b here l → InsV T vals P (refB bs cr) b here l
  | _, [], _ => trivial
  | _, _ :: _, ⟨h1, h2, h3, h4⟩ => ⟨h1, h2, fun v hv => stnd_old H R hne hb (h3 v hv), insV_old H R hne hb h4⟩
theorem refB_par {k : Nat} (hk : k < bs.length) : ((refB bs cr).getD k bD).params = (bs.getD k bD).params := by
  rw [List.getD_eq_getElem?_getD, refB_old hk, getD_el _ hk]
  rfl
theorem isReal_more {n m : Nat} {t : Int} (h : isReal n t = true) : isReal (n + m) t = true := by
  rw [isReal_iff] at *
  omega
theorem formV_split {T : Si → Option Fn} {P : Si → Prop} {Q : Int → Int → List Int → Nat → Int → Prop} (hQ : Q 0 0 [] 1 0) (H : CrB bs cr) (h : FormV T vals P Q bs) : FormV T vals P Q (refB bs cr) := by
  have R : AllReal bs := fun x hx e he => by
    obtain ⟨b, hb, rfl⟩ := List.getElem_of_mem hx
    exact ((h.blk b hb).edge e he).1
  have hp : 0 < bs.length := List.length_pos_iff.2 h.ne
  constructor
  case ne =>
    intro e
    have h0 : bs.length + cr.length = 0 := by rw [← refB_len (bs := bs) (cr := cr), e]; rfl
    omega
  case par0 => rw [refB_par hp]; exact h.par0
  case once => intro v hv; rw [flat_refB]; exact h.once v hv
  case blk =>
    intro b hb
    by_cases hbo : b < bs.length
    · have hv := h.blk b hbo
      have ex : (refB bs cr)[b] = withTo bs[b] (turnTo bs.length cr b bs[b].end_.to cr.length) := by
        have := refB_old (cr := cr) hbo
        rw [List.getElem?_eq_getElem hb] at this
        exact Option.some.inj this
      rw [ex]
      have hed : ∀ e ∈ turnTo bs.length cr b bs[b].end_.to cr.length, e ∈ bs[b].end_.to ∨ ∃ j, j < cr.length ∧ e = ⟨((bs.length + j : Nat) : Int), []⟩ := fun e he => by
        unfold turnTo at he
        obtain ⟨i, hi, rfl⟩ := List.getElem_of_mem he
        rw [List.length_mapIdx] at hi
        rw [List.getElem_mapIdx]
        rcases redir_cases bs.length cr b i bs[b].end_.to[i] cr.length with h1 | ⟨j, hj, h1, -⟩
        · rw [h1]; exact .inl (List.getElem_mem hi)
        · exact .inr ⟨j, hj, h1⟩
      constructor
      case par => exact hv.par
      case ins => exact insV_old H R h.ne hbo hv.ins
      case end_ =>
        show Q bs[b].end_.kind bs[b].end_.cond bs[b].end_.args (turnTo bs.length cr b bs[b].end_.to cr.length).length bs[b].end_.trap
        rw [turnTo_len]
        exact hv.end_
      case edge =>
        intro e he
        rw [refB_len]
        rcases hed e he with h1 | ⟨j, hj, rfl⟩
        · obtain ⟨g1, ts, g2, g3⟩ := hv.edge e h1
          have g1' := isReal_iff.1 g1
          exact ⟨isReal_more g1, ts, by rw [refB_par (by omega)]; exact g2, g3⟩
        · refine ⟨by rw [isReal_iff]; exact ⟨by simp only; omega, by simp only; omega⟩, [], ?_, ?_⟩
          · have e1 : (((refB bs cr).getD (((bs.length + j : Nat) : Int)).toNat bD).params) = [] := by
              rw [Int.toNat_natCast, List.getD_eq_getElem?_getD, refB_new hj]
              rfl
            rw [e1]
            rfl
          · rfl
      case use =>
        intro v hvu
        refine stnd_old H R h.ne hbo (hv.use v ?_)
        unfold usedE at *
        simp only [List.mem_append, List.mem_flatMap] at hvu ⊢
        rcases hvu with (hvu | hvu) | ⟨e, he, hve⟩
        · exact .inl (.inl hvu)
        · exact .inl (.inr hvu)
        · rcases hed e he with h1 | ⟨j, hj, rfl⟩
          · exact .inr ⟨e, h1, hve⟩
          · cases hve
    · have hb2 := hb
      rw [refB_len] at hb2
      obtain ⟨j, rfl⟩ : ∃ j, b = bs.length + j := ⟨b - bs.length, by omega⟩
      have hj : j < cr.length := by omega
      obtain ⟨g1, g2, g3, g4⟩ := crit_edge H hj
      have ex : (refB bs cr)[bs.length + j] = jmp ((toOf bs cr[j].1).getD cr[j].2 eD) := by
        have := refB_new (bs := bs) hj
        rw [List.getElem?_eq_getElem hb] at this
        exact Option.some.inj this
      rw [ex, g4]
      have hv := h.blk _ g1
      obtain ⟨k1, ts, k2, k3⟩ := hv.edge _ (List.getElem_mem g2)
      have k1' := isReal_iff.1 k1
      constructor
      case par => intro v hv; cases hv
      case ins => trivial
      case end_ => exact hQ
      case edge =>
        intro e he
        rw [refB_len]
        have : e = (bs[cr[j].1]).end_.to[cr[j].2] := by simpa [jmp] using he
        subst this
        exact ⟨isReal_more k1, ts, by rw [refB_par (by omega)]; exact k2, k3⟩
      case use =>
        intro v hvu
        refine stnd_new H R h.ne hj (here := outsB bs[cr[j].1]) ?_
        rw [g3]
        refine hv.use v ?_
        unfold usedE at *
        simp only [jmp, List.mem_append, List.mem_flatMap] at hvu ⊢
        rcases hvu with (hvu | hvu) | ⟨e, he, hve⟩
        · simp at hvu
        · cases hvu
        · refine .inr ⟨_, List.getElem_mem g2, ?_⟩
          have : e = (bs[cr[j].1]).end_.to[cr[j].2] := by simpa using he
          rw [← this]
          exact hve
end
end Go.Proofs.YtiafkakkbbclhaaGreat
namespace Go.Proofs.YtiafkakkbbclhaaGreat
theorem getTrue {s : List Bool} {b k : Nat} (h : (s.set b true)[k]? = some true) : k = b ∨ s[k]? = some true := by
  by_cases e : b = k
  · exact .inl e.symm
  · rw [List.getElem?_set_ne e] at h
    exact .inr h
theorem setTrue {s : List Bool} {b k : Nat} (h : s[k]? = some true) : (s.set b true)[k]? = some true := by
  by_cases e : b = k
  · have hk : k < s.length := (List.getElem?_eq_some_iff.1 h).1
    rw [e, List.getElem?_set_self hk]
  · rw [List.getElem?_set_ne e]
    exact h
theorem setSelf {s : List Bool} {b : Nat} (h : b < s.length) : (s.set b true)[b]? = some true := List.getElem?_set_self h
theorem count_setT : ∀ {s : List Bool} {b : Nat}, s[b]? = some false → (s.set b true).count false + 1 = s.count false
  | [], b, h => by simp at h
  | x :: s, 0, h => by
    have : x = false := by simpa using h
    subst this
    simp
  | x :: s, b + 1, h => by
    have := count_setT (s := s) (b := b) (by simpa using h)
    cases x <;> simp [List.set_cons_succ] <;> omega
structure WkI (nx : List (List Int)) (W : Nat → Prop) (seen : List Bool) (todo : List Nat) (cur : Option (Nat × Nat)) : Prop where
  len : seen.length = nx.length
  sound : ∀ k, seen[k]? = some true → Rch nx W k
  root : 0 < nx.length → ¬ W 0 → seen[0]? = some true
  tds : ∀ k ∈ todo, seen[k]? = some true
  nd : todo.Nodup
  cu : ∀ a i, cur = some (a, i) → seen[a]? = some true
  done : ∀ (k : Nat) (l : List Int), seen[k]? = some true → k ∉ todo → nx[k]? = some l → ∀ j (b : Nat), l[j]? = some (b : Int) → (∀ i, cur = some (k, i) → j < i) → b < nx.length → ¬ W b → seen[b]? = some true
def mW (seen : List Bool) (todo : List Nat) : Nat := 2 * seen.count false + todo.length
section
variable {nx : List (List Int)} {W : Nat → Prop} {seen : List Bool} {todo : List Nat} {a i b : Nat} {l : List Int} {t : Int}
theorem rep_no {n k : Nat} (h : (List.replicate n false)[k]? = some true) : False := by
  rw [List.getElem?_replicate] at h
  split at h <;> simp at h
theorem WkI.start0 (h : ¬ (0 < nx.length ∧ ¬ W 0)) : WkI nx W (List.replicate nx.length false) [] none where
  len := by simp
  sound k hk := (rep_no hk).elim
  root h1 h2 := (h ⟨h1, h2⟩).elim
  tds k hk := by simp at hk
  nd := List.nodup_nil
  cu a i h := by simp at h
  done k l hk := (rep_no hk).elim
theorem WkI.start1 (h1 : 0 < nx.length) (h2 : ¬ W 0) : WkI nx W ((List.replicate nx.length false).set 0 true) [0] none where
  len := by simp
  sound k hk := by
    rcases getTrue hk with e | e
    · exact e ▸ .zero h1 h2
    · exact (rep_no e).elim
  root _ _ := setSelf (by simpa using h1)
  tds k hk := by
    rw [List.mem_singleton.1 hk]
    exact setSelf (by simpa using h1)
  nd := by simp
  cu a i h := by simp at h
  done k l hk hn := by
    rcases getTrue hk with e | e
    · exact (hn (by simp [e])).elim
    · exact (rep_no e).elim
theorem WkI.pop (H : WkI nx W seen (todo ++ [a]) none) : WkI nx W seen todo (some (a, 0)) where
  len := H.len
  sound := H.sound
  root := H.root
  tds k hk := H.tds k (by simp [hk])
  nd := (List.nodup_append.1 H.nd).1
  cu a' i' h := by
    have : a = a' := by simpa using (Prod.mk.inj (Option.some.inj h)).1
    exact this ▸ H.tds a (by simp)
  done k l hk hn hl j b hj hc hb hw := by
    by_cases e : k = a
    · exact absurd (hc 0 (by rw [e])) (by omega)
    · exact H.done k l hk (by simp [hn, e]) hl j b hj (by simp) hb hw
theorem WkI.skip (H : WkI nx W seen todo (some (a, i))) (hl : nx[a]? = some l) (ht : l[i]? = some t) (hn : ∀ b : Nat, t = (b : Int) → b < nx.length → ¬ W b → seen[b]? = some true) : WkI nx W seen todo (some (a, i + 1)) where
  len := H.len
  sound := H.sound
  root := H.root
  tds := H.tds
  nd := H.nd
  cu a' i' h := by
    have : a = a' := by simpa using (Prod.mk.inj (Option.some.inj h)).1
    exact this ▸ H.cu a i rfl
  done k l' hk hnk hl' j b hj hc hb hw := by
    by_cases e : k = a
    · subst e
      have e2 : l' = l := by rw [hl] at hl'; exact (Option.some.inj hl').symm
      subst e2
      have := hc (i + 1) rfl
      by_cases ej : j = i
      · subst ej
        rw [ht] at hj
        exact hn b (Option.some.inj hj) hb hw
      · refine H.done k l' hk hnk hl' j b hj (fun i' h => ?_) hb hw
        have : i = i' := by simpa using (Prod.mk.inj (Option.some.inj h)).2
        omega
    · refine H.done k l' hk hnk hl' j b hj (fun i' h => ?_) hb hw
      exact absurd (Prod.mk.inj (Option.some.inj h)).1.symm e
theorem WkI.push (H : WkI nx W seen todo (some (a, i))) (hl : nx[a]? = some l) (ht : l[i]? = some (b : Int)) (hb : b < nx.length) (hw : ¬ W b) (hs : seen[b]? = some false) : WkI nx W (seen.set b true) (todo ++ [b]) (some (a, i + 1)) where
  len := by rw [List.length_set]; exact H.len
  sound k hk := by
    rcases getTrue hk with e | e
    · subst e
      exact .step (H.sound a (H.cu a i rfl)) ⟨hb, l, hl, List.mem_of_getElem? ht⟩ hw
    · exact H.sound k e
  root h1 h2 := setTrue (H.root h1 h2)
  tds k hk := by
    rcases List.mem_append.1 hk with h | h
    · exact setTrue (H.tds k h)
    · rw [List.mem_singleton.1 h]
      exact setSelf (by rw [H.len]; exact hb)
  nd := by
    refine List.nodup_append.2 ⟨H.nd, by simp, fun x hx y hy e => ?_⟩
    rw [List.mem_singleton.1 hy] at e
    have := H.tds x hx
    rw [e, hs] at this
    simp at this
  cu a' i' h := by
    have : a = a' := by simpa using (Prod.mk.inj (Option.some.inj h)).1
    exact this ▸ setTrue (H.cu a i rfl)
  done k l' hk hnk hl' j c hj hc hcl hwc := by
    have hk1 : k ∉ todo := fun h => hnk (by simp [h])
    have hk2 : k ≠ b := fun h => hnk (by simp [h])
    have hk3 : seen[k]? = some true := (getTrue hk).resolve_left hk2
    by_cases e : k = a
    · subst e
      have e2 : l' = l := by rw [hl] at hl'; exact (Option.some.inj hl').symm
      subst e2
      have := hc (i + 1) rfl
      by_cases ej : j = i
      · subst ej
        rw [ht] at hj
        have : b = c := by have := Option.some.inj hj; omega
        rw [← this]
        exact setSelf (by rw [H.len]; exact hb)
      · refine setTrue (H.done k l' hk3 hk1 hl' j c hj (fun i' h => ?_) hcl hwc)
        have : i = i' := by simpa using (Prod.mk.inj (Option.some.inj h)).2
        omega
    · refine setTrue (H.done k l' hk3 hk1 hl' j c hj (fun i' h => ?_) hcl hwc)
      exact absurd (Prod.mk.inj (Option.some.inj h)).1.symm e
theorem WkI.fin (H : WkI nx W seen todo (some (a, i))) (hl : nx[a]? = some l) (hi : l.length ≤ i) : WkI nx W seen todo none where
  len := H.len
  sound := H.sound
  root := H.root
  tds := H.tds
  nd := H.nd
  cu a' i' h := by simp at h
  done k l' hk hnk hl' j b hj _ hb hw := by
    refine H.done k l' hk hnk hl' j b hj (fun i' h => ?_) hb hw
    obtain ⟨e1, e2⟩ := Prod.mk.inj (Option.some.inj h)
    subst e1
    rw [hl] at hl'
    have e3 := Option.some.inj hl'
    subst e3
    have := (List.getElem?_eq_some_iff.1 hj).1
    omega
theorem WkI.all (H : WkI nx W seen [] none) (k : Nat) : seen[k]? = some true ↔ Rch nx W k := by
  refine ⟨H.sound k, fun h => ?_⟩
  induction h with
  | zero h1 h2 => exact H.root h1 h2
  | step r e w ih =>
    obtain ⟨hb, l, hl, hm⟩ := e
    obtain ⟨j, hj⟩ := List.getElem?_of_mem hm
    exact H.done _ l ih (by simp) hl j _ hj (by simp) hb w
theorem mW_push (hs : seen[b]? = some false) : mW (seen.set b true) (todo ++ [b]) + 1 = mW seen todo := by
  have := count_setT hs
  unfold mW
  rw [List.length_append]
  simp only [List.length_cons, List.length_nil]
  omega
theorem mW_pop : mW seen (todo ++ [a]) = mW seen todo + 1 := by
  unfold mW
  rw [List.length_append]
  simp only [List.length_cons, List.length_nil]
  omega
end
structure RdI (nx : List (List Int)) (out : List Bool) : Prop where
  len : out.length = nx.length
  sound : ∀ k, out[k]? = some true → Rch nx (fun _ => False) k
  root : 0 < nx.length → out[0]? = some true
def Clo (nx : List (List Int)) (out : List Bool) (b i : Nat) : Prop :=
  ∀ (k : Nat) (l : List Int), out[k]? = some true → nx[k]? = some l → ∀ j (c : Nat), l[j]? = some (c : Int) → c < nx.length → (k < b ∨ k = b ∧ j < i) → out[c]? = some true
section
variable {nx : List (List Int)} {out : List Bool} {b i c : Nat} {l : List Int}
theorem RdI.start : RdI nx (if 0 < nx.length then (List.replicate nx.length false).set 0 true else List.replicate nx.length false) := by
  by_cases h : 0 < nx.length
  · rw [if_pos h]
    have := WkI.start1 (nx := nx) (W := fun _ => False) h (fun x => x)
    exact ⟨this.len, this.sound, fun _ => setSelf (by simpa using h)⟩
  · rw [if_neg h]
    exact ⟨by simp, fun k hk => (rep_no hk).elim, fun h' => (h h').elim⟩
theorem RdI.put (H : RdI nx out) (hk : out[b]? = some true) (hl : nx[b]? = some l) (hi : l[i]? = some (c : Int)) (hc : c < nx.length) : RdI nx (out.set c true) where
  len := by rw [List.length_set]; exact H.len
  sound k h := by
    rcases getTrue h with e | e
    · subst e
      exact .step (H.sound b hk) ⟨hc, l, hl, List.mem_of_getElem? hi⟩ (fun x => x)
    · exact H.sound k e
  root h := setTrue (H.root h)
theorem RdI.all (H : RdI nx out) (h : Clo nx out nx.length 0) (k : Nat) : out[k]? = some true ↔ Rch nx (fun _ => False) k := by
  refine ⟨H.sound k, fun r => ?_⟩
  induction r with
  | zero h1 _ => exact H.root h1
  | step r e _ ih =>
    obtain ⟨hb, l, hl, hm⟩ := e
    obtain ⟨j, hj⟩ := List.getElem?_of_mem hm
    exact h _ l ih hl j _ hj hb (.inl r.lt)
theorem Clo.zero : Clo nx out 0 0 := fun _ _ _ _ _ _ _ _ h => by omega
theorem Clo.no (h : Clo nx out b 0) (ho : out[b]? ≠ some true) : Clo nx out (b + 1) 0 := fun k l hk hl j c hj hc hb => by
  by_cases e : k = b
  · exact (ho (e ▸ hk)).elim
  · exact h k l hk hl j c hj hc (.inl (by omega))
theorem Clo.step {t : Int} (h : Clo nx out b i) (hl : nx[b]? = some l) (hi : l[i]? = some t) (hs : ∀ c : Nat, t = (c : Int) → out[c]? = some true) : Clo nx out b (i + 1) := fun k l' hk hl' j c hj hc hb => by
  by_cases e : k = b ∧ j = i
  · obtain ⟨rfl, rfl⟩ := e
    rw [hl] at hl'
    have e3 := Option.some.inj hl'
    subst e3
    rw [hi] at hj
    exact hs c (Option.some.inj hj)
  · exact h k l' hk hl' j c hj hc (by omega)
theorem Clo.row (h : Clo nx out b i) (hl : nx[b]? = some l) (hi : l.length ≤ i) : Clo nx out (b + 1) 0 := fun k l' hk hl' j c hj hc hb => by
  refine h k l' hk hl' j c hj hc ?_
  by_cases e : k = b
  · subst e
    rw [hl] at hl'
    have e3 := Option.some.inj hl'
    subst e3
    have := (List.getElem?_eq_some_iff.1 hj).1
    omega
  · omega
end
end Go.Proofs.YtiafkakkbbclhaaGreat
namespace Go.Proofs.YtiafkakkbbclhaaGreat
def dfA (T : List (List Int)) (b : Nat) (v : Int) : Int := match (T.drop b).findIdx? (fun l => l.contains v) with
  | some j => ((b + j : Nat) : Int)
  | none => -1
def dl (T : List (List Int)) (n b i : Nat) : List Int := (List.range n).map fun (v : Nat) => if ((T.getD b []).take i).contains (v : Int) then (b : Int) else dfA T (b + 1) v
theorem dl_len (T : List (List Int)) (n b i : Nat) : (dl T n b i).length = n := by simp [dl]
theorem dfA_end (T : List (List Int)) (v : Int) : dfA T T.length v = -1 := by simp [dfA]
theorem dfA_step {T : List (List Int)} {b : Nat} (h : b < T.length) (v : Int) : dfA T b v = if (T.getD b []).contains v then (b : Int) else dfA T (b + 1) v := by
  unfold dfA
  rw [List.drop_eq_getElem_cons h, List.findIdx?_cons, List.getD_eq_getElem?_getD, List.getElem?_eq_getElem h]
  simp only [Option.getD_some]
  by_cases hc : T[b].contains v = true
  · rw [if_pos hc, if_pos hc]
    simp
  · rw [if_neg hc, if_neg hc]
    cases (T.drop (b + 1)).findIdx? (fun l => l.contains v) with
    | none => rfl
    | some j =>
      simp only [Option.map_some]
      congr 1
      omega
theorem dl_start {T : List (List Int)} {n : Nat} (h : T ≠ []) : dl T n (T.length - 1) 0 = List.replicate n (-1) := by
  have hp : 0 < T.length := List.length_pos_iff.2 h
  refine List.ext_getElem (by simp [dl]) fun k h1 h2 => ?_
  simp only [dl, List.getElem_map, List.getElem_range, List.take_zero, List.contains_nil, Bool.false_eq_true, if_false, List.getElem_replicate]
  rw [Nat.sub_add_cancel hp, dfA_end]
theorem take_contains {l : List Int} {i : Nat} (h : i < l.length) (v : Int) : (l.take (i + 1)).contains v = ((l.take i).contains v || decide (l[i] = v)) := by
  rw [List.take_succ_eq_append_getElem h]
  rw [Bool.eq_iff_iff]
  simp only [List.contains_iff_mem, List.mem_append, List.mem_singleton, Bool.or_eq_true, decide_eq_true_eq]
  exact ⟨fun h => h.imp id Eq.symm, fun h => h.imp id Eq.symm⟩
theorem dl_yes {T : List (List Int)} {n b i t : Nat} (hi : i < (T.getD b []).length) (he : (T.getD b []).getD i 0 = (t : Int)) : (dl T n b i).set t (b : Int) = dl T n b (i + 1) := by
  refine List.ext_getElem (by simp [dl]) fun k h1 h2 => ?_
  have he2 : (T.getD b [])[i] = (t : Int) := by rw [← he]; exact (getD_el 0 hi).symm
  rw [List.getElem_set]
  simp only [dl, List.getElem_map, List.getElem_range]
  rw [take_contains hi, he2]
  by_cases e : t = k
  · subst e
    simp
  · have e' : ¬ (t : Int) = (k : Int) := by omega
    rw [if_neg e]
    simp [e']
theorem dl_no {T : List (List Int)} {n b i : Nat} (hi : i < (T.getD b []).length) (he : (T.getD b []).getD i 0 < 0 ∨ (n : Int) ≤ (T.getD b []).getD i 0) : dl T n b (i + 1) = dl T n b i := by
  refine List.ext_getElem (by simp [dl]) fun k h1 h2 => ?_
  have hk : k < n := by rw [dl_len] at h1; exact h1
  have he2 : (T.getD b [])[i] = (T.getD b []).getD i 0 := (getD_el 0 hi).symm
  simp only [dl, List.getElem_map, List.getElem_range]
  rw [take_contains hi, he2]
  have e' : ¬ (T.getD b []).getD i 0 = (k : Int) := by omega
  rw [decide_eq_false e', Bool.or_false]
theorem dl_row {T : List (List Int)} {n b : Nat} (hb : b + 1 < T.length) : dl T n (b + 1) (T.getD (b + 1) []).length = dl T n b 0 := by
  refine List.ext_getElem (by simp [dl]) fun k h1 h2 => ?_
  simp only [dl, List.getElem_map, List.getElem_range, List.take_length, List.take_zero, List.contains_nil, Bool.false_eq_true, if_false]
  rw [← dfA_step hb]
theorem dl_all {T : List (List Int)} {n : Nat} (h : T ≠ []) : dl T n 0 (T.getD 0 []).length = (List.range n).map fun (v : Nat) => dfA T 0 v := by
  have hp : 0 < T.length := List.length_pos_iff.2 h
  refine List.ext_getElem (by simp [dl]) fun k h1 h2 => ?_
  simp only [dl, List.getElem_map, List.getElem_range, List.take_length]
  rw [← dfA_step hp]
theorem dfA_dfn (bs : List Sb) (v : Int) : dfA (bs.map outsB) 0 v = dfn bs v := by
  unfold dfA dfn
  rw [List.drop_zero, List.findIdx?_map]
  have e : ((fun l : List Int => l.contains v) ∘ outsB) = fun b => (outsB b).contains v := rfl
  rw [e]
  cases bs.findIdx? (fun b => (outsB b).contains v) with
  | none => rfl
  | some j =>
    show ((0 + j : Nat) : Int) = (j : Int)
    omega
end Go.Proofs.YtiafkakkbbclhaaGreat
