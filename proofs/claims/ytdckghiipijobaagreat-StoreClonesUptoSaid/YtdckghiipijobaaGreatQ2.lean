/- Part 2 of the proof: lemmas and contracts of functions. No condition. -/
import Derived.Test.YtdckghiipijobaaGreatQ1
set_option maxRecDepth 100000
set_option maxHeartbeats 12800000
set_option linter.unusedVariables false
set_option linter.unusedSimpArgs false
set_option linter.unusedSectionVars false
namespace Go.Proofs.YtdckghiipijobaaGreat
open Go.RowKit Go.Proofs.Tryz
structure Vl where
 t : Int
 n : Int
 deriving DecidableEq
def tVl0 : Ty (Int × Int) := (Ty.int .i64).pair ((Ty.int .u64))
def tVl : Ty Vl := tVl0.iso fun a => (a.t, a.n)
instance : TyOk tVl := by unfold tVl tVl0; infer_instance
instance : TyMore tVl := by unfold tVl tVl0; infer_instance
instance : kAG tVl := by unfold tVl tVl0; infer_instance
theorem kFD : kAd prog 57 tVl := by
 refine kAW _ (fun x => ⟨x.1, x.2⟩) (fun _ => rfl) ?_
 exact kAT underlying57 kr (Flds.cons rfl kr (kAD underlying48) (Flds.one rfl kr (kAD underlying55)))
theorem kHt {w : World} {S : Nat → Prop} {cs : LV} {a : Vl} (h : tVl.rd w S cs a) : cs = [.int .i64 a.t, .int .u64 a.n] ∧ (Lit.int .i64 a.t).wf = true ∧ (Lit.int .u64 a.n).wf = true := by
 obtain ⟨xt, rt, rfl, ⟨rfl, wt⟩, rfl, wn⟩ := h
 exact ⟨rfl, wt, wn⟩
theorem kKU {w : World} {S : Nat → Prop} {a : Vl}  (f0 : (Lit.int .i64 a.t).wf = true) (f1 : (Lit.int .u64 a.n).wf = true) : tVl.rd w S [.int .i64 a.t, .int .u64 a.n] a :=
 ⟨[.int .i64 a.t], [.int .u64 a.n], rfl, ⟨rfl, f0⟩, ⟨rfl, f1⟩⟩
theorem kID {w : World} {S : Nat → Prop} {A : OA} {l : List Vl} (h : tVl.els w S A l) (k : Nat) (hk : k < l.length) : ∃ (b o : Nat), A = some ⟨b, o, none⟩ ∧ S b ∧ w.cell? ⟨b, o + k * 2, none⟩ = some (.int .i64 l[k].t) ∧ w.cell? ⟨b, o + k * 2 + 1, none⟩ = some (.int .u64 l[k].n) ∧ (Lit.int .i64 l[k].t).wf = true ∧ (Lit.int .u64 l[k].n).wf = true := by
 obtain ⟨b, o, ds, rfl, hb, hc, hr⟩ := h.at_ k hk
 obtain ⟨rfl, f0, f1⟩ := kHt hr
 have e : tVl.size = 2 := rfl
 rw [e] at hc
 exact ⟨b, o, rfl, hb, hc 0 _ rfl, (by have := hc 1 _ rfl; rwa [← Nat.add_assoc] at this), f0, f1⟩
structure Ac where
 kind : Int
 vals : List Vl
 mem : Int
 at_ : Int
 byte : Int
def tAc0 : Ty (Int × List Vl × Int × Int × Int) := (Ty.int .i64).pair (tVl.slice.pair ((Ty.int .i64).pair ((Ty.int .i64).pair ((Ty.int .u8)))))
def tAc : Ty Ac := tAc0.iso fun a => (a.kind, a.vals, a.mem, a.at_, a.byte)
instance : TyOk tAc := by unfold tAc tAc0; infer_instance
instance : TyMore tAc := by unfold tAc tAc0; infer_instance
instance : kAG tAc := by unfold tAc tAc0; infer_instance
theorem kMQ : kAd prog 110 tAc := by
 refine kAW _ (fun x => ⟨x.1, x.2.1, x.2.2.1, x.2.2.2.1, x.2.2.2.2⟩) (fun _ => rfl) ?_
 exact kAT underlying110 kr (Flds.cons rfl kr (kAD underlying3) (Flds.cons rfl kr (kAF underlying74 kr dc kFD) (Flds.cons rfl kr (kAD underlying3) (Flds.cons rfl kr (kAD underlying3) (Flds.one rfl kr (kAD underlying5))))))
theorem kIF {w : World} {S : Nat → Prop} {cs : LV} {a : Ac} (h : tAc.rd w S cs a) : ∃ (Avals : OA) (cvals : Nat), cs = [.int .i64 a.kind, .slice Avals a.vals.length cvals, .int .i64 a.mem, .int .i64 a.at_, .int .u8 a.byte] ∧ (Lit.int .i64 a.kind).wf = true ∧ a.vals.length ≤ cvals ∧ cvals ≤ maxLen ∧ tVl.els w S Avals a.vals ∧ (Lit.int .i64 a.mem).wf = true ∧ (Lit.int .i64 a.at_).wf = true ∧ (Lit.int .u8 a.byte).wf = true := by
 obtain ⟨xkind, rkind, rfl, ⟨rfl, wkind⟩, xvals, rvals, rfl, ⟨Avals, cvals, rfl, gvals, mvals, evals⟩, xmem, rmem, rfl, ⟨rfl, wmem⟩, xat_, rat_, rfl, ⟨rfl, wat_⟩, rfl, wbyte⟩ := h
 exact ⟨Avals, cvals, rfl, wkind, gvals, mvals, evals, wmem, wat_, wbyte⟩
theorem kKb {w : World} {S : Nat → Prop} {a : Ac} {Avals : OA} {cvals : Nat} (f0 : (Lit.int .i64 a.kind).wf = true) (f1 : a.vals.length ≤ cvals) (f2 : cvals ≤ maxLen) (f3 : tVl.els w S Avals a.vals) (f4 : (Lit.int .i64 a.mem).wf = true) (f5 : (Lit.int .i64 a.at_).wf = true) (f6 : (Lit.int .u8 a.byte).wf = true) : tAc.rd w S [.int .i64 a.kind, .slice Avals a.vals.length cvals, .int .i64 a.mem, .int .i64 a.at_, .int .u8 a.byte] a :=
 ⟨[.int .i64 a.kind], [.slice Avals a.vals.length cvals, .int .i64 a.mem, .int .i64 a.at_, .int .u8 a.byte], rfl, ⟨rfl, f0⟩, ⟨[.slice Avals a.vals.length cvals], [.int .i64 a.mem, .int .i64 a.at_, .int .u8 a.byte], rfl, ⟨_, _, rfl, f1, f2, f3⟩, ⟨[.int .i64 a.mem], [.int .i64 a.at_, .int .u8 a.byte], rfl, ⟨rfl, f4⟩, ⟨[.int .i64 a.at_], [.int .u8 a.byte], rfl, ⟨rfl, f5⟩, ⟨rfl, f6⟩⟩⟩⟩⟩
theorem kGy {w : World} {S : Nat → Prop} {A : OA} {l : List Ac} (h : tAc.els w S A l) (k : Nat) (hk : k < l.length) : ∃ (b o : Nat) (Avals : OA) (cvals : Nat), A = some ⟨b, o, none⟩ ∧ S b ∧ w.cell? ⟨b, o + k * 5, none⟩ = some (.int .i64 l[k].kind) ∧ w.cell? ⟨b, o + k * 5 + 1, none⟩ = some (.slice Avals l[k].vals.length cvals) ∧ w.cell? ⟨b, o + k * 5 + 2, none⟩ = some (.int .i64 l[k].mem) ∧ w.cell? ⟨b, o + k * 5 + 3, none⟩ = some (.int .i64 l[k].at_) ∧ w.cell? ⟨b, o + k * 5 + 4, none⟩ = some (.int .u8 l[k].byte) ∧ (Lit.int .i64 l[k].kind).wf = true ∧ l[k].vals.length ≤ cvals ∧ cvals ≤ maxLen ∧ tVl.els w S Avals l[k].vals ∧ (Lit.int .i64 l[k].mem).wf = true ∧ (Lit.int .i64 l[k].at_).wf = true ∧ (Lit.int .u8 l[k].byte).wf = true := by
 obtain ⟨b, o, ds, rfl, hb, hc, hr⟩ := h.at_ k hk
 obtain ⟨Avals, cvals, rfl, f0, f1, f2, f3, f4, f5, f6⟩ := kIF hr
 have e : tAc.size = 5 := rfl
 rw [e] at hc
 exact ⟨b, o, Avals, cvals, rfl, hb, hc 0 _ rfl, (by have := hc 1 _ rfl; rwa [← Nat.add_assoc] at this), (by have := hc 2 _ rfl; rwa [← Nat.add_assoc] at this), (by have := hc 3 _ rfl; rwa [← Nat.add_assoc] at this), (by have := hc 4 _ rfl; rwa [← Nat.add_assoc] at this), f0, f1, f2, f3, f4, f5, f6⟩
structure Fn where
 params : List Int
 results : List Int
 deriving DecidableEq
def tFn0 : Ty (List Int × List Int) := (Ty.int .i64).slice.pair ((Ty.int .i64).slice)
def tFn : Ty Fn := tFn0.iso fun a => (a.params, a.results)
instance : TyOk tFn := by unfold tFn tFn0; infer_instance
instance : TyMore tFn := by unfold tFn tFn0; infer_instance
instance : kAG tFn := by unfold tFn tFn0; infer_instance
theorem kFG : kAd prog 45 tFn := by
 refine kAW _ (fun x => ⟨x.1, x.2⟩) (fun _ => rfl) ?_
 exact kAT underlying45 kr (Flds.cons rfl kr (kAF underlying43 kr dc (kAD underlying48)) (Flds.one rfl kr (kAF underlying43 kr dc (kAD underlying48))))
theorem Fn_cells {w : World} {S : Nat → Prop} {cs : LV} {a : Fn} (h : tFn.rd w S cs a) : ∃ (Aparams : OA) (cparams : Nat) (Aresults : OA) (cresults : Nat), cs = [.slice Aparams a.params.length cparams, .slice Aresults a.results.length cresults] ∧ a.params.length ≤ cparams ∧ cparams ≤ maxLen ∧ (Ty.int .i64).els w S Aparams a.params ∧ a.results.length ≤ cresults ∧ cresults ≤ maxLen ∧ (Ty.int .i64).els w S Aresults a.results := by
 obtain ⟨xparams, rparams, rfl, ⟨Aparams, cparams, rfl, gparams, mparams, eparams⟩, Aresults, cresults, rfl, gresults, mresults, eresults⟩ := h
 exact ⟨Aparams, cparams, Aresults, cresults, rfl, gparams, mparams, eparams, gresults, mresults, eresults⟩
theorem kNN {w : World} {S : Nat → Prop} {a : Fn} {Aparams : OA} {cparams : Nat} {Aresults : OA} {cresults : Nat} (f0 : a.params.length ≤ cparams) (f1 : cparams ≤ maxLen) (f2 : (Ty.int .i64).els w S Aparams a.params) (f3 : a.results.length ≤ cresults) (f4 : cresults ≤ maxLen) (f5 : (Ty.int .i64).els w S Aresults a.results) : tFn.rd w S [.slice Aparams a.params.length cparams, .slice Aresults a.results.length cresults] a :=
 ⟨[.slice Aparams a.params.length cparams], [.slice Aresults a.results.length cresults], rfl, ⟨_, _, rfl, f0, f1, f2⟩, ⟨_, _, rfl, f3, f4, f5⟩⟩
structure Ho where
 mod : ByteArray
 name : ByteArray
 ty : Fn
 acts : List Ac
def tHo0 : Ty (ByteArray × ByteArray × Fn × List Ac) := Ty.str.pair (Ty.str.pair (tFn.pair (tAc.slice)))
def tHo : Ty Ho := tHo0.iso fun a => (a.mod, a.name, a.ty, a.acts)
instance : TyOk tHo := by unfold tHo tHo0; infer_instance
instance : TyMore tHo := by unfold tHo tHo0; infer_instance
instance : kAG tHo := by unfold tHo tHo0; infer_instance
theorem kPN : kAd prog 108 tHo := by
 refine kAW _ (fun x => ⟨x.1, x.2.1, x.2.2.1, x.2.2.2⟩) (fun _ => rfl) ?_
 exact kAT underlying108 kr (Flds.cons rfl kr (kCD underlying9) (Flds.cons rfl kr (kCD underlying9) (Flds.cons rfl kr kFG (Flds.one rfl kr (kAF underlying106 kr dc kMQ)))))
theorem kIC {w : World} {S : Nat → Prop} {cs : LV} {a : Ho} (h : tHo.rd w S cs a) : ∃ (Aty_params : OA) (cty_params : Nat) (Aty_results : OA) (cty_results : Nat) (Aacts : OA) (cacts : Nat), cs = [.string a.mod, .string a.name, .slice Aty_params a.ty.params.length cty_params, .slice Aty_results a.ty.results.length cty_results, .slice Aacts a.acts.length cacts] ∧ a.mod.size ≤ maxLen ∧ a.name.size ≤ maxLen ∧ a.ty.params.length ≤ cty_params ∧ cty_params ≤ maxLen ∧ (Ty.int .i64).els w S Aty_params a.ty.params ∧ a.ty.results.length ≤ cty_results ∧ cty_results ≤ maxLen ∧ (Ty.int .i64).els w S Aty_results a.ty.results ∧ a.acts.length ≤ cacts ∧ cacts ≤ maxLen ∧ tAc.els w S Aacts a.acts := by
 obtain ⟨xmod, rmod, rfl, ⟨rfl, wmod⟩, xname, rname, rfl, ⟨rfl, wname⟩, xty, rty, rfl, hty, Aacts, cacts, rfl, gacts, macts, eacts⟩ := h
 obtain ⟨Aty_params, cty_params, Aty_results, cty_results, rfl, kty0, kty1, kty2, kty3, kty4, kty5⟩ := Fn_cells hty
 exact ⟨Aty_params, cty_params, Aty_results, cty_results, Aacts, cacts, rfl, wmod, wname, kty0, kty1, kty2, kty3, kty4, kty5, gacts, macts, eacts⟩
theorem kNM {w : World} {S : Nat → Prop} {a : Ho} {Aty_params : OA} {cty_params : Nat} {Aty_results : OA} {cty_results : Nat} {Aacts : OA} {cacts : Nat} (f0 : a.mod.size ≤ maxLen) (f1 : a.name.size ≤ maxLen) (f2 : a.ty.params.length ≤ cty_params) (f3 : cty_params ≤ maxLen) (f4 : (Ty.int .i64).els w S Aty_params a.ty.params) (f5 : a.ty.results.length ≤ cty_results) (f6 : cty_results ≤ maxLen) (f7 : (Ty.int .i64).els w S Aty_results a.ty.results) (f8 : a.acts.length ≤ cacts) (f9 : cacts ≤ maxLen) (f10 : tAc.els w S Aacts a.acts) : tHo.rd w S [.string a.mod, .string a.name, .slice Aty_params a.ty.params.length cty_params, .slice Aty_results a.ty.results.length cty_results, .slice Aacts a.acts.length cacts] a :=
 ⟨[.string a.mod], [.string a.name, .slice Aty_params a.ty.params.length cty_params, .slice Aty_results a.ty.results.length cty_results, .slice Aacts a.acts.length cacts], rfl, ⟨rfl, f0⟩, ⟨[.string a.name], [.slice Aty_params a.ty.params.length cty_params, .slice Aty_results a.ty.results.length cty_results, .slice Aacts a.acts.length cacts], rfl, ⟨rfl, f1⟩, ⟨[.slice Aty_params a.ty.params.length cty_params, .slice Aty_results a.ty.results.length cty_results], [.slice Aacts a.acts.length cacts], rfl, ⟨[.slice Aty_params a.ty.params.length cty_params], [.slice Aty_results a.ty.results.length cty_results], rfl, ⟨_, _, rfl, f2, f3, f4⟩, ⟨_, _, rfl, f5, f6, f7⟩⟩, ⟨_, _, rfl, f8, f9, f10⟩⟩⟩⟩
theorem kBa {w : World} {S : Nat → Prop} {A : OA} {l : List Ho} (h : tHo.els w S A l) (k : Nat) (hk : k < l.length) : ∃ (b o : Nat) (Aty_params : OA) (cty_params : Nat) (Aty_results : OA) (cty_results : Nat) (Aacts : OA) (cacts : Nat), A = some ⟨b, o, none⟩ ∧ S b ∧ w.cell? ⟨b, o + k * 5, none⟩ = some (.string l[k].mod) ∧ w.cell? ⟨b, o + k * 5 + 1, none⟩ = some (.string l[k].name) ∧ w.cell? ⟨b, o + k * 5 + 2, none⟩ = some (.slice Aty_params l[k].ty.params.length cty_params) ∧ w.cell? ⟨b, o + k * 5 + 3, none⟩ = some (.slice Aty_results l[k].ty.results.length cty_results) ∧ w.cell? ⟨b, o + k * 5 + 4, none⟩ = some (.slice Aacts l[k].acts.length cacts) ∧ l[k].mod.size ≤ maxLen ∧ l[k].name.size ≤ maxLen ∧ l[k].ty.params.length ≤ cty_params ∧ cty_params ≤ maxLen ∧ (Ty.int .i64).els w S Aty_params l[k].ty.params ∧ l[k].ty.results.length ≤ cty_results ∧ cty_results ≤ maxLen ∧ (Ty.int .i64).els w S Aty_results l[k].ty.results ∧ l[k].acts.length ≤ cacts ∧ cacts ≤ maxLen ∧ tAc.els w S Aacts l[k].acts := by
 obtain ⟨b, o, ds, rfl, hb, hc, hr⟩ := h.at_ k hk
 obtain ⟨Aty_params, cty_params, Aty_results, cty_results, Aacts, cacts, rfl, f0, f1, f2, f3, f4, f5, f6, f7, f8, f9, f10⟩ := kIC hr
 have e : tHo.size = 5 := rfl
 rw [e] at hc
 exact ⟨b, o, Aty_params, cty_params, Aty_results, cty_results, Aacts, cacts, rfl, hb, hc 0 _ rfl, (by have := hc 1 _ rfl; rwa [← Nat.add_assoc] at this), (by have := hc 2 _ rfl; rwa [← Nat.add_assoc] at this), (by have := hc 3 _ rfl; rwa [← Nat.add_assoc] at this), (by have := hc 4 _ rfl; rwa [← Nat.add_assoc] at this), f0, f1, f2, f3, f4, f5, f6, f7, f8, f9, f10⟩
structure Lim where
 min : Int
 max : Int
 has : Bool
 deriving DecidableEq
def tLim0 : Ty (Int × Int × Bool) := (Ty.int .i64).pair ((Ty.int .i64).pair (Ty.bool))
def tLim : Ty Lim := tLim0.iso fun a => (a.min, a.max, a.has)
instance : TyOk tLim := by unfold tLim tLim0; infer_instance
instance : TyMore tLim := by unfold tLim tLim0; infer_instance
instance : kAG tLim := by unfold tLim tLim0; infer_instance
theorem kDM : kAd prog 50 tLim := by
 refine kAW _ (fun x => ⟨x.1, x.2.1, x.2.2⟩) (fun _ => rfl) ?_
 exact kAT underlying50 kr (Flds.cons rfl kr (kAD underlying3) (Flds.cons rfl kr (kAD underlying3) (Flds.one rfl kr (kDt underlying4))))
theorem kCH {w : World} {S : Nat → Prop} {cs : LV} {a : Lim} (h : tLim.rd w S cs a) : cs = [.int .i64 a.min, .int .i64 a.max, .bool a.has] ∧ (Lit.int .i64 a.min).wf = true ∧ (Lit.int .i64 a.max).wf = true := by
 obtain ⟨xmin, rmin, rfl, ⟨rfl, wmin⟩, xmax, rmax, rfl, ⟨rfl, wmax⟩, rfl⟩ := h
 exact ⟨rfl, wmin, wmax⟩
structure Tb where
 elem : Int
 lim : Lim
 deriving DecidableEq
def tTb0 : Ty (Int × Lim) := (Ty.int .i64).pair (tLim)
def tTb : Ty Tb := tTb0.iso fun a => (a.elem, a.lim)
instance : TyOk tTb := by unfold tTb tTb0; infer_instance
instance : TyMore tTb := by unfold tTb tTb0; infer_instance
instance : kAG tTb := by unfold tTb tTb0; infer_instance
theorem kFE : kAd prog 52 tTb := by
 refine kAW _ (fun x => ⟨x.1, x.2⟩) (fun _ => rfl) ?_
 exact kAT underlying52 kr (Flds.cons rfl kr (kAD underlying48) (Flds.one rfl kr kDM))
theorem kDC {w : World} {S : Nat → Prop} {cs : LV} {a : Tb} (h : tTb.rd w S cs a) : cs = [.int .i64 a.elem, .int .i64 a.lim.min, .int .i64 a.lim.max, .bool a.lim.has] ∧ (Lit.int .i64 a.elem).wf = true ∧ (Lit.int .i64 a.lim.min).wf = true ∧ (Lit.int .i64 a.lim.max).wf = true := by
 obtain ⟨xelem, relem, rfl, ⟨rfl, welem⟩, hlim⟩ := h
 obtain ⟨rfl, klim0, klim1⟩ := kCH hlim
 exact ⟨rfl, welem, klim0, klim1⟩
structure Gl where
 val : Int
 mut_ : Bool
 deriving DecidableEq
def tGl0 : Ty (Int × Bool) := (Ty.int .i64).pair (Ty.bool)
def tGl : Ty Gl := tGl0.iso fun a => (a.val, a.mut_)
instance : TyOk tGl := by unfold tGl tGl0; infer_instance
instance : TyMore tGl := by unfold tGl tGl0; infer_instance
instance : kAG tGl := by unfold tGl tGl0; infer_instance
theorem kFF : kAd prog 54 tGl := by
 refine kAW _ (fun x => ⟨x.1, x.2⟩) (fun _ => rfl) ?_
 exact kAT underlying54 kr (Flds.cons rfl kr (kAD underlying48) (Flds.one rfl kr (kDt underlying4)))
theorem kEG {w : World} {S : Nat → Prop} {cs : LV} {a : Gl} (h : tGl.rd w S cs a) : cs = [.int .i64 a.val, .bool a.mut_] ∧ (Lit.int .i64 a.val).wf = true := by
 obtain ⟨xval, rval, rfl, ⟨rfl, wval⟩, rfl⟩ := h
 exact ⟨rfl, wval⟩
structure Im where
 mod : ByteArray
 name : ByteArray
 kind : Int
 func : Int
 table : Tb
 mem : Lim
 glob : Gl
def tIm0 : Ty (ByteArray × ByteArray × Int × Int × Tb × Lim × Gl) := Ty.str.pair (Ty.str.pair ((Ty.int .i64).pair ((Ty.int .i64).pair (tTb.pair (tLim.pair (tGl))))))
def tIm : Ty Im := tIm0.iso fun a => (a.mod, a.name, a.kind, a.func, a.table, a.mem, a.glob)
instance : TyOk tIm := by unfold tIm tIm0; infer_instance
instance : TyMore tIm := by unfold tIm tIm0; infer_instance
instance : kAG tIm := by unfold tIm tIm0; infer_instance
theorem kMG : kAd prog 292 tIm := by
 refine kAW _ (fun x => ⟨x.1, x.2.1, x.2.2.1, x.2.2.2.1, x.2.2.2.2.1, x.2.2.2.2.2.1, x.2.2.2.2.2.2⟩) (fun _ => rfl) ?_
 exact kAT underlying292 kr (Flds.cons rfl kr (kCD underlying9) (Flds.cons rfl kr (kCD underlying9) (Flds.cons rfl kr (kAD underlying290) (Flds.cons rfl kr (kAD underlying3) (Flds.cons rfl kr kFE (Flds.cons rfl kr kDM (Flds.one rfl kr kFF)))))))
structure Bk where
 kind : Int
 val : Int
 index : Int
 deriving DecidableEq
def tBk0 : Ty (Int × Int × Int) := (Ty.int .i64).pair ((Ty.int .i64).pair ((Ty.int .i64)))
def tBk : Ty Bk := tBk0.iso fun a => (a.kind, a.val, a.index)
instance : TyOk tBk := by unfold tBk tBk0; infer_instance
instance : TyMore tBk := by unfold tBk tBk0; infer_instance
instance : kAG tBk := by unfold tBk tBk0; infer_instance
theorem kMO : kAd prog 337 tBk := by
 refine kAW _ (fun x => ⟨x.1, x.2.1, x.2.2⟩) (fun _ => rfl) ?_
 exact kAT underlying337 kr (Flds.cons rfl kr (kAD underlying3) (Flds.cons rfl kr (kAD underlying48) (Flds.one rfl kr (kAD underlying3))))
theorem kMl {w : World} {S : Nat → Prop} {cs : LV} {a : Bk} (h : tBk.rd w S cs a) : cs = [.int .i64 a.kind, .int .i64 a.val, .int .i64 a.index] ∧ (Lit.int .i64 a.kind).wf = true ∧ (Lit.int .i64 a.val).wf = true ∧ (Lit.int .i64 a.index).wf = true := by
 obtain ⟨xkind, rkind, rfl, ⟨rfl, wkind⟩, xval, rval, rfl, ⟨rfl, wval⟩, rfl, windex⟩ := h
 exact ⟨rfl, wkind, wval, windex⟩
structure Ins where
 op : Int
 a : Int
 b : Int
 n : Int
 block : Bk
 types : List Int
 labels : List Int
def tIns0 : Ty (Int × Int × Int × Int × Bk × List Int × List Int) := (Ty.int .i64).pair ((Ty.int .i64).pair ((Ty.int .i64).pair ((Ty.int .u64).pair (tBk.pair ((Ty.int .i64).slice.pair ((Ty.int .i64).slice))))))
def tIns : Ty Ins := tIns0.iso fun a => (a.op, a.a, a.b, a.n, a.block, a.types, a.labels)
instance : TyOk tIns := by unfold tIns tIns0; infer_instance
instance : TyMore tIns := by unfold tIns tIns0; infer_instance
instance : kAG tIns := by unfold tIns tIns0; infer_instance
theorem kCb : kAd prog 339 tIns := by
 refine kAW _ (fun x => ⟨x.1, x.2.1, x.2.2.1, x.2.2.2.1, x.2.2.2.2.1, x.2.2.2.2.2.1, x.2.2.2.2.2.2⟩) (fun _ => rfl) ?_
 exact kAT underlying339 kr (Flds.cons rfl kr (kAD underlying335) (Flds.cons rfl kr (kAD underlying3) (Flds.cons rfl kr (kAD underlying3) (Flds.cons rfl kr (kAD underlying55) (Flds.cons rfl kr kMO (Flds.cons rfl kr (kAF underlying43 kr dc (kAD underlying48)) (Flds.one rfl kr (kAF underlying29 kr dc (kAD underlying3)))))))))
theorem kCf {w : World} {S : Nat → Prop} {cs : LV} {a : Ins} (h : tIns.rd w S cs a) : ∃ (Atypes : OA) (ctypes : Nat) (Alabels : OA) (clabels : Nat), cs = [.int .i64 a.op, .int .i64 a.a, .int .i64 a.b, .int .u64 a.n, .int .i64 a.block.kind, .int .i64 a.block.val, .int .i64 a.block.index, .slice Atypes a.types.length ctypes, .slice Alabels a.labels.length clabels] ∧ (Lit.int .i64 a.op).wf = true ∧ (Lit.int .i64 a.a).wf = true ∧ (Lit.int .i64 a.b).wf = true ∧ (Lit.int .u64 a.n).wf = true ∧ (Lit.int .i64 a.block.kind).wf = true ∧ (Lit.int .i64 a.block.val).wf = true ∧ (Lit.int .i64 a.block.index).wf = true ∧ a.types.length ≤ ctypes ∧ ctypes ≤ maxLen ∧ (Ty.int .i64).els w S Atypes a.types ∧ a.labels.length ≤ clabels ∧ clabels ≤ maxLen ∧ (Ty.int .i64).els w S Alabels a.labels := by
 obtain ⟨xop, rop, rfl, ⟨rfl, wop⟩, xa, ra, rfl, ⟨rfl, wa⟩, xb, rb, rfl, ⟨rfl, wb⟩, xn, rn, rfl, ⟨rfl, wn⟩, xblock, rblock, rfl, hblock, xtypes, rtypes, rfl, ⟨Atypes, ctypes, rfl, gtypes, mtypes, etypes⟩, Alabels, clabels, rfl, glabels, mlabels, elabels⟩ := h
 obtain ⟨rfl, kblock0, kblock1, kblock2⟩ := kMl hblock
 exact ⟨Atypes, ctypes, Alabels, clabels, rfl, wop, wa, wb, wn, kblock0, kblock1, kblock2, gtypes, mtypes, etypes, glabels, mlabels, elabels⟩
theorem kOY {w : World} {S : Nat → Prop} {a : Ins} {Atypes : OA} {ctypes : Nat} {Alabels : OA} {clabels : Nat} (f0 : (Lit.int .i64 a.op).wf = true) (f1 : (Lit.int .i64 a.a).wf = true) (f2 : (Lit.int .i64 a.b).wf = true) (f3 : (Lit.int .u64 a.n).wf = true) (f4 : (Lit.int .i64 a.block.kind).wf = true) (f5 : (Lit.int .i64 a.block.val).wf = true) (f6 : (Lit.int .i64 a.block.index).wf = true) (f7 : a.types.length ≤ ctypes) (f8 : ctypes ≤ maxLen) (f9 : (Ty.int .i64).els w S Atypes a.types) (f10 : a.labels.length ≤ clabels) (f11 : clabels ≤ maxLen) (f12 : (Ty.int .i64).els w S Alabels a.labels) : tIns.rd w S [.int .i64 a.op, .int .i64 a.a, .int .i64 a.b, .int .u64 a.n, .int .i64 a.block.kind, .int .i64 a.block.val, .int .i64 a.block.index, .slice Atypes a.types.length ctypes, .slice Alabels a.labels.length clabels] a :=
 ⟨[.int .i64 a.op], [.int .i64 a.a, .int .i64 a.b, .int .u64 a.n, .int .i64 a.block.kind, .int .i64 a.block.val, .int .i64 a.block.index, .slice Atypes a.types.length ctypes, .slice Alabels a.labels.length clabels], rfl, ⟨rfl, f0⟩, ⟨[.int .i64 a.a], [.int .i64 a.b, .int .u64 a.n, .int .i64 a.block.kind, .int .i64 a.block.val, .int .i64 a.block.index, .slice Atypes a.types.length ctypes, .slice Alabels a.labels.length clabels], rfl, ⟨rfl, f1⟩, ⟨[.int .i64 a.b], [.int .u64 a.n, .int .i64 a.block.kind, .int .i64 a.block.val, .int .i64 a.block.index, .slice Atypes a.types.length ctypes, .slice Alabels a.labels.length clabels], rfl, ⟨rfl, f2⟩, ⟨[.int .u64 a.n], [.int .i64 a.block.kind, .int .i64 a.block.val, .int .i64 a.block.index, .slice Atypes a.types.length ctypes, .slice Alabels a.labels.length clabels], rfl, ⟨rfl, f3⟩, ⟨[.int .i64 a.block.kind, .int .i64 a.block.val, .int .i64 a.block.index], [.slice Atypes a.types.length ctypes, .slice Alabels a.labels.length clabels], rfl, ⟨[.int .i64 a.block.kind], [.int .i64 a.block.val, .int .i64 a.block.index], rfl, ⟨rfl, f4⟩, ⟨[.int .i64 a.block.val], [.int .i64 a.block.index], rfl, ⟨rfl, f5⟩, ⟨rfl, f6⟩⟩⟩, ⟨[.slice Atypes a.types.length ctypes], [.slice Alabels a.labels.length clabels], rfl, ⟨_, _, rfl, f7, f8, f9⟩, ⟨_, _, rfl, f10, f11, f12⟩⟩⟩⟩⟩⟩⟩
structure Cd where
 type : Int
 locals : List Int
 body : List Ins
def tCd0 : Ty (Int × List Int × List Ins) := (Ty.int .i64).pair ((Ty.int .i64).slice.pair (tIns.slice))
def tCd : Ty Cd := tCd0.iso fun a => (a.type, a.locals, a.body)
instance : TyOk tCd := by unfold tCd tCd0; infer_instance
instance : TyMore tCd := by unfold tCd tCd0; infer_instance
instance : kAG tCd := by unfold tCd tCd0; infer_instance
theorem kMN : kAd prog 301 tCd := by
 refine kAW _ (fun x => ⟨x.1, x.2.1, x.2.2⟩) (fun _ => rfl) ?_
 exact kAT underlying301 kr (Flds.cons rfl kr (kAD underlying3) (Flds.cons rfl kr (kAF underlying43 kr dc (kAD underlying48)) (Flds.one rfl kr (kAF underlying299 kr dc kCb))))
theorem kFQ {w : World} {S : Nat → Prop} {cs : LV} {a : Cd} (h : tCd.rd w S cs a) : ∃ (Alocals : OA) (clocals : Nat) (Abody : OA) (cbody : Nat), cs = [.int .i64 a.type, .slice Alocals a.locals.length clocals, .slice Abody a.body.length cbody] ∧ (Lit.int .i64 a.type).wf = true ∧ a.locals.length ≤ clocals ∧ clocals ≤ maxLen ∧ (Ty.int .i64).els w S Alocals a.locals ∧ a.body.length ≤ cbody ∧ cbody ≤ maxLen ∧ tIns.els w S Abody a.body := by
 obtain ⟨xtype, rtype, rfl, ⟨rfl, wtype⟩, xlocals, rlocals, rfl, ⟨Alocals, clocals, rfl, glocals, mlocals, elocals⟩, Abody, cbody, rfl, gbody, mbody, ebody⟩ := h
 exact ⟨Alocals, clocals, Abody, cbody, rfl, wtype, glocals, mlocals, elocals, gbody, mbody, ebody⟩
theorem kPI {w : World} {S : Nat → Prop} {a : Cd} {Alocals : OA} {clocals : Nat} {Abody : OA} {cbody : Nat} (f0 : (Lit.int .i64 a.type).wf = true) (f1 : a.locals.length ≤ clocals) (f2 : clocals ≤ maxLen) (f3 : (Ty.int .i64).els w S Alocals a.locals) (f4 : a.body.length ≤ cbody) (f5 : cbody ≤ maxLen) (f6 : tIns.els w S Abody a.body) : tCd.rd w S [.int .i64 a.type, .slice Alocals a.locals.length clocals, .slice Abody a.body.length cbody] a :=
 ⟨[.int .i64 a.type], [.slice Alocals a.locals.length clocals, .slice Abody a.body.length cbody], rfl, ⟨rfl, f0⟩, ⟨[.slice Alocals a.locals.length clocals], [.slice Abody a.body.length cbody], rfl, ⟨_, _, rfl, f1, f2, f3⟩, ⟨_, _, rfl, f4, f5, f6⟩⟩⟩
structure Gd where
 type : Gl
 init : List Ins
def tGd0 : Ty (Gl × List Ins) := tGl.pair (tIns.slice)
def tGd : Ty Gd := tGd0.iso fun a => (a.type, a.init)
instance : TyOk tGd := by unfold tGd tGd0; infer_instance
instance : TyMore tGd := by unfold tGd tGd0; infer_instance
instance : kAG tGd := by unfold tGd tGd0; infer_instance
theorem kMH : kAd prog 306 tGd := by
 refine kAW _ (fun x => ⟨x.1, x.2⟩) (fun _ => rfl) ?_
 exact kAT underlying306 kr (Flds.cons rfl kr kFF (Flds.one rfl kr (kAF underlying299 kr dc kCb)))
theorem kFM {w : World} {S : Nat → Prop} {cs : LV} {a : Gd} (h : tGd.rd w S cs a) : ∃ (Ainit : OA) (cinit : Nat), cs = [.int .i64 a.type.val, .bool a.type.mut_, .slice Ainit a.init.length cinit] ∧ (Lit.int .i64 a.type.val).wf = true ∧ a.init.length ≤ cinit ∧ cinit ≤ maxLen ∧ tIns.els w S Ainit a.init := by
 obtain ⟨xtype, rtype, rfl, htype, Ainit, cinit, rfl, ginit, minit, einit⟩ := h
 obtain ⟨rfl, ktype0⟩ := kEG htype
 exact ⟨Ainit, cinit, rfl, ktype0, ginit, minit, einit⟩
theorem kPC {w : World} {S : Nat → Prop} {a : Gd} {Ainit : OA} {cinit : Nat} (f0 : (Lit.int .i64 a.type.val).wf = true) (f1 : a.init.length ≤ cinit) (f2 : cinit ≤ maxLen) (f3 : tIns.els w S Ainit a.init) : tGd.rd w S [.int .i64 a.type.val, .bool a.type.mut_, .slice Ainit a.init.length cinit] a :=
 ⟨[.int .i64 a.type.val, .bool a.type.mut_], [.slice Ainit a.init.length cinit], rfl, ⟨[.int .i64 a.type.val], [.bool a.type.mut_], rfl, ⟨rfl, f0⟩, rfl⟩, ⟨_, _, rfl, f1, f2, f3⟩⟩
structure Ex where
 name : ByteArray
 kind : Int
 index : Int
def tEx0 : Ty (ByteArray × Int × Int) := Ty.str.pair ((Ty.int .i64).pair ((Ty.int .i64)))
def tEx : Ty Ex := tEx0.iso fun a => (a.name, a.kind, a.index)
instance : TyOk tEx := by unfold tEx tEx0; infer_instance
instance : TyMore tEx := by unfold tEx tEx0; infer_instance
instance : kAG tEx := by unfold tEx tEx0; infer_instance
theorem kMJ : kAd prog 297 tEx := by
 refine kAW _ (fun x => ⟨x.1, x.2.1, x.2.2⟩) (fun _ => rfl) ?_
 exact kAT underlying297 kr (Flds.cons rfl kr (kCD underlying9) (Flds.cons rfl kr (kAD underlying290) (Flds.one rfl kr (kAD underlying3))))
structure El where
 mode : Int
 table : Int
 off : List Ins
 type : Int
 items : List (List Ins)
def tEl0 : Ty (Int × Int × List Ins × Int × List (List Ins)) := (Ty.int .i64).pair ((Ty.int .i64).pair (tIns.slice.pair ((Ty.int .i64).pair (tIns.slice.slice))))
def tEl : Ty El := tEl0.iso fun a => (a.mode, a.table, a.off, a.type, a.items)
instance : TyOk tEl := by unfold tEl tEl0; infer_instance
instance : TyMore tEl := by unfold tEl tEl0; infer_instance
instance : kAG tEl := by unfold tEl tEl0; infer_instance
theorem kMK : kAd prog 311 tEl := by
 refine kAW _ (fun x => ⟨x.1, x.2.1, x.2.2.1, x.2.2.2.1, x.2.2.2.2⟩) (fun _ => rfl) ?_
 exact kAT underlying311 kr (Flds.cons rfl kr (kAD underlying3) (Flds.cons rfl kr (kAD underlying3) (Flds.cons rfl kr (kAF underlying299 kr dc kCb) (Flds.cons rfl kr (kAD underlying48) (Flds.one rfl kr (kAF underlying309 kr dc (kAF underlying299 kr dc kCb)))))))
theorem kFN {w : World} {S : Nat → Prop} {cs : LV} {a : El} (h : tEl.rd w S cs a) : ∃ (Aoff : OA) (coff : Nat) (Aitems : OA) (citems : Nat), cs = [.int .i64 a.mode, .int .i64 a.table, .slice Aoff a.off.length coff, .int .i64 a.type, .slice Aitems a.items.length citems] ∧ (Lit.int .i64 a.mode).wf = true ∧ (Lit.int .i64 a.table).wf = true ∧ a.off.length ≤ coff ∧ coff ≤ maxLen ∧ tIns.els w S Aoff a.off ∧ (Lit.int .i64 a.type).wf = true ∧ a.items.length ≤ citems ∧ citems ≤ maxLen ∧ tIns.slice.els w S Aitems a.items := by
 obtain ⟨xmode, rmode, rfl, ⟨rfl, wmode⟩, xtable, rtable, rfl, ⟨rfl, wtable⟩, xoff, roff, rfl, ⟨Aoff, coff, rfl, goff, moff, eoff⟩, xtype, rtype, rfl, ⟨rfl, wtype⟩, Aitems, citems, rfl, gitems, mitems, eitems⟩ := h
 exact ⟨Aoff, coff, Aitems, citems, rfl, wmode, wtable, goff, moff, eoff, wtype, gitems, mitems, eitems⟩
theorem kPF {w : World} {S : Nat → Prop} {a : El} {Aoff : OA} {coff : Nat} {Aitems : OA} {citems : Nat} (f0 : (Lit.int .i64 a.mode).wf = true) (f1 : (Lit.int .i64 a.table).wf = true) (f2 : a.off.length ≤ coff) (f3 : coff ≤ maxLen) (f4 : tIns.els w S Aoff a.off) (f5 : (Lit.int .i64 a.type).wf = true) (f6 : a.items.length ≤ citems) (f7 : citems ≤ maxLen) (f8 : tIns.slice.els w S Aitems a.items) : tEl.rd w S [.int .i64 a.mode, .int .i64 a.table, .slice Aoff a.off.length coff, .int .i64 a.type, .slice Aitems a.items.length citems] a :=
 ⟨[.int .i64 a.mode], [.int .i64 a.table, .slice Aoff a.off.length coff, .int .i64 a.type, .slice Aitems a.items.length citems], rfl, ⟨rfl, f0⟩, ⟨[.int .i64 a.table], [.slice Aoff a.off.length coff, .int .i64 a.type, .slice Aitems a.items.length citems], rfl, ⟨rfl, f1⟩, ⟨[.slice Aoff a.off.length coff], [.int .i64 a.type, .slice Aitems a.items.length citems], rfl, ⟨_, _, rfl, f2, f3, f4⟩, ⟨[.int .i64 a.type], [.slice Aitems a.items.length citems], rfl, ⟨rfl, f5⟩, ⟨_, _, rfl, f6, f7, f8⟩⟩⟩⟩⟩
structure Da where
 mode : Int
 mem : Int
 off : List Ins
 bytes : List Int
def tDa0 : Ty (Int × Int × List Ins × List Int) := (Ty.int .i64).pair ((Ty.int .i64).pair (tIns.slice.pair ((Ty.int .u8).slice)))
def tDa : Ty Da := tDa0.iso fun a => (a.mode, a.mem, a.off, a.bytes)
instance : TyOk tDa := by unfold tDa tDa0; infer_instance
instance : TyMore tDa := by unfold tDa tDa0; infer_instance
instance : kAG tDa := by unfold tDa tDa0; infer_instance
theorem kML : kAd prog 316 tDa := by
 refine kAW _ (fun x => ⟨x.1, x.2.1, x.2.2.1, x.2.2.2⟩) (fun _ => rfl) ?_
 exact kAT underlying316 kr (Flds.cons rfl kr (kAD underlying3) (Flds.cons rfl kr (kAD underlying3) (Flds.cons rfl kr (kAF underlying299 kr dc kCb) (Flds.one rfl kr (kAF underlying59 kr dc (kAD underlying5))))))
theorem kFO {w : World} {S : Nat → Prop} {cs : LV} {a : Da} (h : tDa.rd w S cs a) : ∃ (Aoff : OA) (coff : Nat) (Abytes : OA) (cbytes : Nat), cs = [.int .i64 a.mode, .int .i64 a.mem, .slice Aoff a.off.length coff, .slice Abytes a.bytes.length cbytes] ∧ (Lit.int .i64 a.mode).wf = true ∧ (Lit.int .i64 a.mem).wf = true ∧ a.off.length ≤ coff ∧ coff ≤ maxLen ∧ tIns.els w S Aoff a.off ∧ a.bytes.length ≤ cbytes ∧ cbytes ≤ maxLen ∧ (Ty.int .u8).els w S Abytes a.bytes := by
 obtain ⟨xmode, rmode, rfl, ⟨rfl, wmode⟩, xmem, rmem, rfl, ⟨rfl, wmem⟩, xoff, roff, rfl, ⟨Aoff, coff, rfl, goff, moff, eoff⟩, Abytes, cbytes, rfl, gbytes, mbytes, ebytes⟩ := h
 exact ⟨Aoff, coff, Abytes, cbytes, rfl, wmode, wmem, goff, moff, eoff, gbytes, mbytes, ebytes⟩
theorem kPG {w : World} {S : Nat → Prop} {a : Da} {Aoff : OA} {coff : Nat} {Abytes : OA} {cbytes : Nat} (f0 : (Lit.int .i64 a.mode).wf = true) (f1 : (Lit.int .i64 a.mem).wf = true) (f2 : a.off.length ≤ coff) (f3 : coff ≤ maxLen) (f4 : tIns.els w S Aoff a.off) (f5 : a.bytes.length ≤ cbytes) (f6 : cbytes ≤ maxLen) (f7 : (Ty.int .u8).els w S Abytes a.bytes) : tDa.rd w S [.int .i64 a.mode, .int .i64 a.mem, .slice Aoff a.off.length coff, .slice Abytes a.bytes.length cbytes] a :=
 ⟨[.int .i64 a.mode], [.int .i64 a.mem, .slice Aoff a.off.length coff, .slice Abytes a.bytes.length cbytes], rfl, ⟨rfl, f0⟩, ⟨[.int .i64 a.mem], [.slice Aoff a.off.length coff, .slice Abytes a.bytes.length cbytes], rfl, ⟨rfl, f1⟩, ⟨[.slice Aoff a.off.length coff], [.slice Abytes a.bytes.length cbytes], rfl, ⟨_, _, rfl, f2, f3, f4⟩, ⟨_, _, rfl, f5, f6, f7⟩⟩⟩⟩
structure Cu where
 after : Int
 name : ByteArray
 bytes : List Int
def tCu0 : Ty (Int × ByteArray × List Int) := (Ty.int .i64).pair (Ty.str.pair ((Ty.int .u8).slice))
def tCu : Ty Cu := tCu0.iso fun a => (a.after, a.name, a.bytes)
instance : TyOk tCu := by unfold tCu tCu0; infer_instance
instance : TyMore tCu := by unfold tCu tCu0; infer_instance
instance : kAG tCu := by unfold tCu tCu0; infer_instance
theorem kMM : kAd prog 320 tCu := by
 refine kAW _ (fun x => ⟨x.1, x.2.1, x.2.2⟩) (fun _ => rfl) ?_
 exact kAT underlying320 kr (Flds.cons rfl kr (kAD underlying3) (Flds.cons rfl kr (kCD underlying9) (Flds.one rfl kr (kAF underlying59 kr dc (kAD underlying5)))))
theorem kFP {w : World} {S : Nat → Prop} {cs : LV} {a : Cu} (h : tCu.rd w S cs a) : ∃ (Abytes : OA) (cbytes : Nat), cs = [.int .i64 a.after, .string a.name, .slice Abytes a.bytes.length cbytes] ∧ (Lit.int .i64 a.after).wf = true ∧ a.name.size ≤ maxLen ∧ a.bytes.length ≤ cbytes ∧ cbytes ≤ maxLen ∧ (Ty.int .u8).els w S Abytes a.bytes := by
 obtain ⟨xafter, rafter, rfl, ⟨rfl, wafter⟩, xname, rname, rfl, ⟨rfl, wname⟩, Abytes, cbytes, rfl, gbytes, mbytes, ebytes⟩ := h
 exact ⟨Abytes, cbytes, rfl, wafter, wname, gbytes, mbytes, ebytes⟩
theorem kPH {w : World} {S : Nat → Prop} {a : Cu} {Abytes : OA} {cbytes : Nat} (f0 : (Lit.int .i64 a.after).wf = true) (f1 : a.name.size ≤ maxLen) (f2 : a.bytes.length ≤ cbytes) (f3 : cbytes ≤ maxLen) (f4 : (Ty.int .u8).els w S Abytes a.bytes) : tCu.rd w S [.int .i64 a.after, .string a.name, .slice Abytes a.bytes.length cbytes] a :=
 ⟨[.int .i64 a.after], [.string a.name, .slice Abytes a.bytes.length cbytes], rfl, ⟨rfl, f0⟩, ⟨[.string a.name], [.slice Abytes a.bytes.length cbytes], rfl, ⟨rfl, f1⟩, ⟨_, _, rfl, f2, f3, f4⟩⟩⟩
structure Md where
 types : List Fn
 imports : List Im
 funcs : List Cd
 tables : List Tb
 mems : List Lim
 globals : List Gd
 exports : List Ex
 hasStart : Bool
 start : Int
 elems : List El
 datas : List Da
 customs : List Cu
def tMd0 : Ty (List Fn × List Im × List Cd × List Tb × List Lim × List Gd × List Ex × Bool × Int × List El × List Da × List Cu) := tFn.slice.pair (tIm.slice.pair (tCd.slice.pair (tTb.slice.pair (tLim.slice.pair (tGd.slice.pair (tEx.slice.pair (Ty.bool.pair ((Ty.int .i64).pair (tEl.slice.pair (tDa.slice.pair (tCu.slice)))))))))))
def tMd : Ty Md := tMd0.iso fun a => (a.types, a.imports, a.funcs, a.tables, a.mems, a.globals, a.exports, a.hasStart, a.start, a.elems, a.datas, a.customs)
instance : TyOk tMd := by unfold tMd tMd0; infer_instance
instance : TyMore tMd := by unfold tMd tMd0; infer_instance
instance : kAG tMd := by unfold tMd tMd0; infer_instance
theorem kMF : kAd prog 71 tMd := by
 refine kAW _ (fun x => ⟨x.1, x.2.1, x.2.2.1, x.2.2.2.1, x.2.2.2.2.1, x.2.2.2.2.2.1, x.2.2.2.2.2.2.1, x.2.2.2.2.2.2.2.1, x.2.2.2.2.2.2.2.2.1, x.2.2.2.2.2.2.2.2.2.1, x.2.2.2.2.2.2.2.2.2.2.1, x.2.2.2.2.2.2.2.2.2.2.2⟩) (fun _ => rfl) ?_
 exact kAT underlying71 kr (Flds.cons rfl kr (kAF underlying60 kr dc kFG) (Flds.cons rfl kr (kAF underlying61 kr dc kMG) (Flds.cons rfl kr (kAF underlying62 kr dc kMN) (Flds.cons rfl kr (kAF underlying63 kr dc kFE) (Flds.cons rfl kr (kAF underlying64 kr dc kDM) (Flds.cons rfl kr (kAF underlying65 kr dc kMH) (Flds.cons rfl kr (kAF underlying66 kr dc kMJ) (Flds.cons rfl kr (kDt underlying4) (Flds.cons rfl kr (kAD underlying3) (Flds.cons rfl kr (kAF underlying67 kr dc kMK) (Flds.cons rfl kr (kAF underlying68 kr dc kML) (Flds.one rfl kr (kAF underlying69 kr dc kMM)))))))))))))
theorem kBl {w : World} {S : Nat → Prop} {cs : LV} {a : Md} (h : tMd.rd w S cs a) : ∃ (Atypes : OA) (ctypes : Nat) (Aimports : OA) (cimports : Nat) (Afuncs : OA) (cfuncs : Nat) (Atables : OA) (ctables : Nat) (Amems : OA) (cmems : Nat) (Aglobals : OA) (cglobals : Nat) (Aexports : OA) (cexports : Nat) (Aelems : OA) (celems : Nat) (Adatas : OA) (cdatas : Nat) (Acustoms : OA) (ccustoms : Nat), cs = [.slice Atypes a.types.length ctypes, .slice Aimports a.imports.length cimports, .slice Afuncs a.funcs.length cfuncs, .slice Atables a.tables.length ctables, .slice Amems a.mems.length cmems, .slice Aglobals a.globals.length cglobals, .slice Aexports a.exports.length cexports, .bool a.hasStart, .int .i64 a.start, .slice Aelems a.elems.length celems, .slice Adatas a.datas.length cdatas, .slice Acustoms a.customs.length ccustoms] ∧ a.types.length ≤ ctypes ∧ ctypes ≤ maxLen ∧ tFn.els w S Atypes a.types ∧ a.imports.length ≤ cimports ∧ cimports ≤ maxLen ∧ tIm.els w S Aimports a.imports ∧ a.funcs.length ≤ cfuncs ∧ cfuncs ≤ maxLen ∧ tCd.els w S Afuncs a.funcs ∧ a.tables.length ≤ ctables ∧ ctables ≤ maxLen ∧ tTb.els w S Atables a.tables ∧ a.mems.length ≤ cmems ∧ cmems ≤ maxLen ∧ tLim.els w S Amems a.mems ∧ a.globals.length ≤ cglobals ∧ cglobals ≤ maxLen ∧ tGd.els w S Aglobals a.globals ∧ a.exports.length ≤ cexports ∧ cexports ≤ maxLen ∧ tEx.els w S Aexports a.exports ∧ (Lit.int .i64 a.start).wf = true ∧ a.elems.length ≤ celems ∧ celems ≤ maxLen ∧ tEl.els w S Aelems a.elems ∧ a.datas.length ≤ cdatas ∧ cdatas ≤ maxLen ∧ tDa.els w S Adatas a.datas ∧ a.customs.length ≤ ccustoms ∧ ccustoms ≤ maxLen ∧ tCu.els w S Acustoms a.customs := by
 obtain ⟨xtypes, rtypes, rfl, ⟨Atypes, ctypes, rfl, gtypes, mtypes, etypes⟩, ximports, rimports, rfl, ⟨Aimports, cimports, rfl, gimports, mimports, eimports⟩, xfuncs, rfuncs, rfl, ⟨Afuncs, cfuncs, rfl, gfuncs, mfuncs, efuncs⟩, xtables, rtables, rfl, ⟨Atables, ctables, rfl, gtables, mtables, etables⟩, xmems, rmems, rfl, ⟨Amems, cmems, rfl, gmems, mmems, emems⟩, xglobals, rglobals, rfl, ⟨Aglobals, cglobals, rfl, gglobals, mglobals, eglobals⟩, xexports, rexports, rfl, ⟨Aexports, cexports, rfl, gexports, mexports, eexports⟩, xhasStart, rhasStart, rfl, rfl, xstart, rstart, rfl, ⟨rfl, wstart⟩, xelems, relems, rfl, ⟨Aelems, celems, rfl, gelems, melems, eelems⟩, xdatas, rdatas, rfl, ⟨Adatas, cdatas, rfl, gdatas, mdatas, edatas⟩, Acustoms, ccustoms, rfl, gcustoms, mcustoms, ecustoms⟩ := h
 exact ⟨Atypes, ctypes, Aimports, cimports, Afuncs, cfuncs, Atables, ctables, Amems, cmems, Aglobals, cglobals, Aexports, cexports, Aelems, celems, Adatas, cdatas, Acustoms, ccustoms, rfl, gtypes, mtypes, etypes, gimports, mimports, eimports, gfuncs, mfuncs, efuncs, gtables, mtables, etables, gmems, mmems, emems, gglobals, mglobals, eglobals, gexports, mexports, eexports, wstart, gelems, melems, eelems, gdatas, mdatas, edatas, gcustoms, mcustoms, ecustoms⟩
theorem kJL {w : World} {S : Nat → Prop} {a : Md} {Atypes : OA} {ctypes : Nat} {Aimports : OA} {cimports : Nat} {Afuncs : OA} {cfuncs : Nat} {Atables : OA} {ctables : Nat} {Amems : OA} {cmems : Nat} {Aglobals : OA} {cglobals : Nat} {Aexports : OA} {cexports : Nat} {Aelems : OA} {celems : Nat} {Adatas : OA} {cdatas : Nat} {Acustoms : OA} {ccustoms : Nat} (f0 : a.types.length ≤ ctypes) (f1 : ctypes ≤ maxLen) (f2 : tFn.els w S Atypes a.types) (f3 : a.imports.length ≤ cimports) (f4 : cimports ≤ maxLen) (f5 : tIm.els w S Aimports a.imports) (f6 : a.funcs.length ≤ cfuncs) (f7 : cfuncs ≤ maxLen) (f8 : tCd.els w S Afuncs a.funcs) (f9 : a.tables.length ≤ ctables) (f10 : ctables ≤ maxLen) (f11 : tTb.els w S Atables a.tables) (f12 : a.mems.length ≤ cmems) (f13 : cmems ≤ maxLen) (f14 : tLim.els w S Amems a.mems) (f15 : a.globals.length ≤ cglobals) (f16 : cglobals ≤ maxLen) (f17 : tGd.els w S Aglobals a.globals) (f18 : a.exports.length ≤ cexports) (f19 : cexports ≤ maxLen) (f20 : tEx.els w S Aexports a.exports) (f21 : (Lit.int .i64 a.start).wf = true) (f22 : a.elems.length ≤ celems) (f23 : celems ≤ maxLen) (f24 : tEl.els w S Aelems a.elems) (f25 : a.datas.length ≤ cdatas) (f26 : cdatas ≤ maxLen) (f27 : tDa.els w S Adatas a.datas) (f28 : a.customs.length ≤ ccustoms) (f29 : ccustoms ≤ maxLen) (f30 : tCu.els w S Acustoms a.customs) : tMd.rd w S [.slice Atypes a.types.length ctypes, .slice Aimports a.imports.length cimports, .slice Afuncs a.funcs.length cfuncs, .slice Atables a.tables.length ctables, .slice Amems a.mems.length cmems, .slice Aglobals a.globals.length cglobals, .slice Aexports a.exports.length cexports, .bool a.hasStart, .int .i64 a.start, .slice Aelems a.elems.length celems, .slice Adatas a.datas.length cdatas, .slice Acustoms a.customs.length ccustoms] a :=
 ⟨[.slice Atypes a.types.length ctypes], [.slice Aimports a.imports.length cimports, .slice Afuncs a.funcs.length cfuncs, .slice Atables a.tables.length ctables, .slice Amems a.mems.length cmems, .slice Aglobals a.globals.length cglobals, .slice Aexports a.exports.length cexports, .bool a.hasStart, .int .i64 a.start, .slice Aelems a.elems.length celems, .slice Adatas a.datas.length cdatas, .slice Acustoms a.customs.length ccustoms], rfl, ⟨_, _, rfl, f0, f1, f2⟩, ⟨[.slice Aimports a.imports.length cimports], [.slice Afuncs a.funcs.length cfuncs, .slice Atables a.tables.length ctables, .slice Amems a.mems.length cmems, .slice Aglobals a.globals.length cglobals, .slice Aexports a.exports.length cexports, .bool a.hasStart, .int .i64 a.start, .slice Aelems a.elems.length celems, .slice Adatas a.datas.length cdatas, .slice Acustoms a.customs.length ccustoms], rfl, ⟨_, _, rfl, f3, f4, f5⟩, ⟨[.slice Afuncs a.funcs.length cfuncs], [.slice Atables a.tables.length ctables, .slice Amems a.mems.length cmems, .slice Aglobals a.globals.length cglobals, .slice Aexports a.exports.length cexports, .bool a.hasStart, .int .i64 a.start, .slice Aelems a.elems.length celems, .slice Adatas a.datas.length cdatas, .slice Acustoms a.customs.length ccustoms], rfl, ⟨_, _, rfl, f6, f7, f8⟩, ⟨[.slice Atables a.tables.length ctables], [.slice Amems a.mems.length cmems, .slice Aglobals a.globals.length cglobals, .slice Aexports a.exports.length cexports, .bool a.hasStart, .int .i64 a.start, .slice Aelems a.elems.length celems, .slice Adatas a.datas.length cdatas, .slice Acustoms a.customs.length ccustoms], rfl, ⟨_, _, rfl, f9, f10, f11⟩, ⟨[.slice Amems a.mems.length cmems], [.slice Aglobals a.globals.length cglobals, .slice Aexports a.exports.length cexports, .bool a.hasStart, .int .i64 a.start, .slice Aelems a.elems.length celems, .slice Adatas a.datas.length cdatas, .slice Acustoms a.customs.length ccustoms], rfl, ⟨_, _, rfl, f12, f13, f14⟩, ⟨[.slice Aglobals a.globals.length cglobals], [.slice Aexports a.exports.length cexports, .bool a.hasStart, .int .i64 a.start, .slice Aelems a.elems.length celems, .slice Adatas a.datas.length cdatas, .slice Acustoms a.customs.length ccustoms], rfl, ⟨_, _, rfl, f15, f16, f17⟩, ⟨[.slice Aexports a.exports.length cexports], [.bool a.hasStart, .int .i64 a.start, .slice Aelems a.elems.length celems, .slice Adatas a.datas.length cdatas, .slice Acustoms a.customs.length ccustoms], rfl, ⟨_, _, rfl, f18, f19, f20⟩, ⟨[.bool a.hasStart], [.int .i64 a.start, .slice Aelems a.elems.length celems, .slice Adatas a.datas.length cdatas, .slice Acustoms a.customs.length ccustoms], rfl, rfl, ⟨[.int .i64 a.start], [.slice Aelems a.elems.length celems, .slice Adatas a.datas.length cdatas, .slice Acustoms a.customs.length ccustoms], rfl, ⟨rfl, f21⟩, ⟨[.slice Aelems a.elems.length celems], [.slice Adatas a.datas.length cdatas, .slice Acustoms a.customs.length ccustoms], rfl, ⟨_, _, rfl, f22, f23, f24⟩, ⟨[.slice Adatas a.datas.length cdatas], [.slice Acustoms a.customs.length ccustoms], rfl, ⟨_, _, rfl, f25, f26, f27⟩, ⟨_, _, rfl, f28, f29, f30⟩⟩⟩⟩⟩⟩⟩⟩⟩⟩⟩⟩
structure Ad where
 funcs : List Int
 tables : List Int
 mems : List Int
 globals : List Int
 elems : List Int
 datas : List Int
def tAd0 : Ty (List Int × List Int × List Int × List Int × List Int × List Int) := (Ty.int .i64).slice.pair ((Ty.int .i64).slice.pair ((Ty.int .i64).slice.pair ((Ty.int .i64).slice.pair ((Ty.int .i64).slice.pair ((Ty.int .i64).slice)))))
def tAd : Ty Ad := tAd0.iso fun a => (a.funcs, a.tables, a.mems, a.globals, a.elems, a.datas)
instance : TyOk tAd := by unfold tAd tAd0; infer_instance
instance : TyMore tAd := by unfold tAd tAd0; infer_instance
instance : kAG tAd := by unfold tAd tAd0; infer_instance
theorem kMP : kAd prog 73 tAd := by
 refine kAW _ (fun x => ⟨x.1, x.2.1, x.2.2.1, x.2.2.2.1, x.2.2.2.2.1, x.2.2.2.2.2⟩) (fun _ => rfl) ?_
 exact kAT underlying73 kr (Flds.cons rfl kr (kAF underlying29 kr dc (kAD underlying3)) (Flds.cons rfl kr (kAF underlying29 kr dc (kAD underlying3)) (Flds.cons rfl kr (kAF underlying29 kr dc (kAD underlying3)) (Flds.cons rfl kr (kAF underlying29 kr dc (kAD underlying3)) (Flds.cons rfl kr (kAF underlying29 kr dc (kAD underlying3)) (Flds.one rfl kr (kAF underlying29 kr dc (kAD underlying3))))))))
theorem kDE {w : World} {S : Nat → Prop} {cs : LV} {a : Ad} (h : tAd.rd w S cs a) : ∃ (Afuncs : OA) (cfuncs : Nat) (Atables : OA) (ctables : Nat) (Amems : OA) (cmems : Nat) (Aglobals : OA) (cglobals : Nat) (Aelems : OA) (celems : Nat) (Adatas : OA) (cdatas : Nat), cs = [.slice Afuncs a.funcs.length cfuncs, .slice Atables a.tables.length ctables, .slice Amems a.mems.length cmems, .slice Aglobals a.globals.length cglobals, .slice Aelems a.elems.length celems, .slice Adatas a.datas.length cdatas] ∧ a.funcs.length ≤ cfuncs ∧ cfuncs ≤ maxLen ∧ (Ty.int .i64).els w S Afuncs a.funcs ∧ a.tables.length ≤ ctables ∧ ctables ≤ maxLen ∧ (Ty.int .i64).els w S Atables a.tables ∧ a.mems.length ≤ cmems ∧ cmems ≤ maxLen ∧ (Ty.int .i64).els w S Amems a.mems ∧ a.globals.length ≤ cglobals ∧ cglobals ≤ maxLen ∧ (Ty.int .i64).els w S Aglobals a.globals ∧ a.elems.length ≤ celems ∧ celems ≤ maxLen ∧ (Ty.int .i64).els w S Aelems a.elems ∧ a.datas.length ≤ cdatas ∧ cdatas ≤ maxLen ∧ (Ty.int .i64).els w S Adatas a.datas := by
 obtain ⟨xfuncs, rfuncs, rfl, ⟨Afuncs, cfuncs, rfl, gfuncs, mfuncs, efuncs⟩, xtables, rtables, rfl, ⟨Atables, ctables, rfl, gtables, mtables, etables⟩, xmems, rmems, rfl, ⟨Amems, cmems, rfl, gmems, mmems, emems⟩, xglobals, rglobals, rfl, ⟨Aglobals, cglobals, rfl, gglobals, mglobals, eglobals⟩, xelems, relems, rfl, ⟨Aelems, celems, rfl, gelems, melems, eelems⟩, Adatas, cdatas, rfl, gdatas, mdatas, edatas⟩ := h
 exact ⟨Afuncs, cfuncs, Atables, ctables, Amems, cmems, Aglobals, cglobals, Aelems, celems, Adatas, cdatas, rfl, gfuncs, mfuncs, efuncs, gtables, mtables, etables, gmems, mmems, emems, gglobals, mglobals, eglobals, gelems, melems, eelems, gdatas, mdatas, edatas⟩
theorem kJN {w : World} {S : Nat → Prop} {a : Ad} {Afuncs : OA} {cfuncs : Nat} {Atables : OA} {ctables : Nat} {Amems : OA} {cmems : Nat} {Aglobals : OA} {cglobals : Nat} {Aelems : OA} {celems : Nat} {Adatas : OA} {cdatas : Nat} (f0 : a.funcs.length ≤ cfuncs) (f1 : cfuncs ≤ maxLen) (f2 : (Ty.int .i64).els w S Afuncs a.funcs) (f3 : a.tables.length ≤ ctables) (f4 : ctables ≤ maxLen) (f5 : (Ty.int .i64).els w S Atables a.tables) (f6 : a.mems.length ≤ cmems) (f7 : cmems ≤ maxLen) (f8 : (Ty.int .i64).els w S Amems a.mems) (f9 : a.globals.length ≤ cglobals) (f10 : cglobals ≤ maxLen) (f11 : (Ty.int .i64).els w S Aglobals a.globals) (f12 : a.elems.length ≤ celems) (f13 : celems ≤ maxLen) (f14 : (Ty.int .i64).els w S Aelems a.elems) (f15 : a.datas.length ≤ cdatas) (f16 : cdatas ≤ maxLen) (f17 : (Ty.int .i64).els w S Adatas a.datas) : tAd.rd w S [.slice Afuncs a.funcs.length cfuncs, .slice Atables a.tables.length ctables, .slice Amems a.mems.length cmems, .slice Aglobals a.globals.length cglobals, .slice Aelems a.elems.length celems, .slice Adatas a.datas.length cdatas] a :=
 ⟨[.slice Afuncs a.funcs.length cfuncs], [.slice Atables a.tables.length ctables, .slice Amems a.mems.length cmems, .slice Aglobals a.globals.length cglobals, .slice Aelems a.elems.length celems, .slice Adatas a.datas.length cdatas], rfl, ⟨_, _, rfl, f0, f1, f2⟩, ⟨[.slice Atables a.tables.length ctables], [.slice Amems a.mems.length cmems, .slice Aglobals a.globals.length cglobals, .slice Aelems a.elems.length celems, .slice Adatas a.datas.length cdatas], rfl, ⟨_, _, rfl, f3, f4, f5⟩, ⟨[.slice Amems a.mems.length cmems], [.slice Aglobals a.globals.length cglobals, .slice Aelems a.elems.length celems, .slice Adatas a.datas.length cdatas], rfl, ⟨_, _, rfl, f6, f7, f8⟩, ⟨[.slice Aglobals a.globals.length cglobals], [.slice Aelems a.elems.length celems, .slice Adatas a.datas.length cdatas], rfl, ⟨_, _, rfl, f9, f10, f11⟩, ⟨[.slice Aelems a.elems.length celems], [.slice Adatas a.datas.length cdatas], rfl, ⟨_, _, rfl, f12, f13, f14⟩, ⟨_, _, rfl, f15, f16, f17⟩⟩⟩⟩⟩⟩
structure Fi where
 ty : Fn
 inst : Int
 index : Int
def tFi0 : Ty (Fn × Int × Int) := tFn.pair ((Ty.int .i64).pair ((Ty.int .i64)))
def tFi : Ty Fi := tFi0.iso fun a => (a.ty, a.inst, a.index)
instance : TyOk tFi := by unfold tFi tFi0; infer_instance
instance : TyMore tFi := by unfold tFi tFi0; infer_instance
instance : kAG tFi := by unfold tFi tFi0; infer_instance
theorem kMI : kAd prog 47 tFi := by
 refine kAW _ (fun x => ⟨x.1, x.2.1, x.2.2⟩) (fun _ => rfl) ?_
 exact kAT underlying47 kr (Flds.cons rfl kr kFG (Flds.cons rfl kr (kAD underlying3) (Flds.one rfl kr (kAD underlying3))))
theorem kBm {w : World} {S : Nat → Prop} {cs : LV} {a : Fi} (h : tFi.rd w S cs a) : ∃ (Aty_params : OA) (cty_params : Nat) (Aty_results : OA) (cty_results : Nat), cs = [.slice Aty_params a.ty.params.length cty_params, .slice Aty_results a.ty.results.length cty_results, .int .i64 a.inst, .int .i64 a.index] ∧ a.ty.params.length ≤ cty_params ∧ cty_params ≤ maxLen ∧ (Ty.int .i64).els w S Aty_params a.ty.params ∧ a.ty.results.length ≤ cty_results ∧ cty_results ≤ maxLen ∧ (Ty.int .i64).els w S Aty_results a.ty.results ∧ (Lit.int .i64 a.inst).wf = true ∧ (Lit.int .i64 a.index).wf = true := by
 obtain ⟨xty, rty, rfl, hty, xinst, rinst, rfl, ⟨rfl, winst⟩, rfl, windex⟩ := h
 obtain ⟨Aty_params, cty_params, Aty_results, cty_results, rfl, kty0, kty1, kty2, kty3, kty4, kty5⟩ := Fn_cells hty
 exact ⟨Aty_params, cty_params, Aty_results, cty_results, rfl, kty0, kty1, kty2, kty3, kty4, kty5, winst, windex⟩
theorem Fi_mk {w : World} {S : Nat → Prop} {a : Fi} {Aty_params : OA} {cty_params : Nat} {Aty_results : OA} {cty_results : Nat} (f0 : a.ty.params.length ≤ cty_params) (f1 : cty_params ≤ maxLen) (f2 : (Ty.int .i64).els w S Aty_params a.ty.params) (f3 : a.ty.results.length ≤ cty_results) (f4 : cty_results ≤ maxLen) (f5 : (Ty.int .i64).els w S Aty_results a.ty.results) (f6 : (Lit.int .i64 a.inst).wf = true) (f7 : (Lit.int .i64 a.index).wf = true) : tFi.rd w S [.slice Aty_params a.ty.params.length cty_params, .slice Aty_results a.ty.results.length cty_results, .int .i64 a.inst, .int .i64 a.index] a :=
 ⟨[.slice Aty_params a.ty.params.length cty_params, .slice Aty_results a.ty.results.length cty_results], [.int .i64 a.inst, .int .i64 a.index], rfl, ⟨[.slice Aty_params a.ty.params.length cty_params], [.slice Aty_results a.ty.results.length cty_results], rfl, ⟨_, _, rfl, f0, f1, f2⟩, ⟨_, _, rfl, f3, f4, f5⟩⟩, ⟨[.int .i64 a.inst], [.int .i64 a.index], rfl, ⟨rfl, f6⟩, ⟨rfl, f7⟩⟩⟩
structure Ca where
 host : Int
 args : List Vl
def tCa0 : Ty (Int × List Vl) := (Ty.int .i64).pair (tVl.slice)
def tCa : Ty Ca := tCa0.iso fun a => (a.host, a.args)
instance : TyOk tCa := by unfold tCa tCa0; infer_instance
instance : TyMore tCa := by unfold tCa tCa0; infer_instance
instance : kAG tCa := by unfold tCa tCa0; infer_instance
theorem kIE {w : World} {S : Nat → Prop} {cs : LV} {a : Ca} (h : tCa.rd w S cs a) : ∃ (Aargs : OA) (cargs : Nat), cs = [.int .i64 a.host, .slice Aargs a.args.length cargs] ∧ (Lit.int .i64 a.host).wf = true ∧ a.args.length ≤ cargs ∧ cargs ≤ maxLen ∧ tVl.els w S Aargs a.args := by
 obtain ⟨xhost, rhost, rfl, ⟨rfl, whost⟩, Aargs, cargs, rfl, gargs, margs, eargs⟩ := h
 exact ⟨Aargs, cargs, rfl, whost, gargs, margs, eargs⟩
theorem kKZ {w : World} {S : Nat → Prop} {a : Ca} {Aargs : OA} {cargs : Nat} (f0 : (Lit.int .i64 a.host).wf = true) (f1 : a.args.length ≤ cargs) (f2 : cargs ≤ maxLen) (f3 : tVl.els w S Aargs a.args) : tCa.rd w S [.int .i64 a.host, .slice Aargs a.args.length cargs] a :=
 ⟨[.int .i64 a.host], [.slice Aargs a.args.length cargs], rfl, ⟨rfl, f0⟩, ⟨_, _, rfl, f1, f2, f3⟩⟩
theorem kKa {w : World} {S : Nat → Prop} {A : OA} {l : List Ca} (h : tCa.els w S A l) (k : Nat) (hk : k < l.length) : ∃ (b o : Nat) (Aargs : OA) (cargs : Nat), A = some ⟨b, o, none⟩ ∧ S b ∧ w.cell? ⟨b, o + k * 2, none⟩ = some (.int .i64 l[k].host) ∧ w.cell? ⟨b, o + k * 2 + 1, none⟩ = some (.slice Aargs l[k].args.length cargs) ∧ (Lit.int .i64 l[k].host).wf = true ∧ l[k].args.length ≤ cargs ∧ cargs ≤ maxLen ∧ tVl.els w S Aargs l[k].args := by
 obtain ⟨b, o, ds, rfl, hb, hc, hr⟩ := h.at_ k hk
 obtain ⟨Aargs, cargs, rfl, f0, f1, f2, f3⟩ := kIE hr
 have e : tCa.size = 2 := rfl
 rw [e] at hc
 exact ⟨b, o, Aargs, cargs, rfl, hb, hc 0 _ rfl, (by have := hc 1 _ rfl; rwa [← Nat.add_assoc] at this), f0, f1, f2, f3⟩
structure Sh where
 mems : List (List Int)
 tables : List (List Int)
 globals : List Vl
 elems : List Bool
 datas : List Bool
 calls : List Ca
def tSh0 : Ty (List (List Int) × List (List Int) × List Vl × List Bool × List Bool × List Ca) := (Ty.int .u8).slice.slice.pair ((Ty.int .u64).slice.slice.pair (tVl.slice.pair (Ty.bool.slice.pair (Ty.bool.slice.pair (tCa.slice)))))
def tSh : Ty Sh := tSh0.iso fun a => (a.mems, a.tables, a.globals, a.elems, a.datas, a.calls)
instance : TyOk tSh := by unfold tSh tSh0; infer_instance
instance : TyMore tSh := by unfold tSh tSh0; infer_instance
instance : kAG tSh := by unfold tSh tSh0; infer_instance
theorem kFL {w : World} {S : Nat → Prop} {cs : LV} {a : Sh} (h : tSh.rd w S cs a) : ∃ (Amems : OA) (cmems : Nat) (Atables : OA) (ctables : Nat) (Aglobals : OA) (cglobals : Nat) (Aelems : OA) (celems : Nat) (Adatas : OA) (cdatas : Nat) (Acalls : OA) (ccalls : Nat), cs = [.slice Amems a.mems.length cmems, .slice Atables a.tables.length ctables, .slice Aglobals a.globals.length cglobals, .slice Aelems a.elems.length celems, .slice Adatas a.datas.length cdatas, .slice Acalls a.calls.length ccalls] ∧ a.mems.length ≤ cmems ∧ cmems ≤ maxLen ∧ (Ty.int .u8).slice.els w S Amems a.mems ∧ a.tables.length ≤ ctables ∧ ctables ≤ maxLen ∧ (Ty.int .u64).slice.els w S Atables a.tables ∧ a.globals.length ≤ cglobals ∧ cglobals ≤ maxLen ∧ tVl.els w S Aglobals a.globals ∧ a.elems.length ≤ celems ∧ celems ≤ maxLen ∧ Ty.bool.els w S Aelems a.elems ∧ a.datas.length ≤ cdatas ∧ cdatas ≤ maxLen ∧ Ty.bool.els w S Adatas a.datas ∧ a.calls.length ≤ ccalls ∧ ccalls ≤ maxLen ∧ tCa.els w S Acalls a.calls := by
 obtain ⟨xmems, rmems, rfl, ⟨Amems, cmems, rfl, gmems, mmems, emems⟩, xtables, rtables, rfl, ⟨Atables, ctables, rfl, gtables, mtables, etables⟩, xglobals, rglobals, rfl, ⟨Aglobals, cglobals, rfl, gglobals, mglobals, eglobals⟩, xelems, relems, rfl, ⟨Aelems, celems, rfl, gelems, melems, eelems⟩, xdatas, rdatas, rfl, ⟨Adatas, cdatas, rfl, gdatas, mdatas, edatas⟩, Acalls, ccalls, rfl, gcalls, mcalls, ecalls⟩ := h
 exact ⟨Amems, cmems, Atables, ctables, Aglobals, cglobals, Aelems, celems, Adatas, cdatas, Acalls, ccalls, rfl, gmems, mmems, emems, gtables, mtables, etables, gglobals, mglobals, eglobals, gelems, melems, eelems, gdatas, mdatas, edatas, gcalls, mcalls, ecalls⟩
theorem kNE {w : World} {S : Nat → Prop} {a : Sh} {Amems : OA} {cmems : Nat} {Atables : OA} {ctables : Nat} {Aglobals : OA} {cglobals : Nat} {Aelems : OA} {celems : Nat} {Adatas : OA} {cdatas : Nat} {Acalls : OA} {ccalls : Nat} (f0 : a.mems.length ≤ cmems) (f1 : cmems ≤ maxLen) (f2 : (Ty.int .u8).slice.els w S Amems a.mems) (f3 : a.tables.length ≤ ctables) (f4 : ctables ≤ maxLen) (f5 : (Ty.int .u64).slice.els w S Atables a.tables) (f6 : a.globals.length ≤ cglobals) (f7 : cglobals ≤ maxLen) (f8 : tVl.els w S Aglobals a.globals) (f9 : a.elems.length ≤ celems) (f10 : celems ≤ maxLen) (f11 : Ty.bool.els w S Aelems a.elems) (f12 : a.datas.length ≤ cdatas) (f13 : cdatas ≤ maxLen) (f14 : Ty.bool.els w S Adatas a.datas) (f15 : a.calls.length ≤ ccalls) (f16 : ccalls ≤ maxLen) (f17 : tCa.els w S Acalls a.calls) : tSh.rd w S [.slice Amems a.mems.length cmems, .slice Atables a.tables.length ctables, .slice Aglobals a.globals.length cglobals, .slice Aelems a.elems.length celems, .slice Adatas a.datas.length cdatas, .slice Acalls a.calls.length ccalls] a :=
 ⟨[.slice Amems a.mems.length cmems], [.slice Atables a.tables.length ctables, .slice Aglobals a.globals.length cglobals, .slice Aelems a.elems.length celems, .slice Adatas a.datas.length cdatas, .slice Acalls a.calls.length ccalls], rfl, ⟨_, _, rfl, f0, f1, f2⟩, ⟨[.slice Atables a.tables.length ctables], [.slice Aglobals a.globals.length cglobals, .slice Aelems a.elems.length celems, .slice Adatas a.datas.length cdatas, .slice Acalls a.calls.length ccalls], rfl, ⟨_, _, rfl, f3, f4, f5⟩, ⟨[.slice Aglobals a.globals.length cglobals], [.slice Aelems a.elems.length celems, .slice Adatas a.datas.length cdatas, .slice Acalls a.calls.length ccalls], rfl, ⟨_, _, rfl, f6, f7, f8⟩, ⟨[.slice Aelems a.elems.length celems], [.slice Adatas a.datas.length cdatas, .slice Acalls a.calls.length ccalls], rfl, ⟨_, _, rfl, f9, f10, f11⟩, ⟨[.slice Adatas a.datas.length cdatas], [.slice Acalls a.calls.length ccalls], rfl, ⟨_, _, rfl, f12, f13, f14⟩, ⟨_, _, rfl, f15, f16, f17⟩⟩⟩⟩⟩⟩
structure Rg where
 t : Gl
 v : Vl
def tRg0 : Ty (Gl × Vl) := tGl.pair (tVl)
def tRg : Ty Rg := tRg0.iso fun a => (a.t, a.v)
instance : TyOk tRg := by unfold tRg tRg0; infer_instance
instance : TyMore tRg := by unfold tRg tRg0; infer_instance
instance : kAG tRg := by unfold tRg tRg0; infer_instance
theorem kEE {w : World} {S : Nat → Prop} {cs : LV} {a : Rg} (h : tRg.rd w S cs a) : cs = [.int .i64 a.t.val, .bool a.t.mut_, .int .i64 a.v.t, .int .u64 a.v.n] ∧ (Lit.int .i64 a.t.val).wf = true ∧ (Lit.int .i64 a.v.t).wf = true ∧ (Lit.int .u64 a.v.n).wf = true := by
 obtain ⟨xt, rt, rfl, ht, hv⟩ := h
 obtain ⟨rfl, kt0⟩ := kEG ht
 obtain ⟨rfl, kv0, kv1⟩ := kHt hv
 exact ⟨rfl, kt0, kv0, kv1⟩
theorem kEn {w : World} {S : Nat → Prop} {a : Rg}  (f0 : (Lit.int .i64 a.t.val).wf = true) (f1 : (Lit.int .i64 a.v.t).wf = true) (f2 : (Lit.int .u64 a.v.n).wf = true) : tRg.rd w S [.int .i64 a.t.val, .bool a.t.mut_, .int .i64 a.v.t, .int .u64 a.v.n] a :=
 ⟨[.int .i64 a.t.val, .bool a.t.mut_], [.int .i64 a.v.t, .int .u64 a.v.n], rfl, ⟨[.int .i64 a.t.val], [.bool a.t.mut_], rfl, ⟨rfl, f0⟩, rfl⟩, ⟨[.int .i64 a.v.t], [.int .u64 a.v.n], rfl, ⟨rfl, f1⟩, ⟨rfl, f2⟩⟩⟩
theorem kDO {w : World} {S : Nat → Prop} {A : OA} {l : List Rg} (h : tRg.els w S A l) (k : Nat) (hk : k < l.length) : ∃ (b o : Nat), A = some ⟨b, o, none⟩ ∧ S b ∧ w.cell? ⟨b, o + k * 4, none⟩ = some (.int .i64 l[k].t.val) ∧ w.cell? ⟨b, o + k * 4 + 1, none⟩ = some (.bool l[k].t.mut_) ∧ w.cell? ⟨b, o + k * 4 + 2, none⟩ = some (.int .i64 l[k].v.t) ∧ w.cell? ⟨b, o + k * 4 + 3, none⟩ = some (.int .u64 l[k].v.n) ∧ (Lit.int .i64 l[k].t.val).wf = true ∧ (Lit.int .i64 l[k].v.t).wf = true ∧ (Lit.int .u64 l[k].v.n).wf = true := by
 obtain ⟨b, o, ds, rfl, hb, hc, hr⟩ := h.at_ k hk
 obtain ⟨rfl, f0, f1, f2⟩ := kEE hr
 have e : tRg.size = 4 := rfl
 rw [e] at hc
 exact ⟨b, o, rfl, hb, hc 0 _ rfl, (by have := hc 1 _ rfl; rwa [← Nat.add_assoc] at this), (by have := hc 2 _ rfl; rwa [← Nat.add_assoc] at this), (by have := hc 3 _ rfl; rwa [← Nat.add_assoc] at this), f0, f1, f2⟩
structure Rs where
 l : List Int
 gone : Bool
 deriving DecidableEq
def tRs0 : Ty (List Int × Bool) := (Ty.int .u64).slice.pair (Ty.bool)
def tRs : Ty Rs := tRs0.iso fun a => (a.l, a.gone)
instance : TyOk tRs := by unfold tRs tRs0; infer_instance
instance : TyMore tRs := by unfold tRs tRs0; infer_instance
instance : kAG tRs := by unfold tRs tRs0; infer_instance
theorem kED {w : World} {S : Nat → Prop} {cs : LV} {a : Rs} (h : tRs.rd w S cs a) : ∃ (Al : OA) (cl : Nat), cs = [.slice Al a.l.length cl, .bool a.gone] ∧ a.l.length ≤ cl ∧ cl ≤ maxLen ∧ (Ty.int .u64).els w S Al a.l := by
 obtain ⟨xl, rl, rfl, ⟨Al, cl, rfl, gl, ml, el⟩, rfl⟩ := h
 exact ⟨Al, cl, rfl, gl, ml, el⟩
theorem kEm {w : World} {S : Nat → Prop} {a : Rs} {Al : OA} {cl : Nat} (f0 : a.l.length ≤ cl) (f1 : cl ≤ maxLen) (f2 : (Ty.int .u64).els w S Al a.l) : tRs.rd w S [.slice Al a.l.length cl, .bool a.gone] a :=
 ⟨[.slice Al a.l.length cl], [.bool a.gone], rfl, ⟨_, _, rfl, f0, f1, f2⟩, rfl⟩
theorem kKX {w : World} {S : Nat → Prop} {A : OA} {l : List Rs} (h : tRs.els w S A l) (k : Nat) (hk : k < l.length) : ∃ (b o : Nat) (Al : OA) (cl : Nat), A = some ⟨b, o, none⟩ ∧ S b ∧ w.cell? ⟨b, o + k * 2, none⟩ = some (.slice Al l[k].l.length cl) ∧ w.cell? ⟨b, o + k * 2 + 1, none⟩ = some (.bool l[k].gone) ∧ l[k].l.length ≤ cl ∧ cl ≤ maxLen ∧ (Ty.int .u64).els w S Al l[k].l := by
 obtain ⟨b, o, ds, rfl, hb, hc, hr⟩ := h.at_ k hk
 obtain ⟨Al, cl, rfl, f0, f1, f2⟩ := kED hr
 have e : tRs.size = 2 := rfl
 rw [e] at hc
 exact ⟨b, o, Al, cl, rfl, hb, hc 0 _ rfl, (by have := hc 1 _ rfl; rwa [← Nat.add_assoc] at this), f0, f1, f2⟩
structure Rb where
 b : List Int
 gone : Bool
 deriving DecidableEq
def tRb0 : Ty (List Int × Bool) := (Ty.int .u8).slice.pair (Ty.bool)
def tRb : Ty Rb := tRb0.iso fun a => (a.b, a.gone)
instance : TyOk tRb := by unfold tRb tRb0; infer_instance
instance : TyMore tRb := by unfold tRb tRb0; infer_instance
instance : kAG tRb := by unfold tRb tRb0; infer_instance
theorem kEF {w : World} {S : Nat → Prop} {cs : LV} {a : Rb} (h : tRb.rd w S cs a) : ∃ (Ab : OA) (cb : Nat), cs = [.slice Ab a.b.length cb, .bool a.gone] ∧ a.b.length ≤ cb ∧ cb ≤ maxLen ∧ (Ty.int .u8).els w S Ab a.b := by
 obtain ⟨xb, rb, rfl, ⟨Ab, cb, rfl, gb, mb, eb⟩, rfl⟩ := h
 exact ⟨Ab, cb, rfl, gb, mb, eb⟩
theorem kEo {w : World} {S : Nat → Prop} {a : Rb} {Ab : OA} {cb : Nat} (f0 : a.b.length ≤ cb) (f1 : cb ≤ maxLen) (f2 : (Ty.int .u8).els w S Ab a.b) : tRb.rd w S [.slice Ab a.b.length cb, .bool a.gone] a :=
 ⟨[.slice Ab a.b.length cb], [.bool a.gone], rfl, ⟨_, _, rfl, f0, f1, f2⟩, rfl⟩
theorem kKY {w : World} {S : Nat → Prop} {A : OA} {l : List Rb} (h : tRb.els w S A l) (k : Nat) (hk : k < l.length) : ∃ (b o : Nat) (Ab : OA) (cb : Nat), A = some ⟨b, o, none⟩ ∧ S b ∧ w.cell? ⟨b, o + k * 2, none⟩ = some (.slice Ab l[k].b.length cb) ∧ w.cell? ⟨b, o + k * 2 + 1, none⟩ = some (.bool l[k].gone) ∧ l[k].b.length ≤ cb ∧ cb ≤ maxLen ∧ (Ty.int .u8).els w S Ab l[k].b := by
 obtain ⟨b, o, ds, rfl, hb, hc, hr⟩ := h.at_ k hk
 obtain ⟨Ab, cb, rfl, f0, f1, f2⟩ := kEF hr
 have e : tRb.size = 2 := rfl
 rw [e] at hc
 exact ⟨b, o, Ab, cb, rfl, hb, hc 0 _ rfl, (by have := hc 1 _ rfl; rwa [← Nat.add_assoc] at this), f0, f1, f2⟩
structure Ri where
 m : Md
 a : Ad
def tRi0 : Ty (Md × Ad) := tMd.pair (tAd)
def tRi : Ty Ri := tRi0.iso fun a => (a.m, a.a)
instance : TyOk tRi := by unfold tRi tRi0; infer_instance
instance : TyMore tRi := by unfold tRi tRi0; infer_instance
instance : kAG tRi := by unfold tRi tRi0; infer_instance
theorem kIA {w : World} {S : Nat → Prop} {cs : LV} {a : Ri} (h : tRi.rd w S cs a) : ∃ (Am_types : OA) (cm_types : Nat) (Am_imports : OA) (cm_imports : Nat) (Am_funcs : OA) (cm_funcs : Nat) (Am_tables : OA) (cm_tables : Nat) (Am_mems : OA) (cm_mems : Nat) (Am_globals : OA) (cm_globals : Nat) (Am_exports : OA) (cm_exports : Nat) (Am_elems : OA) (cm_elems : Nat) (Am_datas : OA) (cm_datas : Nat) (Am_customs : OA) (cm_customs : Nat) (Aa_funcs : OA) (ca_funcs : Nat) (Aa_tables : OA) (ca_tables : Nat) (Aa_mems : OA) (ca_mems : Nat) (Aa_globals : OA) (ca_globals : Nat) (Aa_elems : OA) (ca_elems : Nat) (Aa_datas : OA) (ca_datas : Nat), cs = [.slice Am_types a.m.types.length cm_types, .slice Am_imports a.m.imports.length cm_imports, .slice Am_funcs a.m.funcs.length cm_funcs, .slice Am_tables a.m.tables.length cm_tables, .slice Am_mems a.m.mems.length cm_mems, .slice Am_globals a.m.globals.length cm_globals, .slice Am_exports a.m.exports.length cm_exports, .bool a.m.hasStart, .int .i64 a.m.start, .slice Am_elems a.m.elems.length cm_elems, .slice Am_datas a.m.datas.length cm_datas, .slice Am_customs a.m.customs.length cm_customs, .slice Aa_funcs a.a.funcs.length ca_funcs, .slice Aa_tables a.a.tables.length ca_tables, .slice Aa_mems a.a.mems.length ca_mems, .slice Aa_globals a.a.globals.length ca_globals, .slice Aa_elems a.a.elems.length ca_elems, .slice Aa_datas a.a.datas.length ca_datas] ∧ a.m.types.length ≤ cm_types ∧ cm_types ≤ maxLen ∧ tFn.els w S Am_types a.m.types ∧ a.m.imports.length ≤ cm_imports ∧ cm_imports ≤ maxLen ∧ tIm.els w S Am_imports a.m.imports ∧ a.m.funcs.length ≤ cm_funcs ∧ cm_funcs ≤ maxLen ∧ tCd.els w S Am_funcs a.m.funcs ∧ a.m.tables.length ≤ cm_tables ∧ cm_tables ≤ maxLen ∧ tTb.els w S Am_tables a.m.tables ∧ a.m.mems.length ≤ cm_mems ∧ cm_mems ≤ maxLen ∧ tLim.els w S Am_mems a.m.mems ∧ a.m.globals.length ≤ cm_globals ∧ cm_globals ≤ maxLen ∧ tGd.els w S Am_globals a.m.globals ∧ a.m.exports.length ≤ cm_exports ∧ cm_exports ≤ maxLen ∧ tEx.els w S Am_exports a.m.exports ∧ (Lit.int .i64 a.m.start).wf = true ∧ a.m.elems.length ≤ cm_elems ∧ cm_elems ≤ maxLen ∧ tEl.els w S Am_elems a.m.elems ∧ a.m.datas.length ≤ cm_datas ∧ cm_datas ≤ maxLen ∧ tDa.els w S Am_datas a.m.datas ∧ a.m.customs.length ≤ cm_customs ∧ cm_customs ≤ maxLen ∧ tCu.els w S Am_customs a.m.customs ∧ a.a.funcs.length ≤ ca_funcs ∧ ca_funcs ≤ maxLen ∧ (Ty.int .i64).els w S Aa_funcs a.a.funcs ∧ a.a.tables.length ≤ ca_tables ∧ ca_tables ≤ maxLen ∧ (Ty.int .i64).els w S Aa_tables a.a.tables ∧ a.a.mems.length ≤ ca_mems ∧ ca_mems ≤ maxLen ∧ (Ty.int .i64).els w S Aa_mems a.a.mems ∧ a.a.globals.length ≤ ca_globals ∧ ca_globals ≤ maxLen ∧ (Ty.int .i64).els w S Aa_globals a.a.globals ∧ a.a.elems.length ≤ ca_elems ∧ ca_elems ≤ maxLen ∧ (Ty.int .i64).els w S Aa_elems a.a.elems ∧ a.a.datas.length ≤ ca_datas ∧ ca_datas ≤ maxLen ∧ (Ty.int .i64).els w S Aa_datas a.a.datas := by
 obtain ⟨xm, rm, rfl, hm, ha⟩ := h
 obtain ⟨Am_types, cm_types, Am_imports, cm_imports, Am_funcs, cm_funcs, Am_tables, cm_tables, Am_mems, cm_mems, Am_globals, cm_globals, Am_exports, cm_exports, Am_elems, cm_elems, Am_datas, cm_datas, Am_customs, cm_customs, rfl, km0, km1, km2, km3, km4, km5, km6, km7, km8, km9, km10, km11, km12, km13, km14, km15, km16, km17, km18, km19, km20, km21, km22, km23, km24, km25, km26, km27, km28, km29, km30⟩ := kBl hm
 obtain ⟨Aa_funcs, ca_funcs, Aa_tables, ca_tables, Aa_mems, ca_mems, Aa_globals, ca_globals, Aa_elems, ca_elems, Aa_datas, ca_datas, rfl, ka0, ka1, ka2, ka3, ka4, ka5, ka6, ka7, ka8, ka9, ka10, ka11, ka12, ka13, ka14, ka15, ka16, ka17⟩ := kDE ha
 exact ⟨Am_types, cm_types, Am_imports, cm_imports, Am_funcs, cm_funcs, Am_tables, cm_tables, Am_mems, cm_mems, Am_globals, cm_globals, Am_exports, cm_exports, Am_elems, cm_elems, Am_datas, cm_datas, Am_customs, cm_customs, Aa_funcs, ca_funcs, Aa_tables, ca_tables, Aa_mems, ca_mems, Aa_globals, ca_globals, Aa_elems, ca_elems, Aa_datas, ca_datas, rfl, km0, km1, km2, km3, km4, km5, km6, km7, km8, km9, km10, km11, km12, km13, km14, km15, km16, km17, km18, km19, km20, km21, km22, km23, km24, km25, km26, km27, km28, km29, km30, ka0, ka1, ka2, ka3, ka4, ka5, ka6, ka7, ka8, ka9, ka10, ka11, ka12, ka13, ka14, ka15, ka16, ka17⟩
structure Rt where
 t : Tb
 l : List Int
def tRt0 : Ty (Tb × List Int) := tTb.pair ((Ty.int .u64).slice)
def tRt : Ty Rt := tRt0.iso fun a => (a.t, a.l)
instance : TyOk tRt := by unfold tRt tRt0; infer_instance
instance : TyMore tRt := by unfold tRt tRt0; infer_instance
instance : kAG tRt := by unfold tRt tRt0; infer_instance
theorem kNK {w : World} {S : Nat → Prop} {a : Rt} {Al : OA} {cl : Nat} (f0 : (Lit.int .i64 a.t.elem).wf = true) (f1 : (Lit.int .i64 a.t.lim.min).wf = true) (f2 : (Lit.int .i64 a.t.lim.max).wf = true) (f3 : a.l.length ≤ cl) (f4 : cl ≤ maxLen) (f5 : (Ty.int .u64).els w S Al a.l) : tRt.rd w S [.int .i64 a.t.elem, .int .i64 a.t.lim.min, .int .i64 a.t.lim.max, .bool a.t.lim.has, .slice Al a.l.length cl] a :=
 ⟨[.int .i64 a.t.elem, .int .i64 a.t.lim.min, .int .i64 a.t.lim.max, .bool a.t.lim.has], [.slice Al a.l.length cl], rfl, ⟨[.int .i64 a.t.elem], [.int .i64 a.t.lim.min, .int .i64 a.t.lim.max, .bool a.t.lim.has], rfl, ⟨rfl, f0⟩, ⟨[.int .i64 a.t.lim.min], [.int .i64 a.t.lim.max, .bool a.t.lim.has], rfl, ⟨rfl, f1⟩, ⟨[.int .i64 a.t.lim.max], [.bool a.t.lim.has], rfl, ⟨rfl, f2⟩, rfl⟩⟩⟩, ⟨_, _, rfl, f3, f4, f5⟩⟩
structure Rm where
 lim : Lim
 b : List Int
def tRm0 : Ty (Lim × List Int) := tLim.pair ((Ty.int .u8).slice)
def tRm : Ty Rm := tRm0.iso fun a => (a.lim, a.b)
instance : TyOk tRm := by unfold tRm tRm0; infer_instance
instance : TyMore tRm := by unfold tRm tRm0; infer_instance
instance : kAG tRm := by unfold tRm tRm0; infer_instance
theorem kBR {w : World} {S : Nat → Prop} {cs : LV} {a : Rm} (h : tRm.rd w S cs a) : ∃ (Ab : OA) (cb : Nat), cs = [.int .i64 a.lim.min, .int .i64 a.lim.max, .bool a.lim.has, .slice Ab a.b.length cb] ∧ (Lit.int .i64 a.lim.min).wf = true ∧ (Lit.int .i64 a.lim.max).wf = true ∧ a.b.length ≤ cb ∧ cb ≤ maxLen ∧ (Ty.int .u8).els w S Ab a.b := by
 obtain ⟨xlim, rlim, rfl, hlim, Ab, cb, rfl, gb, mb, eb⟩ := h
 obtain ⟨rfl, klim0, klim1⟩ := kCH hlim
 exact ⟨Ab, cb, rfl, klim0, klim1, gb, mb, eb⟩
theorem kGv {w : World} {S : Nat → Prop} {a : Rm} {Ab : OA} {cb : Nat} (f0 : (Lit.int .i64 a.lim.min).wf = true) (f1 : (Lit.int .i64 a.lim.max).wf = true) (f2 : a.b.length ≤ cb) (f3 : cb ≤ maxLen) (f4 : (Ty.int .u8).els w S Ab a.b) : tRm.rd w S [.int .i64 a.lim.min, .int .i64 a.lim.max, .bool a.lim.has, .slice Ab a.b.length cb] a :=
 ⟨[.int .i64 a.lim.min, .int .i64 a.lim.max, .bool a.lim.has], [.slice Ab a.b.length cb], rfl, ⟨[.int .i64 a.lim.min], [.int .i64 a.lim.max, .bool a.lim.has], rfl, ⟨rfl, f0⟩, ⟨[.int .i64 a.lim.max], [.bool a.lim.has], rfl, ⟨rfl, f1⟩, rfl⟩⟩, ⟨_, _, rfl, f2, f3, f4⟩⟩
structure Rx where
 hosts : List Ho
 counts : List Int
 calls : List Ca
 funcs : List Fi
 tabs : List Rt
 mems : List Rm
 globs : List Rg
 elems : List Rs
 datas : List Rb
 insts : List Ri
def tRx0 : Ty (List Ho × List Int × List Ca × List Fi × List Rt × List Rm × List Rg × List Rs × List Rb × List Ri) := tHo.slice.pair ((Ty.int .i64).slice.pair (tCa.slice.pair (tFi.slice.pair (tRt.slice.pair (tRm.slice.pair (tRg.slice.pair (tRs.slice.pair (tRb.slice.pair (tRi.slice)))))))))
def tRx : Ty Rx := tRx0.iso fun a => (a.hosts, a.counts, a.calls, a.funcs, a.tabs, a.mems, a.globs, a.elems, a.datas, a.insts)
instance : TyOk tRx := by unfold tRx tRx0; infer_instance
instance : TyMore tRx := by unfold tRx tRx0; infer_instance
instance : kAG tRx := by unfold tRx tRx0; infer_instance
theorem kAU {w : World} {S : Nat → Prop} {cs : LV} {a : Rx} (h : tRx.rd w S cs a) : ∃ (Ahosts : OA) (chosts : Nat) (Acounts : OA) (ccounts : Nat) (Acalls : OA) (ccalls : Nat) (Afuncs : OA) (cfuncs : Nat) (Atabs : OA) (ctabs : Nat) (Amems : OA) (cmems : Nat) (Aglobs : OA) (cglobs : Nat) (Aelems : OA) (celems : Nat) (Adatas : OA) (cdatas : Nat) (Ainsts : OA) (cinsts : Nat), cs = [.slice Ahosts a.hosts.length chosts, .slice Acounts a.counts.length ccounts, .slice Acalls a.calls.length ccalls, .slice Afuncs a.funcs.length cfuncs, .slice Atabs a.tabs.length ctabs, .slice Amems a.mems.length cmems, .slice Aglobs a.globs.length cglobs, .slice Aelems a.elems.length celems, .slice Adatas a.datas.length cdatas, .slice Ainsts a.insts.length cinsts] ∧ a.hosts.length ≤ chosts ∧ chosts ≤ maxLen ∧ tHo.els w S Ahosts a.hosts ∧ a.counts.length ≤ ccounts ∧ ccounts ≤ maxLen ∧ (Ty.int .i64).els w S Acounts a.counts ∧ a.calls.length ≤ ccalls ∧ ccalls ≤ maxLen ∧ tCa.els w S Acalls a.calls ∧ a.funcs.length ≤ cfuncs ∧ cfuncs ≤ maxLen ∧ tFi.els w S Afuncs a.funcs ∧ a.tabs.length ≤ ctabs ∧ ctabs ≤ maxLen ∧ tRt.els w S Atabs a.tabs ∧ a.mems.length ≤ cmems ∧ cmems ≤ maxLen ∧ tRm.els w S Amems a.mems ∧ a.globs.length ≤ cglobs ∧ cglobs ≤ maxLen ∧ tRg.els w S Aglobs a.globs ∧ a.elems.length ≤ celems ∧ celems ≤ maxLen ∧ tRs.els w S Aelems a.elems ∧ a.datas.length ≤ cdatas ∧ cdatas ≤ maxLen ∧ tRb.els w S Adatas a.datas ∧ a.insts.length ≤ cinsts ∧ cinsts ≤ maxLen ∧ tRi.els w S Ainsts a.insts := by
 obtain ⟨xhosts, rhosts, rfl, ⟨Ahosts, chosts, rfl, ghosts, mhosts, ehosts⟩, xcounts, rcounts, rfl, ⟨Acounts, ccounts, rfl, gcounts, mcounts, ecounts⟩, xcalls, rcalls, rfl, ⟨Acalls, ccalls, rfl, gcalls, mcalls, ecalls⟩, xfuncs, rfuncs, rfl, ⟨Afuncs, cfuncs, rfl, gfuncs, mfuncs, efuncs⟩, xtabs, rtabs, rfl, ⟨Atabs, ctabs, rfl, gtabs, mtabs, etabs⟩, xmems, rmems, rfl, ⟨Amems, cmems, rfl, gmems, mmems, emems⟩, xglobs, rglobs, rfl, ⟨Aglobs, cglobs, rfl, gglobs, mglobs, eglobs⟩, xelems, relems, rfl, ⟨Aelems, celems, rfl, gelems, melems, eelems⟩, xdatas, rdatas, rfl, ⟨Adatas, cdatas, rfl, gdatas, mdatas, edatas⟩, Ainsts, cinsts, rfl, ginsts, minsts, einsts⟩ := h
 exact ⟨Ahosts, chosts, Acounts, ccounts, Acalls, ccalls, Afuncs, cfuncs, Atabs, ctabs, Amems, cmems, Aglobs, cglobs, Aelems, celems, Adatas, cdatas, Ainsts, cinsts, rfl, ghosts, mhosts, ehosts, gcounts, mcounts, ecounts, gcalls, mcalls, ecalls, gfuncs, mfuncs, efuncs, gtabs, mtabs, etabs, gmems, mmems, emems, gglobs, mglobs, eglobs, gelems, melems, eelems, gdatas, mdatas, edatas, ginsts, minsts, einsts⟩
theorem kCZ {w : World} {S : Nat → Prop} {a : Rx} {Ahosts : OA} {chosts : Nat} {Acounts : OA} {ccounts : Nat} {Acalls : OA} {ccalls : Nat} {Afuncs : OA} {cfuncs : Nat} {Atabs : OA} {ctabs : Nat} {Amems : OA} {cmems : Nat} {Aglobs : OA} {cglobs : Nat} {Aelems : OA} {celems : Nat} {Adatas : OA} {cdatas : Nat} {Ainsts : OA} {cinsts : Nat} (f0 : a.hosts.length ≤ chosts) (f1 : chosts ≤ maxLen) (f2 : tHo.els w S Ahosts a.hosts) (f3 : a.counts.length ≤ ccounts) (f4 : ccounts ≤ maxLen) (f5 : (Ty.int .i64).els w S Acounts a.counts) (f6 : a.calls.length ≤ ccalls) (f7 : ccalls ≤ maxLen) (f8 : tCa.els w S Acalls a.calls) (f9 : a.funcs.length ≤ cfuncs) (f10 : cfuncs ≤ maxLen) (f11 : tFi.els w S Afuncs a.funcs) (f12 : a.tabs.length ≤ ctabs) (f13 : ctabs ≤ maxLen) (f14 : tRt.els w S Atabs a.tabs) (f15 : a.mems.length ≤ cmems) (f16 : cmems ≤ maxLen) (f17 : tRm.els w S Amems a.mems) (f18 : a.globs.length ≤ cglobs) (f19 : cglobs ≤ maxLen) (f20 : tRg.els w S Aglobs a.globs) (f21 : a.elems.length ≤ celems) (f22 : celems ≤ maxLen) (f23 : tRs.els w S Aelems a.elems) (f24 : a.datas.length ≤ cdatas) (f25 : cdatas ≤ maxLen) (f26 : tRb.els w S Adatas a.datas) (f27 : a.insts.length ≤ cinsts) (f28 : cinsts ≤ maxLen) (f29 : tRi.els w S Ainsts a.insts) : tRx.rd w S [.slice Ahosts a.hosts.length chosts, .slice Acounts a.counts.length ccounts, .slice Acalls a.calls.length ccalls, .slice Afuncs a.funcs.length cfuncs, .slice Atabs a.tabs.length ctabs, .slice Amems a.mems.length cmems, .slice Aglobs a.globs.length cglobs, .slice Aelems a.elems.length celems, .slice Adatas a.datas.length cdatas, .slice Ainsts a.insts.length cinsts] a :=
 ⟨[.slice Ahosts a.hosts.length chosts], [.slice Acounts a.counts.length ccounts, .slice Acalls a.calls.length ccalls, .slice Afuncs a.funcs.length cfuncs, .slice Atabs a.tabs.length ctabs, .slice Amems a.mems.length cmems, .slice Aglobs a.globs.length cglobs, .slice Aelems a.elems.length celems, .slice Adatas a.datas.length cdatas, .slice Ainsts a.insts.length cinsts], rfl, ⟨_, _, rfl, f0, f1, f2⟩, ⟨[.slice Acounts a.counts.length ccounts], [.slice Acalls a.calls.length ccalls, .slice Afuncs a.funcs.length cfuncs, .slice Atabs a.tabs.length ctabs, .slice Amems a.mems.length cmems, .slice Aglobs a.globs.length cglobs, .slice Aelems a.elems.length celems, .slice Adatas a.datas.length cdatas, .slice Ainsts a.insts.length cinsts], rfl, ⟨_, _, rfl, f3, f4, f5⟩, ⟨[.slice Acalls a.calls.length ccalls], [.slice Afuncs a.funcs.length cfuncs, .slice Atabs a.tabs.length ctabs, .slice Amems a.mems.length cmems, .slice Aglobs a.globs.length cglobs, .slice Aelems a.elems.length celems, .slice Adatas a.datas.length cdatas, .slice Ainsts a.insts.length cinsts], rfl, ⟨_, _, rfl, f6, f7, f8⟩, ⟨[.slice Afuncs a.funcs.length cfuncs], [.slice Atabs a.tabs.length ctabs, .slice Amems a.mems.length cmems, .slice Aglobs a.globs.length cglobs, .slice Aelems a.elems.length celems, .slice Adatas a.datas.length cdatas, .slice Ainsts a.insts.length cinsts], rfl, ⟨_, _, rfl, f9, f10, f11⟩, ⟨[.slice Atabs a.tabs.length ctabs], [.slice Amems a.mems.length cmems, .slice Aglobs a.globs.length cglobs, .slice Aelems a.elems.length celems, .slice Adatas a.datas.length cdatas, .slice Ainsts a.insts.length cinsts], rfl, ⟨_, _, rfl, f12, f13, f14⟩, ⟨[.slice Amems a.mems.length cmems], [.slice Aglobs a.globs.length cglobs, .slice Aelems a.elems.length celems, .slice Adatas a.datas.length cdatas, .slice Ainsts a.insts.length cinsts], rfl, ⟨_, _, rfl, f15, f16, f17⟩, ⟨[.slice Aglobs a.globs.length cglobs], [.slice Aelems a.elems.length celems, .slice Adatas a.datas.length cdatas, .slice Ainsts a.insts.length cinsts], rfl, ⟨_, _, rfl, f18, f19, f20⟩, ⟨[.slice Aelems a.elems.length celems], [.slice Adatas a.datas.length cdatas, .slice Ainsts a.insts.length cinsts], rfl, ⟨_, _, rfl, f21, f22, f23⟩, ⟨[.slice Adatas a.datas.length cdatas], [.slice Ainsts a.insts.length cinsts], rfl, ⟨_, _, rfl, f24, f25, f26⟩, ⟨_, _, rfl, f27, f28, f29⟩⟩⟩⟩⟩⟩⟩⟩⟩⟩
theorem kDc {k : IntKind} {w : World} {S : Nat → Prop} {A : OA} {l : List Int} (h : (Ty.int k).els w S A l) (i : Nat) (hi : i < l.length) : ∃ (b o : Nat), A = some ⟨b, o, none⟩ ∧ S b ∧
    w.cell? ⟨b, o + i, none⟩ = some (.int k l[i]) ∧ (Lit.int k l[i]).wf = true := by
 obtain ⟨b, o, ds, rfl, hb, hc, rfl, hw⟩ := h.at_ i hi
 have := hc 0 _ rfl
 have e : (Ty.int k).size = 1 := rfl
 exact yy70
theorem kFg {k : IntKind} {w : World} {S : Nat → Prop} {n : Int} (h : (Lit.int k n).wf = true) : (Ty.int k).rd w S [.int k n] n := ⟨rfl, h⟩
theorem kEN {n : Int} (h : -9223372036854775808 ≤ n ∧ n ≤ 9223372036854775807) : (Lit.int .i64 n).wf = true := by
 exact yy90
structure At where
 call : Int
 addr : Int
 func : Fi
 table : Tb
 mem : Lim
 g : Gl
 v : Vl
 refs : List Int
 b : List Int
 m : Md
 a : Ad
 args : List Vl
def tAt0 : Ty (Int × Int × Fi × Tb × Lim × Gl × Vl × List Int × List Int × Md × Ad × List Vl) := (Ty.int .i64).pair ((Ty.int .i64).pair (tFi.pair (tTb.pair (tLim.pair (tGl.pair (tVl.pair ((Ty.int .u64).slice.pair ((Ty.int .u8).slice.pair (tMd.pair (tAd.pair (tVl.slice)))))))))))
def tAt : Ty At := tAt0.iso fun a => (a.call, a.addr, a.func, a.table, a.mem, a.g, a.v, a.refs, a.b, a.m, a.a, a.args)
instance : TyOk tAt := by unfold tAt tAt0; infer_instance
instance : TyMore tAt := by unfold tAt tAt0; infer_instance
instance : kAG tAt := by unfold tAt tAt0; infer_instance
theorem kPO : kAd prog 76 tAt := by
 refine kAW _ (fun x => ⟨x.1, x.2.1, x.2.2.1, x.2.2.2.1, x.2.2.2.2.1, x.2.2.2.2.2.1, x.2.2.2.2.2.2.1, x.2.2.2.2.2.2.2.1, x.2.2.2.2.2.2.2.2.1, x.2.2.2.2.2.2.2.2.2.1, x.2.2.2.2.2.2.2.2.2.2.1, x.2.2.2.2.2.2.2.2.2.2.2⟩) (fun _ => rfl) ?_
 exact kAT underlying76 kr (Flds.cons rfl kr (kAD underlying3) (Flds.cons rfl kr (kAD underlying3) (Flds.cons rfl kr kMI (Flds.cons rfl kr kFE (Flds.cons rfl kr kDM (Flds.cons rfl kr kFF (Flds.cons rfl kr kFD (Flds.cons rfl kr (kAF underlying58 kr dc (kAD underlying55)) (Flds.cons rfl kr (kAF underlying59 kr dc (kAD underlying5)) (Flds.cons rfl kr kMF (Flds.cons rfl kr kMP (Flds.one rfl kr (kAF underlying74 kr dc kFD)))))))))))))
theorem Ty.els.frB {α : Type} {t : Ty α} [TyOk t] {w w' : World} {B : Nat} {A : OA} {xs : List α} {M : Nat → Prop} (h : t.els w (· < B) A xs) (hB : B ≤ w.heap.size) (f : Fr M w w') (hM : ∀ k, k < B → ¬ M k) : t.els w' (· < B) A xs :=
 h.fr f fun k hk => ⟨ltl hk hB, hM k hk⟩
theorem kGm {n : Int} (h : (Lit.int .u8 n).wf = true) : 0 ≤ n ∧ n ≤ 255 := by
 exact yy90
theorem kLn {w : World} {B : Nat} {cs : LV} {a : Vl} (h : tVl.rd w (· < B) cs a) : cs = [.int .i64 a.t, .int .u64 a.n] ∧ (-9223372036854775808 ≤ a.t ∧ a.t ≤ 9223372036854775807) ∧ 0 ≤ a.n ∧ a.n < 18446744073709551616 := by
 obtain ⟨c1, c2, rfl, ⟨rfl, w1⟩, rfl, w2⟩ := h
 exact ⟨rfl, kEM w1, kNv w2⟩
theorem kGn {w : World} {B : Nat} {A : OA} {l : List Vl} (h : tVl.els w (· < B) A l) (k : Nat) (hk : k < l.length) : ∃ (b o : Nat), A = some ⟨b, o, none⟩ ∧ b < B ∧
    w.cell? ⟨b, o + k * 2, none⟩ = some (.int .i64 l[k].t) ∧ w.cell? ⟨b, o + k * 2 + 1, none⟩ = some (.int .u64 l[k].n) ∧ (-9223372036854775808 ≤ l[k].t ∧ l[k].t ≤ 9223372036854775807) ∧ 0 ≤ l[k].n ∧ l[k].n < 18446744073709551616 := by
 obtain ⟨b, o, ds, rfl, hb, hc, hr⟩ := h.at_ k hk
 obtain ⟨rfl, h1, h2⟩ := kLn hr
 have e : tVl.size = 2 := rfl
 rw [e] at hc
 exact ⟨b, o, rfl, hb, hc 0 _ rfl, by have := hc 1 _ rfl; rwa [← Nat.add_assoc] at this, h1, h2⟩
theorem kMj {w : World} {B : Nat} {cs : LV} {a : Ac} (h : tAc.rd w (· < B) cs a) : ∃ (A : OA) (c : Nat),
    cs = [.int .i64 a.kind, .slice A a.vals.length c, .int .i64 a.mem, .int .i64 a.at_, .int .u8 a.byte] ∧ a.vals.length ≤ c ∧ c ≤ maxLen ∧ tVl.els w (· < B) A a.vals ∧
    (-9223372036854775808 ≤ a.kind ∧ a.kind ≤ 9223372036854775807) ∧ (-9223372036854775808 ≤ a.mem ∧ a.mem ≤ 9223372036854775807) ∧ (-9223372036854775808 ≤ a.at_ ∧ a.at_ ≤ 9223372036854775807) ∧ 0 ≤ a.byte ∧ a.byte ≤ 255 := by
 obtain ⟨c1, r1, rfl, ⟨rfl, w1⟩, c2, r2, rfl, ⟨A, c, rfl, h1, h2, h3⟩, c3, r3, rfl, ⟨rfl, w3⟩, c4, r4, rfl, ⟨rfl, w4⟩, rfl, w5⟩ := h
 exact ⟨A, c, rfl, h1, h2, h3, kEM w1, kEM w3, kEM w4, kGm w5⟩
theorem kNC {w : World} {B : Nat} {A : OA} {l : List Ac} (h : tAc.els w (· < B) A l) (k : Nat) (hk : k < l.length) : ∃ (b o : Nat) (LA : OA) (c : Nat), A = some ⟨b, o, none⟩ ∧ b < B ∧
    w.cell? ⟨b, o + k * 5, none⟩ = some (.int .i64 l[k].kind) ∧ w.cell? ⟨b, o + k * 5 + 1, none⟩ = some (.slice LA l[k].vals.length c) ∧ w.cell? ⟨b, o + k * 5 + 2, none⟩ = some (.int .i64 l[k].mem) ∧
    w.cell? ⟨b, o + k * 5 + 3, none⟩ = some (.int .i64 l[k].at_) ∧ w.cell? ⟨b, o + k * 5 + 4, none⟩ = some (.int .u8 l[k].byte) ∧ l[k].vals.length ≤ c ∧ c ≤ maxLen ∧ tVl.els w (· < B) LA l[k].vals ∧
    (-9223372036854775808 ≤ l[k].kind ∧ l[k].kind ≤ 9223372036854775807) ∧ (-9223372036854775808 ≤ l[k].mem ∧ l[k].mem ≤ 9223372036854775807) ∧ (-9223372036854775808 ≤ l[k].at_ ∧ l[k].at_ ≤ 9223372036854775807) ∧ 0 ≤ l[k].byte ∧ l[k].byte ≤ 255 := by
 obtain ⟨b, o, ds, rfl, hb, hc, hr⟩ := h.at_ k hk
 obtain ⟨LA, c, rfl, h1, h2, h3, h4⟩ := kMj hr
 have e : tAc.size = 5 := rfl
 rw [e] at hc
 exact ⟨b, o, LA, c, rfl, hb, hc 0 _ rfl, by have := hc 1 _ rfl; rwa [← Nat.add_assoc] at this, by have := hc 2 _ rfl; rwa [← Nat.add_assoc] at this, by have := hc 3 _ rfl; rwa [← Nat.add_assoc] at this,
  by have := hc 4 _ rfl; rwa [← Nat.add_assoc] at this, h1, h2, h3, h4⟩
theorem kFh {k : IntKind} {w : World} {B : Nat} {A : OA} {l : List Int} (h : (Ty.int k).els w (· < B) A l) (i : Nat) (hi : i < l.length) : ∃ (b o : Nat), A = some ⟨b, o, none⟩ ∧ b < B ∧
    w.cell? ⟨b, o + i, none⟩ = some (.int k l[i]) ∧ (Lit.int k l[i]).wf = true := by
 obtain ⟨b, o, ds, rfl, hb, hc, rfl, hw⟩ := h.at_ i hi
 have := hc 0 _ rfl
 have e : (Ty.int k).size = 1 := rfl
 exact yy70
theorem rt_int {k : IntKind} {a b : Int} (h : a = b) : Ending.returned (.int k a) = .returned (.int k b) := by rw [h]
abbrev tI : Ty Int := Ty.int .i64
abbrev tU : Ty Int := Ty.int .u64
abbrev tB : Ty Int := Ty.int .u8
def Emp : Nat → Prop := fun _ => False
def tPt : Ty Nat := ⟨1, fun _ _ cs p => cs = [.pointer (some ⟨p, 0, none⟩)], fun _ _ => True, 8, fun _ _ => True⟩
instance : TyOk tPt := ⟨fun _ _ _ _ h => by rw [show _ = _ from h]; rfl, fun _ _ _ _ _ h _ => h⟩
instance : TyMore tPt := ⟨fun _ _ _ _ _ h _ => h⟩
instance : kAG tPt := ⟨fun _ _ _ _ h u hu => by rw [show _ = _ from h] at hu; simp at hu; subst hu; rfl⟩
instance : kAh tPt := ⟨fun _ _ _ _ _ _ h => h⟩
theorem own_frame {w w' w0 : World} {base : Nat} {e : TypeId} {α : Type} {t : Ty α} {S : Nat → Prop} {v : Value} {l : List α} (h : t.row w base S e v l) (F : Fr No w0 w) (f : Fr (fun k => some k = v.ownBlock) w w') (hb : w0.heap.size ≤ base) : Fr No w0 w' :=
 F.trans f (fun i hi hh => by have := (h.own hh.symm).1; omega)
def kAy {α : Type} (t : Ty α) (el : TypeId) (S : Nat → Prop) (l : List α) (w : World) (e : Ending) (w' : World) : Prop :=
 ∃ (A : OA) (c : Nat), e = .returned (.slice A l.length c) ∧ t.row w' w.heap.size S el (.slice A l.length c) l ∧ Fr No w w'
theorem kBK {α : Type} {t : Ty α} [TyOk t] [TyMore t] {w : World} {base : Nat} {S : Nat → Prop} {el : TypeId} {l : List α} {A : OA} {c : Nat} (h : t.row w base S el (.slice A l.length c) l) : l.length ≤ c ∧ c ≤ maxLen ∧ t.els w (fun k => S k ∨ base ≤ k ∧ k < w.heap.size) A l := by
 obtain ⟨A', c', e, h1, h2, h3⟩ := h.els (S' := fun k => S k ∨ base ≤ k ∧ k < w.heap.size) (fun _ h => .inl h) (fun g hg => by obtain ⟨h0, _, hb⟩ := h.own hg; exact .inr ⟨h0, hb.lt⟩)
 injection e with e1 _ e3
 subst e1 e3
 exact ⟨h1, h2, h3⟩
theorem elVl : ElemOk prog 74 57 2 16 (.agg #[.int .i64 0, .int .u64 0]) := ElemOk.mk' underlying74 kr rfl dc
theorem elAc : ElemOk prog 106 110 5 56 (.agg #[.int .i64 0, .slice none 0 0, .int .i64 0, .int .i64 0, .int .u8 0]) := ElemOk.mk' underlying106 kr rfl dc
theorem kOJ : ElemOk prog 43 48 1 8 (.int .i64 0) := ElemOk.mk' underlying43 kr rfl dc
theorem kFm : ElemOk prog 29 3 1 8 (.int .i64 0) := ElemOk.mk' underlying29 kr rfl dc
theorem kMz : ElemOk prog 58 55 1 8 (.int .u64 0) := ElemOk.mk' underlying58 kr rfl dc
theorem elU8 : ElemOk prog 59 5 1 1 (.int .u8 0) := ElemOk.mk' underlying59 kr rfl dc
theorem elCa : ElemOk prog 30 113 2 32 (.agg #[.int .i64 0, .slice none 0 0]) := ElemOk.mk' underlying30 kr rfl dc
theorem elFi : ElemOk prog 31 47 4 64 (.agg #[.slice none 0 0, .slice none 0 0, .int .i64 0, .int .i64 0]) := ElemOk.mk' underlying31 kr rfl dc
theorem elHo : ElemOk prog 22 108 5 104 (.agg #[.string ⟨#[]⟩, .string ⟨#[]⟩, .slice none 0 0, .slice none 0 0, .slice none 0 0]) := ElemOk.mk' underlying22 kr rfl dc
theorem kOn : ElemOk prog 116 100 1 8 (.pointer none) := ElemOk.mk' underlying116 kr rfl dc
theorem kOo : ElemOk prog 119 99 1 8 (.pointer none) := ElemOk.mk' underlying119 kr rfl dc
theorem elGg : ElemOk prog 122 180 4 32 (.agg #[.int .i64 0, .bool false, .int .i64 0, .int .u64 0]) := ElemOk.mk' underlying122 kr rfl dc
theorem elGs : ElemOk prog 125 182 2 32 (.agg #[.slice none 0 0, .bool false]) := ElemOk.mk' underlying125 kr rfl dc
theorem elGb : ElemOk prog 128 184 2 32 (.agg #[.slice none 0 0, .bool false]) := ElemOk.mk' underlying128 kr rfl dc
abbrev q2x0 : Array Value := #[.slice none 0 0, .slice none 0 0, .slice none 0 0, .slice none 0 0, .slice none 0 0, .slice none 0 0, .slice none 0 0, .bool false, .int .i64 0, .slice none 0 0, .slice none 0 0, .slice none 0 0, .slice none 0 0, .slice none 0 0, .slice none 0 0, .slice none 0 0, .slice none 0 0, .slice none 0 0]
theorem elGi : ElemOk prog 131 208 18 400 (.agg q2x0) := ElemOk.mk' underlying131 kr rfl dc
theorem kFn : ElemOk prog 81 4 1 1 (.bool false) := ElemOk.mk' underlying81 kr rfl dc
theorem kNA : ElemOk prog 79 59 1 24 (.slice none 0 0) := ElemOk.mk' underlying79 kr rfl dc
theorem kMy : ElemOk prog 80 58 1 24 (.slice none 0 0) := ElemOk.mk' underlying80 kr rfl dc
theorem elFn : ElemOk prog 60 45 2 48 (.agg #[.slice none 0 0, .slice none 0 0]) := ElemOk.mk' underlying60 kr rfl dc
theorem elIm : ElemOk prog 61 292 13 120 (.agg #[.string ⟨#[]⟩, .string ⟨#[]⟩, .int .i64 0, .int .i64 0, .int .i64 0, .int .i64 0, .int .i64 0, .bool false, .int .i64 0, .int .i64 0, .bool false, .int .i64 0, .bool false]) := ElemOk.mk' underlying61 kr rfl dc
theorem elTb : ElemOk prog 63 52 4 32 (.agg #[.int .i64 0, .int .i64 0, .int .i64 0, .bool false]) := ElemOk.mk' underlying63 kr rfl dc
theorem kOp : ElemOk prog 64 50 3 24 (.agg #[.int .i64 0, .int .i64 0, .bool false]) := ElemOk.mk' underlying64 kr rfl dc
theorem elEx : ElemOk prog 66 297 3 32 (.agg #[.string ⟨#[]⟩, .int .i64 0, .int .i64 0]) := ElemOk.mk' underlying66 kr rfl dc
theorem kOq : ElemOk prog 299 339 9 104 (.agg #[.int .i64 0, .int .i64 0, .int .i64 0, .int .u64 0, .int .i64 0, .int .i64 0, .int .i64 0, .slice none 0 0, .slice none 0 0]) := ElemOk.mk' underlying299 kr rfl dc
theorem elCd : ElemOk prog 62 301 3 56 (.agg #[.int .i64 0, .slice none 0 0, .slice none 0 0]) := ElemOk.mk' underlying62 kr rfl dc
theorem elGd : ElemOk prog 65 306 3 40 (.agg #[.int .i64 0, .bool false, .slice none 0 0]) := ElemOk.mk' underlying65 kr rfl dc
theorem elEl : ElemOk prog 67 311 5 72 (.agg #[.int .i64 0, .int .i64 0, .slice none 0 0, .int .i64 0, .slice none 0 0]) := ElemOk.mk' underlying67 kr rfl dc
theorem kOL : ElemOk prog 309 299 1 24 (.slice none 0 0) := ElemOk.mk' underlying309 kr rfl dc
theorem elDa : ElemOk prog 68 316 4 64 (.agg #[.int .i64 0, .int .i64 0, .slice none 0 0, .slice none 0 0]) := ElemOk.mk' underlying68 kr rfl dc
theorem elCu : ElemOk prog 69 320 3 48 (.agg #[.int .i64 0, .string ⟨#[]⟩, .slice none 0 0]) := ElemOk.mk' underlying69 kr rfl dc
theorem elRt : ElemOk prog 32 170 5 56 (.agg #[.int .i64 0, .int .i64 0, .int .i64 0, .bool false, .slice none 0 0]) := ElemOk.mk' underlying32 kr rfl dc
theorem elRm : ElemOk prog 33 143 4 48 (.agg #[.int .i64 0, .int .i64 0, .bool false, .slice none 0 0]) := ElemOk.mk' underlying33 kr rfl dc
theorem elRg : ElemOk prog 34 187 4 32 (.agg #[.int .i64 0, .bool false, .int .i64 0, .int .u64 0]) := ElemOk.mk' underlying34 kr rfl dc
theorem elRs : ElemOk prog 35 189 2 32 (.agg #[.slice none 0 0, .bool false]) := ElemOk.mk' underlying35 kr rfl dc
theorem elRb : ElemOk prog 36 191 2 32 (.agg #[.slice none 0 0, .bool false]) := ElemOk.mk' underlying36 kr rfl dc
theorem elRi : ElemOk prog 37 265 18 400 (.agg q2x0) := ElemOk.mk' underlying37 kr rfl dc
theorem kFp (A : OA) (c : Nat) (l : List Int) (S : Nat → Prop) (w : World) (h : tU.els w S A l) (hS : Lt S w) (hl : l.length * 8 ≤ 140737488351232) :
    Calls prog 83 #[.slice A l.length c] w (kAy tU 55 S l w) := by
 cases A with
 | none =>
  have hn : l = [] := by
   exact yy43
  subst hn
  have he := fun W => Lib.run_eql_slice_nil (P := prog) W 58 _ none 0 c 0 0 underlying58
  go_enter func83, ntmps83
  exact yy18
 | some ad =>
  obtain ⟨css, hcs, hrd⟩ := kAY h hS
  have F0 := hid ((Fr.refl No w).alloc (.cells #[] 55))
  have R0 := hid (Ty.row.lit (t := tU) (S := S) (base := w.heap.size) (css := []) (xs := []) (Blk.new w 55 #[]) nr Css.nil dc)
  have HC := hid (hcs.fr F0.o (fun k hk => ⟨hS k hk, fun x => x⟩))
  have HR := hid (hrd.fr F0.o (fun _ _ x => x))
  have HS := hid hS
  clear h hcs hrd hS
  obtain ⟨n, hn⟩ : ∃ n, l.length = n := ⟨_, rfl⟩
  have HN := hid hn
  rw [hn] at hl ⊢
  clear hn
  have he := fun W => Lib.run_eql_slice_nil (P := prog) W 58 _ (some ad) n c 0 0 underlying58
  go_enter func83, ntmps83
  go_wp2_with (at_builtin; refine wpList_appC (t := tU) (base := w.heap.size) (S := S) (xs := []) (ys := l) (dss := css) (B2 := w.heap.size) kMz rfl rfl rfl rfl R0.o HC.o HR.o HN.o so so (fun k hk => ⟨ltl (HS.o k hk) F0.o.size, fun e => by have := HS.o k hk; have e2 := Option.some.inj (show some k = some w.heap.size from e); omega⟩) F0.o.size ?_; intro v1 w2 hr1 fr1 hv1; have F2 := hid (own_frame R0.o F0.o fr1 nr); have R1 := hid hr1; clear hr1 fr1 hv1)
  exact yy2
theorem kCn (A : OA) (c : Nat) (l : List Int) (S : Nat → Prop) (w : World) (h : tB.els w S A l) (hS : Lt S w) (hl : l.length * 1 ≤ 140737488351232) :
    Calls prog 85 #[.slice A l.length c] w (kAy tB 5 S l w) := by
 cases A with
 | none =>
  have hn : l = [] := by
   exact yy43
  subst hn
  have he := fun W => Lib.run_eql_slice_nil (P := prog) W 59 _ none 0 c 0 0 underlying59
  go_enter func85, ntmps85
  exact yy18
 | some ad =>
  obtain ⟨css, hcs, hrd⟩ := kAY h hS
  have F0 := hid ((Fr.refl No w).alloc (.cells #[] 5))
  have R0 := hid (Ty.row.lit (t := tB) (S := S) (base := w.heap.size) (css := []) (xs := []) (Blk.new w 5 #[]) nr Css.nil dc)
  have HC := hid (hcs.fr F0.o (fun k hk => ⟨hS k hk, fun x => x⟩))
  have HR := hid (hrd.fr F0.o (fun _ _ x => x))
  have HS := hid hS
  clear h hcs hrd hS
  obtain ⟨n, hn⟩ : ∃ n, l.length = n := ⟨_, rfl⟩
  have HN := hid hn
  rw [hn] at hl ⊢
  clear hn
  have he := fun W => Lib.run_eql_slice_nil (P := prog) W 59 _ (some ad) n c 0 0 underlying59
  go_enter func85, ntmps85
  go_wp2_with (at_builtin; refine wpList_appC (t := tB) (base := w.heap.size) (S := S) (xs := []) (ys := l) (dss := css) (B2 := w.heap.size) elU8 rfl rfl rfl rfl R0.o HC.o HR.o HN.o so so (fun k hk => ⟨ltl (HS.o k hk) F0.o.size, fun e => by have := HS.o k hk; have e2 := Option.some.inj (show some k = some w.heap.size from e); omega⟩) F0.o.size ?_; intro v1 w2 hr1 fr1 hv1; have F2 := hid (own_frame R0.o F0.o fr1 nr); have R1 := hid hr1; clear hr1 fr1 hv1)
  exact yy2
theorem kBx (A : OA) (c : Nat) (l : List Vl) (S : Nat → Prop) (w : World) (h : tVl.els w S A l) (hS : Lt S w) (hl : l.length * 16 ≤ 140737488351232) :
    Calls prog 90 #[.slice A l.length c] w (kAy tVl 57 S l w) := by
 cases A with
 | none =>
  have hn : l = [] := by
   exact yy43
  subst hn
  have he := fun W => Lib.run_eql_slice_nil (P := prog) W 74 _ none 0 c 0 0 underlying74
  go_enter func90, ntmps90
  exact yy18
 | some ad =>
  obtain ⟨css, hcs, hrd⟩ := kAY h hS
  have F0 := hid ((Fr.refl No w).alloc (.cells #[] 57))
  have R0 := hid (Ty.row.lit (t := tVl) (S := S) (base := w.heap.size) (css := []) (xs := []) (Blk.new w 57 #[]) nr Css.nil dc)
  have HC := hid (hcs.fr F0.o (fun k hk => ⟨hS k hk, fun x => x⟩))
  have HR := hid (hrd.fr F0.o (fun _ _ x => x))
  have HS := hid hS
  clear h hcs hrd hS
  obtain ⟨n, hn⟩ : ∃ n, l.length = n := ⟨_, rfl⟩
  have HN := hid hn
  rw [hn] at hl ⊢
  clear hn
  have he := fun W => Lib.run_eql_slice_nil (P := prog) W 74 _ (some ad) n c 0 0 underlying74
  go_enter func90, ntmps90
  go_wp2_with (at_builtin; refine wpList_appC (t := tVl) (base := w.heap.size) (S := S) (xs := []) (ys := l) (dss := css) (B2 := w.heap.size) elVl rfl rfl rfl rfl R0.o HC.o HR.o HN.o so so (fun k hk => ⟨ltl (HS.o k hk) F0.o.size, fun e => by have := HS.o k hk; have e2 := Option.some.inj (show some k = some w.heap.size from e); omega⟩) F0.o.size ?_; intro v1 w2 hr1 fr1 hv1; have F2 := hid (own_frame R0.o F0.o fr1 nr); have R1 := hid hr1; clear hr1 fr1 hv1)
  exact yy2
theorem kIq (A : OA) (c : Nat) (l : List Ac) (S : Nat → Prop) (w : World) (h : tAc.els w S A l) (hS : Lt S w) (hl : l.length * 56 ≤ 140737488351232) :
    Calls prog 115 #[.slice A l.length c] w (kAy tAc 110 S l w) := by
 cases A with
 | none =>
  have hn : l = [] := by
   exact yy43
  subst hn
  have he := fun W => Lib.run_eql_slice_nil (P := prog) W 106 _ none 0 c 0 0 underlying106
  go_enter func115, ntmps115
  exact yy18
 | some ad =>
  obtain ⟨css, hcs, hrd⟩ := kAY h hS
  have F0 := hid ((Fr.refl No w).alloc (.cells #[] 110))
  have R0 := hid (Ty.row.lit (t := tAc) (S := S) (base := w.heap.size) (css := []) (xs := []) (Blk.new w 110 #[]) nr Css.nil dc)
  have HC := hid (hcs.fr F0.o (fun k hk => ⟨hS k hk, fun x => x⟩))
  have HR := hid (hrd.fr F0.o (fun _ _ x => x))
  have HS := hid hS
  clear h hcs hrd hS
  obtain ⟨n, hn⟩ : ∃ n, l.length = n := ⟨_, rfl⟩
  have HN := hid hn
  rw [hn] at hl ⊢
  clear hn
  have he := fun W => Lib.run_eql_slice_nil (P := prog) W 106 _ (some ad) n c 0 0 underlying106
  go_enter func115, ntmps115
  go_wp2_with (at_builtin; refine wpList_appC (t := tAc) (base := w.heap.size) (S := S) (xs := []) (ys := l) (dss := css) (B2 := w.heap.size) elAc rfl rfl rfl rfl R0.o HC.o HR.o HN.o so so (fun k hk => ⟨ltl (HS.o k hk) F0.o.size, fun e => by have := HS.o k hk; have e2 := Option.some.inj (show some k = some w.heap.size from e); omega⟩) F0.o.size ?_; intro v1 w2 hr1 fr1 hv1; have F2 := hid (own_frame R0.o F0.o fr1 nr); have R1 := hid hr1; clear hr1 fr1 hv1)
  exact yy2
theorem kBq (A : OA) (c : Nat) (l : List Int) (S : Nat → Prop) (w : World) (h : tI.els w S A l) (hS : Lt S w) (hl : l.length * 8 ≤ 140737488351232) :
    Calls prog 157 #[.slice A l.length c] w (kAy tI 48 S l w) := by
 cases A with
 | none =>
  have hn : l = [] := by
   exact yy43
  subst hn
  have he := fun W => Lib.run_eql_slice_nil (P := prog) W 43 _ none 0 c 0 0 underlying43
  go_enter func157, ntmps157
  exact yy18
 | some ad =>
  obtain ⟨css, hcs, hrd⟩ := kAY h hS
  have F0 := hid ((Fr.refl No w).alloc (.cells #[] 48))
  have R0 := hid (Ty.row.lit (t := tI) (S := S) (base := w.heap.size) (css := []) (xs := []) (Blk.new w 48 #[]) nr Css.nil dc)
  have HC := hid (hcs.fr F0.o (fun k hk => ⟨hS k hk, fun x => x⟩))
  have HR := hid (hrd.fr F0.o (fun _ _ x => x))
  have HS := hid hS
  clear h hcs hrd hS
  obtain ⟨n, hn⟩ : ∃ n, l.length = n := ⟨_, rfl⟩
  have HN := hid hn
  rw [hn] at hl ⊢
  clear hn
  have he := fun W => Lib.run_eql_slice_nil (P := prog) W 43 _ (some ad) n c 0 0 underlying43
  go_enter func157, ntmps157
  go_wp2_with (at_builtin; refine wpList_appC (t := tI) (base := w.heap.size) (S := S) (xs := []) (ys := l) (dss := css) (B2 := w.heap.size) kOJ rfl rfl rfl rfl R0.o HC.o HR.o HN.o so so (fun k hk => ⟨ltl (HS.o k hk) F0.o.size, fun e => by have := HS.o k hk; have e2 := Option.some.inj (show some k = some w.heap.size from e); omega⟩) F0.o.size ?_; intro v1 w2 hr1 fr1 hv1; have F2 := hid (own_frame R0.o F0.o fr1 nr); have R1 := hid hr1; clear hr1 fr1 hv1)
  exact yy2
theorem kIp (A : OA) (c : Nat) (l : List Ca) (S : Nat → Prop) (w : World) (h : tCa.els w S A l) (hS : Lt S w) (hl : l.length * 32 ≤ 140737488351232) :
    Calls prog 153 #[.slice A l.length c] w (kAy tCa 113 S l w) := by
 cases A with
 | none =>
  have hn : l = [] := by
   exact yy43
  subst hn
  have he := fun W => Lib.run_eql_slice_nil (P := prog) W 30 _ none 0 c 0 0 underlying30
  go_enter func153, ntmps153
  exact yy18
 | some ad =>
  obtain ⟨css, hcs, hrd⟩ := kAY h hS
  have F0 := hid ((Fr.refl No w).alloc (.cells #[] 113))
  have R0 := hid (Ty.row.lit (t := tCa) (S := S) (base := w.heap.size) (css := []) (xs := []) (Blk.new w 113 #[]) nr Css.nil dc)
  have HC := hid (hcs.fr F0.o (fun k hk => ⟨hS k hk, fun x => x⟩))
  have HR := hid (hrd.fr F0.o (fun _ _ x => x))
  have HS := hid hS
  clear h hcs hrd hS
  obtain ⟨n, hn⟩ : ∃ n, l.length = n := ⟨_, rfl⟩
  have HN := hid hn
  rw [hn] at hl ⊢
  clear hn
  have he := fun W => Lib.run_eql_slice_nil (P := prog) W 30 _ (some ad) n c 0 0 underlying30
  go_enter func153, ntmps153
  go_wp2_with (at_builtin; refine wpList_appC (t := tCa) (base := w.heap.size) (S := S) (xs := []) (ys := l) (dss := css) (B2 := w.heap.size) elCa rfl rfl rfl rfl R0.o HC.o HR.o HN.o so so (fun k hk => ⟨ltl (HS.o k hk) F0.o.size, fun e => by have := HS.o k hk; have e2 := Option.some.inj (show some k = some w.heap.size from e); omega⟩) F0.o.size ?_; intro v1 w2 hr1 fr1 hv1; have F2 := hid (own_frame R0.o F0.o fr1 nr); have R1 := hid hr1; clear hr1 fr1 hv1)
  exact yy2
theorem kBP (A : OA) (c : Nat) (l : List Int) (S : Nat → Prop) (w : World) (h : tI.els w S A l) (hS : Lt S w) (hl : l.length * 8 ≤ 140737488351232) :
    Calls prog 95 #[.slice A l.length c] w (kAy tI 3 S l w) := by
 cases A with
 | none =>
  have hn : l = [] := by
   exact yy43
  subst hn
  have he := fun W => Lib.run_eql_slice_nil (P := prog) W 29 _ none 0 c 0 0 underlying29
  go_enter func95, ntmps95
  exact yy18
 | some ad =>
  obtain ⟨css, hcs, hrd⟩ := kAY h hS
  have F0 := hid ((Fr.refl No w).alloc (.cells #[] 3))
  have R0 := hid (Ty.row.lit (t := tI) (S := S) (base := w.heap.size) (css := []) (xs := []) (Blk.new w 3 #[]) nr Css.nil dc)
  have HC := hid (hcs.fr F0.o (fun k hk => ⟨hS k hk, fun x => x⟩))
  have HR := hid (hrd.fr F0.o (fun _ _ x => x))
  have HS := hid hS
  clear h hcs hrd hS
  obtain ⟨n, hn⟩ : ∃ n, l.length = n := ⟨_, rfl⟩
  have HN := hid hn
  rw [hn] at hl ⊢
  clear hn
  have he := fun W => Lib.run_eql_slice_nil (P := prog) W 29 _ (some ad) n c 0 0 underlying29
  go_enter func95, ntmps95
  go_wp2_with (at_builtin; refine wpList_appC (t := tI) (base := w.heap.size) (S := S) (xs := []) (ys := l) (dss := css) (B2 := w.heap.size) kFm rfl rfl rfl rfl R0.o HC.o HR.o HN.o so so (fun k hk => ⟨ltl (HS.o k hk) F0.o.size, fun e => by have := HS.o k hk; have e2 := Option.some.inj (show some k = some w.heap.size from e); omega⟩) F0.o.size ?_; intro v1 w2 hr1 fr1 hv1; have F2 := hid (own_frame R0.o F0.o fr1 nr); have R1 := hid hr1; clear hr1 fr1 hv1)
  exact yy2
theorem kIn (A : OA) (c : Nat) (l : List Im) (S : Nat → Prop) (w : World) (h : tIm.els w S A l) (hS : Lt S w) (hl : l.length * 120 ≤ 140737488351232) :
    Calls prog 163 #[.slice A l.length c] w (kAy tIm 292 S l w) := by
 cases A with
 | none =>
  have hn : l = [] := by
   exact yy43
  subst hn
  have he := fun W => Lib.run_eql_slice_nil (P := prog) W 61 _ none 0 c 0 0 underlying61
  go_enter func163, ntmps163
  exact yy18
 | some ad =>
  obtain ⟨css, hcs, hrd⟩ := kAY h hS
  have F0 := hid ((Fr.refl No w).alloc (.cells #[] 292))
  have R0 := hid (Ty.row.lit (t := tIm) (S := S) (base := w.heap.size) (css := []) (xs := []) (Blk.new w 292 #[]) nr Css.nil dc)
  have HC := hid (hcs.fr F0.o (fun k hk => ⟨hS k hk, fun x => x⟩))
  have HR := hid (hrd.fr F0.o (fun _ _ x => x))
  have HS := hid hS
  clear h hcs hrd hS
  obtain ⟨n, hn⟩ : ∃ n, l.length = n := ⟨_, rfl⟩
  have HN := hid hn
  rw [hn] at hl ⊢
  clear hn
  have he := fun W => Lib.run_eql_slice_nil (P := prog) W 61 _ (some ad) n c 0 0 underlying61
  go_enter func163, ntmps163
  go_wp2_with (at_builtin; refine wpList_appC (t := tIm) (base := w.heap.size) (S := S) (xs := []) (ys := l) (dss := css) (B2 := w.heap.size) elIm rfl rfl rfl rfl R0.o HC.o HR.o HN.o so so (fun k hk => ⟨ltl (HS.o k hk) F0.o.size, fun e => by have := HS.o k hk; have e2 := Option.some.inj (show some k = some w.heap.size from e); omega⟩) F0.o.size ?_; intro v1 w2 hr1 fr1 hv1; have F2 := hid (own_frame R0.o F0.o fr1 nr); have R1 := hid hr1; clear hr1 fr1 hv1)
  exact yy2
theorem kIm (A : OA) (c : Nat) (l : List Tb) (S : Nat → Prop) (w : World) (h : tTb.els w S A l) (hS : Lt S w) (hl : l.length * 32 ≤ 140737488351232) :
    Calls prog 164 #[.slice A l.length c] w (kAy tTb 52 S l w) := by
 cases A with
 | none =>
  have hn : l = [] := by
   exact yy43
  subst hn
  have he := fun W => Lib.run_eql_slice_nil (P := prog) W 63 _ none 0 c 0 0 underlying63
  go_enter func164, ntmps164
  exact yy18
 | some ad =>
  obtain ⟨css, hcs, hrd⟩ := kAY h hS
  have F0 := hid ((Fr.refl No w).alloc (.cells #[] 52))
  have R0 := hid (Ty.row.lit (t := tTb) (S := S) (base := w.heap.size) (css := []) (xs := []) (Blk.new w 52 #[]) nr Css.nil dc)
  have HC := hid (hcs.fr F0.o (fun k hk => ⟨hS k hk, fun x => x⟩))
  have HR := hid (hrd.fr F0.o (fun _ _ x => x))
  have HS := hid hS
  clear h hcs hrd hS
  obtain ⟨n, hn⟩ : ∃ n, l.length = n := ⟨_, rfl⟩
  have HN := hid hn
  rw [hn] at hl ⊢
  clear hn
  have he := fun W => Lib.run_eql_slice_nil (P := prog) W 63 _ (some ad) n c 0 0 underlying63
  go_enter func164, ntmps164
  go_wp2_with (at_builtin; refine wpList_appC (t := tTb) (base := w.heap.size) (S := S) (xs := []) (ys := l) (dss := css) (B2 := w.heap.size) elTb rfl rfl rfl rfl R0.o HC.o HR.o HN.o so so (fun k hk => ⟨ltl (HS.o k hk) F0.o.size, fun e => by have := HS.o k hk; have e2 := Option.some.inj (show some k = some w.heap.size from e); omega⟩) F0.o.size ?_; intro v1 w2 hr1 fr1 hv1; have F2 := hid (own_frame R0.o F0.o fr1 nr); have R1 := hid hr1; clear hr1 fr1 hv1)
  exact yy2
theorem kHn (A : OA) (c : Nat) (l : List Lim) (S : Nat → Prop) (w : World) (h : tLim.els w S A l) (hS : Lt S w) (hl : l.length * 24 ≤ 140737488351232) :
    Calls prog 165 #[.slice A l.length c] w (kAy tLim 50 S l w) := by
 cases A with
 | none =>
  have hn : l = [] := by
   exact yy43
  subst hn
  have he := fun W => Lib.run_eql_slice_nil (P := prog) W 64 _ none 0 c 0 0 underlying64
  go_enter func165, ntmps165
  exact yy18
 | some ad =>
  obtain ⟨css, hcs, hrd⟩ := kAY h hS
  have F0 := hid ((Fr.refl No w).alloc (.cells #[] 50))
  have R0 := hid (Ty.row.lit (t := tLim) (S := S) (base := w.heap.size) (css := []) (xs := []) (Blk.new w 50 #[]) nr Css.nil dc)
  have HC := hid (hcs.fr F0.o (fun k hk => ⟨hS k hk, fun x => x⟩))
  have HR := hid (hrd.fr F0.o (fun _ _ x => x))
  have HS := hid hS
  clear h hcs hrd hS
  obtain ⟨n, hn⟩ : ∃ n, l.length = n := ⟨_, rfl⟩
  have HN := hid hn
  rw [hn] at hl ⊢
  clear hn
  have he := fun W => Lib.run_eql_slice_nil (P := prog) W 64 _ (some ad) n c 0 0 underlying64
  go_enter func165, ntmps165
  go_wp2_with (at_builtin; refine wpList_appC (t := tLim) (base := w.heap.size) (S := S) (xs := []) (ys := l) (dss := css) (B2 := w.heap.size) kOp rfl rfl rfl rfl R0.o HC.o HR.o HN.o so so (fun k hk => ⟨ltl (HS.o k hk) F0.o.size, fun e => by have := HS.o k hk; have e2 := Option.some.inj (show some k = some w.heap.size from e); omega⟩) F0.o.size ?_; intro v1 w2 hr1 fr1 hv1; have F2 := hid (own_frame R0.o F0.o fr1 nr); have R1 := hid hr1; clear hr1 fr1 hv1)
  exact yy2
theorem kIo (A : OA) (c : Nat) (l : List Ex) (S : Nat → Prop) (w : World) (h : tEx.els w S A l) (hS : Lt S w) (hl : l.length * 32 ≤ 140737488351232) :
    Calls prog 166 #[.slice A l.length c] w (kAy tEx 297 S l w) := by
 cases A with
 | none =>
  have hn : l = [] := by
   exact yy43
  subst hn
  have he := fun W => Lib.run_eql_slice_nil (P := prog) W 66 _ none 0 c 0 0 underlying66
  go_enter func166, ntmps166
  exact yy18
 | some ad =>
  obtain ⟨css, hcs, hrd⟩ := kAY h hS
  have F0 := hid ((Fr.refl No w).alloc (.cells #[] 297))
  have R0 := hid (Ty.row.lit (t := tEx) (S := S) (base := w.heap.size) (css := []) (xs := []) (Blk.new w 297 #[]) nr Css.nil dc)
  have HC := hid (hcs.fr F0.o (fun k hk => ⟨hS k hk, fun x => x⟩))
  have HR := hid (hrd.fr F0.o (fun _ _ x => x))
  have HS := hid hS
  clear h hcs hrd hS
  obtain ⟨n, hn⟩ : ∃ n, l.length = n := ⟨_, rfl⟩
  have HN := hid hn
  rw [hn] at hl ⊢
  clear hn
  have he := fun W => Lib.run_eql_slice_nil (P := prog) W 66 _ (some ad) n c 0 0 underlying66
  go_enter func166, ntmps166
  go_wp2_with (at_builtin; refine wpList_appC (t := tEx) (base := w.heap.size) (S := S) (xs := []) (ys := l) (dss := css) (B2 := w.heap.size) elEx rfl rfl rfl rfl R0.o HC.o HR.o HN.o so so (fun k hk => ⟨ltl (HS.o k hk) F0.o.size, fun e => by have := HS.o k hk; have e2 := Option.some.inj (show some k = some w.heap.size from e); omega⟩) F0.o.size ?_; intro v1 w2 hr1 fr1 hv1; have F2 := hid (own_frame R0.o F0.o fr1 nr); have R1 := hid hr1; clear hr1 fr1 hv1)
  exact yy2
def cb (b : UInt8) : Bool := decide (128 ≤ b.toNat ∧ b.toNat < 192)
def isR (n : Nat) : Bool := decide (n < 55296 ∨ (57343 < n ∧ n ≤ 1114111))
def headN (b : Nat) : Nat := if 192 ≤ b ∧ b < 224 then 2 else if 224 ≤ b ∧ b < 240 then 3 else if 240 ≤ b ∧ b < 248 then 4 else 0
def headL (b : Nat) : Nat := if 192 ≤ b ∧ b < 224 then 128 else if 224 ≤ b ∧ b < 240 then 2048 else if 240 ≤ b ∧ b < 248 then 65536 else 0
def headX (b : Nat) : Nat := if 192 ≤ b ∧ b < 224 then b - 192 else if 224 ≤ b ∧ b < 240 then b - 224 else if 240 ≤ b ∧ b < 248 then b - 240 else 0
def conts : Nat → List UInt8 → Nat → Option Nat
 | 0, _, x => some x
 | _ + 1, [], _ => none
 | k + 1, c :: r, x => if cb c then conts k r (x * 64 + (c.toNat - 128)) else none
def dec : List UInt8 → Option (Nat × Nat)
 | [] => none
 | b :: r =>
  if b.toNat < 128 then some (b.toNat, 1)
  else if headN b.toNat = 0 ∨ r.length + 1 < headN b.toNat then none
  else match conts (headN b.toNat - 1) r (headX b.toNat) with
   | none => none
   | some x => if x < headL b.toNat ∨ isR x = false then none else some (x, headN b.toNat)
def wid (l : List UInt8) : Nat := match dec l with | some (_, n) => n | none => 1
theorem getB (s : ByteArray) (i : Nat) : s.get! i = s.data.toList.getD i 0 := by
 show s.data[i]! = _
 rw [Array.getElem!_eq_getD, Array.getD_eq_getD_getElem?, List.getD_eq_getElem?_getD, Array.getElem?_toList]
 rfl
theorem kEX {l : List UInt8} {c n : Nat} (h : dec l = some (c, n)) : 1 ≤ n ∧ n ≤ l.length ∧ n ≤ 4 ∧ isR c = true := by
 cases l with
 | nil => simp [dec] at h
 | cons b r =>
  simp only [dec] at h
  split at h
  · simp at h; obtain ⟨rfl, rfl⟩ := h; refine ⟨by omega, by simp, by omega, ?_⟩; simp [isR]; omega
  · split at h
    · cases h
    rename_i h1 h2
    split at h
    · cases h
    split at h
    · cases h
    rename_i h3
    simp at h; obtain ⟨rfl, rfl⟩ := h
    have : headN b.toNat ≤ 4 := by unfold headN; split <;> (try split) <;> (try split) <;> omega
    refine ⟨by omega, by simp; omega, this, ?_⟩
    exact Bool.not_eq_false _ |>.mp fun hh => h3 (.inr hh)
theorem kNt (l : List UInt8) (h : l ≠ []) : 1 ≤ wid l ∧ wid l ≤ l.length ∧ wid l ≤ 4 := by
 unfold wid
 cases hd : dec l with
 | none => have := List.length_pos_iff.2 h; exact ⟨by simp, by simp; omega, by simp⟩
 | some p => obtain ⟨h1, h2, h3, _⟩ := kEX hd; exact ⟨h1, h2, h3⟩
theorem kON (b : UInt8) : (b.toNat / 64 == 2) = cb b := by
 have := b.toNat_lt
 simp only [cb]
 rw [Bool.eq_iff_iff]; simp; omega
theorem kHi (y n L : Nat) (p : Prop) [Decidable p] (hp : p ↔ L ≤ y ∧ isR y = true) : (if p then (y, n) else (65533, 1)) = (if y < L ∨ isR y = false then none else some (y, n)).getD (65533, 1) := by
 by_cases h : p
 · have := hp.1 h
   rw [if_pos h, if_neg (by intro h'; rcases h' with h' | h'; omega; simp [this.2] at h')]; rfl
 rw [if_neg h, if_pos]; rfl
 by_cases h1 : L ≤ y
 · right; cases h2 : isR y with
   | false => rfl
   | true => exact absurd (hp.2 ⟨h1, h2⟩) h
 left; omega
theorem kCa (y : Nat) : Utf8.valid (y : Int) = isR y := by
 simp only [isR, Utf8.valid]; rw [Bool.eq_iff_iff]; simp; omega
theorem kDz (s : ByteArray) (i : Nat) (hi : i < s.size) : Utf8.decode s i = (dec (s.data.toList.drop i)).getD (65533, 1) := by
 have hz : s.data.toList.length = s.size := by simp
 obtain ⟨l, hl⟩ : ∃ l, s.data.toList.drop i = l := ⟨_, rfl⟩
 have hlen : l.length = s.size - i := by rw [← hl]; simp
 have hg : ∀ k, s.get! (i + k) = l.getD k 0 := fun k => by
  rw [getB, ← hl]; simp [List.getD_eq_getElem?_getD, List.getElem?_drop]
 have hc : ∀ k, decide (i + k < s.size) = decide (k < l.length) := fun k => by rw [hlen]; simp; omega
 rw [hl]
 unfold Utf8.decode
 simp only [hg, hc, kON]
 clear hg hc hl hz
 match l, hlen with
 | [], h => simp at h; omega
 | b :: r, _ =>
  have hb := b.toNat_lt
  simp only [List.getD_cons_zero]
  by_cases h0 : b.toNat < 128
  · simp [dec, h0]
  · have e6 : (b.toNat / 32 == 6) = decide (192 ≤ b.toNat ∧ b.toNat < 224) := by rw [Bool.eq_iff_iff]; simp; omega
    have e14 : (b.toNat / 16 == 14) = decide (224 ≤ b.toNat ∧ b.toNat < 240) := by rw [Bool.eq_iff_iff]; simp; omega
    have e30 : (b.toNat / 8 == 30) = decide (240 ≤ b.toNat ∧ b.toNat < 248) := by rw [Bool.eq_iff_iff]; simp; omega
    rw [e6, e14, e30]
    by_cases h2 : 192 ≤ b.toNat ∧ b.toNat < 224
    · have h3 : ¬ (224 ≤ b.toNat ∧ b.toNat < 240) := om
      have h4 : ¬ (240 ≤ b.toNat ∧ b.toNat < 248) := om
      match r with
      | [] => simp [dec, h0, h2, h3, h4, headN, Utf8.runeError]
      | c1 :: r =>
       by_cases k1 : cb c1
       · have k1' : 128 ≤ c1.toNat ∧ c1.toNat < 192 := by simpa [cb] using k1
         have e1 : b.toNat % 32 * 64 + c1.toNat % 64 = (b.toNat - 192) * 64 + (c1.toNat - 128) := om
         have e2 : isR ((b.toNat - 192) * 64 + (c1.toNat - 128)) = true := by simp [isR]; omega
         simp only [List.getD_cons_zero, List.getD_cons_succ, e1, kCa]
         simp [dec, h0, h2, headN, headX, headL, conts, k1, Utf8.runeError]
         generalize (b.toNat - 192) * 64 + (c1.toNat - 128) = y at e2
         rw [if_neg (show ¬ r.length + 1 + 1 < 2 by omega)]
         exact kHi y 2 128 (128 ≤ y) (by simp [e2])
       · exact yy96
    by_cases h3 : 224 ≤ b.toNat ∧ b.toNat < 240
    · have h4 : ¬ (240 ≤ b.toNat ∧ b.toNat < 248) := om
      match r with
      | [] => simp [dec, h0, h2, h3, h4, headN, Utf8.runeError]
      | [c1] => simp [dec, h0, h2, h3, h4, headN, Utf8.runeError]
      | c1 :: c2 :: r =>
       by_cases k1 : cb c1
       · by_cases k2 : cb c2
         · have k1' : 128 ≤ c1.toNat ∧ c1.toNat < 192 := by simpa [cb] using k1
           have k2' : 128 ≤ c2.toNat ∧ c2.toNat < 192 := by simpa [cb] using k2
           have e1 : b.toNat % 16 * 4096 + c1.toNat % 64 * 64 + c2.toNat % 64 = ((b.toNat - 224) * 64 + (c1.toNat - 128)) * 64 + (c2.toNat - 128) := om
           simp only [List.getD_cons_zero, List.getD_cons_succ, e1, kCa]
           simp [dec, h0, h2, h3, headN, headX, headL, conts, k1, k2, Utf8.runeError, kCa]
           generalize ((b.toNat - 224) * 64 + (c1.toNat - 128)) * 64 + (c2.toNat - 128) = y
           rw [if_neg (show ¬ r.length + 1 + 1 + 1 < 3 by omega)]
           generalize hL : 2048 = L
           exact kHi y 3 L _ Iff.rfl
         simp [dec, h0, h2, h3, h4, headN, headX, headL, conts, k1, k2, Utf8.runeError]
       · exact yy96
    by_cases h4 : 240 ≤ b.toNat ∧ b.toNat < 248
    · match r with
      | [] => simp [dec, h0, h2, h3, h4, headN, Utf8.runeError]
      | [c1] => simp [dec, h0, h2, h3, h4, headN, Utf8.runeError]
      | [c1, c2] => simp [dec, h0, h2, h3, h4, headN, Utf8.runeError]
      | c1 :: c2 :: c3 :: r =>
       by_cases k1 : cb c1
       · by_cases k2 : cb c2
         · by_cases k3 : cb c3
           · have k1' : 128 ≤ c1.toNat ∧ c1.toNat < 192 := by simpa [cb] using k1
             have k2' : 128 ≤ c2.toNat ∧ c2.toNat < 192 := by simpa [cb] using k2
             have k3' : 128 ≤ c3.toNat ∧ c3.toNat < 192 := by simpa [cb] using k3
             have e1 : b.toNat % 8 * 262144 + c1.toNat % 64 * 4096 + c2.toNat % 64 * 64 + c3.toNat % 64 = (((b.toNat - 240) * 64 + (c1.toNat - 128)) * 64 + (c2.toNat - 128)) * 64 + (c3.toNat - 128) := om
             simp only [List.getD_cons_zero, List.getD_cons_succ, e1, kCa]
             simp [dec, h0, h2, h3, h4, headN, headX, headL, conts, k1, k2, k3, Utf8.runeError, kCa]
             generalize (((b.toNat - 240) * 64 + (c1.toNat - 128)) * 64 + (c2.toNat - 128)) * 64 + (c3.toNat - 128) = y
             rw [if_neg (show ¬ r.length + 1 + 1 + 1 + 1 < 4 by omega)]
             generalize hL : 65536 = L
             exact kHi y 4 L _ Iff.rfl
           simp [dec, h0, h2, h3, h4, headN, headX, headL, conts, k1, k2, k3, Utf8.runeError]
         simp [dec, h0, h2, h3, h4, headN, headX, headL, conts, k1, k2, Utf8.runeError]
       · exact yy96
    simp [dec, h0, h2, h3, h4, headN, Utf8.runeError]
theorem kKP (s : ByteArray) (i : Nat) (hi : i < s.size) : (Utf8.decode s i).2 = wid (s.data.toList.drop i) := by
 rw [kDz s i hi]
 unfold wid
 cases dec (s.data.toList.drop i) <;> rfl
def kDX : Nat → List UInt8 → Option (List Int)
 | 0, _ => some []
 | f + 1, l => match l with
  | [] => some []
  | _ :: _ => match dec l with
   | none => none
   | some (c, n) => (kDX f (l.drop n)).map ((c : Int) :: ·)
def runes (l : List UInt8) : Option (List Int) := kDX l.length l
theorem kGO : ∀ (f g : Nat) (l : List UInt8), l.length ≤ f → l.length ≤ g → kDX f l = kDX g l
 | 0, 0, _, _, _ => rfl
 | 0, g + 1, l, h, _ => by
  have : l = [] := List.eq_nil_of_length_eq_zero om
  subst this; rfl
 | f + 1, 0, l, _, h => by
  have : l = [] := List.eq_nil_of_length_eq_zero om
  subst this; rfl
 | f + 1, g + 1, l, hf, hg => by
  cases l with
  | nil => rfl
  | cons b r =>
   simp only [kDX]
   cases hd : dec (b :: r) with
   | none => rfl
   | some p =>
    obtain ⟨c, n⟩ := p
    obtain ⟨h1, h2, _⟩ := kEX hd
    simp only
    rw [kGO f g _ (by simp at *; omega) (by simp at *; omega)]
theorem runes_nil : runes [] = some [] := rfl
theorem kHK {l : List UInt8} (h : l ≠ []) : runes l = match dec l with | none => none | some (c, n) => (runes (l.drop n)).map ((c : Int) :: ·) := by
 cases l with
 | nil => exact absurd rfl h
 | cons b r =>
  unfold runes
  simp only [List.length_cons, kDX]
  cases hd : dec (b :: r) with
  | none => rfl
  | some p =>
   obtain ⟨c, n⟩ := p
   obtain ⟨h1, h2, _⟩ := kEX hd
   simp only
   rw [kGO r.length _ _ (by simp at *; omega) nr]
def enc (x : Nat) : List UInt8 :=
 if x < 128 then [UInt8.ofNat x]
 else if x < 2048 then [UInt8.ofNat (192 + x / 64), UInt8.ofNat (128 + x % 64)]
 else if x < 65536 then [UInt8.ofNat (224 + x / 4096), UInt8.ofNat (128 + x / 64 % 64), UInt8.ofNat (128 + x % 64)]
 else [UInt8.ofNat (240 + x / 262144), UInt8.ofNat (128 + x / 4096 % 64), UInt8.ofNat (128 + x / 64 % 64), UInt8.ofNat (128 + x % 64)]
def okI (c : Int) : Bool := decide (0 ≤ c) && isR c.toNat
theorem kBw {n : Nat} (h : n < 256) : (UInt8.ofNat n).toNat = n := by simp; omega
theorem kCR (y : Nat) : cb (UInt8.ofNat (128 + y % 64)) = true ∧ (UInt8.ofNat (128 + y % 64)).toNat - 128 = y % 64 := by
 rw [cb, kBw (by omega)]
 exact ⟨by simp; omega, by omega⟩
theorem kLG {x : Nat} (h : isR x = true) : x ≤ 1114111 := by simp [isR] at h; omega
theorem kNp (x : Nat) (r : List UInt8) (h : isR x = true) : dec (enc x ++ r) = some (x, (enc x).length) := by
 have hx := kLG h
 unfold enc
 split
 · simp only [List.cons_append, List.nil_append, dec]
   rw [kBw (by omega), if_pos (by assumption)]; rfl
 split
 · obtain ⟨k1, k2⟩ := kCR x
   simp only [List.cons_append, List.nil_append, dec]
   rw [kBw (by omega), if_neg (by omega)]
   have e1 : headN (192 + x / 64) = 2 := by unfold headN; rw [if_pos (by omega)]
   have e2 : headX (192 + x / 64) = x / 64 := by unfold headX; rw [if_pos (by omega)]; omega
   have e3 : headL (192 + x / 64) = 128 := by unfold headL; rw [if_pos (by omega)]
   rw [e1, e2, e3, if_neg (by simp)]
   simp only [conts, k1, k2, if_true]
   have e4 : x / 64 * 64 + x % 64 = x := om
   rw [e4, if_neg (by simp [h]; omega)]
   rfl
 split
 · obtain ⟨k1, k2⟩ := kCR x
   obtain ⟨j1, j2⟩ := kCR (x / 64)
   simp only [List.cons_append, List.nil_append, dec]
   rw [kBw (by omega), if_neg (by omega)]
   have e1 : headN (224 + x / 4096) = 3 := by unfold headN; rw [if_neg (by omega), if_pos (by omega)]
   have e2 : headX (224 + x / 4096) = x / 4096 := by unfold headX; rw [if_neg (by omega), if_pos (by omega)]; omega
   have e3 : headL (224 + x / 4096) = 2048 := by unfold headL; rw [if_neg (by omega), if_pos (by omega)]
   rw [e1, e2, e3, if_neg (by simp)]
   simp only [conts, k1, k2, j1, j2, if_true]
   have e4 : (x / 4096 * 64 + x / 64 % 64) * 64 + x % 64 = x := om
   rw [e4, if_neg (by simp [h]; omega)]
   rfl
 obtain ⟨k1, k2⟩ := kCR x
 obtain ⟨j1, j2⟩ := kCR (x / 64)
 obtain ⟨i1, i2⟩ := kCR (x / 4096)
 simp only [List.cons_append, List.nil_append, dec]
 rw [kBw (by omega), if_neg (by omega)]
 have e1 : headN (240 + x / 262144) = 4 := by unfold headN; rw [if_neg (by omega), if_neg (by omega), if_pos (by omega)]
 have e2 : headX (240 + x / 262144) = x / 262144 := by unfold headX; rw [if_neg (by omega), if_neg (by omega), if_pos (by omega)]; omega
 have e3 : headL (240 + x / 262144) = 65536 := by unfold headL; rw [if_neg (by omega), if_neg (by omega), if_pos (by omega)]
 rw [e1, e2, e3, if_neg (by simp)]
 simp only [conts, k1, k2, j1, j2, i1, i2, if_true]
 have e4 : ((x / 262144 * 64 + x / 4096 % 64) * 64 + x / 64 % 64) * 64 + x % 64 = x := om
 rw [e4, if_neg (by simp [h]; omega)]
 rfl
theorem kBM {b : UInt8} {n : Nat} (h : b.toNat = n) : UInt8.ofNat n = b := by subst h; simp
theorem kNn {l : List UInt8} {x n : Nat} (h : dec l = some (x, n)) : enc x = l.take n := by
 cases l with
 | nil => simp [dec] at h
 | cons b r =>
  have hb := b.toNat_lt
  simp only [dec] at h
  split at h
  · rename_i h0
    simp at h; obtain ⟨rfl, rfl⟩ := h
    rw [enc, if_pos h0]; simp
  · split at h
    · cases h
    rename_i h1 h2
    split at h
    · cases h
    rename_i y hy
    split at h
    · cases h
    rename_i h3
    simp at h; obtain ⟨rfl, rfl⟩ := h
    by_cases c2 : 192 ≤ b.toNat ∧ b.toNat < 224
    · have e1 : headN b.toNat = 2 := by unfold headN; rw [if_pos c2]
      have e2 : headX b.toNat = b.toNat - 192 := by unfold headX; rw [if_pos c2]
      have e3 : headL b.toNat = 128 := by unfold headL; rw [if_pos c2]
      rw [e1, e2] at hy
      rw [e3] at h3
      rw [e1] at h2 ⊢
      match r with
      | [] => simp at h2
      | c1 :: r =>
       simp only [conts] at hy
       split at hy
       · rename_i k1
         have k1 : 128 ≤ c1.toNat ∧ c1.toNat < 192 := by simpa [cb] using k1
         simp at hy h3
         rw [enc, if_neg (by omega), if_pos (by omega)]
         simp only [List.take_succ_cons, List.take_zero, List.cons.injEq, and_true]
         exact ⟨kBM om, kBM om⟩
       · cases hy
    by_cases c3 : 224 ≤ b.toNat ∧ b.toNat < 240
    · have e1 : headN b.toNat = 3 := by unfold headN; rw [if_neg c2, if_pos c3]
      have e2 : headX b.toNat = b.toNat - 224 := by unfold headX; rw [if_neg c2, if_pos c3]
      have e3 : headL b.toNat = 2048 := by unfold headL; rw [if_neg c2, if_pos c3]
      rw [e1, e2] at hy
      rw [e3] at h3
      rw [e1] at h2 ⊢
      match r with
      | [] => simp at h2
      | [c1] => simp at h2
      | c1 :: c2 :: r =>
       simp only [conts] at hy
       split at hy
       · rename_i k1
         have k1 : 128 ≤ c1.toNat ∧ c1.toNat < 192 := by simpa [cb] using k1
         split at hy
         · rename_i k2
           have k2 : 128 ≤ c2.toNat ∧ c2.toNat < 192 := by simpa [cb] using k2
           simp at hy h3
           rw [enc, if_neg (by omega), if_neg (by omega), if_pos (by omega)]
           simp only [List.take_succ_cons, List.take_zero, List.cons.injEq, and_true]
           exact ⟨kBM om, kBM om, kBM om⟩
         cases hy
       · cases hy
    by_cases c4 : 240 ≤ b.toNat ∧ b.toNat < 248
    · have e1 : headN b.toNat = 4 := by unfold headN; rw [if_neg c2, if_neg c3, if_pos c4]
      have e2 : headX b.toNat = b.toNat - 240 := by unfold headX; rw [if_neg c2, if_neg c3, if_pos c4]
      have e3 : headL b.toNat = 65536 := by unfold headL; rw [if_neg c2, if_neg c3, if_pos c4]
      rw [e1, e2] at hy
      rw [e3] at h3
      rw [e1] at h2 ⊢
      match r with
      | [] => simp at h2
      | [c1] => simp at h2
      | [c1, c2] => simp at h2
      | c1 :: c2 :: c3 :: r =>
       simp only [conts] at hy
       split at hy
       · rename_i k1
         have k1 : 128 ≤ c1.toNat ∧ c1.toNat < 192 := by simpa [cb] using k1
         split at hy
         · rename_i k2
           have k2 : 128 ≤ c2.toNat ∧ c2.toNat < 192 := by simpa [cb] using k2
           split at hy
           · rename_i k3
             have k3 : 128 ≤ c3.toNat ∧ c3.toNat < 192 := by simpa [cb] using k3
             simp at hy h3
             rw [enc, if_neg (by omega), if_neg (by omega), if_neg (by omega)]
             simp only [List.take_succ_cons, List.take_zero, List.cons.injEq, and_true]
             exact ⟨kBM om, kBM om, kBM om, kBM om⟩
           cases hy
         cases hy
       · cases hy
    have e1 : headN b.toNat = 0 := by unfold headN; rw [if_neg c2, if_neg c3, if_neg c4]
    exact absurd (.inl e1) h2
theorem kIl {l : List UInt8} {p : Nat × Nat} (h : dec l = some p) : l ≠ [] := by rintro rfl; cases h
theorem ret_bool {a b : Bool} (h : a = b) : Ending.returned (.bool a) = .returned (.bool b) := by rw [h]
theorem kEe {k : IntKind} {a b : Int} (h : a = b) : Ending.returned (.int k a) = .returned (.int k b) := by rw [h]
def Ks (k : IntKind) (xs : List Int) : LV := xs.map (Value.int k)
@[simp] theorem kDb (k : IntKind) (xs : List Int) : (Ks k xs).length = xs.length := by simp [Ks]
theorem kOD (k : IntKind) (xs : List Int) : ∀ u ∈ Ks k xs, u.oneCell' = true := by
 intro u hu
 simp only [Ks, List.mem_map] at hu
 obtain ⟨a, _, rfl⟩ := hu
 rfl
theorem kPB (k : IntKind) (xs : List Int) (i : Nat) (hi : i < xs.length) : (Ks k xs)[i]'(by simpa using hi) = .int k xs[i] := by simp [Ks]
theorem kLk (k : IntKind) (xs ys : List Int) : Ks k (xs ++ ys) = Ks k xs ++ Ks k ys := by simp [Ks]
def Bs (l : List UInt8) : List Int := l.map fun b => (b.toNat : Int)
@[simp] theorem kPP (l : List UInt8) : (Bs l).length = l.length := by simp [Bs]
theorem kPM (a b : List UInt8) : Bs (a ++ b) = Bs a ++ Bs b := by simp [Bs]
theorem kFj : ∀ (l : List UInt8) (s : ByteArray), (Bs l).foldl (fun r n => r.push (UInt8.ofNat n.toNat)) s = ⟨s.data ++ l.toArray⟩
 | [], s => by simp [Bs]
 | b :: l, s => by
  have e : (Bs (b :: l)).foldl (fun r n => r.push (UInt8.ofNat n.toNat)) s = (Bs l).foldl (fun r n => r.push (UInt8.ofNat n.toNat)) (s.push b) := by simp [Bs]
  rw [e, kFj l]
  cases s
  simp [ByteArray.push]
theorem kFo {P : Program} {w : World} {B : Nat} {A : OA} {l : List UInt8} (src dst e : TypeId) (c : Nat)
    (hs : P.underlying src = some (.slice e)) (he : P.underlying e = some (.int .u8)) (hd : P.underlying dst = some .string) (h : Rd w B A (Ks .u8 (Bs l))) :
    (convert src dst (.slice A l.length c)).run P w = .ok (.string ⟨l.toArray⟩) w := by
 rw [run_convert_bytes_string w src dst e _ _ _ hs he hd]
 cases A with
 | none =>
  have hl : l = [] := by
   rcases h with h | ⟨b, o, h, _⟩
   · cases l with
     | nil => rfl
     | cons _ _ => simp [Ks, Bs] at h
   cases h
  subst hl
  simp [Conv.bytesToString]
  rfl
 | some a =>
  have hh : ∀ (j : Nat) (v : Value), (Ks .u8 (Bs l))[j]? = some v → w.cell? (a.add j) = some v := by
   rcases h with h | ⟨b, o, h, _, hc⟩
   · rw [h]; intro j v hv; simp at hv
   cases h; intro j v hv; rw [add_lit']; exact hc j v hv
  have hr := run_loadCells_list (P := P) (w := w) a (Ks .u8 (Bs l)) hh
  have e1 : (Ks .u8 (Bs l)).length = l.length := by simp
  rw [e1] at hr
  rw [run_bytesToString w a _ c (Bs l) hr, kFj]
  have e2 : ByteArray.empty.data ++ l.toArray = l.toArray := by show #[] ++ l.toArray = _; simp
  rw [e2]
end Go.Proofs.YtdckghiipijobaaGreat
