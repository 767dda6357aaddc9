/- Part 2 of the proof: lemmas and contracts of functions. No condition. -/
import Derived.Test.YthggdemiddjlgaaGreatS1
set_option maxRecDepth 100000
set_option maxHeartbeats 12800000
set_option linter.unusedVariables false
set_option linter.unusedSimpArgs false
set_option linter.unusedSectionVars false
namespace Go.Proofs.YthggdemiddjlgaaGreat
open Go.RowKit Go.Proofs.Tryz
structure Vl where
 t : Int
 n : Int
 deriving DecidableEq
def tVl0 : Ty (Int × Int) := (Ty.int .i64).pair ((Ty.int .u64))
def tVl : Ty Vl := tVl0.iso fun a => (a.t, a.n)
instance : TyOk tVl := by unfold tVl tVl0; infer_instance
instance : TyMore tVl := by unfold tVl tVl0; infer_instance
instance : kAG tVl := by unfold tVl tVl0; infer_instance
theorem kCW : kAL prog 84 tVl := by
 refine kAH _ (fun x => ⟨x.1, x.2⟩) (fun _ => rfl) ?_
 exact kAF underlying84 kr (Flds.cons rfl kr (kAD underlying35) (Flds.one rfl kr (kAD underlying82)))
theorem kGz {w : World} {S : Nat → Prop} {cs : LV} {a : Vl} (h : tVl.rd w S cs a) : cs = [.int .i64 a.t, .int .u64 a.n] ∧ (Lit.int .i64 a.t).wf = true ∧ (Lit.int .u64 a.n).wf = true := by
 obtain ⟨xt, rt, rfl, ⟨rfl, wt⟩, rfl, wn⟩ := h
 exact ⟨rfl, wt, wn⟩
structure Ac where
 kind : Int
 vals : List Vl
 mem : Int
 at_ : Int
 byte : Int
def tAc0 : Ty (Int × List Vl × Int × Int × Int) := (Ty.int .i64).pair (tVl.slice.pair ((Ty.int .i64).pair ((Ty.int .i64).pair ((Ty.int .u8)))))
def tAc : Ty Ac := tAc0.iso fun a => (a.kind, a.vals, a.mem, a.at_, a.byte)
instance : TyOk tAc := by unfold tAc tAc0; infer_instance
instance : TyMore tAc := by unfold tAc tAc0; infer_instance
instance : kAG tAc := by unfold tAc tAc0; infer_instance
theorem kGi : kAL prog 226 tAc := by
 refine kAH _ (fun x => ⟨x.1, x.2.1, x.2.2.1, x.2.2.2.1, x.2.2.2.2⟩) (fun _ => rfl) ?_
 exact kAF underlying226 kr (Flds.cons rfl kr (kAD underlying3) (Flds.cons rfl kr (kAC underlying224 kr dc kCW) (Flds.cons rfl kr (kAD underlying3) (Flds.cons rfl kr (kAD underlying3) (Flds.one rfl kr (kAD underlying5))))))
theorem kHH {w : World} {S : Nat → Prop} {cs : LV} {a : Ac} (h : tAc.rd w S cs a) : ∃ (Avals : OA) (cvals : Nat), cs = [.int .i64 a.kind, .slice Avals a.vals.length cvals, .int .i64 a.mem, .int .i64 a.at_, .int .u8 a.byte] ∧ (Lit.int .i64 a.kind).wf = true ∧ a.vals.length ≤ cvals ∧ cvals ≤ maxLen ∧ tVl.els w S Avals a.vals ∧ (Lit.int .i64 a.mem).wf = true ∧ (Lit.int .i64 a.at_).wf = true ∧ (Lit.int .u8 a.byte).wf = true := by
 obtain ⟨xkind, rkind, rfl, ⟨rfl, wkind⟩, xvals, rvals, rfl, ⟨Avals, cvals, rfl, gvals, mvals, evals⟩, xmem, rmem, rfl, ⟨rfl, wmem⟩, xat_, rat_, rfl, ⟨rfl, wat_⟩, rfl, wbyte⟩ := h
 exact ⟨Avals, cvals, rfl, wkind, gvals, mvals, evals, wmem, wat_, wbyte⟩
theorem kIz {w : World} {S : Nat → Prop} {a : Ac} {Avals : OA} {cvals : Nat} (f0 : (Lit.int .i64 a.kind).wf = true) (f1 : a.vals.length ≤ cvals) (f2 : cvals ≤ maxLen) (f3 : tVl.els w S Avals a.vals) (f4 : (Lit.int .i64 a.mem).wf = true) (f5 : (Lit.int .i64 a.at_).wf = true) (f6 : (Lit.int .u8 a.byte).wf = true) : tAc.rd w S [.int .i64 a.kind, .slice Avals a.vals.length cvals, .int .i64 a.mem, .int .i64 a.at_, .int .u8 a.byte] a :=
 ⟨[.int .i64 a.kind], [.slice Avals a.vals.length cvals, .int .i64 a.mem, .int .i64 a.at_, .int .u8 a.byte], rfl, ⟨rfl, f0⟩, ⟨[.slice Avals a.vals.length cvals], [.int .i64 a.mem, .int .i64 a.at_, .int .u8 a.byte], rfl, ⟨_, _, rfl, f1, f2, f3⟩, ⟨[.int .i64 a.mem], [.int .i64 a.at_, .int .u8 a.byte], rfl, ⟨rfl, f4⟩, ⟨[.int .i64 a.at_], [.int .u8 a.byte], rfl, ⟨rfl, f5⟩, ⟨rfl, f6⟩⟩⟩⟩⟩
structure Fn where
 params : List Int
 results : List Int
 deriving DecidableEq
def tFn0 : Ty (List Int × List Int) := (Ty.int .i64).slice.pair ((Ty.int .i64).slice)
def tFn : Ty Fn := tFn0.iso fun a => (a.params, a.results)
instance : TyOk tFn := by unfold tFn tFn0; infer_instance
instance : TyMore tFn := by unfold tFn tFn0; infer_instance
instance : kAG tFn := by unfold tFn tFn0; infer_instance
theorem kCZ : kAL prog 78 tFn := by
 refine kAH _ (fun x => ⟨x.1, x.2⟩) (fun _ => rfl) ?_
 exact kAF underlying78 kr (Flds.cons rfl kr (kAC underlying76 kr dc (kAD underlying35)) (Flds.one rfl kr (kAC underlying76 kr dc (kAD underlying35))))
theorem Fn_cells {w : World} {S : Nat → Prop} {cs : LV} {a : Fn} (h : tFn.rd w S cs a) : ∃ (Aparams : OA) (cparams : Nat) (Aresults : OA) (cresults : Nat), cs = [.slice Aparams a.params.length cparams, .slice Aresults a.results.length cresults] ∧ a.params.length ≤ cparams ∧ cparams ≤ maxLen ∧ (Ty.int .i64).els w S Aparams a.params ∧ a.results.length ≤ cresults ∧ cresults ≤ maxLen ∧ (Ty.int .i64).els w S Aresults a.results := by
 obtain ⟨xparams, rparams, rfl, ⟨Aparams, cparams, rfl, gparams, mparams, eparams⟩, Aresults, cresults, rfl, gresults, mresults, eresults⟩ := h
 exact ⟨Aparams, cparams, Aresults, cresults, rfl, gparams, mparams, eparams, gresults, mresults, eresults⟩
theorem kHN {w : World} {S : Nat → Prop} {a : Fn} {Aparams : OA} {cparams : Nat} {Aresults : OA} {cresults : Nat} (f0 : a.params.length ≤ cparams) (f1 : cparams ≤ maxLen) (f2 : (Ty.int .i64).els w S Aparams a.params) (f3 : a.results.length ≤ cresults) (f4 : cresults ≤ maxLen) (f5 : (Ty.int .i64).els w S Aresults a.results) : tFn.rd w S [.slice Aparams a.params.length cparams, .slice Aresults a.results.length cresults] a :=
 ⟨[.slice Aparams a.params.length cparams], [.slice Aresults a.results.length cresults], rfl, ⟨_, _, rfl, f0, f1, f2⟩, ⟨_, _, rfl, f3, f4, f5⟩⟩
theorem kIq {w : World} {S : Nat → Prop} {A : OA} {l : List Fn} (h : tFn.els w S A l) (k : Nat) (hk : k < l.length) : ∃ (b o : Nat) (Aparams : OA) (cparams : Nat) (Aresults : OA) (cresults : Nat), A = some ⟨b, o, none⟩ ∧ S b ∧ w.cell? ⟨b, o + k * 2, none⟩ = some (.slice Aparams l[k].params.length cparams) ∧ w.cell? ⟨b, o + k * 2 + 1, none⟩ = some (.slice Aresults l[k].results.length cresults) ∧ l[k].params.length ≤ cparams ∧ cparams ≤ maxLen ∧ (Ty.int .i64).els w S Aparams l[k].params ∧ l[k].results.length ≤ cresults ∧ cresults ≤ maxLen ∧ (Ty.int .i64).els w S Aresults l[k].results := by
 obtain ⟨b, o, ds, rfl, hb, hc, hr⟩ := h.at_ k hk
 obtain ⟨Aparams, cparams, Aresults, cresults, rfl, f0, f1, f2, f3, f4, f5⟩ := Fn_cells hr
 have e : tFn.size = 2 := rfl
 rw [e] at hc
 exact ⟨b, o, Aparams, cparams, Aresults, cresults, rfl, hb, hc 0 _ rfl, (by have := hc 1 _ rfl; rwa [← Nat.add_assoc] at this), f0, f1, f2, f3, f4, f5⟩
structure Ho where
 mod : ByteArray
 name : ByteArray
 ty : Fn
 acts : List Ac
def tHo0 : Ty (ByteArray × ByteArray × Fn × List Ac) := Ty.str.pair (Ty.str.pair (tFn.pair (tAc.slice)))
def tHo : Ty Ho := tHo0.iso fun a => (a.mod, a.name, a.ty, a.acts)
instance : TyOk tHo := by unfold tHo tHo0; infer_instance
instance : TyMore tHo := by unfold tHo tHo0; infer_instance
instance : kAG tHo := by unfold tHo tHo0; infer_instance
theorem kGX : kAL prog 98 tHo := by
 refine kAH _ (fun x => ⟨x.1, x.2.1, x.2.2.1, x.2.2.2⟩) (fun _ => rfl) ?_
 exact kAF underlying98 kr (Flds.cons rfl kr (kAt underlying9) (Flds.cons rfl kr (kAt underlying9) (Flds.cons rfl kr kCZ (Flds.one rfl kr (kAC underlying96 kr dc kGi)))))
theorem kEB {w : World} {S : Nat → Prop} {cs : LV} {a : Ho} (h : tHo.rd w S cs a) : ∃ (Aty_params : OA) (cty_params : Nat) (Aty_results : OA) (cty_results : Nat) (Aacts : OA) (cacts : Nat), cs = [.string a.mod, .string a.name, .slice Aty_params a.ty.params.length cty_params, .slice Aty_results a.ty.results.length cty_results, .slice Aacts a.acts.length cacts] ∧ a.mod.size ≤ maxLen ∧ a.name.size ≤ maxLen ∧ a.ty.params.length ≤ cty_params ∧ cty_params ≤ maxLen ∧ (Ty.int .i64).els w S Aty_params a.ty.params ∧ a.ty.results.length ≤ cty_results ∧ cty_results ≤ maxLen ∧ (Ty.int .i64).els w S Aty_results a.ty.results ∧ a.acts.length ≤ cacts ∧ cacts ≤ maxLen ∧ tAc.els w S Aacts a.acts := by
 obtain ⟨xmod, rmod, rfl, ⟨rfl, wmod⟩, xname, rname, rfl, ⟨rfl, wname⟩, xty, rty, rfl, hty, Aacts, cacts, rfl, gacts, macts, eacts⟩ := h
 obtain ⟨Aty_params, cty_params, Aty_results, cty_results, rfl, kty0, kty1, kty2, kty3, kty4, kty5⟩ := Fn_cells hty
 exact ⟨Aty_params, cty_params, Aty_results, cty_results, Aacts, cacts, rfl, wmod, wname, kty0, kty1, kty2, kty3, kty4, kty5, gacts, macts, eacts⟩
theorem kIn {w : World} {S : Nat → Prop} {a : Ho} {Aty_params : OA} {cty_params : Nat} {Aty_results : OA} {cty_results : Nat} {Aacts : OA} {cacts : Nat} (f0 : a.mod.size ≤ maxLen) (f1 : a.name.size ≤ maxLen) (f2 : a.ty.params.length ≤ cty_params) (f3 : cty_params ≤ maxLen) (f4 : (Ty.int .i64).els w S Aty_params a.ty.params) (f5 : a.ty.results.length ≤ cty_results) (f6 : cty_results ≤ maxLen) (f7 : (Ty.int .i64).els w S Aty_results a.ty.results) (f8 : a.acts.length ≤ cacts) (f9 : cacts ≤ maxLen) (f10 : tAc.els w S Aacts a.acts) : tHo.rd w S [.string a.mod, .string a.name, .slice Aty_params a.ty.params.length cty_params, .slice Aty_results a.ty.results.length cty_results, .slice Aacts a.acts.length cacts] a :=
 ⟨[.string a.mod], [.string a.name, .slice Aty_params a.ty.params.length cty_params, .slice Aty_results a.ty.results.length cty_results, .slice Aacts a.acts.length cacts], rfl, ⟨rfl, f0⟩, ⟨[.string a.name], [.slice Aty_params a.ty.params.length cty_params, .slice Aty_results a.ty.results.length cty_results, .slice Aacts a.acts.length cacts], rfl, ⟨rfl, f1⟩, ⟨[.slice Aty_params a.ty.params.length cty_params, .slice Aty_results a.ty.results.length cty_results], [.slice Aacts a.acts.length cacts], rfl, ⟨[.slice Aty_params a.ty.params.length cty_params], [.slice Aty_results a.ty.results.length cty_results], rfl, ⟨_, _, rfl, f2, f3, f4⟩, ⟨_, _, rfl, f5, f6, f7⟩⟩, ⟨_, _, rfl, f8, f9, f10⟩⟩⟩⟩
theorem kFU {w : World} {S : Nat → Prop} {A : OA} {l : List Ho} (h : tHo.els w S A l) (k : Nat) (hk : k < l.length) : ∃ (b o : Nat) (Aty_params : OA) (cty_params : Nat) (Aty_results : OA) (cty_results : Nat) (Aacts : OA) (cacts : Nat), A = some ⟨b, o, none⟩ ∧ S b ∧ w.cell? ⟨b, o + k * 5, none⟩ = some (.string l[k].mod) ∧ w.cell? ⟨b, o + k * 5 + 1, none⟩ = some (.string l[k].name) ∧ w.cell? ⟨b, o + k * 5 + 2, none⟩ = some (.slice Aty_params l[k].ty.params.length cty_params) ∧ w.cell? ⟨b, o + k * 5 + 3, none⟩ = some (.slice Aty_results l[k].ty.results.length cty_results) ∧ w.cell? ⟨b, o + k * 5 + 4, none⟩ = some (.slice Aacts l[k].acts.length cacts) ∧ l[k].mod.size ≤ maxLen ∧ l[k].name.size ≤ maxLen ∧ l[k].ty.params.length ≤ cty_params ∧ cty_params ≤ maxLen ∧ (Ty.int .i64).els w S Aty_params l[k].ty.params ∧ l[k].ty.results.length ≤ cty_results ∧ cty_results ≤ maxLen ∧ (Ty.int .i64).els w S Aty_results l[k].ty.results ∧ l[k].acts.length ≤ cacts ∧ cacts ≤ maxLen ∧ tAc.els w S Aacts l[k].acts := by
 obtain ⟨b, o, ds, rfl, hb, hc, hr⟩ := h.at_ k hk
 obtain ⟨Aty_params, cty_params, Aty_results, cty_results, Aacts, cacts, rfl, f0, f1, f2, f3, f4, f5, f6, f7, f8, f9, f10⟩ := kEB hr
 have e : tHo.size = 5 := rfl
 rw [e] at hc
 exact ⟨b, o, Aty_params, cty_params, Aty_results, cty_results, Aacts, cacts, rfl, hb, hc 0 _ rfl, (by have := hc 1 _ rfl; rwa [← Nat.add_assoc] at this), (by have := hc 2 _ rfl; rwa [← Nat.add_assoc] at this), (by have := hc 3 _ rfl; rwa [← Nat.add_assoc] at this), (by have := hc 4 _ rfl; rwa [← Nat.add_assoc] at this), f0, f1, f2, f3, f4, f5, f6, f7, f8, f9, f10⟩
structure Lim where
 min : Int
 max : Int
 has : Bool
 deriving DecidableEq
def tLim0 : Ty (Int × Int × Bool) := (Ty.int .i64).pair ((Ty.int .i64).pair (Ty.bool))
def tLim : Ty Lim := tLim0.iso fun a => (a.min, a.max, a.has)
instance : TyOk tLim := by unfold tLim tLim0; infer_instance
instance : TyMore tLim := by unfold tLim tLim0; infer_instance
instance : kAG tLim := by unfold tLim tLim0; infer_instance
theorem kBU : kAL prog 37 tLim := by
 refine kAH _ (fun x => ⟨x.1, x.2.1, x.2.2⟩) (fun _ => rfl) ?_
 exact kAF underlying37 kr (Flds.cons rfl kr (kAD underlying3) (Flds.cons rfl kr (kAD underlying3) (Flds.one rfl kr (kAy underlying4))))
theorem kCJ {w : World} {S : Nat → Prop} {cs : LV} {a : Lim} (h : tLim.rd w S cs a) : cs = [.int .i64 a.min, .int .i64 a.max, .bool a.has] ∧ (Lit.int .i64 a.min).wf = true ∧ (Lit.int .i64 a.max).wf = true := by
 obtain ⟨xmin, rmin, rfl, ⟨rfl, wmin⟩, xmax, rmax, rfl, ⟨rfl, wmax⟩, rfl⟩ := h
 exact ⟨rfl, wmin, wmax⟩
theorem kJx {w : World} {S : Nat → Prop} {a : Lim}  (f0 : (Lit.int .i64 a.min).wf = true) (f1 : (Lit.int .i64 a.max).wf = true) : tLim.rd w S [.int .i64 a.min, .int .i64 a.max, .bool a.has] a :=
 ⟨[.int .i64 a.min], [.int .i64 a.max, .bool a.has], rfl, ⟨rfl, f0⟩, ⟨[.int .i64 a.max], [.bool a.has], rfl, ⟨rfl, f1⟩, rfl⟩⟩
structure Tb where
 elem : Int
 lim : Lim
 deriving DecidableEq
def tTb0 : Ty (Int × Lim) := (Ty.int .i64).pair (tLim)
def tTb : Ty Tb := tTb0.iso fun a => (a.elem, a.lim)
instance : TyOk tTb := by unfold tTb tTb0; infer_instance
instance : TyMore tTb := by unfold tTb tTb0; infer_instance
instance : kAG tTb := by unfold tTb tTb0; infer_instance
theorem kCX : kAL prog 39 tTb := by
 refine kAH _ (fun x => ⟨x.1, x.2⟩) (fun _ => rfl) ?_
 exact kAF underlying39 kr (Flds.cons rfl kr (kAD underlying35) (Flds.one rfl kr kBU))
theorem kDz {w : World} {S : Nat → Prop} {cs : LV} {a : Tb} (h : tTb.rd w S cs a) : cs = [.int .i64 a.elem, .int .i64 a.lim.min, .int .i64 a.lim.max, .bool a.lim.has] ∧ (Lit.int .i64 a.elem).wf = true ∧ (Lit.int .i64 a.lim.min).wf = true ∧ (Lit.int .i64 a.lim.max).wf = true := by
 obtain ⟨xelem, relem, rfl, ⟨rfl, welem⟩, hlim⟩ := h
 obtain ⟨rfl, klim0, klim1⟩ := kCJ hlim
 exact ⟨rfl, welem, klim0, klim1⟩
theorem kJz {w : World} {S : Nat → Prop} {a : Tb}  (f0 : (Lit.int .i64 a.elem).wf = true) (f1 : (Lit.int .i64 a.lim.min).wf = true) (f2 : (Lit.int .i64 a.lim.max).wf = true) : tTb.rd w S [.int .i64 a.elem, .int .i64 a.lim.min, .int .i64 a.lim.max, .bool a.lim.has] a :=
 ⟨[.int .i64 a.elem], [.int .i64 a.lim.min, .int .i64 a.lim.max, .bool a.lim.has], rfl, ⟨rfl, f0⟩, ⟨[.int .i64 a.lim.min], [.int .i64 a.lim.max, .bool a.lim.has], rfl, ⟨rfl, f1⟩, ⟨[.int .i64 a.lim.max], [.bool a.lim.has], rfl, ⟨rfl, f2⟩, rfl⟩⟩⟩
structure Gl where
 val : Int
 mut_ : Bool
 deriving DecidableEq
def tGl0 : Ty (Int × Bool) := (Ty.int .i64).pair (Ty.bool)
def tGl : Ty Gl := tGl0.iso fun a => (a.val, a.mut_)
instance : TyOk tGl := by unfold tGl tGl0; infer_instance
instance : TyMore tGl := by unfold tGl tGl0; infer_instance
instance : kAG tGl := by unfold tGl tGl0; infer_instance
theorem kCY : kAL prog 41 tGl := by
 refine kAH _ (fun x => ⟨x.1, x.2⟩) (fun _ => rfl) ?_
 exact kAF underlying41 kr (Flds.cons rfl kr (kAD underlying35) (Flds.one rfl kr (kAy underlying4)))
theorem kCd {w : World} {S : Nat → Prop} {cs : LV} {a : Gl} (h : tGl.rd w S cs a) : cs = [.int .i64 a.val, .bool a.mut_] ∧ (Lit.int .i64 a.val).wf = true := by
 obtain ⟨xval, rval, rfl, ⟨rfl, wval⟩, rfl⟩ := h
 exact ⟨rfl, wval⟩
theorem kJn {w : World} {S : Nat → Prop} {a : Gl}  (f0 : (Lit.int .i64 a.val).wf = true) : tGl.rd w S [.int .i64 a.val, .bool a.mut_] a :=
 ⟨[.int .i64 a.val], [.bool a.mut_], rfl, ⟨rfl, f0⟩, rfl⟩
structure Im where
 mod : ByteArray
 name : ByteArray
 kind : Int
 func : Int
 table : Tb
 mem : Lim
 glob : Gl
def tIm0 : Ty (ByteArray × ByteArray × Int × Int × Tb × Lim × Gl) := Ty.str.pair (Ty.str.pair ((Ty.int .i64).pair ((Ty.int .i64).pair (tTb.pair (tLim.pair (tGl))))))
def tIm : Ty Im := tIm0.iso fun a => (a.mod, a.name, a.kind, a.func, a.table, a.mem, a.glob)
instance : TyOk tIm := by unfold tIm tIm0; infer_instance
instance : TyMore tIm := by unfold tIm tIm0; infer_instance
instance : kAG tIm := by unfold tIm tIm0; infer_instance
theorem kGW : kAL prog 43 tIm := by
 refine kAH _ (fun x => ⟨x.1, x.2.1, x.2.2.1, x.2.2.2.1, x.2.2.2.2.1, x.2.2.2.2.2.1, x.2.2.2.2.2.2⟩) (fun _ => rfl) ?_
 exact kAF underlying43 kr (Flds.cons rfl kr (kAt underlying9) (Flds.cons rfl kr (kAt underlying9) (Flds.cons rfl kr (kAD underlying34) (Flds.cons rfl kr (kAD underlying3) (Flds.cons rfl kr kCX (Flds.cons rfl kr kBU (Flds.one rfl kr kCY)))))))
abbrev q2x0 (a0 : Im) : List Value := [.string a0.mod, .string a0.name, .int .i64 a0.kind, .int .i64 a0.func, .int .i64 a0.table.elem, .int .i64 a0.table.lim.min, .int .i64 a0.table.lim.max, .bool a0.table.lim.has, .int .i64 a0.mem.min, .int .i64 a0.mem.max, .bool a0.mem.has, .int .i64 a0.glob.val, .bool a0.glob.mut_]
theorem kHC {w : World} {S : Nat → Prop} {cs : LV} {a : Im} (h : tIm.rd w S cs a) : cs = (q2x0 a) ∧ a.mod.size ≤ maxLen ∧ a.name.size ≤ maxLen ∧ (Lit.int .i64 a.kind).wf = true ∧ (Lit.int .i64 a.func).wf = true ∧ (Lit.int .i64 a.table.elem).wf = true ∧ (Lit.int .i64 a.table.lim.min).wf = true ∧ (Lit.int .i64 a.table.lim.max).wf = true ∧ (Lit.int .i64 a.mem.min).wf = true ∧ (Lit.int .i64 a.mem.max).wf = true ∧ (Lit.int .i64 a.glob.val).wf = true := by
 obtain ⟨xmod, rmod, rfl, ⟨rfl, wmod⟩, xname, rname, rfl, ⟨rfl, wname⟩, xkind, rkind, rfl, ⟨rfl, wkind⟩, xfunc, rfunc, rfl, ⟨rfl, wfunc⟩, xtable, rtable, rfl, htable, xmem, rmem, rfl, hmem, hglob⟩ := h
 obtain ⟨rfl, ktable0, ktable1, ktable2⟩ := kDz htable
 obtain ⟨rfl, kmem0, kmem1⟩ := kCJ hmem
 obtain ⟨rfl, kglob0⟩ := kCd hglob
 exact ⟨rfl, wmod, wname, wkind, wfunc, ktable0, ktable1, ktable2, kmem0, kmem1, kglob0⟩
theorem kIl {w : World} {S : Nat → Prop} {a : Im}  (f0 : a.mod.size ≤ maxLen) (f1 : a.name.size ≤ maxLen) (f2 : (Lit.int .i64 a.kind).wf = true) (f3 : (Lit.int .i64 a.func).wf = true) (f4 : (Lit.int .i64 a.table.elem).wf = true) (f5 : (Lit.int .i64 a.table.lim.min).wf = true) (f6 : (Lit.int .i64 a.table.lim.max).wf = true) (f7 : (Lit.int .i64 a.mem.min).wf = true) (f8 : (Lit.int .i64 a.mem.max).wf = true) (f9 : (Lit.int .i64 a.glob.val).wf = true) : tIm.rd w S (q2x0 a) a :=
 ⟨[.string a.mod], [.string a.name, .int .i64 a.kind, .int .i64 a.func, .int .i64 a.table.elem, .int .i64 a.table.lim.min, .int .i64 a.table.lim.max, .bool a.table.lim.has, .int .i64 a.mem.min, .int .i64 a.mem.max, .bool a.mem.has, .int .i64 a.glob.val, .bool a.glob.mut_], rfl, ⟨rfl, f0⟩, ⟨[.string a.name], [.int .i64 a.kind, .int .i64 a.func, .int .i64 a.table.elem, .int .i64 a.table.lim.min, .int .i64 a.table.lim.max, .bool a.table.lim.has, .int .i64 a.mem.min, .int .i64 a.mem.max, .bool a.mem.has, .int .i64 a.glob.val, .bool a.glob.mut_], rfl, ⟨rfl, f1⟩, ⟨[.int .i64 a.kind], [.int .i64 a.func, .int .i64 a.table.elem, .int .i64 a.table.lim.min, .int .i64 a.table.lim.max, .bool a.table.lim.has, .int .i64 a.mem.min, .int .i64 a.mem.max, .bool a.mem.has, .int .i64 a.glob.val, .bool a.glob.mut_], rfl, ⟨rfl, f2⟩, ⟨[.int .i64 a.func], [.int .i64 a.table.elem, .int .i64 a.table.lim.min, .int .i64 a.table.lim.max, .bool a.table.lim.has, .int .i64 a.mem.min, .int .i64 a.mem.max, .bool a.mem.has, .int .i64 a.glob.val, .bool a.glob.mut_], rfl, ⟨rfl, f3⟩, ⟨[.int .i64 a.table.elem, .int .i64 a.table.lim.min, .int .i64 a.table.lim.max, .bool a.table.lim.has], [.int .i64 a.mem.min, .int .i64 a.mem.max, .bool a.mem.has, .int .i64 a.glob.val, .bool a.glob.mut_], rfl, ⟨[.int .i64 a.table.elem], [.int .i64 a.table.lim.min, .int .i64 a.table.lim.max, .bool a.table.lim.has], rfl, ⟨rfl, f4⟩, ⟨[.int .i64 a.table.lim.min], [.int .i64 a.table.lim.max, .bool a.table.lim.has], rfl, ⟨rfl, f5⟩, ⟨[.int .i64 a.table.lim.max], [.bool a.table.lim.has], rfl, ⟨rfl, f6⟩, rfl⟩⟩⟩, ⟨[.int .i64 a.mem.min, .int .i64 a.mem.max, .bool a.mem.has], [.int .i64 a.glob.val, .bool a.glob.mut_], rfl, ⟨[.int .i64 a.mem.min], [.int .i64 a.mem.max, .bool a.mem.has], rfl, ⟨rfl, f7⟩, ⟨[.int .i64 a.mem.max], [.bool a.mem.has], rfl, ⟨rfl, f8⟩, rfl⟩⟩, ⟨[.int .i64 a.glob.val], [.bool a.glob.mut_], rfl, ⟨rfl, f9⟩, rfl⟩⟩⟩⟩⟩⟩⟩
theorem kHM {w : World} {S : Nat → Prop} {A : OA} {l : List Im} (h : tIm.els w S A l) (k : Nat) (hk : k < l.length) : ∃ (b o : Nat), A = some ⟨b, o, none⟩ ∧ S b ∧ w.cell? ⟨b, o + k * 13, none⟩ = some (.string l[k].mod) ∧ w.cell? ⟨b, o + k * 13 + 1, none⟩ = some (.string l[k].name) ∧ w.cell? ⟨b, o + k * 13 + 2, none⟩ = some (.int .i64 l[k].kind) ∧ w.cell? ⟨b, o + k * 13 + 3, none⟩ = some (.int .i64 l[k].func) ∧ w.cell? ⟨b, o + k * 13 + 4, none⟩ = some (.int .i64 l[k].table.elem) ∧ w.cell? ⟨b, o + k * 13 + 5, none⟩ = some (.int .i64 l[k].table.lim.min) ∧ w.cell? ⟨b, o + k * 13 + 6, none⟩ = some (.int .i64 l[k].table.lim.max) ∧ w.cell? ⟨b, o + k * 13 + 7, none⟩ = some (.bool l[k].table.lim.has) ∧ w.cell? ⟨b, o + k * 13 + 8, none⟩ = some (.int .i64 l[k].mem.min) ∧ w.cell? ⟨b, o + k * 13 + 9, none⟩ = some (.int .i64 l[k].mem.max) ∧ w.cell? ⟨b, o + k * 13 + 10, none⟩ = some (.bool l[k].mem.has) ∧ w.cell? ⟨b, o + k * 13 + 11, none⟩ = some (.int .i64 l[k].glob.val) ∧ w.cell? ⟨b, o + k * 13 + 12, none⟩ = some (.bool l[k].glob.mut_) ∧ l[k].mod.size ≤ maxLen ∧ l[k].name.size ≤ maxLen ∧ (Lit.int .i64 l[k].kind).wf = true ∧ (Lit.int .i64 l[k].func).wf = true ∧ (Lit.int .i64 l[k].table.elem).wf = true ∧ (Lit.int .i64 l[k].table.lim.min).wf = true ∧ (Lit.int .i64 l[k].table.lim.max).wf = true ∧ (Lit.int .i64 l[k].mem.min).wf = true ∧ (Lit.int .i64 l[k].mem.max).wf = true ∧ (Lit.int .i64 l[k].glob.val).wf = true := by
 obtain ⟨b, o, ds, rfl, hb, hc, hr⟩ := h.at_ k hk
 obtain ⟨rfl, f0, f1, f2, f3, f4, f5, f6, f7, f8, f9⟩ := kHC hr
 have e : tIm.size = 13 := rfl
 rw [e] at hc
 exact ⟨b, o, rfl, hb, hc 0 _ rfl, (by have := hc 1 _ rfl; rwa [← Nat.add_assoc] at this), (by have := hc 2 _ rfl; rwa [← Nat.add_assoc] at this), (by have := hc 3 _ rfl; rwa [← Nat.add_assoc] at this), (by have := hc 4 _ rfl; rwa [← Nat.add_assoc] at this), (by have := hc 5 _ rfl; rwa [← Nat.add_assoc] at this), (by have := hc 6 _ rfl; rwa [← Nat.add_assoc] at this), (by have := hc 7 _ rfl; rwa [← Nat.add_assoc] at this), (by have := hc 8 _ rfl; rwa [← Nat.add_assoc] at this), (by have := hc 9 _ rfl; rwa [← Nat.add_assoc] at this), (by have := hc 10 _ rfl; rwa [← Nat.add_assoc] at this), (by have := hc 11 _ rfl; rwa [← Nat.add_assoc] at this), (by have := hc 12 _ rfl; rwa [← Nat.add_assoc] at this), f0, f1, f2, f3, f4, f5, f6, f7, f8, f9⟩
structure Bk where
 kind : Int
 val : Int
 index : Int
 deriving DecidableEq
def tBk0 : Ty (Int × Int × Int) := (Ty.int .i64).pair ((Ty.int .i64).pair ((Ty.int .i64)))
def tBk : Ty Bk := tBk0.iso fun a => (a.kind, a.val, a.index)
instance : TyOk tBk := by unfold tBk tBk0; infer_instance
instance : TyMore tBk := by unfold tBk tBk0; infer_instance
instance : kAG tBk := by unfold tBk tBk0; infer_instance
theorem kGg : kAL prog 157 tBk := by
 refine kAH _ (fun x => ⟨x.1, x.2.1, x.2.2⟩) (fun _ => rfl) ?_
 exact kAF underlying157 kr (Flds.cons rfl kr (kAD underlying3) (Flds.cons rfl kr (kAD underlying35) (Flds.one rfl kr (kAD underlying3))))
theorem kHG {w : World} {S : Nat → Prop} {cs : LV} {a : Bk} (h : tBk.rd w S cs a) : cs = [.int .i64 a.kind, .int .i64 a.val, .int .i64 a.index] ∧ (Lit.int .i64 a.kind).wf = true ∧ (Lit.int .i64 a.val).wf = true ∧ (Lit.int .i64 a.index).wf = true := by
 obtain ⟨xkind, rkind, rfl, ⟨rfl, wkind⟩, xval, rval, rfl, ⟨rfl, wval⟩, rfl, windex⟩ := h
 exact ⟨rfl, wkind, wval, windex⟩
structure Ins where
 op : Int
 a : Int
 b : Int
 n : Int
 block : Bk
 types : List Int
 labels : List Int
def tIns0 : Ty (Int × Int × Int × Int × Bk × List Int × List Int) := (Ty.int .i64).pair ((Ty.int .i64).pair ((Ty.int .i64).pair ((Ty.int .u64).pair (tBk.pair ((Ty.int .i64).slice.pair ((Ty.int .i64).slice))))))
def tIns : Ty Ins := tIns0.iso fun a => (a.op, a.a, a.b, a.n, a.block, a.types, a.labels)
instance : TyOk tIns := by unfold tIns tIns0; infer_instance
instance : TyMore tIns := by unfold tIns tIns0; infer_instance
instance : kAG tIns := by unfold tIns tIns0; infer_instance
theorem kBH : kAL prog 159 tIns := by
 refine kAH _ (fun x => ⟨x.1, x.2.1, x.2.2.1, x.2.2.2.1, x.2.2.2.2.1, x.2.2.2.2.2.1, x.2.2.2.2.2.2⟩) (fun _ => rfl) ?_
 exact kAF underlying159 kr (Flds.cons rfl kr (kAD underlying155) (Flds.cons rfl kr (kAD underlying3) (Flds.cons rfl kr (kAD underlying3) (Flds.cons rfl kr (kAD underlying82) (Flds.cons rfl kr kGg (Flds.cons rfl kr (kAC underlying76 kr dc (kAD underlying35)) (Flds.one rfl kr (kAC underlying23 kr dc (kAD underlying3)))))))))
theorem kDO {w : World} {S : Nat → Prop} {cs : LV} {a : Ins} (h : tIns.rd w S cs a) : ∃ (Atypes : OA) (ctypes : Nat) (Alabels : OA) (clabels : Nat), cs = [.int .i64 a.op, .int .i64 a.a, .int .i64 a.b, .int .u64 a.n, .int .i64 a.block.kind, .int .i64 a.block.val, .int .i64 a.block.index, .slice Atypes a.types.length ctypes, .slice Alabels a.labels.length clabels] ∧ (Lit.int .i64 a.op).wf = true ∧ (Lit.int .i64 a.a).wf = true ∧ (Lit.int .i64 a.b).wf = true ∧ (Lit.int .u64 a.n).wf = true ∧ (Lit.int .i64 a.block.kind).wf = true ∧ (Lit.int .i64 a.block.val).wf = true ∧ (Lit.int .i64 a.block.index).wf = true ∧ a.types.length ≤ ctypes ∧ ctypes ≤ maxLen ∧ (Ty.int .i64).els w S Atypes a.types ∧ a.labels.length ≤ clabels ∧ clabels ≤ maxLen ∧ (Ty.int .i64).els w S Alabels a.labels := by
 obtain ⟨xop, rop, rfl, ⟨rfl, wop⟩, xa, ra, rfl, ⟨rfl, wa⟩, xb, rb, rfl, ⟨rfl, wb⟩, xn, rn, rfl, ⟨rfl, wn⟩, xblock, rblock, rfl, hblock, xtypes, rtypes, rfl, ⟨Atypes, ctypes, rfl, gtypes, mtypes, etypes⟩, Alabels, clabels, rfl, glabels, mlabels, elabels⟩ := h
 obtain ⟨rfl, kblock0, kblock1, kblock2⟩ := kHG hblock
 exact ⟨Atypes, ctypes, Alabels, clabels, rfl, wop, wa, wb, wn, kblock0, kblock1, kblock2, gtypes, mtypes, etypes, glabels, mlabels, elabels⟩
theorem kIT {w : World} {S : Nat → Prop} {a : Ins} {Atypes : OA} {ctypes : Nat} {Alabels : OA} {clabels : Nat} (f0 : (Lit.int .i64 a.op).wf = true) (f1 : (Lit.int .i64 a.a).wf = true) (f2 : (Lit.int .i64 a.b).wf = true) (f3 : (Lit.int .u64 a.n).wf = true) (f4 : (Lit.int .i64 a.block.kind).wf = true) (f5 : (Lit.int .i64 a.block.val).wf = true) (f6 : (Lit.int .i64 a.block.index).wf = true) (f7 : a.types.length ≤ ctypes) (f8 : ctypes ≤ maxLen) (f9 : (Ty.int .i64).els w S Atypes a.types) (f10 : a.labels.length ≤ clabels) (f11 : clabels ≤ maxLen) (f12 : (Ty.int .i64).els w S Alabels a.labels) : tIns.rd w S [.int .i64 a.op, .int .i64 a.a, .int .i64 a.b, .int .u64 a.n, .int .i64 a.block.kind, .int .i64 a.block.val, .int .i64 a.block.index, .slice Atypes a.types.length ctypes, .slice Alabels a.labels.length clabels] a :=
 ⟨[.int .i64 a.op], [.int .i64 a.a, .int .i64 a.b, .int .u64 a.n, .int .i64 a.block.kind, .int .i64 a.block.val, .int .i64 a.block.index, .slice Atypes a.types.length ctypes, .slice Alabels a.labels.length clabels], rfl, ⟨rfl, f0⟩, ⟨[.int .i64 a.a], [.int .i64 a.b, .int .u64 a.n, .int .i64 a.block.kind, .int .i64 a.block.val, .int .i64 a.block.index, .slice Atypes a.types.length ctypes, .slice Alabels a.labels.length clabels], rfl, ⟨rfl, f1⟩, ⟨[.int .i64 a.b], [.int .u64 a.n, .int .i64 a.block.kind, .int .i64 a.block.val, .int .i64 a.block.index, .slice Atypes a.types.length ctypes, .slice Alabels a.labels.length clabels], rfl, ⟨rfl, f2⟩, ⟨[.int .u64 a.n], [.int .i64 a.block.kind, .int .i64 a.block.val, .int .i64 a.block.index, .slice Atypes a.types.length ctypes, .slice Alabels a.labels.length clabels], rfl, ⟨rfl, f3⟩, ⟨[.int .i64 a.block.kind, .int .i64 a.block.val, .int .i64 a.block.index], [.slice Atypes a.types.length ctypes, .slice Alabels a.labels.length clabels], rfl, ⟨[.int .i64 a.block.kind], [.int .i64 a.block.val, .int .i64 a.block.index], rfl, ⟨rfl, f4⟩, ⟨[.int .i64 a.block.val], [.int .i64 a.block.index], rfl, ⟨rfl, f5⟩, ⟨rfl, f6⟩⟩⟩, ⟨[.slice Atypes a.types.length ctypes], [.slice Alabels a.labels.length clabels], rfl, ⟨_, _, rfl, f7, f8, f9⟩, ⟨_, _, rfl, f10, f11, f12⟩⟩⟩⟩⟩⟩⟩
theorem kIU {w : World} {S : Nat → Prop} {A : OA} {l : List Ins} (h : tIns.els w S A l) (k : Nat) (hk : k < l.length) : ∃ (b o : Nat) (Atypes : OA) (ctypes : Nat) (Alabels : OA) (clabels : Nat), A = some ⟨b, o, none⟩ ∧ S b ∧ w.cell? ⟨b, o + k * 9, none⟩ = some (.int .i64 l[k].op) ∧ w.cell? ⟨b, o + k * 9 + 1, none⟩ = some (.int .i64 l[k].a) ∧ w.cell? ⟨b, o + k * 9 + 2, none⟩ = some (.int .i64 l[k].b) ∧ w.cell? ⟨b, o + k * 9 + 3, none⟩ = some (.int .u64 l[k].n) ∧ w.cell? ⟨b, o + k * 9 + 4, none⟩ = some (.int .i64 l[k].block.kind) ∧ w.cell? ⟨b, o + k * 9 + 5, none⟩ = some (.int .i64 l[k].block.val) ∧ w.cell? ⟨b, o + k * 9 + 6, none⟩ = some (.int .i64 l[k].block.index) ∧ w.cell? ⟨b, o + k * 9 + 7, none⟩ = some (.slice Atypes l[k].types.length ctypes) ∧ w.cell? ⟨b, o + k * 9 + 8, none⟩ = some (.slice Alabels l[k].labels.length clabels) ∧ (Lit.int .i64 l[k].op).wf = true ∧ (Lit.int .i64 l[k].a).wf = true ∧ (Lit.int .i64 l[k].b).wf = true ∧ (Lit.int .u64 l[k].n).wf = true ∧ (Lit.int .i64 l[k].block.kind).wf = true ∧ (Lit.int .i64 l[k].block.val).wf = true ∧ (Lit.int .i64 l[k].block.index).wf = true ∧ l[k].types.length ≤ ctypes ∧ ctypes ≤ maxLen ∧ (Ty.int .i64).els w S Atypes l[k].types ∧ l[k].labels.length ≤ clabels ∧ clabels ≤ maxLen ∧ (Ty.int .i64).els w S Alabels l[k].labels := by
 obtain ⟨b, o, ds, rfl, hb, hc, hr⟩ := h.at_ k hk
 obtain ⟨Atypes, ctypes, Alabels, clabels, rfl, f0, f1, f2, f3, f4, f5, f6, f7, f8, f9, f10, f11, f12⟩ := kDO hr
 have e : tIns.size = 9 := rfl
 rw [e] at hc
 exact ⟨b, o, Atypes, ctypes, Alabels, clabels, rfl, hb, hc 0 _ rfl, (by have := hc 1 _ rfl; rwa [← Nat.add_assoc] at this), (by have := hc 2 _ rfl; rwa [← Nat.add_assoc] at this), (by have := hc 3 _ rfl; rwa [← Nat.add_assoc] at this), (by have := hc 4 _ rfl; rwa [← Nat.add_assoc] at this), (by have := hc 5 _ rfl; rwa [← Nat.add_assoc] at this), (by have := hc 6 _ rfl; rwa [← Nat.add_assoc] at this), (by have := hc 7 _ rfl; rwa [← Nat.add_assoc] at this), (by have := hc 8 _ rfl; rwa [← Nat.add_assoc] at this), f0, f1, f2, f3, f4, f5, f6, f7, f8, f9, f10, f11, f12⟩
structure Cd where
 type : Int
 locals : List Int
 body : List Ins
def tCd0 : Ty (Int × List Int × List Ins) := (Ty.int .i64).pair ((Ty.int .i64).slice.pair (tIns.slice))
def tCd : Ty Cd := tCd0.iso fun a => (a.type, a.locals, a.body)
instance : TyOk tCd := by unfold tCd tCd0; infer_instance
instance : TyMore tCd := by unfold tCd tCd0; infer_instance
instance : kAG tCd := by unfold tCd tCd0; infer_instance
theorem kGe : kAL prog 106 tCd := by
 refine kAH _ (fun x => ⟨x.1, x.2.1, x.2.2⟩) (fun _ => rfl) ?_
 exact kAF underlying106 kr (Flds.cons rfl kr (kAD underlying3) (Flds.cons rfl kr (kAC underlying76 kr dc (kAD underlying35)) (Flds.one rfl kr (kAC underlying104 kr dc kBH))))
theorem kEH {w : World} {S : Nat → Prop} {cs : LV} {a : Cd} (h : tCd.rd w S cs a) : ∃ (Alocals : OA) (clocals : Nat) (Abody : OA) (cbody : Nat), cs = [.int .i64 a.type, .slice Alocals a.locals.length clocals, .slice Abody a.body.length cbody] ∧ (Lit.int .i64 a.type).wf = true ∧ a.locals.length ≤ clocals ∧ clocals ≤ maxLen ∧ (Ty.int .i64).els w S Alocals a.locals ∧ a.body.length ≤ cbody ∧ cbody ≤ maxLen ∧ tIns.els w S Abody a.body := by
 obtain ⟨xtype, rtype, rfl, ⟨rfl, wtype⟩, xlocals, rlocals, rfl, ⟨Alocals, clocals, rfl, glocals, mlocals, elocals⟩, Abody, cbody, rfl, gbody, mbody, ebody⟩ := h
 exact ⟨Alocals, clocals, Abody, cbody, rfl, wtype, glocals, mlocals, elocals, gbody, mbody, ebody⟩
theorem kIx {w : World} {S : Nat → Prop} {a : Cd} {Alocals : OA} {clocals : Nat} {Abody : OA} {cbody : Nat} (f0 : (Lit.int .i64 a.type).wf = true) (f1 : a.locals.length ≤ clocals) (f2 : clocals ≤ maxLen) (f3 : (Ty.int .i64).els w S Alocals a.locals) (f4 : a.body.length ≤ cbody) (f5 : cbody ≤ maxLen) (f6 : tIns.els w S Abody a.body) : tCd.rd w S [.int .i64 a.type, .slice Alocals a.locals.length clocals, .slice Abody a.body.length cbody] a :=
 ⟨[.int .i64 a.type], [.slice Alocals a.locals.length clocals, .slice Abody a.body.length cbody], rfl, ⟨rfl, f0⟩, ⟨[.slice Alocals a.locals.length clocals], [.slice Abody a.body.length cbody], rfl, ⟨_, _, rfl, f1, f2, f3⟩, ⟨_, _, rfl, f4, f5, f6⟩⟩⟩
theorem kIy {w : World} {S : Nat → Prop} {A : OA} {l : List Cd} (h : tCd.els w S A l) (k : Nat) (hk : k < l.length) : ∃ (b o : Nat) (Alocals : OA) (clocals : Nat) (Abody : OA) (cbody : Nat), A = some ⟨b, o, none⟩ ∧ S b ∧ w.cell? ⟨b, o + k * 3, none⟩ = some (.int .i64 l[k].type) ∧ w.cell? ⟨b, o + k * 3 + 1, none⟩ = some (.slice Alocals l[k].locals.length clocals) ∧ w.cell? ⟨b, o + k * 3 + 2, none⟩ = some (.slice Abody l[k].body.length cbody) ∧ (Lit.int .i64 l[k].type).wf = true ∧ l[k].locals.length ≤ clocals ∧ clocals ≤ maxLen ∧ (Ty.int .i64).els w S Alocals l[k].locals ∧ l[k].body.length ≤ cbody ∧ cbody ≤ maxLen ∧ tIns.els w S Abody l[k].body := by
 obtain ⟨b, o, ds, rfl, hb, hc, hr⟩ := h.at_ k hk
 obtain ⟨Alocals, clocals, Abody, cbody, rfl, f0, f1, f2, f3, f4, f5, f6⟩ := kEH hr
 have e : tCd.size = 3 := rfl
 rw [e] at hc
 exact ⟨b, o, Alocals, clocals, Abody, cbody, rfl, hb, hc 0 _ rfl, (by have := hc 1 _ rfl; rwa [← Nat.add_assoc] at this), (by have := hc 2 _ rfl; rwa [← Nat.add_assoc] at this), f0, f1, f2, f3, f4, f5, f6⟩
structure Gd where
 type : Gl
 init : List Ins
def tGd0 : Ty (Gl × List Ins) := tGl.pair (tIns.slice)
def tGd : Ty Gd := tGd0.iso fun a => (a.type, a.init)
instance : TyOk tGd := by unfold tGd tGd0; infer_instance
instance : TyMore tGd := by unfold tGd tGd0; infer_instance
instance : kAG tGd := by unfold tGd tGd0; infer_instance
theorem kGY : kAL prog 108 tGd := by
 refine kAH _ (fun x => ⟨x.1, x.2⟩) (fun _ => rfl) ?_
 exact kAF underlying108 kr (Flds.cons rfl kr kCY (Flds.one rfl kr (kAC underlying104 kr dc kBH)))
theorem kED {w : World} {S : Nat → Prop} {cs : LV} {a : Gd} (h : tGd.rd w S cs a) : ∃ (Ainit : OA) (cinit : Nat), cs = [.int .i64 a.type.val, .bool a.type.mut_, .slice Ainit a.init.length cinit] ∧ (Lit.int .i64 a.type.val).wf = true ∧ a.init.length ≤ cinit ∧ cinit ≤ maxLen ∧ tIns.els w S Ainit a.init := by
 obtain ⟨xtype, rtype, rfl, htype, Ainit, cinit, rfl, ginit, minit, einit⟩ := h
 obtain ⟨rfl, ktype0⟩ := kCd htype
 exact ⟨Ainit, cinit, rfl, ktype0, ginit, minit, einit⟩
theorem kIo {w : World} {S : Nat → Prop} {a : Gd} {Ainit : OA} {cinit : Nat} (f0 : (Lit.int .i64 a.type.val).wf = true) (f1 : a.init.length ≤ cinit) (f2 : cinit ≤ maxLen) (f3 : tIns.els w S Ainit a.init) : tGd.rd w S [.int .i64 a.type.val, .bool a.type.mut_, .slice Ainit a.init.length cinit] a :=
 ⟨[.int .i64 a.type.val, .bool a.type.mut_], [.slice Ainit a.init.length cinit], rfl, ⟨[.int .i64 a.type.val], [.bool a.type.mut_], rfl, ⟨rfl, f0⟩, rfl⟩, ⟨_, _, rfl, f1, f2, f3⟩⟩
theorem kIp {w : World} {S : Nat → Prop} {A : OA} {l : List Gd} (h : tGd.els w S A l) (k : Nat) (hk : k < l.length) : ∃ (b o : Nat) (Ainit : OA) (cinit : Nat), A = some ⟨b, o, none⟩ ∧ S b ∧ w.cell? ⟨b, o + k * 3, none⟩ = some (.int .i64 l[k].type.val) ∧ w.cell? ⟨b, o + k * 3 + 1, none⟩ = some (.bool l[k].type.mut_) ∧ w.cell? ⟨b, o + k * 3 + 2, none⟩ = some (.slice Ainit l[k].init.length cinit) ∧ (Lit.int .i64 l[k].type.val).wf = true ∧ l[k].init.length ≤ cinit ∧ cinit ≤ maxLen ∧ tIns.els w S Ainit l[k].init := by
 obtain ⟨b, o, ds, rfl, hb, hc, hr⟩ := h.at_ k hk
 obtain ⟨Ainit, cinit, rfl, f0, f1, f2, f3⟩ := kED hr
 have e : tGd.size = 3 := rfl
 rw [e] at hc
 exact ⟨b, o, Ainit, cinit, rfl, hb, hc 0 _ rfl, (by have := hc 1 _ rfl; rwa [← Nat.add_assoc] at this), (by have := hc 2 _ rfl; rwa [← Nat.add_assoc] at this), f0, f1, f2, f3⟩
structure Ex where
 name : ByteArray
 kind : Int
 index : Int
def tEx0 : Ty (ByteArray × Int × Int) := Ty.str.pair ((Ty.int .i64).pair ((Ty.int .i64)))
def tEx : Ty Ex := tEx0.iso fun a => (a.name, a.kind, a.index)
instance : TyOk tEx := by unfold tEx tEx0; infer_instance
instance : TyMore tEx := by unfold tEx tEx0; infer_instance
instance : kAG tEx := by unfold tEx tEx0; infer_instance
theorem kGa : kAL prog 110 tEx := by
 refine kAH _ (fun x => ⟨x.1, x.2.1, x.2.2⟩) (fun _ => rfl) ?_
 exact kAF underlying110 kr (Flds.cons rfl kr (kAt underlying9) (Flds.cons rfl kr (kAD underlying34) (Flds.one rfl kr (kAD underlying3))))
theorem kHE {w : World} {S : Nat → Prop} {cs : LV} {a : Ex} (h : tEx.rd w S cs a) : cs = [.string a.name, .int .i64 a.kind, .int .i64 a.index] ∧ a.name.size ≤ maxLen ∧ (Lit.int .i64 a.kind).wf = true ∧ (Lit.int .i64 a.index).wf = true := by
 obtain ⟨xname, rname, rfl, ⟨rfl, wname⟩, xkind, rkind, rfl, ⟨rfl, wkind⟩, rfl, windex⟩ := h
 exact ⟨rfl, wname, wkind, windex⟩
theorem kFX {w : World} {S : Nat → Prop} {A : OA} {l : List Ex} (h : tEx.els w S A l) (k : Nat) (hk : k < l.length) : ∃ (b o : Nat), A = some ⟨b, o, none⟩ ∧ S b ∧ w.cell? ⟨b, o + k * 3, none⟩ = some (.string l[k].name) ∧ w.cell? ⟨b, o + k * 3 + 1, none⟩ = some (.int .i64 l[k].kind) ∧ w.cell? ⟨b, o + k * 3 + 2, none⟩ = some (.int .i64 l[k].index) ∧ l[k].name.size ≤ maxLen ∧ (Lit.int .i64 l[k].kind).wf = true ∧ (Lit.int .i64 l[k].index).wf = true := by
 obtain ⟨b, o, ds, rfl, hb, hc, hr⟩ := h.at_ k hk
 obtain ⟨rfl, f0, f1, f2⟩ := kHE hr
 have e : tEx.size = 3 := rfl
 rw [e] at hc
 exact ⟨b, o, rfl, hb, hc 0 _ rfl, (by have := hc 1 _ rfl; rwa [← Nat.add_assoc] at this), (by have := hc 2 _ rfl; rwa [← Nat.add_assoc] at this), f0, f1, f2⟩
structure El where
 mode : Int
 table : Int
 off : List Ins
 type : Int
 items : List (List Ins)
def tEl0 : Ty (Int × Int × List Ins × Int × List (List Ins)) := (Ty.int .i64).pair ((Ty.int .i64).pair (tIns.slice.pair ((Ty.int .i64).pair (tIns.slice.slice))))
def tEl : Ty El := tEl0.iso fun a => (a.mode, a.table, a.off, a.type, a.items)
instance : TyOk tEl := by unfold tEl tEl0; infer_instance
instance : TyMore tEl := by unfold tEl tEl0; infer_instance
instance : kAG tEl := by unfold tEl tEl0; infer_instance
theorem kGb : kAL prog 112 tEl := by
 refine kAH _ (fun x => ⟨x.1, x.2.1, x.2.2.1, x.2.2.2.1, x.2.2.2.2⟩) (fun _ => rfl) ?_
 exact kAF underlying112 kr (Flds.cons rfl kr (kAD underlying3) (Flds.cons rfl kr (kAD underlying3) (Flds.cons rfl kr (kAC underlying104 kr dc kBH) (Flds.cons rfl kr (kAD underlying35) (Flds.one rfl kr (kAC underlying103 kr dc (kAC underlying104 kr dc kBH)))))))
theorem kEE {w : World} {S : Nat → Prop} {cs : LV} {a : El} (h : tEl.rd w S cs a) : ∃ (Aoff : OA) (coff : Nat) (Aitems : OA) (citems : Nat), cs = [.int .i64 a.mode, .int .i64 a.table, .slice Aoff a.off.length coff, .int .i64 a.type, .slice Aitems a.items.length citems] ∧ (Lit.int .i64 a.mode).wf = true ∧ (Lit.int .i64 a.table).wf = true ∧ a.off.length ≤ coff ∧ coff ≤ maxLen ∧ tIns.els w S Aoff a.off ∧ (Lit.int .i64 a.type).wf = true ∧ a.items.length ≤ citems ∧ citems ≤ maxLen ∧ tIns.slice.els w S Aitems a.items := by
 obtain ⟨xmode, rmode, rfl, ⟨rfl, wmode⟩, xtable, rtable, rfl, ⟨rfl, wtable⟩, xoff, roff, rfl, ⟨Aoff, coff, rfl, goff, moff, eoff⟩, xtype, rtype, rfl, ⟨rfl, wtype⟩, Aitems, citems, rfl, gitems, mitems, eitems⟩ := h
 exact ⟨Aoff, coff, Aitems, citems, rfl, wmode, wtable, goff, moff, eoff, wtype, gitems, mitems, eitems⟩
theorem kIr {w : World} {S : Nat → Prop} {a : El} {Aoff : OA} {coff : Nat} {Aitems : OA} {citems : Nat} (f0 : (Lit.int .i64 a.mode).wf = true) (f1 : (Lit.int .i64 a.table).wf = true) (f2 : a.off.length ≤ coff) (f3 : coff ≤ maxLen) (f4 : tIns.els w S Aoff a.off) (f5 : (Lit.int .i64 a.type).wf = true) (f6 : a.items.length ≤ citems) (f7 : citems ≤ maxLen) (f8 : tIns.slice.els w S Aitems a.items) : tEl.rd w S [.int .i64 a.mode, .int .i64 a.table, .slice Aoff a.off.length coff, .int .i64 a.type, .slice Aitems a.items.length citems] a :=
 ⟨[.int .i64 a.mode], [.int .i64 a.table, .slice Aoff a.off.length coff, .int .i64 a.type, .slice Aitems a.items.length citems], rfl, ⟨rfl, f0⟩, ⟨[.int .i64 a.table], [.slice Aoff a.off.length coff, .int .i64 a.type, .slice Aitems a.items.length citems], rfl, ⟨rfl, f1⟩, ⟨[.slice Aoff a.off.length coff], [.int .i64 a.type, .slice Aitems a.items.length citems], rfl, ⟨_, _, rfl, f2, f3, f4⟩, ⟨[.int .i64 a.type], [.slice Aitems a.items.length citems], rfl, ⟨rfl, f5⟩, ⟨_, _, rfl, f6, f7, f8⟩⟩⟩⟩⟩
theorem kIs {w : World} {S : Nat → Prop} {A : OA} {l : List El} (h : tEl.els w S A l) (k : Nat) (hk : k < l.length) : ∃ (b o : Nat) (Aoff : OA) (coff : Nat) (Aitems : OA) (citems : Nat), A = some ⟨b, o, none⟩ ∧ S b ∧ w.cell? ⟨b, o + k * 5, none⟩ = some (.int .i64 l[k].mode) ∧ w.cell? ⟨b, o + k * 5 + 1, none⟩ = some (.int .i64 l[k].table) ∧ w.cell? ⟨b, o + k * 5 + 2, none⟩ = some (.slice Aoff l[k].off.length coff) ∧ w.cell? ⟨b, o + k * 5 + 3, none⟩ = some (.int .i64 l[k].type) ∧ w.cell? ⟨b, o + k * 5 + 4, none⟩ = some (.slice Aitems l[k].items.length citems) ∧ (Lit.int .i64 l[k].mode).wf = true ∧ (Lit.int .i64 l[k].table).wf = true ∧ l[k].off.length ≤ coff ∧ coff ≤ maxLen ∧ tIns.els w S Aoff l[k].off ∧ (Lit.int .i64 l[k].type).wf = true ∧ l[k].items.length ≤ citems ∧ citems ≤ maxLen ∧ tIns.slice.els w S Aitems l[k].items := by
 obtain ⟨b, o, ds, rfl, hb, hc, hr⟩ := h.at_ k hk
 obtain ⟨Aoff, coff, Aitems, citems, rfl, f0, f1, f2, f3, f4, f5, f6, f7, f8⟩ := kEE hr
 have e : tEl.size = 5 := rfl
 rw [e] at hc
 exact ⟨b, o, Aoff, coff, Aitems, citems, rfl, hb, hc 0 _ rfl, (by have := hc 1 _ rfl; rwa [← Nat.add_assoc] at this), (by have := hc 2 _ rfl; rwa [← Nat.add_assoc] at this), (by have := hc 3 _ rfl; rwa [← Nat.add_assoc] at this), (by have := hc 4 _ rfl; rwa [← Nat.add_assoc] at this), f0, f1, f2, f3, f4, f5, f6, f7, f8⟩
structure Da where
 mode : Int
 mem : Int
 off : List Ins
 bytes : List Int
def tDa0 : Ty (Int × Int × List Ins × List Int) := (Ty.int .i64).pair ((Ty.int .i64).pair (tIns.slice.pair ((Ty.int .u8).slice)))
def tDa : Ty Da := tDa0.iso fun a => (a.mode, a.mem, a.off, a.bytes)
instance : TyOk tDa := by unfold tDa tDa0; infer_instance
instance : TyMore tDa := by unfold tDa tDa0; infer_instance
instance : kAG tDa := by unfold tDa tDa0; infer_instance
theorem kGc : kAL prog 114 tDa := by
 refine kAH _ (fun x => ⟨x.1, x.2.1, x.2.2.1, x.2.2.2⟩) (fun _ => rfl) ?_
 exact kAF underlying114 kr (Flds.cons rfl kr (kAD underlying3) (Flds.cons rfl kr (kAD underlying3) (Flds.cons rfl kr (kAC underlying104 kr dc kBH) (Flds.one rfl kr (kAC underlying87 kr dc (kAD underlying5))))))
theorem kEF {w : World} {S : Nat → Prop} {cs : LV} {a : Da} (h : tDa.rd w S cs a) : ∃ (Aoff : OA) (coff : Nat) (Abytes : OA) (cbytes : Nat), cs = [.int .i64 a.mode, .int .i64 a.mem, .slice Aoff a.off.length coff, .slice Abytes a.bytes.length cbytes] ∧ (Lit.int .i64 a.mode).wf = true ∧ (Lit.int .i64 a.mem).wf = true ∧ a.off.length ≤ coff ∧ coff ≤ maxLen ∧ tIns.els w S Aoff a.off ∧ a.bytes.length ≤ cbytes ∧ cbytes ≤ maxLen ∧ (Ty.int .u8).els w S Abytes a.bytes := by
 obtain ⟨xmode, rmode, rfl, ⟨rfl, wmode⟩, xmem, rmem, rfl, ⟨rfl, wmem⟩, xoff, roff, rfl, ⟨Aoff, coff, rfl, goff, moff, eoff⟩, Abytes, cbytes, rfl, gbytes, mbytes, ebytes⟩ := h
 exact ⟨Aoff, coff, Abytes, cbytes, rfl, wmode, wmem, goff, moff, eoff, gbytes, mbytes, ebytes⟩
theorem kIt {w : World} {S : Nat → Prop} {a : Da} {Aoff : OA} {coff : Nat} {Abytes : OA} {cbytes : Nat} (f0 : (Lit.int .i64 a.mode).wf = true) (f1 : (Lit.int .i64 a.mem).wf = true) (f2 : a.off.length ≤ coff) (f3 : coff ≤ maxLen) (f4 : tIns.els w S Aoff a.off) (f5 : a.bytes.length ≤ cbytes) (f6 : cbytes ≤ maxLen) (f7 : (Ty.int .u8).els w S Abytes a.bytes) : tDa.rd w S [.int .i64 a.mode, .int .i64 a.mem, .slice Aoff a.off.length coff, .slice Abytes a.bytes.length cbytes] a :=
 ⟨[.int .i64 a.mode], [.int .i64 a.mem, .slice Aoff a.off.length coff, .slice Abytes a.bytes.length cbytes], rfl, ⟨rfl, f0⟩, ⟨[.int .i64 a.mem], [.slice Aoff a.off.length coff, .slice Abytes a.bytes.length cbytes], rfl, ⟨rfl, f1⟩, ⟨[.slice Aoff a.off.length coff], [.slice Abytes a.bytes.length cbytes], rfl, ⟨_, _, rfl, f2, f3, f4⟩, ⟨_, _, rfl, f5, f6, f7⟩⟩⟩⟩
theorem kIu {w : World} {S : Nat → Prop} {A : OA} {l : List Da} (h : tDa.els w S A l) (k : Nat) (hk : k < l.length) : ∃ (b o : Nat) (Aoff : OA) (coff : Nat) (Abytes : OA) (cbytes : Nat), A = some ⟨b, o, none⟩ ∧ S b ∧ w.cell? ⟨b, o + k * 4, none⟩ = some (.int .i64 l[k].mode) ∧ w.cell? ⟨b, o + k * 4 + 1, none⟩ = some (.int .i64 l[k].mem) ∧ w.cell? ⟨b, o + k * 4 + 2, none⟩ = some (.slice Aoff l[k].off.length coff) ∧ w.cell? ⟨b, o + k * 4 + 3, none⟩ = some (.slice Abytes l[k].bytes.length cbytes) ∧ (Lit.int .i64 l[k].mode).wf = true ∧ (Lit.int .i64 l[k].mem).wf = true ∧ l[k].off.length ≤ coff ∧ coff ≤ maxLen ∧ tIns.els w S Aoff l[k].off ∧ l[k].bytes.length ≤ cbytes ∧ cbytes ≤ maxLen ∧ (Ty.int .u8).els w S Abytes l[k].bytes := by
 obtain ⟨b, o, ds, rfl, hb, hc, hr⟩ := h.at_ k hk
 obtain ⟨Aoff, coff, Abytes, cbytes, rfl, f0, f1, f2, f3, f4, f5, f6, f7⟩ := kEF hr
 have e : tDa.size = 4 := rfl
 rw [e] at hc
 exact ⟨b, o, Aoff, coff, Abytes, cbytes, rfl, hb, hc 0 _ rfl, (by have := hc 1 _ rfl; rwa [← Nat.add_assoc] at this), (by have := hc 2 _ rfl; rwa [← Nat.add_assoc] at this), (by have := hc 3 _ rfl; rwa [← Nat.add_assoc] at this), f0, f1, f2, f3, f4, f5, f6, f7⟩
structure Cu where
 after : Int
 name : ByteArray
 bytes : List Int
def tCu0 : Ty (Int × ByteArray × List Int) := (Ty.int .i64).pair (Ty.str.pair ((Ty.int .u8).slice))
def tCu : Ty Cu := tCu0.iso fun a => (a.after, a.name, a.bytes)
instance : TyOk tCu := by unfold tCu tCu0; infer_instance
instance : TyMore tCu := by unfold tCu tCu0; infer_instance
instance : kAG tCu := by unfold tCu tCu0; infer_instance
theorem kGd : kAL prog 116 tCu := by
 refine kAH _ (fun x => ⟨x.1, x.2.1, x.2.2⟩) (fun _ => rfl) ?_
 exact kAF underlying116 kr (Flds.cons rfl kr (kAD underlying3) (Flds.cons rfl kr (kAt underlying9) (Flds.one rfl kr (kAC underlying87 kr dc (kAD underlying5)))))
theorem kEG {w : World} {S : Nat → Prop} {cs : LV} {a : Cu} (h : tCu.rd w S cs a) : ∃ (Abytes : OA) (cbytes : Nat), cs = [.int .i64 a.after, .string a.name, .slice Abytes a.bytes.length cbytes] ∧ (Lit.int .i64 a.after).wf = true ∧ a.name.size ≤ maxLen ∧ a.bytes.length ≤ cbytes ∧ cbytes ≤ maxLen ∧ (Ty.int .u8).els w S Abytes a.bytes := by
 obtain ⟨xafter, rafter, rfl, ⟨rfl, wafter⟩, xname, rname, rfl, ⟨rfl, wname⟩, Abytes, cbytes, rfl, gbytes, mbytes, ebytes⟩ := h
 exact ⟨Abytes, cbytes, rfl, wafter, wname, gbytes, mbytes, ebytes⟩
theorem kIv {w : World} {S : Nat → Prop} {a : Cu} {Abytes : OA} {cbytes : Nat} (f0 : (Lit.int .i64 a.after).wf = true) (f1 : a.name.size ≤ maxLen) (f2 : a.bytes.length ≤ cbytes) (f3 : cbytes ≤ maxLen) (f4 : (Ty.int .u8).els w S Abytes a.bytes) : tCu.rd w S [.int .i64 a.after, .string a.name, .slice Abytes a.bytes.length cbytes] a :=
 ⟨[.int .i64 a.after], [.string a.name, .slice Abytes a.bytes.length cbytes], rfl, ⟨rfl, f0⟩, ⟨[.string a.name], [.slice Abytes a.bytes.length cbytes], rfl, ⟨rfl, f1⟩, ⟨_, _, rfl, f2, f3, f4⟩⟩⟩
theorem kIw {w : World} {S : Nat → Prop} {A : OA} {l : List Cu} (h : tCu.els w S A l) (k : Nat) (hk : k < l.length) : ∃ (b o : Nat) (Abytes : OA) (cbytes : Nat), A = some ⟨b, o, none⟩ ∧ S b ∧ w.cell? ⟨b, o + k * 3, none⟩ = some (.int .i64 l[k].after) ∧ w.cell? ⟨b, o + k * 3 + 1, none⟩ = some (.string l[k].name) ∧ w.cell? ⟨b, o + k * 3 + 2, none⟩ = some (.slice Abytes l[k].bytes.length cbytes) ∧ (Lit.int .i64 l[k].after).wf = true ∧ l[k].name.size ≤ maxLen ∧ l[k].bytes.length ≤ cbytes ∧ cbytes ≤ maxLen ∧ (Ty.int .u8).els w S Abytes l[k].bytes := by
 obtain ⟨b, o, ds, rfl, hb, hc, hr⟩ := h.at_ k hk
 obtain ⟨Abytes, cbytes, rfl, f0, f1, f2, f3, f4⟩ := kEG hr
 have e : tCu.size = 3 := rfl
 rw [e] at hc
 exact ⟨b, o, Abytes, cbytes, rfl, hb, hc 0 _ rfl, (by have := hc 1 _ rfl; rwa [← Nat.add_assoc] at this), (by have := hc 2 _ rfl; rwa [← Nat.add_assoc] at this), f0, f1, f2, f3, f4⟩
structure Md where
 types : List Fn
 imports : List Im
 funcs : List Cd
 tables : List Tb
 mems : List Lim
 globals : List Gd
 exports : List Ex
 hasStart : Bool
 start : Int
 elems : List El
 datas : List Da
 customs : List Cu
def tMd0 : Ty (List Fn × List Im × List Cd × List Tb × List Lim × List Gd × List Ex × Bool × Int × List El × List Da × List Cu) := tFn.slice.pair (tIm.slice.pair (tCd.slice.pair (tTb.slice.pair (tLim.slice.pair (tGd.slice.pair (tEx.slice.pair (Ty.bool.pair ((Ty.int .i64).pair (tEl.slice.pair (tDa.slice.pair (tCu.slice)))))))))))
def tMd : Ty Md := tMd0.iso fun a => (a.types, a.imports, a.funcs, a.tables, a.mems, a.globals, a.exports, a.hasStart, a.start, a.elems, a.datas, a.customs)
instance : TyOk tMd := by unfold tMd tMd0; infer_instance
instance : TyMore tMd := by unfold tMd tMd0; infer_instance
instance : kAG tMd := by unfold tMd tMd0; infer_instance
theorem kGV : kAL prog 55 tMd := by
 refine kAH _ (fun x => ⟨x.1, x.2.1, x.2.2.1, x.2.2.2.1, x.2.2.2.2.1, x.2.2.2.2.2.1, x.2.2.2.2.2.2.1, x.2.2.2.2.2.2.2.1, x.2.2.2.2.2.2.2.2.1, x.2.2.2.2.2.2.2.2.2.1, x.2.2.2.2.2.2.2.2.2.2.1, x.2.2.2.2.2.2.2.2.2.2.2⟩) (fun _ => rfl) ?_
 exact kAF underlying55 kr (Flds.cons rfl kr (kAC underlying44 kr dc kCZ) (Flds.cons rfl kr (kAC underlying45 kr dc kGW) (Flds.cons rfl kr (kAC underlying46 kr dc kGe) (Flds.cons rfl kr (kAC underlying47 kr dc kCX) (Flds.cons rfl kr (kAC underlying48 kr dc kBU) (Flds.cons rfl kr (kAC underlying49 kr dc kGY) (Flds.cons rfl kr (kAC underlying50 kr dc kGa) (Flds.cons rfl kr (kAy underlying4) (Flds.cons rfl kr (kAD underlying3) (Flds.cons rfl kr (kAC underlying51 kr dc kGb) (Flds.cons rfl kr (kAC underlying52 kr dc kGc) (Flds.one rfl kr (kAC underlying53 kr dc kGd)))))))))))))
theorem kBS {w : World} {S : Nat → Prop} {cs : LV} {a : Md} (h : tMd.rd w S cs a) : ∃ (Atypes : OA) (ctypes : Nat) (Aimports : OA) (cimports : Nat) (Afuncs : OA) (cfuncs : Nat) (Atables : OA) (ctables : Nat) (Amems : OA) (cmems : Nat) (Aglobals : OA) (cglobals : Nat) (Aexports : OA) (cexports : Nat) (Aelems : OA) (celems : Nat) (Adatas : OA) (cdatas : Nat) (Acustoms : OA) (ccustoms : Nat), cs = [.slice Atypes a.types.length ctypes, .slice Aimports a.imports.length cimports, .slice Afuncs a.funcs.length cfuncs, .slice Atables a.tables.length ctables, .slice Amems a.mems.length cmems, .slice Aglobals a.globals.length cglobals, .slice Aexports a.exports.length cexports, .bool a.hasStart, .int .i64 a.start, .slice Aelems a.elems.length celems, .slice Adatas a.datas.length cdatas, .slice Acustoms a.customs.length ccustoms] ∧ a.types.length ≤ ctypes ∧ ctypes ≤ maxLen ∧ tFn.els w S Atypes a.types ∧ a.imports.length ≤ cimports ∧ cimports ≤ maxLen ∧ tIm.els w S Aimports a.imports ∧ a.funcs.length ≤ cfuncs ∧ cfuncs ≤ maxLen ∧ tCd.els w S Afuncs a.funcs ∧ a.tables.length ≤ ctables ∧ ctables ≤ maxLen ∧ tTb.els w S Atables a.tables ∧ a.mems.length ≤ cmems ∧ cmems ≤ maxLen ∧ tLim.els w S Amems a.mems ∧ a.globals.length ≤ cglobals ∧ cglobals ≤ maxLen ∧ tGd.els w S Aglobals a.globals ∧ a.exports.length ≤ cexports ∧ cexports ≤ maxLen ∧ tEx.els w S Aexports a.exports ∧ (Lit.int .i64 a.start).wf = true ∧ a.elems.length ≤ celems ∧ celems ≤ maxLen ∧ tEl.els w S Aelems a.elems ∧ a.datas.length ≤ cdatas ∧ cdatas ≤ maxLen ∧ tDa.els w S Adatas a.datas ∧ a.customs.length ≤ ccustoms ∧ ccustoms ≤ maxLen ∧ tCu.els w S Acustoms a.customs := by
 obtain ⟨xtypes, rtypes, rfl, ⟨Atypes, ctypes, rfl, gtypes, mtypes, etypes⟩, ximports, rimports, rfl, ⟨Aimports, cimports, rfl, gimports, mimports, eimports⟩, xfuncs, rfuncs, rfl, ⟨Afuncs, cfuncs, rfl, gfuncs, mfuncs, efuncs⟩, xtables, rtables, rfl, ⟨Atables, ctables, rfl, gtables, mtables, etables⟩, xmems, rmems, rfl, ⟨Amems, cmems, rfl, gmems, mmems, emems⟩, xglobals, rglobals, rfl, ⟨Aglobals, cglobals, rfl, gglobals, mglobals, eglobals⟩, xexports, rexports, rfl, ⟨Aexports, cexports, rfl, gexports, mexports, eexports⟩, xhasStart, rhasStart, rfl, rfl, xstart, rstart, rfl, ⟨rfl, wstart⟩, xelems, relems, rfl, ⟨Aelems, celems, rfl, gelems, melems, eelems⟩, xdatas, rdatas, rfl, ⟨Adatas, cdatas, rfl, gdatas, mdatas, edatas⟩, Acustoms, ccustoms, rfl, gcustoms, mcustoms, ecustoms⟩ := h
 exact ⟨Atypes, ctypes, Aimports, cimports, Afuncs, cfuncs, Atables, ctables, Amems, cmems, Aglobals, cglobals, Aexports, cexports, Aelems, celems, Adatas, cdatas, Acustoms, ccustoms, rfl, gtypes, mtypes, etypes, gimports, mimports, eimports, gfuncs, mfuncs, efuncs, gtables, mtables, etables, gmems, mmems, emems, gglobals, mglobals, eglobals, gexports, mexports, eexports, wstart, gelems, melems, eelems, gdatas, mdatas, edatas, gcustoms, mcustoms, ecustoms⟩
theorem kKB {w : World} {S : Nat → Prop} {a : Md} {Atypes : OA} {ctypes : Nat} {Aimports : OA} {cimports : Nat} {Afuncs : OA} {cfuncs : Nat} {Atables : OA} {ctables : Nat} {Amems : OA} {cmems : Nat} {Aglobals : OA} {cglobals : Nat} {Aexports : OA} {cexports : Nat} {Aelems : OA} {celems : Nat} {Adatas : OA} {cdatas : Nat} {Acustoms : OA} {ccustoms : Nat} (f0 : a.types.length ≤ ctypes) (f1 : ctypes ≤ maxLen) (f2 : tFn.els w S Atypes a.types) (f3 : a.imports.length ≤ cimports) (f4 : cimports ≤ maxLen) (f5 : tIm.els w S Aimports a.imports) (f6 : a.funcs.length ≤ cfuncs) (f7 : cfuncs ≤ maxLen) (f8 : tCd.els w S Afuncs a.funcs) (f9 : a.tables.length ≤ ctables) (f10 : ctables ≤ maxLen) (f11 : tTb.els w S Atables a.tables) (f12 : a.mems.length ≤ cmems) (f13 : cmems ≤ maxLen) (f14 : tLim.els w S Amems a.mems) (f15 : a.globals.length ≤ cglobals) (f16 : cglobals ≤ maxLen) (f17 : tGd.els w S Aglobals a.globals) (f18 : a.exports.length ≤ cexports) (f19 : cexports ≤ maxLen) (f20 : tEx.els w S Aexports a.exports) (f21 : (Lit.int .i64 a.start).wf = true) (f22 : a.elems.length ≤ celems) (f23 : celems ≤ maxLen) (f24 : tEl.els w S Aelems a.elems) (f25 : a.datas.length ≤ cdatas) (f26 : cdatas ≤ maxLen) (f27 : tDa.els w S Adatas a.datas) (f28 : a.customs.length ≤ ccustoms) (f29 : ccustoms ≤ maxLen) (f30 : tCu.els w S Acustoms a.customs) : tMd.rd w S [.slice Atypes a.types.length ctypes, .slice Aimports a.imports.length cimports, .slice Afuncs a.funcs.length cfuncs, .slice Atables a.tables.length ctables, .slice Amems a.mems.length cmems, .slice Aglobals a.globals.length cglobals, .slice Aexports a.exports.length cexports, .bool a.hasStart, .int .i64 a.start, .slice Aelems a.elems.length celems, .slice Adatas a.datas.length cdatas, .slice Acustoms a.customs.length ccustoms] a :=
 ⟨[.slice Atypes a.types.length ctypes], [.slice Aimports a.imports.length cimports, .slice Afuncs a.funcs.length cfuncs, .slice Atables a.tables.length ctables, .slice Amems a.mems.length cmems, .slice Aglobals a.globals.length cglobals, .slice Aexports a.exports.length cexports, .bool a.hasStart, .int .i64 a.start, .slice Aelems a.elems.length celems, .slice Adatas a.datas.length cdatas, .slice Acustoms a.customs.length ccustoms], rfl, ⟨_, _, rfl, f0, f1, f2⟩, ⟨[.slice Aimports a.imports.length cimports], [.slice Afuncs a.funcs.length cfuncs, .slice Atables a.tables.length ctables, .slice Amems a.mems.length cmems, .slice Aglobals a.globals.length cglobals, .slice Aexports a.exports.length cexports, .bool a.hasStart, .int .i64 a.start, .slice Aelems a.elems.length celems, .slice Adatas a.datas.length cdatas, .slice Acustoms a.customs.length ccustoms], rfl, ⟨_, _, rfl, f3, f4, f5⟩, ⟨[.slice Afuncs a.funcs.length cfuncs], [.slice Atables a.tables.length ctables, .slice Amems a.mems.length cmems, .slice Aglobals a.globals.length cglobals, .slice Aexports a.exports.length cexports, .bool a.hasStart, .int .i64 a.start, .slice Aelems a.elems.length celems, .slice Adatas a.datas.length cdatas, .slice Acustoms a.customs.length ccustoms], rfl, ⟨_, _, rfl, f6, f7, f8⟩, ⟨[.slice Atables a.tables.length ctables], [.slice Amems a.mems.length cmems, .slice Aglobals a.globals.length cglobals, .slice Aexports a.exports.length cexports, .bool a.hasStart, .int .i64 a.start, .slice Aelems a.elems.length celems, .slice Adatas a.datas.length cdatas, .slice Acustoms a.customs.length ccustoms], rfl, ⟨_, _, rfl, f9, f10, f11⟩, ⟨[.slice Amems a.mems.length cmems], [.slice Aglobals a.globals.length cglobals, .slice Aexports a.exports.length cexports, .bool a.hasStart, .int .i64 a.start, .slice Aelems a.elems.length celems, .slice Adatas a.datas.length cdatas, .slice Acustoms a.customs.length ccustoms], rfl, ⟨_, _, rfl, f12, f13, f14⟩, ⟨[.slice Aglobals a.globals.length cglobals], [.slice Aexports a.exports.length cexports, .bool a.hasStart, .int .i64 a.start, .slice Aelems a.elems.length celems, .slice Adatas a.datas.length cdatas, .slice Acustoms a.customs.length ccustoms], rfl, ⟨_, _, rfl, f15, f16, f17⟩, ⟨[.slice Aexports a.exports.length cexports], [.bool a.hasStart, .int .i64 a.start, .slice Aelems a.elems.length celems, .slice Adatas a.datas.length cdatas, .slice Acustoms a.customs.length ccustoms], rfl, ⟨_, _, rfl, f18, f19, f20⟩, ⟨[.bool a.hasStart], [.int .i64 a.start, .slice Aelems a.elems.length celems, .slice Adatas a.datas.length cdatas, .slice Acustoms a.customs.length ccustoms], rfl, rfl, ⟨[.int .i64 a.start], [.slice Aelems a.elems.length celems, .slice Adatas a.datas.length cdatas, .slice Acustoms a.customs.length ccustoms], rfl, ⟨rfl, f21⟩, ⟨[.slice Aelems a.elems.length celems], [.slice Adatas a.datas.length cdatas, .slice Acustoms a.customs.length ccustoms], rfl, ⟨_, _, rfl, f22, f23, f24⟩, ⟨[.slice Adatas a.datas.length cdatas], [.slice Acustoms a.customs.length ccustoms], rfl, ⟨_, _, rfl, f25, f26, f27⟩, ⟨_, _, rfl, f28, f29, f30⟩⟩⟩⟩⟩⟩⟩⟩⟩⟩⟩⟩
structure Ad where
 funcs : List Int
 tables : List Int
 mems : List Int
 globals : List Int
 elems : List Int
 datas : List Int
def tAd0 : Ty (List Int × List Int × List Int × List Int × List Int × List Int) := (Ty.int .i64).slice.pair ((Ty.int .i64).slice.pair ((Ty.int .i64).slice.pair ((Ty.int .i64).slice.pair ((Ty.int .i64).slice.pair ((Ty.int .i64).slice)))))
def tAd : Ty Ad := tAd0.iso fun a => (a.funcs, a.tables, a.mems, a.globals, a.elems, a.datas)
instance : TyOk tAd := by unfold tAd tAd0; infer_instance
instance : TyMore tAd := by unfold tAd tAd0; infer_instance
instance : kAG tAd := by unfold tAd tAd0; infer_instance
theorem kGh : kAL prog 100 tAd := by
 refine kAH _ (fun x => ⟨x.1, x.2.1, x.2.2.1, x.2.2.2.1, x.2.2.2.2.1, x.2.2.2.2.2⟩) (fun _ => rfl) ?_
 exact kAF underlying100 kr (Flds.cons rfl kr (kAC underlying23 kr dc (kAD underlying3)) (Flds.cons rfl kr (kAC underlying23 kr dc (kAD underlying3)) (Flds.cons rfl kr (kAC underlying23 kr dc (kAD underlying3)) (Flds.cons rfl kr (kAC underlying23 kr dc (kAD underlying3)) (Flds.cons rfl kr (kAC underlying23 kr dc (kAD underlying3)) (Flds.one rfl kr (kAC underlying23 kr dc (kAD underlying3))))))))
theorem kBT {w : World} {S : Nat → Prop} {cs : LV} {a : Ad} (h : tAd.rd w S cs a) : ∃ (Afuncs : OA) (cfuncs : Nat) (Atables : OA) (ctables : Nat) (Amems : OA) (cmems : Nat) (Aglobals : OA) (cglobals : Nat) (Aelems : OA) (celems : Nat) (Adatas : OA) (cdatas : Nat), cs = [.slice Afuncs a.funcs.length cfuncs, .slice Atables a.tables.length ctables, .slice Amems a.mems.length cmems, .slice Aglobals a.globals.length cglobals, .slice Aelems a.elems.length celems, .slice Adatas a.datas.length cdatas] ∧ a.funcs.length ≤ cfuncs ∧ cfuncs ≤ maxLen ∧ (Ty.int .i64).els w S Afuncs a.funcs ∧ a.tables.length ≤ ctables ∧ ctables ≤ maxLen ∧ (Ty.int .i64).els w S Atables a.tables ∧ a.mems.length ≤ cmems ∧ cmems ≤ maxLen ∧ (Ty.int .i64).els w S Amems a.mems ∧ a.globals.length ≤ cglobals ∧ cglobals ≤ maxLen ∧ (Ty.int .i64).els w S Aglobals a.globals ∧ a.elems.length ≤ celems ∧ celems ≤ maxLen ∧ (Ty.int .i64).els w S Aelems a.elems ∧ a.datas.length ≤ cdatas ∧ cdatas ≤ maxLen ∧ (Ty.int .i64).els w S Adatas a.datas := by
 obtain ⟨xfuncs, rfuncs, rfl, ⟨Afuncs, cfuncs, rfl, gfuncs, mfuncs, efuncs⟩, xtables, rtables, rfl, ⟨Atables, ctables, rfl, gtables, mtables, etables⟩, xmems, rmems, rfl, ⟨Amems, cmems, rfl, gmems, mmems, emems⟩, xglobals, rglobals, rfl, ⟨Aglobals, cglobals, rfl, gglobals, mglobals, eglobals⟩, xelems, relems, rfl, ⟨Aelems, celems, rfl, gelems, melems, eelems⟩, Adatas, cdatas, rfl, gdatas, mdatas, edatas⟩ := h
 exact ⟨Afuncs, cfuncs, Atables, ctables, Amems, cmems, Aglobals, cglobals, Aelems, celems, Adatas, cdatas, rfl, gfuncs, mfuncs, efuncs, gtables, mtables, etables, gmems, mmems, emems, gglobals, mglobals, eglobals, gelems, melems, eelems, gdatas, mdatas, edatas⟩
theorem kKE {w : World} {S : Nat → Prop} {a : Ad} {Afuncs : OA} {cfuncs : Nat} {Atables : OA} {ctables : Nat} {Amems : OA} {cmems : Nat} {Aglobals : OA} {cglobals : Nat} {Aelems : OA} {celems : Nat} {Adatas : OA} {cdatas : Nat} (f0 : a.funcs.length ≤ cfuncs) (f1 : cfuncs ≤ maxLen) (f2 : (Ty.int .i64).els w S Afuncs a.funcs) (f3 : a.tables.length ≤ ctables) (f4 : ctables ≤ maxLen) (f5 : (Ty.int .i64).els w S Atables a.tables) (f6 : a.mems.length ≤ cmems) (f7 : cmems ≤ maxLen) (f8 : (Ty.int .i64).els w S Amems a.mems) (f9 : a.globals.length ≤ cglobals) (f10 : cglobals ≤ maxLen) (f11 : (Ty.int .i64).els w S Aglobals a.globals) (f12 : a.elems.length ≤ celems) (f13 : celems ≤ maxLen) (f14 : (Ty.int .i64).els w S Aelems a.elems) (f15 : a.datas.length ≤ cdatas) (f16 : cdatas ≤ maxLen) (f17 : (Ty.int .i64).els w S Adatas a.datas) : tAd.rd w S [.slice Afuncs a.funcs.length cfuncs, .slice Atables a.tables.length ctables, .slice Amems a.mems.length cmems, .slice Aglobals a.globals.length cglobals, .slice Aelems a.elems.length celems, .slice Adatas a.datas.length cdatas] a :=
 ⟨[.slice Afuncs a.funcs.length cfuncs], [.slice Atables a.tables.length ctables, .slice Amems a.mems.length cmems, .slice Aglobals a.globals.length cglobals, .slice Aelems a.elems.length celems, .slice Adatas a.datas.length cdatas], rfl, ⟨_, _, rfl, f0, f1, f2⟩, ⟨[.slice Atables a.tables.length ctables], [.slice Amems a.mems.length cmems, .slice Aglobals a.globals.length cglobals, .slice Aelems a.elems.length celems, .slice Adatas a.datas.length cdatas], rfl, ⟨_, _, rfl, f3, f4, f5⟩, ⟨[.slice Amems a.mems.length cmems], [.slice Aglobals a.globals.length cglobals, .slice Aelems a.elems.length celems, .slice Adatas a.datas.length cdatas], rfl, ⟨_, _, rfl, f6, f7, f8⟩, ⟨[.slice Aglobals a.globals.length cglobals], [.slice Aelems a.elems.length celems, .slice Adatas a.datas.length cdatas], rfl, ⟨_, _, rfl, f9, f10, f11⟩, ⟨[.slice Aelems a.elems.length celems], [.slice Adatas a.datas.length cdatas], rfl, ⟨_, _, rfl, f12, f13, f14⟩, ⟨_, _, rfl, f15, f16, f17⟩⟩⟩⟩⟩⟩
structure Fi where
 ty : Fn
 inst : Int
 index : Int
def tFi0 : Ty (Fn × Int × Int) := tFn.pair ((Ty.int .i64).pair ((Ty.int .i64)))
def tFi : Ty Fi := tFi0.iso fun a => (a.ty, a.inst, a.index)
instance : TyOk tFi := by unfold tFi tFi0; infer_instance
instance : TyMore tFi := by unfold tFi tFi0; infer_instance
instance : kAG tFi := by unfold tFi tFi0; infer_instance
theorem kGZ : kAL prog 80 tFi := by
 refine kAH _ (fun x => ⟨x.1, x.2.1, x.2.2⟩) (fun _ => rfl) ?_
 exact kAF underlying80 kr (Flds.cons rfl kr kCZ (Flds.cons rfl kr (kAD underlying3) (Flds.one rfl kr (kAD underlying3))))
theorem kCe {w : World} {S : Nat → Prop} {cs : LV} {a : Fi} (h : tFi.rd w S cs a) : ∃ (Aty_params : OA) (cty_params : Nat) (Aty_results : OA) (cty_results : Nat), cs = [.slice Aty_params a.ty.params.length cty_params, .slice Aty_results a.ty.results.length cty_results, .int .i64 a.inst, .int .i64 a.index] ∧ a.ty.params.length ≤ cty_params ∧ cty_params ≤ maxLen ∧ (Ty.int .i64).els w S Aty_params a.ty.params ∧ a.ty.results.length ≤ cty_results ∧ cty_results ≤ maxLen ∧ (Ty.int .i64).els w S Aty_results a.ty.results ∧ (Lit.int .i64 a.inst).wf = true ∧ (Lit.int .i64 a.index).wf = true := by
 obtain ⟨xty, rty, rfl, hty, xinst, rinst, rfl, ⟨rfl, winst⟩, rfl, windex⟩ := h
 obtain ⟨Aty_params, cty_params, Aty_results, cty_results, rfl, kty0, kty1, kty2, kty3, kty4, kty5⟩ := Fn_cells hty
 exact ⟨Aty_params, cty_params, Aty_results, cty_results, rfl, kty0, kty1, kty2, kty3, kty4, kty5, winst, windex⟩
theorem Fi_mk {w : World} {S : Nat → Prop} {a : Fi} {Aty_params : OA} {cty_params : Nat} {Aty_results : OA} {cty_results : Nat} (f0 : a.ty.params.length ≤ cty_params) (f1 : cty_params ≤ maxLen) (f2 : (Ty.int .i64).els w S Aty_params a.ty.params) (f3 : a.ty.results.length ≤ cty_results) (f4 : cty_results ≤ maxLen) (f5 : (Ty.int .i64).els w S Aty_results a.ty.results) (f6 : (Lit.int .i64 a.inst).wf = true) (f7 : (Lit.int .i64 a.index).wf = true) : tFi.rd w S [.slice Aty_params a.ty.params.length cty_params, .slice Aty_results a.ty.results.length cty_results, .int .i64 a.inst, .int .i64 a.index] a :=
 ⟨[.slice Aty_params a.ty.params.length cty_params, .slice Aty_results a.ty.results.length cty_results], [.int .i64 a.inst, .int .i64 a.index], rfl, ⟨[.slice Aty_params a.ty.params.length cty_params], [.slice Aty_results a.ty.results.length cty_results], rfl, ⟨_, _, rfl, f0, f1, f2⟩, ⟨_, _, rfl, f3, f4, f5⟩⟩, ⟨[.int .i64 a.inst], [.int .i64 a.index], rfl, ⟨rfl, f6⟩, ⟨rfl, f7⟩⟩⟩
theorem kFW {w : World} {S : Nat → Prop} {A : OA} {l : List Fi} (h : tFi.els w S A l) (k : Nat) (hk : k < l.length) : ∃ (b o : Nat) (Aty_params : OA) (cty_params : Nat) (Aty_results : OA) (cty_results : Nat), A = some ⟨b, o, none⟩ ∧ S b ∧ w.cell? ⟨b, o + k * 4, none⟩ = some (.slice Aty_params l[k].ty.params.length cty_params) ∧ w.cell? ⟨b, o + k * 4 + 1, none⟩ = some (.slice Aty_results l[k].ty.results.length cty_results) ∧ w.cell? ⟨b, o + k * 4 + 2, none⟩ = some (.int .i64 l[k].inst) ∧ w.cell? ⟨b, o + k * 4 + 3, none⟩ = some (.int .i64 l[k].index) ∧ l[k].ty.params.length ≤ cty_params ∧ cty_params ≤ maxLen ∧ (Ty.int .i64).els w S Aty_params l[k].ty.params ∧ l[k].ty.results.length ≤ cty_results ∧ cty_results ≤ maxLen ∧ (Ty.int .i64).els w S Aty_results l[k].ty.results ∧ (Lit.int .i64 l[k].inst).wf = true ∧ (Lit.int .i64 l[k].index).wf = true := by
 obtain ⟨b, o, ds, rfl, hb, hc, hr⟩ := h.at_ k hk
 obtain ⟨Aty_params, cty_params, Aty_results, cty_results, rfl, f0, f1, f2, f3, f4, f5, f6, f7⟩ := kCe hr
 have e : tFi.size = 4 := rfl
 rw [e] at hc
 exact ⟨b, o, Aty_params, cty_params, Aty_results, cty_results, rfl, hb, hc 0 _ rfl, (by have := hc 1 _ rfl; rwa [← Nat.add_assoc] at this), (by have := hc 2 _ rfl; rwa [← Nat.add_assoc] at this), (by have := hc 3 _ rfl; rwa [← Nat.add_assoc] at this), f0, f1, f2, f3, f4, f5, f6, f7⟩
structure Ca where
 host : Int
 args : List Vl
def tCa0 : Ty (Int × List Vl) := (Ty.int .i64).pair (tVl.slice)
def tCa : Ty Ca := tCa0.iso fun a => (a.host, a.args)
instance : TyOk tCa := by unfold tCa tCa0; infer_instance
instance : TyMore tCa := by unfold tCa tCa0; infer_instance
theorem kGf : kAL prog 297 tCa := by
 refine kAH _ (fun x => ⟨x.1, x.2⟩) (fun _ => rfl) ?_
 exact kAF underlying297 kr (Flds.cons rfl kr (kAD underlying3) (Flds.one rfl kr (kAC underlying224 kr dc kCW)))
structure Rg where
 t : Gl
 v : Vl
def tRg0 : Ty (Gl × Vl) := tGl.pair (tVl)
def tRg : Ty Rg := tRg0.iso fun a => (a.t, a.v)
instance : TyOk tRg := by unfold tRg tRg0; infer_instance
instance : TyMore tRg := by unfold tRg tRg0; infer_instance
instance : kAG tRg := by unfold tRg tRg0; infer_instance
theorem kGT : kAL prog 86 tRg := by
 refine kAH _ (fun x => ⟨x.1, x.2⟩) (fun _ => rfl) ?_
 exact kAF underlying86 kr (Flds.cons rfl kr kCY (Flds.one rfl kr kCW))
theorem kCc {w : World} {S : Nat → Prop} {cs : LV} {a : Rg} (h : tRg.rd w S cs a) : cs = [.int .i64 a.t.val, .bool a.t.mut_, .int .i64 a.v.t, .int .u64 a.v.n] ∧ (Lit.int .i64 a.t.val).wf = true ∧ (Lit.int .i64 a.v.t).wf = true ∧ (Lit.int .u64 a.v.n).wf = true := by
 obtain ⟨xt, rt, rfl, ht, hv⟩ := h
 obtain ⟨rfl, kt0⟩ := kCd ht
 obtain ⟨rfl, kv0, kv1⟩ := kGz hv
 exact ⟨rfl, kt0, kv0, kv1⟩
theorem kFT {w : World} {S : Nat → Prop} {a : Rg}  (f0 : (Lit.int .i64 a.t.val).wf = true) (f1 : (Lit.int .i64 a.v.t).wf = true) (f2 : (Lit.int .u64 a.v.n).wf = true) : tRg.rd w S [.int .i64 a.t.val, .bool a.t.mut_, .int .i64 a.v.t, .int .u64 a.v.n] a :=
 ⟨[.int .i64 a.t.val, .bool a.t.mut_], [.int .i64 a.v.t, .int .u64 a.v.n], rfl, ⟨[.int .i64 a.t.val], [.bool a.t.mut_], rfl, ⟨rfl, f0⟩, rfl⟩, ⟨[.int .i64 a.v.t], [.int .u64 a.v.n], rfl, ⟨rfl, f1⟩, ⟨rfl, f2⟩⟩⟩
theorem kHL {w : World} {S : Nat → Prop} {A : OA} {l : List Rg} (h : tRg.els w S A l) (k : Nat) (hk : k < l.length) : ∃ (b o : Nat), A = some ⟨b, o, none⟩ ∧ S b ∧ w.cell? ⟨b, o + k * 4, none⟩ = some (.int .i64 l[k].t.val) ∧ w.cell? ⟨b, o + k * 4 + 1, none⟩ = some (.bool l[k].t.mut_) ∧ w.cell? ⟨b, o + k * 4 + 2, none⟩ = some (.int .i64 l[k].v.t) ∧ w.cell? ⟨b, o + k * 4 + 3, none⟩ = some (.int .u64 l[k].v.n) ∧ (Lit.int .i64 l[k].t.val).wf = true ∧ (Lit.int .i64 l[k].v.t).wf = true ∧ (Lit.int .u64 l[k].v.n).wf = true := by
 obtain ⟨b, o, ds, rfl, hb, hc, hr⟩ := h.at_ k hk
 obtain ⟨rfl, f0, f1, f2⟩ := kCc hr
 have e : tRg.size = 4 := rfl
 rw [e] at hc
 exact ⟨b, o, rfl, hb, hc 0 _ rfl, (by have := hc 1 _ rfl; rwa [← Nat.add_assoc] at this), (by have := hc 2 _ rfl; rwa [← Nat.add_assoc] at this), (by have := hc 3 _ rfl; rwa [← Nat.add_assoc] at this), f0, f1, f2⟩
structure Rs where
 l : List Int
 gone : Bool
 deriving DecidableEq
def tRs0 : Ty (List Int × Bool) := (Ty.int .u64).slice.pair (Ty.bool)
def tRs : Ty Rs := tRs0.iso fun a => (a.l, a.gone)
instance : TyOk tRs := by unfold tRs tRs0; infer_instance
instance : TyMore tRs := by unfold tRs tRs0; infer_instance
theorem kGQ : kAL prog 299 tRs := by
 refine kAH _ (fun x => ⟨x.1, x.2⟩) (fun _ => rfl) ?_
 exact kAF underlying299 kr (Flds.cons rfl kr (kAC underlying124 kr dc (kAD underlying82)) (Flds.one rfl kr (kAy underlying4)))
structure Rb where
 b : List Int
 gone : Bool
 deriving DecidableEq
def tRb0 : Ty (List Int × Bool) := (Ty.int .u8).slice.pair (Ty.bool)
def tRb : Ty Rb := tRb0.iso fun a => (a.b, a.gone)
instance : TyOk tRb := by unfold tRb tRb0; infer_instance
instance : TyMore tRb := by unfold tRb tRb0; infer_instance
theorem kGU : kAL prog 301 tRb := by
 refine kAH _ (fun x => ⟨x.1, x.2⟩) (fun _ => rfl) ?_
 exact kAF underlying301 kr (Flds.cons rfl kr (kAC underlying87 kr dc (kAD underlying5)) (Flds.one rfl kr (kAy underlying4)))
structure Ri where
 m : Md
 a : Ad
def tRi0 : Ty (Md × Ad) := tMd.pair (tAd)
def tRi : Ty Ri := tRi0.iso fun a => (a.m, a.a)
instance : TyOk tRi := by unfold tRi tRi0; infer_instance
instance : TyMore tRi := by unfold tRi tRi0; infer_instance
instance : kAG tRi := by unfold tRi tRi0; infer_instance
theorem kGS : kAL prog 102 tRi := by
 refine kAH _ (fun x => ⟨x.1, x.2⟩) (fun _ => rfl) ?_
 exact kAF underlying102 kr (Flds.cons rfl kr kGV (Flds.one rfl kr kGh))
theorem kEA {w : World} {S : Nat → Prop} {cs : LV} {a : Ri} (h : tRi.rd w S cs a) : ∃ (Am_types : OA) (cm_types : Nat) (Am_imports : OA) (cm_imports : Nat) (Am_funcs : OA) (cm_funcs : Nat) (Am_tables : OA) (cm_tables : Nat) (Am_mems : OA) (cm_mems : Nat) (Am_globals : OA) (cm_globals : Nat) (Am_exports : OA) (cm_exports : Nat) (Am_elems : OA) (cm_elems : Nat) (Am_datas : OA) (cm_datas : Nat) (Am_customs : OA) (cm_customs : Nat) (Aa_funcs : OA) (ca_funcs : Nat) (Aa_tables : OA) (ca_tables : Nat) (Aa_mems : OA) (ca_mems : Nat) (Aa_globals : OA) (ca_globals : Nat) (Aa_elems : OA) (ca_elems : Nat) (Aa_datas : OA) (ca_datas : Nat), cs = [.slice Am_types a.m.types.length cm_types, .slice Am_imports a.m.imports.length cm_imports, .slice Am_funcs a.m.funcs.length cm_funcs, .slice Am_tables a.m.tables.length cm_tables, .slice Am_mems a.m.mems.length cm_mems, .slice Am_globals a.m.globals.length cm_globals, .slice Am_exports a.m.exports.length cm_exports, .bool a.m.hasStart, .int .i64 a.m.start, .slice Am_elems a.m.elems.length cm_elems, .slice Am_datas a.m.datas.length cm_datas, .slice Am_customs a.m.customs.length cm_customs, .slice Aa_funcs a.a.funcs.length ca_funcs, .slice Aa_tables a.a.tables.length ca_tables, .slice Aa_mems a.a.mems.length ca_mems, .slice Aa_globals a.a.globals.length ca_globals, .slice Aa_elems a.a.elems.length ca_elems, .slice Aa_datas a.a.datas.length ca_datas] ∧ a.m.types.length ≤ cm_types ∧ cm_types ≤ maxLen ∧ tFn.els w S Am_types a.m.types ∧ a.m.imports.length ≤ cm_imports ∧ cm_imports ≤ maxLen ∧ tIm.els w S Am_imports a.m.imports ∧ a.m.funcs.length ≤ cm_funcs ∧ cm_funcs ≤ maxLen ∧ tCd.els w S Am_funcs a.m.funcs ∧ a.m.tables.length ≤ cm_tables ∧ cm_tables ≤ maxLen ∧ tTb.els w S Am_tables a.m.tables ∧ a.m.mems.length ≤ cm_mems ∧ cm_mems ≤ maxLen ∧ tLim.els w S Am_mems a.m.mems ∧ a.m.globals.length ≤ cm_globals ∧ cm_globals ≤ maxLen ∧ tGd.els w S Am_globals a.m.globals ∧ a.m.exports.length ≤ cm_exports ∧ cm_exports ≤ maxLen ∧ tEx.els w S Am_exports a.m.exports ∧ (Lit.int .i64 a.m.start).wf = true ∧ a.m.elems.length ≤ cm_elems ∧ cm_elems ≤ maxLen ∧ tEl.els w S Am_elems a.m.elems ∧ a.m.datas.length ≤ cm_datas ∧ cm_datas ≤ maxLen ∧ tDa.els w S Am_datas a.m.datas ∧ a.m.customs.length ≤ cm_customs ∧ cm_customs ≤ maxLen ∧ tCu.els w S Am_customs a.m.customs ∧ a.a.funcs.length ≤ ca_funcs ∧ ca_funcs ≤ maxLen ∧ (Ty.int .i64).els w S Aa_funcs a.a.funcs ∧ a.a.tables.length ≤ ca_tables ∧ ca_tables ≤ maxLen ∧ (Ty.int .i64).els w S Aa_tables a.a.tables ∧ a.a.mems.length ≤ ca_mems ∧ ca_mems ≤ maxLen ∧ (Ty.int .i64).els w S Aa_mems a.a.mems ∧ a.a.globals.length ≤ ca_globals ∧ ca_globals ≤ maxLen ∧ (Ty.int .i64).els w S Aa_globals a.a.globals ∧ a.a.elems.length ≤ ca_elems ∧ ca_elems ≤ maxLen ∧ (Ty.int .i64).els w S Aa_elems a.a.elems ∧ a.a.datas.length ≤ ca_datas ∧ ca_datas ≤ maxLen ∧ (Ty.int .i64).els w S Aa_datas a.a.datas := by
 obtain ⟨xm, rm, rfl, hm, ha⟩ := h
 obtain ⟨Am_types, cm_types, Am_imports, cm_imports, Am_funcs, cm_funcs, Am_tables, cm_tables, Am_mems, cm_mems, Am_globals, cm_globals, Am_exports, cm_exports, Am_elems, cm_elems, Am_datas, cm_datas, Am_customs, cm_customs, rfl, km0, km1, km2, km3, km4, km5, km6, km7, km8, km9, km10, km11, km12, km13, km14, km15, km16, km17, km18, km19, km20, km21, km22, km23, km24, km25, km26, km27, km28, km29, km30⟩ := kBS hm
 obtain ⟨Aa_funcs, ca_funcs, Aa_tables, ca_tables, Aa_mems, ca_mems, Aa_globals, ca_globals, Aa_elems, ca_elems, Aa_datas, ca_datas, rfl, ka0, ka1, ka2, ka3, ka4, ka5, ka6, ka7, ka8, ka9, ka10, ka11, ka12, ka13, ka14, ka15, ka16, ka17⟩ := kBT ha
 exact ⟨Am_types, cm_types, Am_imports, cm_imports, Am_funcs, cm_funcs, Am_tables, cm_tables, Am_mems, cm_mems, Am_globals, cm_globals, Am_exports, cm_exports, Am_elems, cm_elems, Am_datas, cm_datas, Am_customs, cm_customs, Aa_funcs, ca_funcs, Aa_tables, ca_tables, Aa_mems, ca_mems, Aa_globals, ca_globals, Aa_elems, ca_elems, Aa_datas, ca_datas, rfl, km0, km1, km2, km3, km4, km5, km6, km7, km8, km9, km10, km11, km12, km13, km14, km15, km16, km17, km18, km19, km20, km21, km22, km23, km24, km25, km26, km27, km28, km29, km30, ka0, ka1, ka2, ka3, ka4, ka5, ka6, ka7, ka8, ka9, ka10, ka11, ka12, ka13, ka14, ka15, ka16, ka17⟩
structure Rt where
 t : Tb
 l : List Int
def tRt0 : Ty (Tb × List Int) := tTb.pair ((Ty.int .u64).slice)
def tRt : Ty Rt := tRt0.iso fun a => (a.t, a.l)
instance : TyOk tRt := by unfold tRt tRt0; infer_instance
instance : TyMore tRt := by unfold tRt tRt0; infer_instance
instance : kAG tRt := by unfold tRt tRt0; infer_instance
theorem kGP : kAL prog 126 tRt := by
 refine kAH _ (fun x => ⟨x.1, x.2⟩) (fun _ => rfl) ?_
 exact kAF underlying126 kr (Flds.cons rfl kr kCX (Flds.one rfl kr (kAC underlying124 kr dc (kAD underlying82))))
theorem kHA {w : World} {S : Nat → Prop} {cs : LV} {a : Rt} (h : tRt.rd w S cs a) : ∃ (Al : OA) (cl : Nat), cs = [.int .i64 a.t.elem, .int .i64 a.t.lim.min, .int .i64 a.t.lim.max, .bool a.t.lim.has, .slice Al a.l.length cl] ∧ (Lit.int .i64 a.t.elem).wf = true ∧ (Lit.int .i64 a.t.lim.min).wf = true ∧ (Lit.int .i64 a.t.lim.max).wf = true ∧ a.l.length ≤ cl ∧ cl ≤ maxLen ∧ (Ty.int .u64).els w S Al a.l := by
 obtain ⟨xt, rt, rfl, ht, Al, cl, rfl, gl, ml, el⟩ := h
 obtain ⟨rfl, kt0, kt1, kt2⟩ := kDz ht
 exact ⟨Al, cl, rfl, kt0, kt1, kt2, gl, ml, el⟩
theorem kLR {w : World} {S : Nat → Prop} {a : Rt} {Al : OA} {cl : Nat} (f0 : (Lit.int .i64 a.t.elem).wf = true) (f1 : (Lit.int .i64 a.t.lim.min).wf = true) (f2 : (Lit.int .i64 a.t.lim.max).wf = true) (f3 : a.l.length ≤ cl) (f4 : cl ≤ maxLen) (f5 : (Ty.int .u64).els w S Al a.l) : tRt.rd w S [.int .i64 a.t.elem, .int .i64 a.t.lim.min, .int .i64 a.t.lim.max, .bool a.t.lim.has, .slice Al a.l.length cl] a :=
 ⟨[.int .i64 a.t.elem, .int .i64 a.t.lim.min, .int .i64 a.t.lim.max, .bool a.t.lim.has], [.slice Al a.l.length cl], rfl, ⟨[.int .i64 a.t.elem], [.int .i64 a.t.lim.min, .int .i64 a.t.lim.max, .bool a.t.lim.has], rfl, ⟨rfl, f0⟩, ⟨[.int .i64 a.t.lim.min], [.int .i64 a.t.lim.max, .bool a.t.lim.has], rfl, ⟨rfl, f1⟩, ⟨[.int .i64 a.t.lim.max], [.bool a.t.lim.has], rfl, ⟨rfl, f2⟩, rfl⟩⟩⟩, ⟨_, _, rfl, f3, f4, f5⟩⟩
theorem kIi {w : World} {S : Nat → Prop} {A : OA} {l : List Rt} (h : tRt.els w S A l) (k : Nat) (hk : k < l.length) : ∃ (b o : Nat) (Al : OA) (cl : Nat), A = some ⟨b, o, none⟩ ∧ S b ∧ w.cell? ⟨b, o + k * 5, none⟩ = some (.int .i64 l[k].t.elem) ∧ w.cell? ⟨b, o + k * 5 + 1, none⟩ = some (.int .i64 l[k].t.lim.min) ∧ w.cell? ⟨b, o + k * 5 + 2, none⟩ = some (.int .i64 l[k].t.lim.max) ∧ w.cell? ⟨b, o + k * 5 + 3, none⟩ = some (.bool l[k].t.lim.has) ∧ w.cell? ⟨b, o + k * 5 + 4, none⟩ = some (.slice Al l[k].l.length cl) ∧ (Lit.int .i64 l[k].t.elem).wf = true ∧ (Lit.int .i64 l[k].t.lim.min).wf = true ∧ (Lit.int .i64 l[k].t.lim.max).wf = true ∧ l[k].l.length ≤ cl ∧ cl ≤ maxLen ∧ (Ty.int .u64).els w S Al l[k].l := by
 obtain ⟨b, o, ds, rfl, hb, hc, hr⟩ := h.at_ k hk
 obtain ⟨Al, cl, rfl, f0, f1, f2, f3, f4, f5⟩ := kHA hr
 have e : tRt.size = 5 := rfl
 rw [e] at hc
 exact ⟨b, o, Al, cl, rfl, hb, hc 0 _ rfl, (by have := hc 1 _ rfl; rwa [← Nat.add_assoc] at this), (by have := hc 2 _ rfl; rwa [← Nat.add_assoc] at this), (by have := hc 3 _ rfl; rwa [← Nat.add_assoc] at this), (by have := hc 4 _ rfl; rwa [← Nat.add_assoc] at this), f0, f1, f2, f3, f4, f5⟩
structure Rm where
 lim : Lim
 b : List Int
def tRm0 : Ty (Lim × List Int) := tLim.pair ((Ty.int .u8).slice)
def tRm : Ty Rm := tRm0.iso fun a => (a.lim, a.b)
instance : TyOk tRm := by unfold tRm tRm0; infer_instance
instance : TyMore tRm := by unfold tRm tRm0; infer_instance
instance : kAG tRm := by unfold tRm tRm0; infer_instance
theorem kGR : kAL prog 89 tRm := by
 refine kAH _ (fun x => ⟨x.1, x.2⟩) (fun _ => rfl) ?_
 exact kAF underlying89 kr (Flds.cons rfl kr kBU (Flds.one rfl kr (kAC underlying87 kr dc (kAD underlying5))))
theorem kHB {w : World} {S : Nat → Prop} {cs : LV} {a : Rm} (h : tRm.rd w S cs a) : ∃ (Ab : OA) (cb : Nat), cs = [.int .i64 a.lim.min, .int .i64 a.lim.max, .bool a.lim.has, .slice Ab a.b.length cb] ∧ (Lit.int .i64 a.lim.min).wf = true ∧ (Lit.int .i64 a.lim.max).wf = true ∧ a.b.length ≤ cb ∧ cb ≤ maxLen ∧ (Ty.int .u8).els w S Ab a.b := by
 obtain ⟨xlim, rlim, rfl, hlim, Ab, cb, rfl, gb, mb, eb⟩ := h
 obtain ⟨rfl, klim0, klim1⟩ := kCJ hlim
 exact ⟨Ab, cb, rfl, klim0, klim1, gb, mb, eb⟩
theorem kLS {w : World} {S : Nat → Prop} {a : Rm} {Ab : OA} {cb : Nat} (f0 : (Lit.int .i64 a.lim.min).wf = true) (f1 : (Lit.int .i64 a.lim.max).wf = true) (f2 : a.b.length ≤ cb) (f3 : cb ≤ maxLen) (f4 : (Ty.int .u8).els w S Ab a.b) : tRm.rd w S [.int .i64 a.lim.min, .int .i64 a.lim.max, .bool a.lim.has, .slice Ab a.b.length cb] a :=
 ⟨[.int .i64 a.lim.min, .int .i64 a.lim.max, .bool a.lim.has], [.slice Ab a.b.length cb], rfl, ⟨[.int .i64 a.lim.min], [.int .i64 a.lim.max, .bool a.lim.has], rfl, ⟨rfl, f0⟩, ⟨[.int .i64 a.lim.max], [.bool a.lim.has], rfl, ⟨rfl, f1⟩, rfl⟩⟩, ⟨_, _, rfl, f2, f3, f4⟩⟩
theorem kIj {w : World} {S : Nat → Prop} {A : OA} {l : List Rm} (h : tRm.els w S A l) (k : Nat) (hk : k < l.length) : ∃ (b o : Nat) (Ab : OA) (cb : Nat), A = some ⟨b, o, none⟩ ∧ S b ∧ w.cell? ⟨b, o + k * 4, none⟩ = some (.int .i64 l[k].lim.min) ∧ w.cell? ⟨b, o + k * 4 + 1, none⟩ = some (.int .i64 l[k].lim.max) ∧ w.cell? ⟨b, o + k * 4 + 2, none⟩ = some (.bool l[k].lim.has) ∧ w.cell? ⟨b, o + k * 4 + 3, none⟩ = some (.slice Ab l[k].b.length cb) ∧ (Lit.int .i64 l[k].lim.min).wf = true ∧ (Lit.int .i64 l[k].lim.max).wf = true ∧ l[k].b.length ≤ cb ∧ cb ≤ maxLen ∧ (Ty.int .u8).els w S Ab l[k].b := by
 obtain ⟨b, o, ds, rfl, hb, hc, hr⟩ := h.at_ k hk
 obtain ⟨Ab, cb, rfl, f0, f1, f2, f3, f4⟩ := kHB hr
 have e : tRm.size = 4 := rfl
 rw [e] at hc
 exact ⟨b, o, Ab, cb, rfl, hb, hc 0 _ rfl, (by have := hc 1 _ rfl; rwa [← Nat.add_assoc] at this), (by have := hc 2 _ rfl; rwa [← Nat.add_assoc] at this), (by have := hc 3 _ rfl; rwa [← Nat.add_assoc] at this), f0, f1, f2, f3, f4⟩
structure Rx where
 hosts : List Ho
 counts : List Int
 calls : List Ca
 funcs : List Fi
 tabs : List Rt
 mems : List Rm
 globs : List Rg
 elems : List Rs
 datas : List Rb
 insts : List Ri
def tRx0 : Ty (List Ho × List Int × List Ca × List Fi × List Rt × List Rm × List Rg × List Rs × List Rb × List Ri) := tHo.slice.pair ((Ty.int .i64).slice.pair (tCa.slice.pair (tFi.slice.pair (tRt.slice.pair (tRm.slice.pair (tRg.slice.pair (tRs.slice.pair (tRb.slice.pair (tRi.slice)))))))))
def tRx : Ty Rx := tRx0.iso fun a => (a.hosts, a.counts, a.calls, a.funcs, a.tabs, a.mems, a.globs, a.elems, a.datas, a.insts)
instance : TyOk tRx := by unfold tRx tRx0; infer_instance
instance : TyMore tRx := by unfold tRx tRx0; infer_instance
theorem kJA : kAL prog 33 tRx := by
 refine kAH _ (fun x => ⟨x.1, x.2.1, x.2.2.1, x.2.2.2.1, x.2.2.2.2.1, x.2.2.2.2.2.1, x.2.2.2.2.2.2.1, x.2.2.2.2.2.2.2.1, x.2.2.2.2.2.2.2.2.1, x.2.2.2.2.2.2.2.2.2⟩) (fun _ => rfl) ?_
 exact kAF underlying33 kr (Flds.cons rfl kr (kAC underlying22 kr dc kGX) (Flds.cons rfl kr (kAC underlying23 kr dc (kAD underlying3)) (Flds.cons rfl kr (kAC underlying24 kr dc kGf) (Flds.cons rfl kr (kAC underlying25 kr dc kGZ) (Flds.cons rfl kr (kAC underlying26 kr dc kGP) (Flds.cons rfl kr (kAC underlying27 kr dc kGR) (Flds.cons rfl kr (kAC underlying28 kr dc kGT) (Flds.cons rfl kr (kAC underlying29 kr dc kGQ) (Flds.cons rfl kr (kAC underlying30 kr dc kGU) (Flds.one rfl kr (kAC underlying31 kr dc kGS)))))))))))
theorem kBz {w : World} {S : Nat → Prop} {cs : LV} {a : Rx} (h : tRx.rd w S cs a) : ∃ (Ahosts : OA) (chosts : Nat) (Acounts : OA) (ccounts : Nat) (Acalls : OA) (ccalls : Nat) (Afuncs : OA) (cfuncs : Nat) (Atabs : OA) (ctabs : Nat) (Amems : OA) (cmems : Nat) (Aglobs : OA) (cglobs : Nat) (Aelems : OA) (celems : Nat) (Adatas : OA) (cdatas : Nat) (Ainsts : OA) (cinsts : Nat), cs = [.slice Ahosts a.hosts.length chosts, .slice Acounts a.counts.length ccounts, .slice Acalls a.calls.length ccalls, .slice Afuncs a.funcs.length cfuncs, .slice Atabs a.tabs.length ctabs, .slice Amems a.mems.length cmems, .slice Aglobs a.globs.length cglobs, .slice Aelems a.elems.length celems, .slice Adatas a.datas.length cdatas, .slice Ainsts a.insts.length cinsts] ∧ a.hosts.length ≤ chosts ∧ chosts ≤ maxLen ∧ tHo.els w S Ahosts a.hosts ∧ a.counts.length ≤ ccounts ∧ ccounts ≤ maxLen ∧ (Ty.int .i64).els w S Acounts a.counts ∧ a.calls.length ≤ ccalls ∧ ccalls ≤ maxLen ∧ tCa.els w S Acalls a.calls ∧ a.funcs.length ≤ cfuncs ∧ cfuncs ≤ maxLen ∧ tFi.els w S Afuncs a.funcs ∧ a.tabs.length ≤ ctabs ∧ ctabs ≤ maxLen ∧ tRt.els w S Atabs a.tabs ∧ a.mems.length ≤ cmems ∧ cmems ≤ maxLen ∧ tRm.els w S Amems a.mems ∧ a.globs.length ≤ cglobs ∧ cglobs ≤ maxLen ∧ tRg.els w S Aglobs a.globs ∧ a.elems.length ≤ celems ∧ celems ≤ maxLen ∧ tRs.els w S Aelems a.elems ∧ a.datas.length ≤ cdatas ∧ cdatas ≤ maxLen ∧ tRb.els w S Adatas a.datas ∧ a.insts.length ≤ cinsts ∧ cinsts ≤ maxLen ∧ tRi.els w S Ainsts a.insts := by
 obtain ⟨xhosts, rhosts, rfl, ⟨Ahosts, chosts, rfl, ghosts, mhosts, ehosts⟩, xcounts, rcounts, rfl, ⟨Acounts, ccounts, rfl, gcounts, mcounts, ecounts⟩, xcalls, rcalls, rfl, ⟨Acalls, ccalls, rfl, gcalls, mcalls, ecalls⟩, xfuncs, rfuncs, rfl, ⟨Afuncs, cfuncs, rfl, gfuncs, mfuncs, efuncs⟩, xtabs, rtabs, rfl, ⟨Atabs, ctabs, rfl, gtabs, mtabs, etabs⟩, xmems, rmems, rfl, ⟨Amems, cmems, rfl, gmems, mmems, emems⟩, xglobs, rglobs, rfl, ⟨Aglobs, cglobs, rfl, gglobs, mglobs, eglobs⟩, xelems, relems, rfl, ⟨Aelems, celems, rfl, gelems, melems, eelems⟩, xdatas, rdatas, rfl, ⟨Adatas, cdatas, rfl, gdatas, mdatas, edatas⟩, Ainsts, cinsts, rfl, ginsts, minsts, einsts⟩ := h
 exact ⟨Ahosts, chosts, Acounts, ccounts, Acalls, ccalls, Afuncs, cfuncs, Atabs, ctabs, Amems, cmems, Aglobs, cglobs, Aelems, celems, Adatas, cdatas, Ainsts, cinsts, rfl, ghosts, mhosts, ehosts, gcounts, mcounts, ecounts, gcalls, mcalls, ecalls, gfuncs, mfuncs, efuncs, gtabs, mtabs, etabs, gmems, mmems, emems, gglobs, mglobs, eglobs, gelems, melems, eelems, gdatas, mdatas, edatas, ginsts, minsts, einsts⟩
theorem kEk {k : IntKind} {w : World} {S : Nat → Prop} {A : OA} {l : List Int} (h : (Ty.int k).els w S A l) (i : Nat) (hi : i < l.length) : ∃ (b o : Nat), A = some ⟨b, o, none⟩ ∧ S b ∧
    w.cell? ⟨b, o + i, none⟩ = some (.int k l[i]) ∧ (Lit.int k l[i]).wf = true := by
 obtain ⟨b, o, ds, rfl, hb, hc, rfl, hw⟩ := h.at_ i hi
 have := hc 0 _ rfl
 have e : (Ty.int k).size = 1 := rfl
 rw [e, Nat.mul_one, Nat.add_zero] at this
 exact ⟨b, o, rfl, hb, this, hw⟩
theorem kIJ {k : IntKind} {w : World} {S : Nat → Prop} {n : Int} (h : (Lit.int k n).wf = true) : (Ty.int k).rd w S [.int k n] n := ⟨rfl, h⟩
theorem kFf {n : Int} (h : -9223372036854775808 ≤ n ∧ n ≤ 9223372036854775807) : (Lit.int .i64 n).wf = true := by
 simpa [Lit.wf, IntKind.min, IntKind.max, IntKind.signed, IntKind.bits] using h
section
variable {P : Program} {ops : Array Oper} {Q : Exit → Act → World → Prop} {md : Region.Mode} {S : World → Prop}
def kAT (P : Program) (w : World) (v : Value) : Result Next → Prop
 | .ok (.value u) w' => w' = w ∧ u = v
 | .ok (.enter f args) w' => w' = w ∧ Calls P f args w (fun e w'' => e = .returned v ∧ w'' = w)
 | _ => False
def YieldsQ (P : Program) (ops : Array Oper) (S : World → Prop) (o : Oper) (v : Value) (a : Act) : Prop :=
 (Region.wanted o (yielded ops a.tmps) = true ∧ ∀ w, S w → kAT P w v ((execOp a.eval o).run P w)) ∨
 (Region.wanted o (yielded ops a.tmps) = false ∧ v = undef)
theorem YieldsQ.wpOp {i : Nat} {o : Oper} {v : Value} {a : Act} (hi : ops[i]? = some o) (hy : YieldsQ P ops S o v a)
    {K : Act → World → Prop} {w : World} (hS : S w) (h : K (a.put o.dst v) w) : wpOp P ops Q i K a w := by
 unfold Go.wpOp
 simp only [hi]
 rcases hy with ⟨hw, hv⟩ | ⟨hw, rfl⟩
 · simp only [hw, if_true]
   refine .inl ?_
   have h1 := hv w hS
   unfold Oper.wp
   generalize (execOp a.eval o).run P w = r at *
   cases r with
   | ok n w' =>
    cases n <;> simp only [kAT] at h1 <;> simp only [Oper.upon]
    case value u => obtain ⟨rfl, rfl⟩ := h1; exact h
    case enter f args =>
     obtain ⟨rfl, h2⟩ := h1
     exact h2.mono fun e w'' ⟨he, hw''⟩ => by subst he; subst hw''; exact h
   | halt x w' => simp only [kAT] at h1
 simp only [hw, Bool.false_eq_true, if_false]; exact h
theorem YieldsQ.of_same {o : Oper} {v : Value} {a a' : Act} (hy : YieldsQ P ops S o v a) (he : execOp a'.eval o = execOp a.eval o)
    (hw : Region.wanted o (yielded ops a'.tmps) = Region.wanted o (yielded ops a.tmps)) : YieldsQ P ops S o v a' := by
 unfold YieldsQ at *
 rw [he, hw]
 exact hy
theorem wpOp_putQ {j : Nat} {oi oj : Oper} {v : Value} (hj : ops[j]? = some oj) (hap : oi.apart ops oj = true)
    (hsi : ∀ cs b, oi.op ≠ .select cs b) (hsj : ∀ cs b, oj.op ≠ .select cs b)
    (hQ : ∀ c a w, Q (.panic c) (a.put oi.dst v) w → Q (.panic c) a w) {K : Act → World → Prop} {a : Act} {w : World}
    (hy : YieldsQ P ops S oi v a) (h : wpOp P ops Q j K (a.put oi.dst v) w) :
    wpOp P ops Q j (fun a' w' => YieldsQ P ops S oi v a' ∧ K (a'.put oi.dst v) w') a w := by
 obtain ⟨h1, h2, h3⟩ := Oper.apart_spec hap
 have keep : ∀ (a : Act), YieldsQ P ops S oi v a → ∀ u, YieldsQ P ops S oi v (a.put oj.dst u) := fun a hy u =>
  hy.of_same (execOp_put oi hsi a oj.dst u h3) (wanted_put oi a oj.dst u h3)
 have keepD : ∀ d, YieldsQ P ops S oi v { a with defers := d :: a.defers } := fun d => hy.of_same rfl rfl
 unfold wpOp at *
 simp only [hj] at *
 rw [wanted_put oj a oi.dst v h1] at h
 split
 · rename_i hw
   simp only [hw, if_true] at h
   rcases h with h | ⟨hasks, hlets⟩
   case inr => exact .inr ⟨by unfold Oper.asks at *; rw [execOp_put oj hsj a oi.dst v h1] at hasks; exact hasks, hlets⟩
   refine .inl ?_
   unfold Oper.wp at *
   rw [execOp_put oj hsj a oi.dst v h1] at h
   generalize (execOp a.eval oj).run P w = r at *
   cases r with
   | ok n w' =>
    cases n <;> simp only [Oper.upon] at h ⊢
    case value u => exact ⟨keep a hy u, by rw [← Act.put_comm a v u h2]; exact h⟩
    case skip => exact ⟨keep a hy _, by rw [← Act.put_comm a v undef h2]; exact h⟩
    case defer d =>
     refine ⟨keep _ (keepD d) _, ?_⟩
     rw [← Act.put_comm _ v undef h2, ← Act.put_defers]
     exact h
    case enter f args =>
     refine Calls.mono h fun e w'' he => ?_
     cases e with
     | returned u => exact ⟨keep a hy u, by rw [← Act.put_comm a v u h2]; exact he⟩
     | panicked c => exact hQ _ _ _ he
     | outgrown => exact he
    case row row args => exact Rows.mono h fun u w'' he => ⟨keep a hy u, by rw [← Act.put_comm a v u h2]; exact he⟩
   | halt x w' =>
    cases x <;> simp only [Oper.upon] at h ⊢
    case panic u => exact hQ _ _ _ h
 rename_i hw
 simp only [hw] at h
 exact ⟨keep a hy _, by rw [← Act.put_comm a v undef h2]; exact h⟩
def clo (md : Region.Mode) (ops : Array Oper) (L : Array Bool) : Prop :=
 ∀ (j : Nat) (oj : Oper), ops[j]? = some oj → L.getD j false = true → ∀ e ∈ oj.after, Region.binds md e = true → L.getD e.on false = true
theorem clo_set {L : Array Bool} {i : Nat} (h : clo md ops L) (hi : i ∈ Region.ready md ops L) : clo md ops (L.setIfInBounds i true) := by
 obtain ⟨_, oi, hoi, hall⟩ := mem_ready.1 hi
 intro j oj hj hl e he hb
 by_cases hij : i = j
 · subst hij
   have : oj = oi := Option.some.inj (hj.symm.trans hoi)
   subst this
   exact getD_set_true (hall e he hb)
 rw [getD_set_ne false hij] at hl
 exact getD_set_true (h j oj hj hl e he hb)
def SL (S : World → Prop) (fins : List Nat) (L : Array Bool) (w : World) : Prop := (∀ f ∈ fins, L.getD f false = false) → S w
def kBF (P : Program) (md : Region.Mode) (ops : Array Oper) (Q : Exit → Act → World → Prop) (S : World → Prop) (fins : List Nat) : Nat → Array Bool → Act → World → Prop
 | 0, L, a, w => Region.ready md ops L = [] ∧ Q .normal a w
 | fuel + 1, L, a, w =>
  (Region.ready md ops L = [] → Q .normal a w) ∧
  ∀ i ∈ Region.ready md ops L, wpOp P ops Q i (fun a' w' => SL S fins (L.setIfInBounds i true) w' ∧ kBF P md ops Q S fins fuel (L.setIfInBounds i true) a' w') a w
theorem kBr {fins : List Nat} : ∀ (fuel : Nat) (L : Array Bool) (a : Act) (w : World), kBF P md ops Q S fins fuel L a w → wpAny P md ops Q fuel L a w
 | 0, _, _, _, h => h
 | fuel + 1, _, _, _, h => ⟨h.1, fun i hi => wpOp_mono (fun a' w' h' => kBr fuel _ a' w' h'.2) (h.2 i hi)⟩
theorem kBo {fins : List Nat} {L : Array Bool} {w : World} (i : Nat) (h : SL S fins L w) : SL S fins (L.setIfInBounds i true) w := by
 intro hf
 refine h fun f hfm => ?_
 have h1 := hf f hfm
 cases h2 : L.getD f false with
 | false => rfl
 | true => rw [getD_set_true h2] at h1; cases h1
theorem SL_unset {fins : List Nat} {L : Array Bool} {w : World} {i : Nat} (hi : i ∉ fins) (h : SL S fins (L.setIfInBounds i true) w) : SL S fins L w := by
 intro hf
 refine h fun f hfm => ?_
 rw [getD_set_ne false (show i ≠ f from fun e => hi (by rw [e]; exact hfm))]
 exact hf f hfm
theorem kCG {fins : List Nat} {i : Nat} {oi : Oper} {v : Value} (hi : ops[i]? = some oi) (hsel : ∀ (j : Nat) (o : Oper) cs b, ops[j]? = some o → o.op ≠ .select cs b)
    (hQ : ∀ c a w, Q (.panic c) (a.put oi.dst v) w → Q (.panic c) a w) (hif : i ∉ fins) (hwait : ∀ f ∈ fins, ∀ L, clo md ops L → L.getD f false = true → L.getD i false = true) :
    ∀ (fuel : Nat) (L : Array Bool) (a : Act) (w : World), clo md ops L →
     (∀ j oj, ops[j]? = some oj → j ≠ i → L.getD j true = false → (∀ e ∈ oj.after, Region.binds md e = true → e.on ≠ i) → oi.apart ops oj = true) →
     i ∈ Region.ready md ops L → YieldsQ P ops S oi v a → SL S fins L w →
     kBF P md ops Q S fins fuel (L.setIfInBounds i true) (a.put oi.dst v) w → kBF P md ops Q S fins (fuel + 1) L a w := by
 have key : ∀ L w, clo md ops L → i ∈ Region.ready md ops L → SL S fins L w → S w := by
  intro L w hc hr h
  refine h fun f hf => ?_
  cases h2 : L.getD f false with
  | false => rfl
  | true =>
   have h3 := hwait f hf L hc h2
   have h4 := (mem_ready.1 hr).1
   rcases Nat.lt_or_ge i L.size with h' | h'
   · simp [h'] at h3 h4; rw [h4] at h3; cases h3
   · simp [Array.getElem?_eq_none h'] at h3
 intro fuel
 induction fuel with
 | zero =>
  intro L a w hc _ hr hy hS H
  refine ⟨fun h => (by rw [h] at hr; cases hr), fun j hj => ?_⟩
  by_cases hji : j = i
  · subst hji; exact hy.wpOp hi (key L w hc hr hS) ⟨kBo _ hS, H⟩
  · have := ready_mono hj hji
    rw [H.1] at this
    cases this
 | succ fuel ih =>
  intro L a w hc hfree hr hy hS H
  refine ⟨fun h => (by rw [h] at hr; cases hr), fun j hj => ?_⟩
  by_cases hji : j = i
  · subst hji; exact hy.wpOp hi (key L w hc hr hS) ⟨kBo _ hS, H⟩
  · exact yy4
def ancs (md : Region.Mode) (ops : Array Oper) (f : Nat) : Array Bool :=
 (List.range (f + 1)).reverse.foldl (fun m j => if m.getD j false then (match ops[j]? with
  | some o => o.after.toList.foldl (fun m e => if Region.binds md e then m.setIfInBounds e.on true else m) m
  | none => m) else m) ((Array.replicate ops.size false).setIfInBounds f true)
theorem kCC {m : Array Bool} {i k : Nat} (h : (m.setIfInBounds i true).getD k false = true) : k = i ∨ m.getD k false = true := by
 by_cases e : i = k
 · exact .inl e.symm
 rw [getD_set_ne false e] at h; exact .inr h
theorem kDN {f : Nat} {L : Array Bool} (hc : clo md ops L) (hf : L.getD f false = true) : ∀ k, (ancs md ops f).getD k false = true → L.getD k false = true := by
 have inner : ∀ (l : List Edge) (m : Array Bool), (∀ e ∈ l, Region.binds md e = true → L.getD e.on false = true) → (∀ k, m.getD k false = true → L.getD k false = true) →
     ∀ k, (l.foldl (fun m e => if Region.binds md e then m.setIfInBounds e.on true else m) m).getD k false = true → L.getD k false = true := by
  intro l
  induction l with
  | nil => intro m _ hm k hk; exact hm k hk
  | cons e l ih =>
   intro m he hm k hk
   simp only [List.foldl_cons] at hk
   refine ih _ (fun e' he' hb => he e' (by simp [he']) hb) ?_ k hk
   intro k' hk'
   split at hk'
   · rename_i hb
     rcases kCC hk' with rfl | h
     · exact he e sm hb
     exact hm k' h
   · exact hm k' hk'
 have outer : ∀ (l : List Nat) (m : Array Bool), (∀ k, m.getD k false = true → L.getD k false = true) →
     ∀ k, (l.foldl (fun m j => if m.getD j false then (match ops[j]? with
      | some o => o.after.toList.foldl (fun m e => if Region.binds md e then m.setIfInBounds e.on true else m) m
      | none => m) else m) m).getD k false = true → L.getD k false = true := by
  intro l
  induction l with
  | nil => intro m hm k hk; exact hm k hk
  | cons j l ih =>
   intro m hm k hk
   simp only [List.foldl_cons] at hk
   refine ih _ ?_ k hk
   intro k' hk'
   split at hk'
   · rename_i hj
     split at hk'
     · rename_i o ho
       exact inner _ m (fun e he hb => hc j o ho (hm j hj) e (by simpa using he) hb) hm k' hk'
     exact hm k' hk'
   · exact hm k' hk'
 intro k hk
 refine outer _ _ ?_ k hk
 intro k' hk'
 rcases kCC hk' with rfl | h
 · exact hf
 rw [Array.getD_eq_getD_getElem?] at h
 rcases Nat.lt_or_ge k' ops.size with h' | h'
 · simp [h'] at h
 simp [h'] at h
def kBL (md : Region.Mode) (ops : Array Oper) (fins : List Nat) : List (Nat × Bool) → Array Bool → Bool
 | [], L => (Region.ready md ops L).isEmpty
 | (i, true) :: r, L => Region.free md ops L i && (Region.ready md ops L).contains i && !fins.contains i && fins.all (fun f => (ancs md ops f).getD i false) && kBL md ops fins r (L.setIfInBounds i true)
 | (i, false) :: r, L => (Region.ready md ops L == [i]) && kBL md ops fins r (L.setIfInBounds i true)
def wpO (P : Program) (ops : Array Oper) (Q : Exit → Act → World → Prop) (S : World → Prop) (fins : List Nat) : Bool → List (Nat × Bool) → Act → World → Prop
 | _, [], a, w => Q .normal a w
 | d, (i, true) :: r, a, w => ∃ o, ops[i]? = some o ∧ ∃ v, YieldsQ P ops S o v a ∧ wpO P ops Q S fins d r (a.put o.dst v) w
 | d, (i, false) :: r, a, w => wpOp P ops Q i (fun a' w' => ((d || fins.contains i) = false → S w') ∧ wpO P ops Q S fins (d || fins.contains i) r a' w') a w
theorem kBd {fins : List Nat} (hsel : Region.noSelect ops = true) (hQ : ∀ c a a' w, Q (.panic c) a w → Q (.panic c) a' w) : ∀ (ord : List (Nat × Bool)) (d : Bool) (L : Array Bool) (a : Act) (w : World),
    clo md ops L → kBL md ops fins ord L = true → (d = true → ∃ f ∈ fins, L.getD f false = true) → SL S fins L w → wpO P ops Q S fins d ord a w → kBF P md ops Q S fins ord.length L a w
 | [], d, L, a, w, _, ho, _, _, h => ⟨by simpa [kBL] using ho, h⟩
 | (i, true) :: r, d, L, a, w, hc, ho, hd, hS, h => by
  obtain ⟨o, hi, v, hy, hn⟩ := h
  simp only [kBL, Bool.and_eq_true] at ho
  obtain ⟨⟨⟨⟨h1, h2⟩, h3⟩, h4⟩, h5⟩ := ho
  have hr : i ∈ Region.ready md ops L := by simpa using h2
  have hif : i ∉ fins := by simpa using h3
  refine kCG hi (Region.noSelect_spec hsel) (fun c a w hq => hQ c _ _ _ hq) hif ?_ r.length L a w hc (Region.free_spec hi h1) hr hy hS ?_
  · intro f hf L' hc' hl'
    exact kDN hc' hl' i (List.all_eq_true.1 h4 f hf)
  · exact kBd hsel hQ r d _ _ w (clo_set hc hr) h5 (fun hdt => by obtain ⟨f, hf, hl⟩ := hd hdt; exact ⟨f, hf, getD_set_true hl⟩) (kBo _ hS) hn
 | (i, false) :: r, d, L, a, w, hc, ho, hd, hS, h => by
  simp only [kBL, Bool.and_eq_true, beq_iff_eq] at ho
  obtain ⟨h1, h2⟩ := ho
  have hr : i ∈ Region.ready md ops L := by rw [h1]; simp
  refine ⟨fun h0 => (by rw [h0] at h1; cases h1), fun j hj => ?_⟩
  rw [h1] at hj
  have hji : j = i := by simpa using hj
  subst hji
  refine wpOp_mono (fun a' w' ⟨k1, k2⟩ => ?_) h
  have hin : (L.setIfInBounds j true).getD j false = true := by
   obtain ⟨h0, _⟩ := mem_ready.1 hr
   rcases Nat.lt_or_ge j L.size with h' | h'
   · simp [h']
   simp [Array.getElem?_eq_none h'] at h0
  have hSL : SL S fins (L.setIfInBounds j true) w' := by
   exact yy27
  refine ⟨hSL, kBd hsel hQ r _ _ a' w' (clo_set hc hr) h2 ?_ hSL k2⟩
  exact yy45
theorem kCB {id : Nat} {a : Act} {w : World} {l : List Oper} (S : World → Prop) (fins : List Nat) (ord : List (Nat × Bool)) (hm : P.follows .mixedOrders = true) (hs : Region.noSelect l.toArray = true)
    (ho : kBL .any l.toArray fins ord (Array.replicate l.toArray.size false) = true) (hl : ord.length = l.length) (hS : S w.drew) (h : wpO P l.toArray (NoPanic Q) S fins false ord a w.drew) :
    (Code.region id l.toArray true).wp P Q a w := by
 refine wp_region_noPanic (wp_region_any hm ?_)
 have hc : clo .any l.toArray (Array.replicate l.toArray.size false) := by
  exact yy25
 have := kBd (Q := NoPanic Q) (S := S) hs (fun _ _ _ _ h => h) ord false _ a w.drew hc ho (fun h => by cases h) (fun _ => hS) h
 rw [hl] at this
 have h2 := kBr _ _ _ _ this
 simpa using h2
theorem wpO_nil {d : Bool} {fins : List Nat} {a : Act} {w : World} (h : Q .normal a w) : wpO P ops (NoPanic Q) S fins d [] a w := h
theorem kGG {d : Bool} {fins : List Nat} {i : Nat} {o : Oper} {r : List (Nat × Bool)} {a : Act} {w : World} (ho : ops[i]? = some o) (hw : Region.wanted o (yielded ops a.tmps) = false)
    (h : wpO P ops Q S fins d r (a.put o.dst undef) w) : wpO P ops Q S fins d ((i, true) :: r) a w := ⟨o, ho, undef, .inr ⟨hw, rfl⟩, h⟩
theorem kAY {d : Bool} {fins : List Nat} {i : Nat} {o : Oper} {r : List (Nat × Bool)} {a : Act} {w : World} (ho : ops[i]? = some o) (hw : Region.wanted o (yielded ops a.tmps) = true)
    (h : ∃ v, (∀ X, S X → kAT P X v ((execOp a.eval o).run P X)) ∧ wpO P ops Q S fins d r (a.put o.dst v) w) : wpO P ops Q S fins d ((i, true) :: r) a w := by
 obtain ⟨v, h1, h2⟩ := h
 exact ⟨o, ho, v, .inl ⟨hw, h1⟩, h2⟩
theorem stillUpon_value {w : World} {v : Value} : kAT P w v (.ok (.value v) w) := ⟨rfl, rfl⟩
theorem kFZ {d : Bool} {fins : List Nat} {i : Nat} {o : Oper} {r : List (Nat × Bool)} {a : Act} {w : World} {v : Value} (ho : ops[i]? = some o) (hw : Region.wanted o (yielded ops a.tmps) = true)
    (hy : ∀ X, S X → (execOp a.eval o).run P X = .ok (.value v) X) (h : wpO P ops Q S fins d r (a.put o.dst v) w) : wpO P ops Q S fins d ((i, true) :: r) a w := ⟨o, ho, v, .inl ⟨hw, fun X hX => by rw [hy X hX]; exact ⟨rfl, rfl⟩⟩, h⟩
theorem kDC {d : Bool} {fins : List Nat} {i : Nat} {o : Oper} {r : List (Nat × Bool)} {a : Act} {w : World} (ho : ops[i]? = some o) (hw : Region.wanted o (yielded ops a.tmps) = false) (hS : S w)
    (h : wpO P ops Q S fins (d || fins.contains i) r (a.put o.dst undef) w) : wpO P ops Q S fins d ((i, false) :: r) a w := by
 show wpOp P ops Q i _ a w
 unfold wpOp
 simp only [ho, hw]
 exact ⟨fun _ => hS, h⟩
theorem wpO_eff {d : Bool} {fins : List Nat} {i : Nat} {o : Oper} {r : List (Nat × Bool)} {a : Act} {w : World} (ho : ops[i]? = some o) (hw : Region.wanted o (yielded ops a.tmps) = true)
    (h : ∀ K : Act → World → Prop, (∀ a' w', ((d || fins.contains i) = false → S w') → wpO P ops Q S fins (d || fins.contains i) r a' w' → K a' w') → o.wp P a w K Q) : wpO P ops Q S fins d ((i, false) :: r) a w := by
 show wpOp P ops Q i _ a w
 exact yy50
theorem rgO {id : Nat} {a : Act} {w : World} {l : List Oper} (S : World → Prop) (fins : List Nat) (ord : List (Nat × Bool)) (hS : S w.drew) (h : wpO P l.toArray (NoPanic Q) S fins false ord a w.drew) (hm : P.follows .mixedOrders = true := by kernel_rfl) (hs : Region.noSelect l.toArray = true := by kernel_rfl)
    (ho : kBL .any l.toArray fins ord (Array.replicate l.toArray.size false) = true := by kernel_rfl) (hl : ord.length = l.length := by rfl) : (Code.region id l.toArray true).wp P Q a w := kCB S fins ord hm hs ho hl hS h
theorem oS {d : Bool} {fins : List Nat} {i : Nat} {o : Oper} {r : List (Nat × Bool)} {a a' : Act} {w : World} (h : wpO P ops Q S fins d r a' w) (ho : ops[i]? = some o := by rfl) (hw : Region.wanted o (yielded ops a.tmps) = false := by rfl)
    (ha : a.put o.dst undef = a' := by simp only [zA, zC, Act.put]; rfl) : wpO P ops Q S fins d ((i, true) :: r) a w := kGG ho hw (ha ▸ h)
theorem oX {d : Bool} {fins : List Nat} {i : Nat} {o : Oper} {r : List (Nat × Bool)} {a a' : Act} {w : World} {v : Value} {F : World → Prop} (hF : ∀ X, S X → F X) (h : wpO P ops Q S fins d r a' w) (ho : ops[i]? = some o := by rfl) (hw : Region.wanted o (yielded ops a.tmps) = true := by rfl)
    (hv : ∀ X, F X → kAT P X v ((execOp a.eval o).run P X) := by simp only [zA]; intro X hX; (repeat (have := And.left hX; replace hX := And.right hX)); go_simp; exact stillUpon_value) (ha : a.put o.dst v = a' := by simp only [zA, zC, Act.put]; rfl) : wpO P ops Q S fins d ((i, true) :: r) a w :=
 kAY ho hw ⟨v, fun X hX => hv X (hF X hX), ha ▸ h⟩
theorem oC {d : Bool} {fins : List Nat} {i : Nat} {o : Oper} {r : List (Nat × Bool)} {a a' : Act} {w : World} {v : Value} (h : wpO P ops Q S fins d r a' w) (ho : ops[i]? = some o := by rfl) (hw : Region.wanted o (yielded ops a.tmps) = true := by rfl)
    (hv : ∀ X, S X → kAT P X v ((execOp a.eval o).run P X) := by simp only [zA]; intro X hX; (repeat (have := And.left hX; replace hX := And.right hX)); go_simp; exact stillUpon_value) (ha : a.put o.dst v = a' := by simp only [zA, zC, Act.put]; rfl) : wpO P ops Q S fins d ((i, true) :: r) a w :=
 kAY ho hw ⟨v, hv, ha ▸ h⟩
end
theorem rO {A G H : Prop} (a : A) (g : G) (h : A → G → H := by intro a g; (repeat (first | refine oS ?_ | refine oX a ?_)); exact g) : H := h a g
theorem rC {G H : Prop} (g : G) (h : G → H := by intro g; (repeat (first | refine oS ?_ | refine oC ?_)); exact g) : H := h g
theorem rwO {P : Program} {Q : Exit → Act → World → Prop} {id : Nat} {a : Act} {w : World} {l : List Oper} {ord : List (Nat × Bool)} (S : World → Prop) (fins : List Nat) (n e : List Nat) (hS : S w.drew) (h : wpO P l.toArray (NoPanic Q) S fins false ord a w.drew) (hd : oq n e = ord := by simp only [oq, List.range, List.range.loop, List.map, List.contains, List.elem, Nat.reduceBEq, Bool.not_true, Bool.not_false]; rfl) (hm : P.follows .mixedOrders = true := by kernel_rfl) (hs : Region.noSelect l.toArray = true := by kernel_rfl)
 (ho : kBL .any l.toArray fins ord (Array.replicate l.toArray.size false) = true := by kernel_rfl) (hl : ord.length = l.length := by rfl) : (Code.region id l.toArray true).wp P Q a w := kCB S fins ord hm hs ho hl hS h
inductive OT where
 | nil
 | rd (i : Nat) (r : OT)
 | eff (i : Nat) (r : OT)
 | alt (i : Nat) (r : OT) (j : Nat) (s : OT)
def OT.len : OT → Nat
 | .nil => 0
 | .rd _ r => r.len + 1
 | .eff _ r => r.len + 1
 | .alt _ r _ _ => r.len + 1
def kDk (md : Region.Mode) (ops : Array Oper) : OT → Array Bool → Bool
 | .nil, L => (Region.ready md ops L).isEmpty
 | .rd i r, L => Region.free md ops L i && (Region.ready md ops L).contains i && kDk md ops r (L.setIfInBounds i true)
 | .eff i r, L => (Region.ready md ops L == [i]) && kDk md ops r (L.setIfInBounds i true)
 | .alt i r j s, L => (Region.ready md ops L == [i, j]) && (s.len == r.len) && kDk md ops r (L.setIfInBounds i true) && kDk md ops s (L.setIfInBounds j true)
section
variable {P : Program} {ops : Array Oper} {Q : Exit → Act → World → Prop} {md : Region.Mode} {S : World → Prop}
def wpT (P : Program) (ops : Array Oper) (Q : Exit → Act → World → Prop) (S : World → Prop) : OT → Act → World → Prop
 | .nil, a, w => Q .normal a w
 | .rd i r, a, w => ∃ o, ops[i]? = some o ∧ ∃ v, YieldsQ P ops S o v a ∧ wpT P ops Q S r (a.put o.dst v) w
 | .eff i r, a, w => wpOp P ops Q i (fun a' w' => S w' ∧ wpT P ops Q S r a' w') a w
 | .alt i r j s, a, w => wpOp P ops Q i (fun a' w' => S w' ∧ wpT P ops Q S r a' w') a w ∧ wpOp P ops Q j (fun a' w' => S w' ∧ wpT P ops Q S s a' w') a w
theorem kDn (hsel : Region.noSelect ops = true) (hQ : ∀ c a a' w, Q (.panic c) a w → Q (.panic c) a' w) : ∀ (t : OT) (L : Array Bool) (a : Act) (w : World),
    clo md ops L → kDk md ops t L = true → S w → wpT P ops Q S t a w → kBF P md ops Q S [] t.len L a w
 | .nil, L, a, w, _, ho, _, h => ⟨by simpa [kDk] using ho, h⟩
 | .rd i r, L, a, w, hc, ho, hS, h => by
  obtain ⟨o, hi, v, hy, hn⟩ := h
  simp only [kDk, Bool.and_eq_true] at ho
  obtain ⟨⟨h1, h2⟩, h5⟩ := ho
  have hr : i ∈ Region.ready md ops L := by simpa using h2
  refine kCG hi (Region.noSelect_spec hsel) (fun c a w hq => hQ c _ _ _ hq) sm (fun f hf => by cases hf) r.len L a w hc (Region.free_spec hi h1) hr hy (fun _ => hS) ?_
  exact kDn hsel hQ r _ _ w (clo_set hc hr) h5 hS hn
 | .eff i r, L, a, w, hc, ho, hS, h => by
  simp only [kDk, Bool.and_eq_true, beq_iff_eq] at ho
  obtain ⟨h1, h2⟩ := ho
  have hr : i ∈ Region.ready md ops L := by rw [h1]; simp
  refine ⟨fun h0 => (by rw [h0] at h1; cases h1), fun j hj => ?_⟩
  rw [h1] at hj
  have hji : j = i := by simpa using hj
  subst hji
  exact wpOp_mono (fun a' w' ⟨k1, k2⟩ => ⟨fun _ => k1, kDn hsel hQ r _ a' w' (clo_set hc hr) h2 k1 k2⟩) h
 | .alt i r j s, L, a, w, hc, ho, hS, h => by
  simp only [kDk, Bool.and_eq_true, beq_iff_eq] at ho
  obtain ⟨⟨⟨h1, h2⟩, h3⟩, h4⟩ := ho
  have hr : i ∈ Region.ready md ops L := by rw [h1]; simp
  have hs : j ∈ Region.ready md ops L := by rw [h1]; simp
  refine ⟨fun h0 => (by rw [h0] at h1; cases h1), fun k hk => ?_⟩
  rw [h1] at hk
  have hkk : k = i ∨ k = j := by simpa using hk
  rcases hkk with rfl | rfl
  · exact wpOp_mono (fun a' w' ⟨k1, k2⟩ => ⟨fun _ => k1, kDn hsel hQ r _ a' w' (clo_set hc hr) h3 k1 k2⟩) h.1
  · have := fun a' w' (hh : S w' ∧ wpT P ops Q S s a' w') => kDn hsel hQ s _ a' w' (clo_set hc hs) h4 hh.1 hh.2
    rw [h2] at this
    exact wpOp_mono (fun a' w' hh => ⟨fun _ => hh.1, this a' w' hh⟩) h.2
theorem kFj {id : Nat} {a : Act} {w : World} {l : List Oper} (S : World → Prop) (t : OT) (hm : P.follows .mixedOrders = true) (hs : Region.noSelect l.toArray = true)
    (ho : kDk .any l.toArray t (Array.replicate l.toArray.size false) = true) (hl : t.len = l.length) (hS : S w.drew) (h : wpT P l.toArray (NoPanic Q) S t a w.drew) :
    (Code.region id l.toArray true).wp P Q a w := by
 refine wp_region_noPanic (wp_region_any hm ?_)
 have hc : clo .any l.toArray (Array.replicate l.toArray.size false) := by
  exact yy25
 have := kDn (Q := NoPanic Q) (S := S) hs (fun _ _ _ _ h => h) t _ a w.drew hc ho hS h
 rw [hl] at this
 have h2 := kBr _ _ _ _ this
 simpa using h2
theorem wpT_nil {a : Act} {w : World} (h : Q .normal a w) : wpT P ops (NoPanic Q) S .nil a w := h
theorem kJY {i : Nat} {o : Oper} {r : OT} {a : Act} {w : World} (ho : ops[i]? = some o) (hw : Region.wanted o (yielded ops a.tmps) = true)
    (h : ∃ v, (∀ X, S X → kAT P X v ((execOp a.eval o).run P X)) ∧ wpT P ops Q S r (a.put o.dst v) w) : wpT P ops Q S (.rd i r) a w := by
 obtain ⟨v, h1, h2⟩ := h
 exact ⟨o, ho, v, .inl ⟨hw, h1⟩, h2⟩
theorem wpT_eff {i : Nat} {o : Oper} {r : OT} {a : Act} {w : World} (ho : ops[i]? = some o) (hw : Region.wanted o (yielded ops a.tmps) = true)
    (h : ∀ K : Act → World → Prop, (∀ a' w', S w' → wpT P ops Q S r a' w' → K a' w') → o.wp P a w K Q) : wpT P ops Q S (.eff i r) a w := by
 show wpOp P ops Q i _ a w
 exact yy50
theorem kJG {i j : Nat} {r s : OT} {a : Act} {w : World} (h1 : wpT P ops Q S (.eff i r) a w) (h2 : wpT P ops Q S (.eff j s) a w) : wpT P ops Q S (.alt i r j s) a w := ⟨h1, h2⟩
theorem rgT {id : Nat} {a : Act} {w : World} {l : List Oper} (S : World → Prop) (t : OT) (hS : S w.drew) (h : wpT P l.toArray (NoPanic Q) S t a w.drew) (hm : P.follows .mixedOrders = true := by kernel_rfl) (hs : Region.noSelect l.toArray = true := by kernel_rfl)
    (ho : kDk .any l.toArray t (Array.replicate l.toArray.size false) = true := by kernel_rfl) (hl : t.len = l.length := by rfl) : (Code.region id l.toArray true).wp P Q a w := kFj S t hm hs ho hl hS h
theorem tX {i : Nat} {o : Oper} {r : OT} {a a' : Act} {w : World} {v : Value} {F : World → Prop} (hF : ∀ X, S X → F X) (h : wpT P ops Q S r a' w) (ho : ops[i]? = some o := by rfl) (hw : Region.wanted o (yielded ops a.tmps) = true := by rfl)
    (hv : ∀ X, F X → kAT P X v ((execOp a.eval o).run P X) := by simp only [zA]; intro X hX; (repeat (have := And.left hX; replace hX := And.right hX)); go_simp; exact stillUpon_value) (ha : a.put o.dst v = a' := by simp only [zA, zC, Act.put]; rfl) : wpT P ops Q S (.rd i r) a w :=
 kJY ho hw ⟨v, fun X hX => hv X (hF X hX), ha ▸ h⟩
end
theorem rT {A G H : Prop} (a : A) (g : G) (h : A → G → H := by intro a g; (repeat (first | refine tS ?_ | refine tX a ?_)); exact g) : H := h a g
section
variable {P : Program} {t : TypeId} {w : World}
theorem kAu {k : IntKind} (h : P.underlying t = some (.int k)) : (isAgg t).run P w = .ok false w := by simp [isAgg, run_underlying h]
theorem kCq (h : P.underlying t = some .bool) : (isAgg t).run P w = .ok false w := by simp [isAgg, run_underlying h]
theorem kAS {cs : Array Value} {off : Nat} {v : Value} (h : (isAgg t).run P w = .ok false w) (hv : cs[off]? = some v) : (part t cs off).run P w = .ok v w := by
 simp [part, h, hv]
theorem kDA {d : Nat} {xs ys : Array Value} : (Op.eqFields d xs ys []).run P w = .ok true w := rfl
theorem kAr {d : Nat} {xs ys : Array Value} {f : Field} {fs : List Field} {a b : Value} {r s : Bool} (hn : f.name ≠ "_") (ha : (part f.type xs f.offset).run P w = .ok a w) (hb : (part f.type ys f.offset).run P w = .ok b w)
    (he : (Op.equalIn d f.type a b).run P w = .ok r w) (h : (Op.eqFields d xs ys fs).run P w = .ok s w) : (Op.eqFields d xs ys (f :: fs)).run P w = .ok (r && s) w := by
 rw [Op.eqFields, if_pos hn]
 simp only [Sem.run_bind, ha, hb, he, Result.andThen_ok]
 cases r <;> simp [h]
theorem kFG {d : Nat} {xs ys : Array Value} {r : Bool} (ht : P.underlying t = some (.struct (P.fieldsOf t))) (hp : P.stoodInHeld t = false) (h : (Op.eqFields d xs ys (P.fieldsOf t).toList).run P w = .ok r w) :
    (Op.equalIn (d + 1) t (.agg xs) (.agg ys)).run P w = .ok r w := by rw [run_equalIn_struct w d t xs ys ht hp, h]
end
def kBE (p : Nat → Bool) (n : Nat) : Bool := (List.range n).all p
theorem kCv {p : Nat → Bool} {k : Nat} (h : kBE p k = true) (hp : p k = true) : kBE p (k + 1) = true := by
 unfold kBE at h ⊢
 rw [List.range_succ, List.all_append, h]; simp [hp]
theorem kCu {p : Nat → Bool} {k n : Nat} (hk : k < n) (hp : p k = false) : kBE p n = false := by
 rw [← Bool.not_eq_true]; intro h
 have := List.all_eq_true.1 h k (List.mem_range.2 hk)
 rw [hp] at this; cases this
theorem Ty.els.frB {α : Type} {t : Ty α} [TyOk t] {w w' : World} {B : Nat} {A : OA} {xs : List α} {M : Nat → Prop} (h : t.els w (· < B) A xs) (hB : B ≤ w.heap.size) (f : Fr M w w') (hM : ∀ k, k < B → ¬ M k) : t.els w' (· < B) A xs :=
 h.fr f fun k hk => ⟨ltl hk hB, hM k hk⟩
theorem kIV {n : Int} (h : (Lit.int .u8 n).wf = true) : 0 ≤ n ∧ n ≤ 255 := by
 simpa [Lit.wf, IntKind.min, IntKind.max, IntKind.signed, IntKind.bits] using h
theorem kGH {w : World} {B : Nat} {cs : LV} {a : Vl} (h : tVl.rd w (· < B) cs a) : cs = [.int .i64 a.t, .int .u64 a.n] ∧ (-9223372036854775808 ≤ a.t ∧ a.t ≤ 9223372036854775807) ∧ 0 ≤ a.n ∧ a.n < 18446744073709551616 := by
 obtain ⟨c1, c2, rfl, ⟨rfl, w1⟩, rfl, w2⟩ := h
 exact ⟨rfl, kCg w1, kHx w2⟩
theorem kIW {w : World} {B : Nat} {A : OA} {l : List Vl} (h : tVl.els w (· < B) A l) (k : Nat) (hk : k < l.length) : ∃ (b o : Nat), A = some ⟨b, o, none⟩ ∧ b < B ∧
    w.cell? ⟨b, o + k * 2, none⟩ = some (.int .i64 l[k].t) ∧ w.cell? ⟨b, o + k * 2 + 1, none⟩ = some (.int .u64 l[k].n) ∧ (-9223372036854775808 ≤ l[k].t ∧ l[k].t ≤ 9223372036854775807) ∧ 0 ≤ l[k].n ∧ l[k].n < 18446744073709551616 := by
 obtain ⟨b, o, ds, rfl, hb, hc, hr⟩ := h.at_ k hk
 obtain ⟨rfl, h1, h2⟩ := kGH hr
 have e : tVl.size = 2 := rfl
 rw [e] at hc
 exact ⟨b, o, rfl, hb, hc 0 _ rfl, by have := hc 1 _ rfl; rwa [← Nat.add_assoc] at this, h1, h2⟩
theorem kGy {w : World} {B : Nat} {cs : LV} {a : Ac} (h : tAc.rd w (· < B) cs a) : ∃ (A : OA) (c : Nat),
    cs = [.int .i64 a.kind, .slice A a.vals.length c, .int .i64 a.mem, .int .i64 a.at_, .int .u8 a.byte] ∧ a.vals.length ≤ c ∧ c ≤ maxLen ∧ tVl.els w (· < B) A a.vals ∧
    (-9223372036854775808 ≤ a.kind ∧ a.kind ≤ 9223372036854775807) ∧ (-9223372036854775808 ≤ a.mem ∧ a.mem ≤ 9223372036854775807) ∧ (-9223372036854775808 ≤ a.at_ ∧ a.at_ ≤ 9223372036854775807) ∧ 0 ≤ a.byte ∧ a.byte ≤ 255 := by
 obtain ⟨c1, r1, rfl, ⟨rfl, w1⟩, c2, r2, rfl, ⟨A, c, rfl, h1, h2, h3⟩, c3, r3, rfl, ⟨rfl, w3⟩, c4, r4, rfl, ⟨rfl, w4⟩, rfl, w5⟩ := h
 exact ⟨A, c, rfl, h1, h2, h3, kCg w1, kCg w3, kCg w4, kIV w5⟩
theorem kIh {w : World} {B : Nat} {A : OA} {l : List Ac} (h : tAc.els w (· < B) A l) (k : Nat) (hk : k < l.length) : ∃ (b o : Nat) (LA : OA) (c : Nat), A = some ⟨b, o, none⟩ ∧ b < B ∧
    w.cell? ⟨b, o + k * 5, none⟩ = some (.int .i64 l[k].kind) ∧ w.cell? ⟨b, o + k * 5 + 1, none⟩ = some (.slice LA l[k].vals.length c) ∧ w.cell? ⟨b, o + k * 5 + 2, none⟩ = some (.int .i64 l[k].mem) ∧
    w.cell? ⟨b, o + k * 5 + 3, none⟩ = some (.int .i64 l[k].at_) ∧ w.cell? ⟨b, o + k * 5 + 4, none⟩ = some (.int .u8 l[k].byte) ∧ l[k].vals.length ≤ c ∧ c ≤ maxLen ∧ tVl.els w (· < B) LA l[k].vals ∧
    (-9223372036854775808 ≤ l[k].kind ∧ l[k].kind ≤ 9223372036854775807) ∧ (-9223372036854775808 ≤ l[k].mem ∧ l[k].mem ≤ 9223372036854775807) ∧ (-9223372036854775808 ≤ l[k].at_ ∧ l[k].at_ ≤ 9223372036854775807) ∧ 0 ≤ l[k].byte ∧ l[k].byte ≤ 255 := by
 obtain ⟨b, o, ds, rfl, hb, hc, hr⟩ := h.at_ k hk
 obtain ⟨LA, c, rfl, h1, h2, h3, h4⟩ := kGy hr
 have e : tAc.size = 5 := rfl
 rw [e] at hc
 exact ⟨b, o, LA, c, rfl, hb, hc 0 _ rfl, by have := hc 1 _ rfl; rwa [← Nat.add_assoc] at this, by have := hc 2 _ rfl; rwa [← Nat.add_assoc] at this, by have := hc 3 _ rfl; rwa [← Nat.add_assoc] at this,
  by have := hc 4 _ rfl; rwa [← Nat.add_assoc] at this, h1, h2, h3, h4⟩
theorem kFp {k : IntKind} {w : World} {B : Nat} {A : OA} {l : List Int} (h : (Ty.int k).els w (· < B) A l) (i : Nat) (hi : i < l.length) : ∃ (b o : Nat), A = some ⟨b, o, none⟩ ∧ b < B ∧
    w.cell? ⟨b, o + i, none⟩ = some (.int k l[i]) ∧ (Lit.int k l[i]).wf = true := by
 obtain ⟨b, o, ds, rfl, hb, hc, rfl, hw⟩ := h.at_ i hi
 have := hc 0 _ rfl
 have e : (Ty.int k).size = 1 := rfl
 rw [e, Nat.mul_one, Nat.add_zero] at this
 exact ⟨b, o, rfl, hb, this, hw⟩
end Go.Proofs.YthggdemiddjlgaaGreat
