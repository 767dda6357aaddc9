/- Part 5 of the proof: lemmas and contracts of functions. No condition. -/
import Derived.Test.YtdckghiipijobaaGreatQ4
import Derived.Test.YtdckghiipijobaaGreatQ1
set_option maxRecDepth 100000
set_option maxHeartbeats 12800000
set_option linter.unusedVariables false
set_option linter.unusedSimpArgs false
set_option linter.unusedSectionVars false
namespace Go.Proofs.YtdckghiipijobaaGreat
open Go.RowKit Go.Proofs.Tryz
structure AddIn {α : Type} (t : Ty α) (el : TypeId) (w : World) (P off : Nat) (S : Nat → Prop) (v : Value) (xs : List α) (cs : LV) (x : α) : Prop where
 cell : w.cell? ⟨P, off, none⟩ = some v
 fz : w.frozen? ⟨P, off, none⟩ = false
 row : t.row w 0 S el v xs
 rd : t.rd w S cs x
 lt : ∀ k, S k → k < w.heap.size
 own : ∀ k, S k → v.ownBlock ≠ some k ∧ k ≠ P
 ne : v.ownBlock ≠ some P
 len : xs.length ≤ 1000000
def kAn {α : Type} (t : Ty α) (el : TypeId) (P off : Nat) (S : Nat → Prop) (v : Value) (xs : List α) (x : α) (w : World) (e : Ending) (w' : World) : Prop :=
 ∃ v', e = .returned (.int .i64 xs.length) ∧ t.row w' 0 S el v' (xs ++ [x]) ∧ Fr (fun k => k = P ∨ v.ownBlock = some k) w w' ∧ (∀ T cs, Blk w P T cs → Blk w' P T (cs.setIfInBounds off v')) ∧
  (∀ k, v'.ownBlock = some k → v.ownBlock = some k ∨ w.heap.size ≤ k ∧ k < w'.heap.size)
theorem AddIn.fr {α : Type} {t : Ty α} [TyOk t] {el : TypeId} {w w' : World} {P off : Nat} {S : Nat → Prop} {v : Value} {xs : List α} {cs : LV} {x : α} (h : AddIn t el w P off S v xs cs x) (f : Fr No w w') : AddIn t el w' P off S v xs cs x where
 cell := (f.cell (p := ⟨P, off, none⟩) (World.block_lt_of_cell? w _ h.cell) id).trans h.cell
 fz := (f.frozen (p := ⟨P, off, none⟩) (World.block_lt_of_cell? w _ h.cell) id).trans h.fz
 row := h.row.fr f (fun k hk => ⟨h.lt k hk, fun x => x⟩) (fun _ _ x => x)
 rd := TyOk.keep _ _ _ _ _ h.rd (fun p hp => f.cell (h.lt _ hp) id)
 lt := fun k hk => ltl (h.lt k hk) f.size
 own := h.own
 ne := h.ne
 len := h.len
theorem wrap64_len {n : Nat} (h : n ≤ 1000000) : wrap64 (n : Int) = n := by simp only [wrap64]; omega
theorem blk_gone {w w' : World} {P : Nat} {T : TypeId} {cs : Array Value} {off : Nat} {v : Value} (h : Blk w P T cs) (f : Fr (fun k => some k = v.ownBlock) w w') (hn : v.ownBlock ≠ some P) (u : Value) : Blk (w'.setCell ⟨P, off, none⟩ u) P T (cs.setIfInBounds off u) :=
 (h.fr f (fun e => hn e.symm)).set_ off u
theorem kLf (P off : Nat) (S : Nat → Prop) (v : Value) (xs : List Rs) (cs : LV) (x : Rs) (w : World) (h : AddIn tRs 182 w P off S v xs cs x) :
    Calls prog 82 #[.pointer (some ⟨P, off, none⟩), .agg cs.toArray] w (kAn tRs 182 P off S v xs x w) := by
 obtain ⟨Al, cl, rfl, _, _, _⟩ := kED h.rd
 have HA := hid h
 have F0 := hid ((Fr.refl No w).alloc (.cells #[.slice Al x.l.length cl, .bool x.gone] 182))
 have G0 := hid (Blk.new w 182 #[.slice Al x.l.length cl, .bool x.gone])
 have hPl := World.block_lt_of_cell? w _ h.cell
 have hPl : P < w.heap.size := hPl
 clear h
 go_enter func82, ntmps82
 go_wp2
 generalize w.alloc (.cells #[.slice Al x.l.length cl, .bool x.gone] 182) = W at *
 have HI := hid (HA.o.fr F0.o)
 have hgW := G0.o.lt
 have HX : Hid (∀ X, Fr No W X → Ce X P off v ∧ Ce X w.heap.size 0 (.slice Al x.l.length cl) ∧ Ce X w.heap.size 1 (.bool x.gone)) := fun X f => ⟨(f.cell (p := ⟨P, off, none⟩) (Nat.lt_trans hPl hgW) id).trans HI.o.cell, (G0.o.fr f id).cell 0, (G0.o.fr f id).cell 1⟩
 obtain ⟨g, hg⟩ : ∃ g, g = w.heap.size := ⟨_, rfl⟩
 have HG := hid hg
 rw [← hg] at HX hgW ⊢
 have hPg : P < g := om
 clear hg
 refine rwO (fun X => Ce X P off v ∧ Ce X g 0 (.slice Al x.l.length cl) ∧ Ce X g 1 (.bool x.gone)) [10] (List.range 11) [6, 7, 10] (HX.o _ (Fr.refl _ _).drew) ?_
 refine rC ?_
 refine wpO_eff rfl rfl fun K hK => sz ?_
 have F1 := hid ((Fr.refl No W).alloc (.cells #[.slice Al x.l.length cl, .bool x.gone] 182)).drew
 have G1 := hid (Blk.new W 182 #[.slice Al x.l.length cl, .bool x.gone]).drew
 refine hK _ _ (fun _ => HX.o _ F1.o) ?_
 clear hK K
 generalize (W.alloc (.cells #[.slice Al x.l.length cl, .bool x.gone] 182)).drew = W1 at *
 have HJ := hid (HI.o.fr F1.o)
 refine rC ?_
 refine wpO_eff rfl rfl (fun K hK => ?_)
 simp only [zA]
 refine kAs (t := tRs) (P := prog) (base := 0) (S := S) (v := v) (xs := xs) (ys := [x]) (dss := [[.slice Al x.l.length cl, .bool x.gone]]) (B2 := W1.heap.size) elGs rfl rfl rfl HJ.o.row (Css.one HJ.o.rd) (Rd.blk G1.o G1.o.lt 0 (fun k u hu => by rw [Nat.zero_add]; simpa using hu)) rfl (by have := HJ.o.len; simp; omega) (by have := HJ.o.len; simp; omega) (fun k hk => ⟨HJ.o.lt k hk, fun e => (HJ.o.own k hk).1 e.symm⟩) nz ?_
 intro v1 w1 hr1 fr1 hv1
 have gw1 : W.heap.size < W1.heap.size := G1.o.lt
 have FR := hid fr1
 have R1 := hid hr1
 have hvl : ∀ k, v1.ownBlock = some k → v.ownBlock = some k ∨ w.heap.size ≤ k ∧ k < w1.heap.size := fun k hk => by
  exact yy24
 have HV := hid hvl
 have HC : Hid (∀ X, Fr (fun k => some k = v.ownBlock) W1 X → Ce X P off v ∧ Ce X g 0 (.slice Al x.l.length cl) ∧ Ce X g 1 (.bool x.gone)) := fun X f => by
  exact yy44
 exact yy0
theorem kLi (P off : Nat) (S : Nat → Prop) (v : Value) (xs : List Rb) (cs : LV) (x : Rb) (w : World) (h : AddIn tRb 184 w P off S v xs cs x) :
    Calls prog 84 #[.pointer (some ⟨P, off, none⟩), .agg cs.toArray] w (kAn tRb 184 P off S v xs x w) := by
 obtain ⟨Ab, cb, rfl, _, _, _⟩ := kEF h.rd
 have HA := hid h
 have F0 := hid ((Fr.refl No w).alloc (.cells #[.slice Ab x.b.length cb, .bool x.gone] 184))
 have G0 := hid (Blk.new w 184 #[.slice Ab x.b.length cb, .bool x.gone])
 have hPl := World.block_lt_of_cell? w _ h.cell
 have hPl : P < w.heap.size := hPl
 clear h
 go_enter func84, ntmps84
 go_wp2
 generalize w.alloc (.cells #[.slice Ab x.b.length cb, .bool x.gone] 184) = W at *
 have HI := hid (HA.o.fr F0.o)
 have hgW := G0.o.lt
 have HX : Hid (∀ X, Fr No W X → Ce X P off v ∧ Ce X w.heap.size 0 (.slice Ab x.b.length cb) ∧ Ce X w.heap.size 1 (.bool x.gone)) := fun X f => ⟨(f.cell (p := ⟨P, off, none⟩) (Nat.lt_trans hPl hgW) id).trans HI.o.cell, (G0.o.fr f id).cell 0, (G0.o.fr f id).cell 1⟩
 obtain ⟨g, hg⟩ : ∃ g, g = w.heap.size := ⟨_, rfl⟩
 have HG := hid hg
 rw [← hg] at HX hgW ⊢
 have hPg : P < g := om
 clear hg
 refine rwO (fun X => Ce X P off v ∧ Ce X g 0 (.slice Ab x.b.length cb) ∧ Ce X g 1 (.bool x.gone)) [10] (List.range 11) [6, 7, 10] (HX.o _ (Fr.refl _ _).drew) ?_
 refine rC ?_
 refine wpO_eff rfl rfl fun K hK => sz ?_
 have F1 := hid ((Fr.refl No W).alloc (.cells #[.slice Ab x.b.length cb, .bool x.gone] 184)).drew
 have G1 := hid (Blk.new W 184 #[.slice Ab x.b.length cb, .bool x.gone]).drew
 refine hK _ _ (fun _ => HX.o _ F1.o) ?_
 clear hK K
 generalize (W.alloc (.cells #[.slice Ab x.b.length cb, .bool x.gone] 184)).drew = W1 at *
 have HJ := hid (HI.o.fr F1.o)
 refine rC ?_
 refine wpO_eff rfl rfl (fun K hK => ?_)
 simp only [zA]
 refine kAs (t := tRb) (P := prog) (base := 0) (S := S) (v := v) (xs := xs) (ys := [x]) (dss := [[.slice Ab x.b.length cb, .bool x.gone]]) (B2 := W1.heap.size) elGb rfl rfl rfl HJ.o.row (Css.one HJ.o.rd) (Rd.blk G1.o G1.o.lt 0 (fun k u hu => by rw [Nat.zero_add]; simpa using hu)) rfl (by have := HJ.o.len; simp; omega) (by have := HJ.o.len; simp; omega) (fun k hk => ⟨HJ.o.lt k hk, fun e => (HJ.o.own k hk).1 e.symm⟩) nz ?_
 intro v1 w1 hr1 fr1 hv1
 have gw1 : W.heap.size < W1.heap.size := G1.o.lt
 have FR := hid fr1
 have R1 := hid hr1
 have hvl : ∀ k, v1.ownBlock = some k → v.ownBlock = some k ∨ w.heap.size ≤ k ∧ k < w1.heap.size := fun k hk => by
  exact yy24
 have HV := hid hvl
 have HC : Hid (∀ X, Fr (fun k => some k = v.ownBlock) W1 X → Ce X P off v ∧ Ce X g 0 (.slice Ab x.b.length cb) ∧ Ce X g 1 (.bool x.gone)) := fun X f => by
  exact yy44
 exact yy0
theorem kLh (P off : Nat) (S : Nat → Prop) (v : Value) (xs : List Rg) (cs : LV) (x : Rg) (w : World) (h : AddIn tRg 180 w P off S v xs cs x) :
    Calls prog 81 #[.pointer (some ⟨P, off, none⟩), .agg cs.toArray] w (kAn tRg 180 P off S v xs x w) := by
 obtain ⟨rfl, _, _, _⟩ := kEE h.rd
 have HA := hid h
 have F0 := hid ((Fr.refl No w).alloc (.cells #[.int .i64 x.t.val, .bool x.t.mut_, .int .i64 x.v.t, .int .u64 x.v.n] 180))
 have G0 := hid (Blk.new w 180 #[.int .i64 x.t.val, .bool x.t.mut_, .int .i64 x.v.t, .int .u64 x.v.n])
 have hPl := World.block_lt_of_cell? w _ h.cell
 have hPl : P < w.heap.size := hPl
 clear h
 go_enter func81, ntmps81
 go_wp2
 generalize w.alloc (.cells #[.int .i64 x.t.val, .bool x.t.mut_, .int .i64 x.v.t, .int .u64 x.v.n] 180) = W at *
 have HI := hid (HA.o.fr F0.o)
 have hgW := G0.o.lt
 have HX : Hid (∀ X, Fr No W X → Ce X P off v ∧ Ce X w.heap.size 0 (.int .i64 x.t.val) ∧ Ce X w.heap.size 1 (.bool x.t.mut_) ∧ Ce X w.heap.size 2 (.int .i64 x.v.t) ∧ Ce X w.heap.size 3 (.int .u64 x.v.n)) := fun X f => ⟨(f.cell (p := ⟨P, off, none⟩) (Nat.lt_trans hPl hgW) id).trans HI.o.cell, (G0.o.fr f id).cell 0, (G0.o.fr f id).cell 1, (G0.o.fr f id).cell 2, (G0.o.fr f id).cell 3⟩
 obtain ⟨g, hg⟩ : ∃ g, g = w.heap.size := ⟨_, rfl⟩
 have HG := hid hg
 rw [← hg] at HX hgW ⊢
 have hPg : P < g := om
 clear hg
 refine rwO (fun X => Ce X P off v ∧ Ce X g 0 (.int .i64 x.t.val) ∧ Ce X g 1 (.bool x.t.mut_) ∧ Ce X g 2 (.int .i64 x.v.t) ∧ Ce X g 3 (.int .u64 x.v.n)) [10] (List.range 11) [6, 7, 10] (HX.o _ (Fr.refl _ _).drew) ?_
 refine rC ?_
 refine wpO_eff rfl rfl fun K hK => sz ?_
 have F1 := hid ((Fr.refl No W).alloc (.cells #[.int .i64 x.t.val, .bool x.t.mut_, .int .i64 x.v.t, .int .u64 x.v.n] 180)).drew
 have G1 := hid (Blk.new W 180 #[.int .i64 x.t.val, .bool x.t.mut_, .int .i64 x.v.t, .int .u64 x.v.n]).drew
 refine hK _ _ (fun _ => HX.o _ F1.o) ?_
 clear hK K
 generalize (W.alloc (.cells #[.int .i64 x.t.val, .bool x.t.mut_, .int .i64 x.v.t, .int .u64 x.v.n] 180)).drew = W1 at *
 have HJ := hid (HI.o.fr F1.o)
 refine rC ?_
 refine wpO_eff rfl rfl (fun K hK => ?_)
 simp only [zA]
 refine kAs (t := tRg) (P := prog) (base := 0) (S := S) (v := v) (xs := xs) (ys := [x]) (dss := [[.int .i64 x.t.val, .bool x.t.mut_, .int .i64 x.v.t, .int .u64 x.v.n]]) (B2 := W1.heap.size) elGg rfl rfl rfl HJ.o.row (Css.one HJ.o.rd) (Rd.blk G1.o G1.o.lt 0 (fun k u hu => by rw [Nat.zero_add]; simpa using hu)) rfl (by have := HJ.o.len; simp; omega) (by have := HJ.o.len; simp; omega) (fun k hk => ⟨HJ.o.lt k hk, fun e => (HJ.o.own k hk).1 e.symm⟩) nz ?_
 intro v1 w1 hr1 fr1 hv1
 have gw1 : W.heap.size < W1.heap.size := G1.o.lt
 have FR := hid fr1
 have R1 := hid hr1
 have hvl : ∀ k, v1.ownBlock = some k → v.ownBlock = some k ∨ w.heap.size ≤ k ∧ k < w1.heap.size := fun k hk => by
  exact yy24
 have HV := hid hvl
 have HC : Hid (∀ X, Fr (fun k => some k = v.ownBlock) W1 X → Ce X P off v ∧ Ce X g 0 (.int .i64 x.t.val) ∧ Ce X g 1 (.bool x.t.mut_) ∧ Ce X g 2 (.int .i64 x.v.t) ∧ Ce X g 3 (.int .u64 x.v.n)) := fun X f => by
  exact yy34
 exact yy0
abbrev q5x1 (a0 a1 : Option Addr) (a2 : Fi) (a3 a4 : Nat) : Array Value := #[.slice a0 a2.ty.params.length a3, .slice a1 a2.ty.results.length a4, .int .i64 a2.inst, .int .i64 a2.index]
theorem addFi_any (P off : Nat) (S : Nat → Prop) (v : Value) (xs : List Fi) (cs : LV) (x : Fi) (w : World) (h : AddIn tFi 47 w P off S v xs cs x) :
    Calls prog 73 #[.pointer (some ⟨P, off, none⟩), .agg cs.toArray] w (kAn tFi 47 P off S v xs x w) := by
 obtain ⟨Aty_params, cty_params, Aty_results, cty_results, rfl, _, _, _, _, _, _, _, _⟩ := kBm h.rd
 have HA := hid h
 have F0 := hid ((Fr.refl No w).alloc (.cells (q5x1 Aty_params Aty_results x cty_params cty_results) 47))
 have G0 := hid (Blk.new w 47 (q5x1 Aty_params Aty_results x cty_params cty_results))
 have hPl := World.block_lt_of_cell? w _ h.cell
 have hPl : P < w.heap.size := hPl
 clear h
 go_enter func73, ntmps73
 go_wp2
 generalize w.alloc (.cells (q5x1 Aty_params Aty_results x cty_params cty_results) 47) = W at *
 have HI := hid (HA.o.fr F0.o)
 have hgW := G0.o.lt
 have HX : Hid (∀ X, Fr No W X → Ce X P off v ∧ Ce X w.heap.size 0 (.slice Aty_params x.ty.params.length cty_params) ∧ Ce X w.heap.size 1 (.slice Aty_results x.ty.results.length cty_results) ∧ Ce X w.heap.size 2 (.int .i64 x.inst) ∧ Ce X w.heap.size 3 (.int .i64 x.index)) := fun X f => ⟨(f.cell (p := ⟨P, off, none⟩) (Nat.lt_trans hPl hgW) id).trans HI.o.cell, (G0.o.fr f id).cell 0, (G0.o.fr f id).cell 1, (G0.o.fr f id).cell 2, (G0.o.fr f id).cell 3⟩
 obtain ⟨g, hg⟩ : ∃ g, g = w.heap.size := ⟨_, rfl⟩
 have HG := hid hg
 rw [← hg] at HX hgW ⊢
 have hPg : P < g := om
 clear hg
 refine rwO (fun X => Ce X P off v ∧ Ce X g 0 (.slice Aty_params x.ty.params.length cty_params) ∧ Ce X g 1 (.slice Aty_results x.ty.results.length cty_results) ∧ Ce X g 2 (.int .i64 x.inst) ∧ Ce X g 3 (.int .i64 x.index)) [10] (List.range 11) [6, 7, 10] (HX.o _ (Fr.refl _ _).drew) ?_
 refine rC ?_
 refine wpO_eff rfl rfl fun K hK => sz ?_
 have F1 := hid ((Fr.refl No W).alloc (.cells (q5x1 Aty_params Aty_results x cty_params cty_results) 47)).drew
 have G1 := hid (Blk.new W 47 (q5x1 Aty_params Aty_results x cty_params cty_results)).drew
 refine hK _ _ (fun _ => HX.o _ F1.o) ?_
 clear hK K
 generalize (W.alloc (.cells (q5x1 Aty_params Aty_results x cty_params cty_results) 47)).drew = W1 at *
 have HJ := hid (HI.o.fr F1.o)
 refine rC ?_
 refine wpO_eff rfl rfl (fun K hK => ?_)
 simp only [zA]
 refine kAs (t := tFi) (P := prog) (base := 0) (S := S) (v := v) (xs := xs) (ys := [x]) (dss := [[.slice Aty_params x.ty.params.length cty_params, .slice Aty_results x.ty.results.length cty_results, .int .i64 x.inst, .int .i64 x.index]]) (B2 := W1.heap.size) elFi rfl rfl rfl HJ.o.row (Css.one HJ.o.rd) (Rd.blk G1.o G1.o.lt 0 (fun k u hu => by rw [Nat.zero_add]; simpa using hu)) rfl (by have := HJ.o.len; simp; omega) (by have := HJ.o.len; simp; omega) (fun k hk => ⟨HJ.o.lt k hk, fun e => (HJ.o.own k hk).1 e.symm⟩) nz ?_
 intro v1 w1 hr1 fr1 hv1
 have gw1 : W.heap.size < W1.heap.size := G1.o.lt
 have FR := hid fr1
 have R1 := hid hr1
 have hvl : ∀ k, v1.ownBlock = some k → v.ownBlock = some k ∨ w.heap.size ≤ k ∧ k < w1.heap.size := fun k hk => by
  exact yy24
 have HV := hid hvl
 have HC : Hid (∀ X, Fr (fun k => some k = v.ownBlock) W1 X → Ce X P off v ∧ Ce X g 0 (.slice Aty_params x.ty.params.length cty_params) ∧ Ce X g 1 (.slice Aty_results x.ty.results.length cty_results) ∧ Ce X g 2 (.int .i64 x.inst) ∧ Ce X g 3 (.int .i64 x.index)) := fun X f => by
  exact yy34
 exact yy0
theorem kKS (P off : Nat) (S : Nat → Prop) (v : Value) (xs : List Nat) (x : Nat) (w : World) (h : AddIn tPt 100 w P off S v xs [.pointer (some ⟨x, 0, none⟩)] x) :
    Calls prog 75 #[.pointer (some ⟨P, off, none⟩), .pointer (some ⟨x, 0, none⟩)] w (kAn tPt 100 P off S v xs x w) := by
 have HA := hid h
 have F0 := hid ((Fr.refl No w).alloc (.cells #[.pointer (some ⟨x, 0, none⟩)] 100))
 have G0 := hid (Blk.new w 100 #[.pointer (some ⟨x, 0, none⟩)])
 have hPl : P < w.heap.size := World.block_lt_of_cell? w _ h.cell
 have HJ := hid (h.fr F0.o)
 have z0 := h.cell
 clear h
 go_enter func75, ntmps75
 go_wp2_with (at_builtin; refine wpList_appC (t := tPt) (P := prog) (base := 0) (S := S) (v := v) (xs := xs) (ys := [x]) (dss := [[.pointer (some ⟨x, 0, none⟩)]]) (B2 := (w.alloc (.cells #[.pointer (some ⟨x, 0, none⟩)] 100)).heap.size) kOn rfl rfl rfl rfl HJ.o.row (Css.one HJ.o.rd) (Rd.blk G0.o G0.o.lt 0 (fun k u hu => by rw [Nat.zero_add]; simpa using hu)) rfl (by have := HJ.o.len; simp; omega) (by have := HJ.o.len; simp; omega) (fun k hk => ⟨HJ.o.lt k hk, fun e => (HJ.o.own k hk).1 e.symm⟩) nz ?_; intro v1 w1 hr1 fr1 hv1; have FR := hid fr1; have R1 := hid hr1; have HV := hid hv1; clear hr1 fr1 hv1; obtain ⟨A1, k1, e1, hk1, hm1, _⟩ := R1.o.els (S' := fun _ => True) tvv tvv; subst e1; rw [show (xs ++ [x]).length = xs.length + 1 by simp] at R1 HV; have y0 : w1.cell? ⟨P, off, none⟩ = some v := (FR.o.cell (p := ⟨P, off, none⟩) (ltl hPl F0.o.size) (fun e => HA.o.ne e.symm)).trans HJ.o.cell; have y1 : w1.frozen? ⟨P, off, none⟩ = false := (FR.o.frozen (p := ⟨P, off, none⟩) (ltl hPl F0.o.size) (fun e => HA.o.ne e.symm)).trans HJ.o.fz)
 go_ret
 have := HJ.o.len
 have gw1 : w.heap.size < (w.alloc (.cells #[.pointer (some ⟨x, 0, none⟩)] 100)).heap.size := G0.o.lt
 exact yy22
theorem kKT (P off : Nat) (S : Nat → Prop) (v : Value) (xs : List Nat) (x : Nat) (w : World) (h : AddIn tPt 99 w P off S v xs [.pointer (some ⟨x, 0, none⟩)] x) :
    Calls prog 78 #[.pointer (some ⟨P, off, none⟩), .pointer (some ⟨x, 0, none⟩)] w (kAn tPt 99 P off S v xs x w) := by
 have HA := hid h
 have F0 := hid ((Fr.refl No w).alloc (.cells #[.pointer (some ⟨x, 0, none⟩)] 99))
 have G0 := hid (Blk.new w 99 #[.pointer (some ⟨x, 0, none⟩)])
 have hPl : P < w.heap.size := World.block_lt_of_cell? w _ h.cell
 have HJ := hid (h.fr F0.o)
 have z0 := h.cell
 clear h
 go_enter func78, ntmps78
 go_wp2_with (at_builtin; refine wpList_appC (t := tPt) (P := prog) (base := 0) (S := S) (v := v) (xs := xs) (ys := [x]) (dss := [[.pointer (some ⟨x, 0, none⟩)]]) (B2 := (w.alloc (.cells #[.pointer (some ⟨x, 0, none⟩)] 99)).heap.size) kOo rfl rfl rfl rfl HJ.o.row (Css.one HJ.o.rd) (Rd.blk G0.o G0.o.lt 0 (fun k u hu => by rw [Nat.zero_add]; simpa using hu)) rfl (by have := HJ.o.len; simp; omega) (by have := HJ.o.len; simp; omega) (fun k hk => ⟨HJ.o.lt k hk, fun e => (HJ.o.own k hk).1 e.symm⟩) nz ?_; intro v1 w1 hr1 fr1 hv1; have FR := hid fr1; have R1 := hid hr1; have HV := hid hv1; clear hr1 fr1 hv1; obtain ⟨A1, k1, e1, hk1, hm1, _⟩ := R1.o.els (S' := fun _ => True) tvv tvv; subst e1; rw [show (xs ++ [x]).length = xs.length + 1 by simp] at R1 HV; have y0 : w1.cell? ⟨P, off, none⟩ = some v := (FR.o.cell (p := ⟨P, off, none⟩) (ltl hPl F0.o.size) (fun e => HA.o.ne e.symm)).trans HJ.o.cell; have y1 : w1.frozen? ⟨P, off, none⟩ = false := (FR.o.frozen (p := ⟨P, off, none⟩) (ltl hPl F0.o.size) (fun e => HA.o.ne e.symm)).trans HJ.o.fz)
 go_ret
 have := HJ.o.len
 have gw1 : w.heap.size < (w.alloc (.cells #[.pointer (some ⟨x, 0, none⟩)] 99)).heap.size := G0.o.lt
 exact yy22
abbrev q5x0 (a0 a1 a2 a3 a4 a5 a6 a7 a8 a9 a10 a11 a12 a13 a14 a15 : Option Addr) (a16 : Ri) (a17 a18 a19 a20 a21 a22 a23 a24 a25 a26 a27 a28 a29 a30 a31 a32 : Nat) : Array Value := #[.slice a0 a16.m.types.length a17, .slice a1 a16.m.imports.length a18, .slice a2 a16.m.funcs.length a19, .slice a3 a16.m.tables.length a20, .slice a4 a16.m.mems.length a21, .slice a5 a16.m.globals.length a22, .slice a6 a16.m.exports.length a23, .bool a16.m.hasStart, .int .i64 a16.m.start, .slice a7 a16.m.elems.length a24, .slice a8 a16.m.datas.length a25, .slice a9 a16.m.customs.length a26, .slice a10 a16.a.funcs.length a27, .slice a11 a16.a.tables.length a28, .slice a12 a16.a.mems.length a29, .slice a13 a16.a.globals.length a30, .slice a14 a16.a.elems.length a31, .slice a15 a16.a.datas.length a32]
theorem kLg (P off : Nat) (S : Nat → Prop) (v : Value) (xs : List Ri) (cs : LV) (x : Ri) (w : World) (h : AddIn tRi 208 w P off S v xs cs x) :
    Calls prog 86 #[.pointer (some ⟨P, off, none⟩), .agg cs.toArray] w (kAn tRi 208 P off S v xs x w) := by
 obtain ⟨Am_types, cm_types, Am_imports, cm_imports, Am_funcs, cm_funcs, Am_tables, cm_tables, Am_mems, cm_mems, Am_globals, cm_globals, Am_exports, cm_exports, Am_elems, cm_elems, Am_datas, cm_datas, Am_customs, cm_customs, Aa_funcs, ca_funcs, Aa_tables, ca_tables, Aa_mems, ca_mems, Aa_globals, ca_globals, Aa_elems, ca_elems, Aa_datas, ca_datas, rfl, _, _, _, _, _, _, _, _, _, _, _, _, _, _, _, _, _, _, _, _, _, _, _, _, _, _, _, _, _, _, _, _, _, _, _, _, _, _, _, _, _, _, _, _, _, _, _, _, _⟩ := kIA h.rd
 have HA := hid h
 have F0 := hid ((Fr.refl No w).alloc (.cells (q5x0 Am_types Am_imports Am_funcs Am_tables Am_mems Am_globals Am_exports Am_elems Am_datas Am_customs Aa_funcs Aa_tables Aa_mems Aa_globals Aa_elems Aa_datas x cm_types cm_imports cm_funcs cm_tables cm_mems cm_globals cm_exports cm_elems cm_datas cm_customs ca_funcs ca_tables ca_mems ca_globals ca_elems ca_datas) 208))
 have G0 := hid (Blk.new w 208 (q5x0 Am_types Am_imports Am_funcs Am_tables Am_mems Am_globals Am_exports Am_elems Am_datas Am_customs Aa_funcs Aa_tables Aa_mems Aa_globals Aa_elems Aa_datas x cm_types cm_imports cm_funcs cm_tables cm_mems cm_globals cm_exports cm_elems cm_datas cm_customs ca_funcs ca_tables ca_mems ca_globals ca_elems ca_datas))
 have hPl := World.block_lt_of_cell? w _ h.cell
 have hPl : P < w.heap.size := hPl
 clear h
 go_enter func86, ntmps86
 go_wp2
 generalize w.alloc (.cells (q5x0 Am_types Am_imports Am_funcs Am_tables Am_mems Am_globals Am_exports Am_elems Am_datas Am_customs Aa_funcs Aa_tables Aa_mems Aa_globals Aa_elems Aa_datas x cm_types cm_imports cm_funcs cm_tables cm_mems cm_globals cm_exports cm_elems cm_datas cm_customs ca_funcs ca_tables ca_mems ca_globals ca_elems ca_datas) 208) = W at *
 have HI := hid (HA.o.fr F0.o)
 have hgW := G0.o.lt
 have HX : Hid (∀ X, Fr No W X → Ce X P off v ∧ Ce X w.heap.size 0 (.slice Am_types x.m.types.length cm_types) ∧ Ce X w.heap.size 1 (.slice Am_imports x.m.imports.length cm_imports) ∧ Ce X w.heap.size 2 (.slice Am_funcs x.m.funcs.length cm_funcs) ∧ Ce X w.heap.size 3 (.slice Am_tables x.m.tables.length cm_tables) ∧ Ce X w.heap.size 4 (.slice Am_mems x.m.mems.length cm_mems) ∧ Ce X w.heap.size 5 (.slice Am_globals x.m.globals.length cm_globals) ∧ Ce X w.heap.size 6 (.slice Am_exports x.m.exports.length cm_exports) ∧ Ce X w.heap.size 7 (.bool x.m.hasStart) ∧ Ce X w.heap.size 8 (.int .i64 x.m.start) ∧ Ce X w.heap.size 9 (.slice Am_elems x.m.elems.length cm_elems) ∧ Ce X w.heap.size 10 (.slice Am_datas x.m.datas.length cm_datas) ∧ Ce X w.heap.size 11 (.slice Am_customs x.m.customs.length cm_customs) ∧ Ce X w.heap.size 12 (.slice Aa_funcs x.a.funcs.length ca_funcs) ∧ Ce X w.heap.size 13 (.slice Aa_tables x.a.tables.length ca_tables) ∧ Ce X w.heap.size 14 (.slice Aa_mems x.a.mems.length ca_mems) ∧ Ce X w.heap.size 15 (.slice Aa_globals x.a.globals.length ca_globals) ∧ Ce X w.heap.size 16 (.slice Aa_elems x.a.elems.length ca_elems) ∧ Ce X w.heap.size 17 (.slice Aa_datas x.a.datas.length ca_datas)) := fun X f => ⟨(f.cell (p := ⟨P, off, none⟩) (Nat.lt_trans hPl hgW) id).trans HI.o.cell, (G0.o.fr f id).cell 0, (G0.o.fr f id).cell 1, (G0.o.fr f id).cell 2, (G0.o.fr f id).cell 3, (G0.o.fr f id).cell 4, (G0.o.fr f id).cell 5, (G0.o.fr f id).cell 6, (G0.o.fr f id).cell 7, (G0.o.fr f id).cell 8, (G0.o.fr f id).cell 9, (G0.o.fr f id).cell 10, (G0.o.fr f id).cell 11, (G0.o.fr f id).cell 12, (G0.o.fr f id).cell 13, (G0.o.fr f id).cell 14, (G0.o.fr f id).cell 15, (G0.o.fr f id).cell 16, (G0.o.fr f id).cell 17⟩
 obtain ⟨g, hg⟩ : ∃ g, g = w.heap.size := ⟨_, rfl⟩
 have HG := hid hg
 rw [← hg] at HX hgW ⊢
 have hPg : P < g := om
 clear hg
 refine rwO (fun X => Ce X P off v ∧ Ce X g 0 (.slice Am_types x.m.types.length cm_types) ∧ Ce X g 1 (.slice Am_imports x.m.imports.length cm_imports) ∧ Ce X g 2 (.slice Am_funcs x.m.funcs.length cm_funcs) ∧ Ce X g 3 (.slice Am_tables x.m.tables.length cm_tables) ∧ Ce X g 4 (.slice Am_mems x.m.mems.length cm_mems) ∧ Ce X g 5 (.slice Am_globals x.m.globals.length cm_globals) ∧ Ce X g 6 (.slice Am_exports x.m.exports.length cm_exports) ∧ Ce X g 7 (.bool x.m.hasStart) ∧ Ce X g 8 (.int .i64 x.m.start) ∧ Ce X g 9 (.slice Am_elems x.m.elems.length cm_elems) ∧ Ce X g 10 (.slice Am_datas x.m.datas.length cm_datas) ∧ Ce X g 11 (.slice Am_customs x.m.customs.length cm_customs) ∧ Ce X g 12 (.slice Aa_funcs x.a.funcs.length ca_funcs) ∧ Ce X g 13 (.slice Aa_tables x.a.tables.length ca_tables) ∧ Ce X g 14 (.slice Aa_mems x.a.mems.length ca_mems) ∧ Ce X g 15 (.slice Aa_globals x.a.globals.length ca_globals) ∧ Ce X g 16 (.slice Aa_elems x.a.elems.length ca_elems) ∧ Ce X g 17 (.slice Aa_datas x.a.datas.length ca_datas)) [10] (List.range 11) [6, 7, 10] (HX.o _ (Fr.refl _ _).drew) ?_
 refine rC ?_
 refine wpO_eff rfl rfl fun K hK => sz ?_
 have F1 := hid ((Fr.refl No W).alloc (.cells (q5x0 Am_types Am_imports Am_funcs Am_tables Am_mems Am_globals Am_exports Am_elems Am_datas Am_customs Aa_funcs Aa_tables Aa_mems Aa_globals Aa_elems Aa_datas x cm_types cm_imports cm_funcs cm_tables cm_mems cm_globals cm_exports cm_elems cm_datas cm_customs ca_funcs ca_tables ca_mems ca_globals ca_elems ca_datas) 208)).drew
 have G1 := hid (Blk.new W 208 (q5x0 Am_types Am_imports Am_funcs Am_tables Am_mems Am_globals Am_exports Am_elems Am_datas Am_customs Aa_funcs Aa_tables Aa_mems Aa_globals Aa_elems Aa_datas x cm_types cm_imports cm_funcs cm_tables cm_mems cm_globals cm_exports cm_elems cm_datas cm_customs ca_funcs ca_tables ca_mems ca_globals ca_elems ca_datas)).drew
 refine hK _ _ (fun _ => HX.o _ F1.o) ?_
 clear hK K
 generalize (W.alloc (.cells (q5x0 Am_types Am_imports Am_funcs Am_tables Am_mems Am_globals Am_exports Am_elems Am_datas Am_customs Aa_funcs Aa_tables Aa_mems Aa_globals Aa_elems Aa_datas x cm_types cm_imports cm_funcs cm_tables cm_mems cm_globals cm_exports cm_elems cm_datas cm_customs ca_funcs ca_tables ca_mems ca_globals ca_elems ca_datas) 208)).drew = W1 at *
 have HJ := hid (HI.o.fr F1.o)
 refine rC ?_
 refine wpO_eff rfl rfl (fun K hK => ?_)
 simp only [zA]
 refine kAs (t := tRi) (P := prog) (base := 0) (S := S) (v := v) (xs := xs) (ys := [x]) (dss := [[.slice Am_types x.m.types.length cm_types, .slice Am_imports x.m.imports.length cm_imports, .slice Am_funcs x.m.funcs.length cm_funcs, .slice Am_tables x.m.tables.length cm_tables, .slice Am_mems x.m.mems.length cm_mems, .slice Am_globals x.m.globals.length cm_globals, .slice Am_exports x.m.exports.length cm_exports, .bool x.m.hasStart, .int .i64 x.m.start, .slice Am_elems x.m.elems.length cm_elems, .slice Am_datas x.m.datas.length cm_datas, .slice Am_customs x.m.customs.length cm_customs, .slice Aa_funcs x.a.funcs.length ca_funcs, .slice Aa_tables x.a.tables.length ca_tables, .slice Aa_mems x.a.mems.length ca_mems, .slice Aa_globals x.a.globals.length ca_globals, .slice Aa_elems x.a.elems.length ca_elems, .slice Aa_datas x.a.datas.length ca_datas]]) (B2 := W1.heap.size) elGi rfl rfl rfl HJ.o.row (Css.one HJ.o.rd) (Rd.blk G1.o G1.o.lt 0 (fun k u hu => by rw [Nat.zero_add]; simpa using hu)) rfl (by have := HJ.o.len; simp; omega) (by have := HJ.o.len; simp; omega) (fun k hk => ⟨HJ.o.lt k hk, fun e => (HJ.o.own k hk).1 e.symm⟩) nz ?_
 intro v1 w1 hr1 fr1 hv1
 have gw1 : W.heap.size < W1.heap.size := G1.o.lt
 have FR := hid fr1
 have R1 := hid hr1
 have hvl : ∀ k, v1.ownBlock = some k → v.ownBlock = some k ∨ w.heap.size ≤ k ∧ k < w1.heap.size := fun k hk => by
  exact yy24
 have HV := hid hvl
 have HC : Hid (∀ X, Fr (fun k => some k = v.ownBlock) W1 X → Ce X P off v ∧ Ce X g 0 (.slice Am_types x.m.types.length cm_types) ∧ Ce X g 1 (.slice Am_imports x.m.imports.length cm_imports) ∧ Ce X g 2 (.slice Am_funcs x.m.funcs.length cm_funcs) ∧ Ce X g 3 (.slice Am_tables x.m.tables.length cm_tables) ∧ Ce X g 4 (.slice Am_mems x.m.mems.length cm_mems) ∧ Ce X g 5 (.slice Am_globals x.m.globals.length cm_globals) ∧ Ce X g 6 (.slice Am_exports x.m.exports.length cm_exports) ∧ Ce X g 7 (.bool x.m.hasStart) ∧ Ce X g 8 (.int .i64 x.m.start) ∧ Ce X g 9 (.slice Am_elems x.m.elems.length cm_elems) ∧ Ce X g 10 (.slice Am_datas x.m.datas.length cm_datas) ∧ Ce X g 11 (.slice Am_customs x.m.customs.length cm_customs) ∧ Ce X g 12 (.slice Aa_funcs x.a.funcs.length ca_funcs) ∧ Ce X g 13 (.slice Aa_tables x.a.tables.length ca_tables) ∧ Ce X g 14 (.slice Aa_mems x.a.mems.length ca_mems) ∧ Ce X g 15 (.slice Aa_globals x.a.globals.length ca_globals) ∧ Ce X g 16 (.slice Aa_elems x.a.elems.length ca_elems) ∧ Ce X g 17 (.slice Aa_datas x.a.datas.length ca_datas)) := fun X f => by
  have hgo : ¬ some g = v.ownBlock := fun e => by
   obtain ⟨_, csr, hbr⟩ := (HA.o.row).own e.symm
   have := hbr.lt
   have := HG.o
   omega
  have hY := HX.o W1 F1.o
  exact ⟨(f.cell (p := ⟨P, off, none⟩) (by show P < _; omega) (fun e => HA.o.ne e.symm)).trans hY.1, (f.cell (p := ⟨g, 0, none⟩) (by show g < _; omega) hgo).trans hY.2.1, (f.cell (p := ⟨g, 1, none⟩) (by show g < _; omega) hgo).trans hY.2.2.1, (f.cell (p := ⟨g, 2, none⟩) (by show g < _; omega) hgo).trans hY.2.2.2.1, (f.cell (p := ⟨g, 3, none⟩) (by show g < _; omega) hgo).trans hY.2.2.2.2.1, (f.cell (p := ⟨g, 4, none⟩) (by show g < _; omega) hgo).trans hY.2.2.2.2.2.1, (f.cell (p := ⟨g, 5, none⟩) (by show g < _; omega) hgo).trans hY.2.2.2.2.2.2.1, (f.cell (p := ⟨g, 6, none⟩) (by show g < _; omega) hgo).trans hY.2.2.2.2.2.2.2.1, (f.cell (p := ⟨g, 7, none⟩) (by show g < _; omega) hgo).trans hY.2.2.2.2.2.2.2.2.1, (f.cell (p := ⟨g, 8, none⟩) (by show g < _; omega) hgo).trans hY.2.2.2.2.2.2.2.2.2.1, (f.cell (p := ⟨g, 9, none⟩) (by show g < _; omega) hgo).trans hY.2.2.2.2.2.2.2.2.2.2.1, (f.cell (p := ⟨g, 10, none⟩) (by show g < _; omega) hgo).trans hY.2.2.2.2.2.2.2.2.2.2.2.1, (f.cell (p := ⟨g, 11, none⟩) (by show g < _; omega) hgo).trans hY.2.2.2.2.2.2.2.2.2.2.2.2.1, (f.cell (p := ⟨g, 12, none⟩) (by show g < _; omega) hgo).trans hY.2.2.2.2.2.2.2.2.2.2.2.2.2.1, (f.cell (p := ⟨g, 13, none⟩) (by show g < _; omega) hgo).trans hY.2.2.2.2.2.2.2.2.2.2.2.2.2.2.1, (f.cell (p := ⟨g, 14, none⟩) (by show g < _; omega) hgo).trans hY.2.2.2.2.2.2.2.2.2.2.2.2.2.2.2.1, (f.cell (p := ⟨g, 15, none⟩) (by show g < _; omega) hgo).trans hY.2.2.2.2.2.2.2.2.2.2.2.2.2.2.2.2.1, (f.cell (p := ⟨g, 16, none⟩) (by show g < _; omega) hgo).trans hY.2.2.2.2.2.2.2.2.2.2.2.2.2.2.2.2.2.1, (f.cell (p := ⟨g, 17, none⟩) (by show g < _; omega) hgo).trans hY.2.2.2.2.2.2.2.2.2.2.2.2.2.2.2.2.2.2⟩
 exact yy0
def atD {α : Type} (d : α) (l : List α) (i : Int) : α × Bool := if h : 0 ≤ i ∧ i < l.length then (l[i.toNat]'om, true) else (d, false)
theorem kCh {α : Type} {d : α} {l : List α} {k : Nat} (h : k < l.length) : atD d l (k : Int) = (l[k], true) := by
 rw [atD, dif_pos ⟨by omega, by omega⟩]; simp
theorem kBv {α : Type} {d : α} {l : List α} {i : Int} (h : i < 0 ∨ (l.length : Int) ≤ i) : atD d l i = (d, false) := by
 rw [atD, dif_neg (by omega)]
theorem kBb {α : Type} (l : List α) (i : Int) : (∃ k : Nat, k < l.length ∧ i = k) ∨ i < 0 ∨ (¬ i < 0 ∧ (l.length : Int) ≤ i) := by
 by_cases h : i < 0
 · exact .inr (.inl h)
 by_cases h' : i < l.length
 · exact .inl ⟨i.toNat, by omega, by omega⟩
 exact .inr (.inr ⟨h, by omega⟩)
def AtTo {α : Type} (t : Ty α) (d : α) (S : Nat → Prop) (xs : List α) (i : Int) (w : World) (e : Ending) (w' : World) : Prop :=
 ∃ cs, e = .returned (.tuple #[.agg cs.toArray, .bool (atD d xs i).2]) ∧ t.rd w' S cs (atD d xs i).1 ∧ Fr No w w'
def getI {α : Type} (xs : List α) (i : Int) : Option α := if 0 ≤ i then xs[i.toNat]? else none
theorem kBL {α : Type} {xs : List α} {k : Nat} (h : k < xs.length) : getI xs (k : Int) = some xs[k] := by simp [getI, h]
theorem kBh {α : Type} {xs : List α} {i : Int} (h : i < 0 ∨ (xs.length : Int) ≤ i) : getI xs i = none := by
 unfold getI
 split
 · rw [List.getElem?_eq_none]; omega
 rfl
def ptrV : Option Nat → Value
 | some p => .pointer (some ⟨p, 0, none⟩)
 | none => .pointer none
def AtPt (xs : List Nat) (i : Int) (w : World) (e : Ending) (w' : World) : Prop := e = .returned (.tuple #[ptrV (getI xs i), .bool (getI xs i).isSome]) ∧ Fr No w w'
theorem kGs {w : World} {S : Nat → Prop} {A : OA} {l : List Nat} (h : tPt.els w S A l) (i : Nat) (hi : i < l.length) : ∃ (b o : Nat), A = some ⟨b, o, none⟩ ∧ S b ∧ w.cell? ⟨b, o + i, none⟩ = some (.pointer (some ⟨l[i], 0, none⟩)) := by
 obtain ⟨b, o, ds, rfl, hb, hc, hr⟩ := h.at_ i hi
 have hr : ds = [.pointer (some ⟨l[i], 0, none⟩)] := hr
 subst hr
 have := hc 0 _ rfl
 have e : tPt.size = 1 := rfl
 rw [e, Nat.mul_one, Nat.add_zero] at this
 exact ⟨b, o, rfl, hb, this⟩
def zRg : Rg := ⟨⟨0, false⟩, ⟨0, 0⟩⟩
theorem zRg_rd (w : World) (S : Nat → Prop) : tRg.rd w S [.int .i64 0, .bool false, .int .i64 0, .int .u64 0] zRg := kEn (a := zRg) rfl rfl rfl
theorem kMe (P off : Nat) (A : OA) (c : Nat) (xs : List Rg) (i : Int) (S : Nat → Prop) (w : World) (hc : w.cell? ⟨P, off, none⟩ = some (.slice A xs.length c)) (h : tRg.els w S A xs) (hS : Lt S w) (hl : xs.length ≤ 1000000) :
    Calls prog 138 #[.pointer (some ⟨P, off, none⟩), .int .i64 i] w (AtTo tRg zRg S xs i w) := by
 have F0 := hid (((Fr.refl No w).alloc (.cells #[.int .i64 0, .bool false, .int .i64 0, .int .u64 0] 180)).alloc (.cells #[.int .i64 0, .bool false, .int .i64 0, .int .u64 0] 180))
 have hPl : P < w.heap.size := World.block_lt_of_cell? w _ hc
 unfold AtTo
 rcases kBb xs i with ⟨k, hk, rfl⟩ | hi | ⟨hi0, hi⟩
 · obtain ⟨b, o, rfl, hb, y0, y1, y2, y3, f0, f1, f2⟩ := kDO h k hk
   rw [kCh hk]
   have i0 := nki k
   have i1 : (k : Int) < xs.length := om
   have hbl := hS b hb
   have HS := hid hS
   generalize xs[k] = y at *
   clear h hS hb
   have F1 := hid (((Fr.refl No w).alloc (.cells #[.int .i64 y.t.val, .bool y.t.mut_, .int .i64 y.v.t, .int .u64 y.v.n] 180)).alloc (.cells #[.int .i64 0, .bool false, .int .i64 0, .int .u64 0] 180))
   have G1 := hid ((Blk.new w 180 #[.int .i64 y.t.val, .bool y.t.mut_, .int .i64 y.v.t, .int .u64 y.v.n]).alloc (.cells #[.int .i64 0, .bool false, .int .i64 0, .int .u64 0] 180))
   have HR := hid (TyOk.keep (t := tRg) _ _ _ _ _ (kEn f0 f1 f2) (fun p hp => F1.o.cell (HS.o _ hp) id))
   go_enter func138, ntmps138
   go_wp2
   generalize (w.alloc (.cells #[.int .i64 y.t.val, .bool y.t.mut_, .int .i64 y.v.t, .int .u64 y.v.n] 180)).alloc (.cells #[.int .i64 0, .bool false, .int .i64 0, .int .u64 0] 180) = W at *
   have z0 := G1.o.cell 0
   have z1 := G1.o.cell 1
   have z2 := G1.o.cell 2
   have z3 := G1.o.cell 3
   exact bodyPost_ret (v := .tuple #[.agg #[.int .i64 y.t.val, .bool y.t.mut_, .int .i64 y.v.t, .int .u64 y.v.n], .bool true]) (by simp [results, Tryz.results138, go_sem, z0, z1, z2, z3]) rfl ⟨[.int .i64 y.t.val, .bool y.t.mut_, .int .i64 y.v.t, .int .u64 y.v.n], rfl, HR.o, F1.o⟩
 · rw [kBv (.inl hi)]
   clear h
   exact yy26
 rw [kBv (.inr hi)]
 clear h
 exact yy26
def zFi : Fi := ⟨⟨[], []⟩, 0, 0⟩
theorem kLU (P off : Nat) (A : OA) (c : Nat) (xs : List Nat) (i : Int) (S : Nat → Prop) (w : World) (hc : w.cell? ⟨P, off, none⟩ = some (.slice A xs.length c)) (h : tPt.els w S A xs) (hl : xs.length ≤ 1000000) :
    Calls prog 104 #[.pointer (some ⟨P, off, none⟩), .int .i64 i] w (AtPt xs i w) := by
 unfold AtPt
 rcases kBb xs i with ⟨k, hk, rfl⟩ | hi | ⟨hi0, hi⟩
 · obtain ⟨b, o, rfl, hb, y0⟩ := kGs h k hk
   rw [kBL hk]
   have i0 := nki k
   have i1 : (k : Int) < xs.length := om
   generalize xs[k] = y at *
   clear h hb
   go_enter func104, ntmps104
   exact yy82
 · rw [kBh (.inl hi)]
   clear h
   go_enter func104, ntmps104
   exact yy82
 rw [kBh (.inr hi)]
 clear h
 go_enter func104, ntmps104
 exact yy82
theorem kLV (P off : Nat) (A : OA) (c : Nat) (xs : List Nat) (i : Int) (S : Nat → Prop) (w : World) (hc : w.cell? ⟨P, off, none⟩ = some (.slice A xs.length c)) (h : tPt.els w S A xs) (hl : xs.length ≤ 1000000) :
    Calls prog 103 #[.pointer (some ⟨P, off, none⟩), .int .i64 i] w (AtPt xs i w) := by
 unfold AtPt
 rcases kBb xs i with ⟨k, hk, rfl⟩ | hi | ⟨hi0, hi⟩
 · obtain ⟨b, o, rfl, hb, y0⟩ := kGs h k hk
   rw [kBL hk]
   have i0 := nki k
   have i1 : (k : Int) < xs.length := om
   generalize xs[k] = y at *
   clear h hb
   go_enter func103, ntmps103
   exact yy82
 · rw [kBh (.inl hi)]
   clear h
   go_enter func103, ntmps103
   exact yy82
 rw [kBh (.inr hi)]
 clear h
 go_enter func103, ntmps103
 exact yy82
def Nw (w w' : World) (k : Nat) : Prop := w.heap.size ≤ k ∧ k < w'.heap.size
theorem Nw.up {w w1 w2 w3 : World} (h1 : w.heap.size ≤ w1.heap.size) (h2 : w2.heap.size ≤ w3.heap.size) {k : Nat} (h : Nw w1 w2 k) : Nw w w3 k := ⟨Nat.le_trans h1 h.1, ltl h.2 h2⟩
def kAa {α : Type} (t : Ty α) (x : α) (w : World) (e : Ending) (w' : World) : Prop := ∃ cs, e = .returned (.agg cs.toArray) ∧ t.rd w' (Nw w w') cs x ∧ Fr No w w'
theorem Ty.row.flat {α : Type} {t : Ty α} [kAh t] {w : World} {base : Nat} {S : Nat → Prop} {e : TypeId} {v : Value} {xs : List α} (h : t.row w base S e v xs) (S' : Nat → Prop) : t.row w base S' e v xs := by
 obtain ⟨css, h1, h2⟩ := h
 exact ⟨css, h1.flat w S', h2⟩
theorem kAl {α : Type} {t : Ty α} [TyOk t] [TyMore t] [kAh t] {w w1 w2 w' : World} {S : Nat → Prop} {el : TypeId} {l : List α} {A : OA} {c : Nat} {M : Nat → Prop} (h : t.row w2 w1.heap.size S el (.slice A l.length c) l) (h0 : w.heap.size ≤ w1.heap.size) (f : Fr M w2 w') (hM : ∀ k, w1.heap.size ≤ k → k < w2.heap.size → ¬ M k) :
    l.length ≤ c ∧ c ≤ maxLen ∧ t.els w' (Nw w w') A l := by
 obtain ⟨h1, h2, h3⟩ := kBK (h.flat Emp)
 refine ⟨h1, h2, (h3.fr f (fun k hk => ?_)).more (fun k hk => ?_)⟩
 · rcases hk with hk | hk
   · exact hk.elim
   exact ⟨hk.2, hM k hk.1 hk.2⟩
 rcases hk with hk | hk
 · exact hk.elim
 exact ⟨Nat.le_trans h0 hk.1, ltl hk.2 f.size⟩
theorem kBA {α : Type} {t : Ty α} [TyOk t] {w w' : World} {S : Nat → Prop} {A : OA} {xs : List α} (h : t.els w S A xs) (f : Fr No w w') (hS : Lt S w) : t.els w' S A xs := h.fr f fun k hk => ⟨hS k hk, fun x => x⟩
theorem kCz (f : Fn) (A1 A2 : OA) (c1 c2 : Nat) (S : Nat → Prop) (w : World) (hS : Lt S w) (h1 : tI.els w S A1 f.params) (h2 : tI.els w S A2 f.results) (b1 : f.params.length * 8 ≤ 140737488351232) (b2 : f.results.length * 8 ≤ 140737488351232) :
    Calls prog 72 #[.agg #[.slice A1 f.params.length c1, .slice A2 f.results.length c2]] w (kAa tFn f w) := by
 have F0 := hid (((Fr.refl No w).alloc (.cells #[.slice A1 f.params.length c1, .slice A2 f.results.length c2] 45)).alloc (.cells #[.slice none 0 0, .slice none 0 0] 45))
 have G0 := hid ((Blk.new w 45 #[.slice A1 f.params.length c1, .slice A2 f.results.length c2]).alloc (.cells #[.slice none 0 0, .slice none 0 0] 45))
 have G1 := hid (Blk.new1 w (.cells #[.slice A1 f.params.length c1, .slice A2 f.results.length c2] 45) 45 #[.slice none 0 0, .slice none 0 0])
 have H1 := hid h1
 have H2 := hid h2
 have HB1 := hid b1
 have HB2 := hid b2
 have HS := hid hS
 clear h1 h2 b1 b2 hS
 go_enter func72, ntmps72
 go_wp2
 generalize (w.alloc (.cells #[.slice A1 f.params.length c1, .slice A2 f.results.length c2] 45)).alloc (.cells #[.slice none 0 0, .slice none 0 0] 45) = W at *
 have hW : w.heap.size + 1 < W.heap.size := G1.o.lt
 have HSW : Hid (Lt S W) := fun k hk => ltl (HS.o k hk) F0.o.size
 have HX : Hid (∀ X, Fr No W X → Ce X w.heap.size 0 (.slice A1 f.params.length c1) ∧ Ce X w.heap.size 1 (.slice A2 f.results.length c2)) := fun X g => ⟨(G0.o.fr g id).cell 0, (G0.o.fr g id).cell 1⟩
 refine rwO (fun X => Ce X w.heap.size 0 (.slice A1 f.params.length c1) ∧ Ce X w.heap.size 1 (.slice A2 f.results.length c2)) [7] [0, 1, 3, 4, 2, 5, 6, 7] [2, 5, 7] (HX.o _ (Fr.refl _ _).drew) ?_
 refine rC ?_
 refine wpO_eff rfl rfl fun K hK => sz ?_
 refine (kBq A1 c1 f.params S _ (kBA H1.o (F0.o.drew) HS.o) HSW.o HB1.o).mono ?_
 rintro e w1 ⟨B1, d1, rfl, hr1, f1⟩
 have F1 := hid ((Fr.refl No W).drew.trans f1 i3)
 have R1 := hid hr1
 clear hr1 f1
 refine hK _ _ (fun _ => HX.o _ F1.o) ?_
 clear hK K
 refine rC ?_
 refine wpO_eff rfl rfl fun K hK => sz ?_
 refine (kBq A2 c2 f.results S _ (kBA H2.o (F0.o.trans F1.o i3) HS.o) (fun k hk => ltl (HSW.o k hk) F1.o.size) HB2.o).mono ?_
 rintro e w2 ⟨B2, d2, rfl, hr2, f2⟩
 have F2 := hid f2
 have R2 := hid hr2
 clear hr2 f2
 refine hK _ _ (fun _ => HX.o _ (F1.o.trans F2.o i3)) ?_
 clear hK K
 refine rC ?_
 have GZ := hid ((G1.o.fr F1.o id).fr F2.o id)
 have u0 : w2.cell? ⟨w.heap.size + 1, 0, none⟩ = some (.slice none 0 0) := GZ.o.cell 0
 have u1 : w2.cell? ⟨w.heap.size + 1, 1, none⟩ = some (.slice none 0 0) := GZ.o.cell 1
 have u2 : w2.frozen? ⟨w.heap.size + 1, 0, none⟩ = false := GZ.o.frozen 0
 have u3 : w2.frozen? ⟨w.heap.size + 1, 1, none⟩ = false := GZ.o.frozen 1
 refine wpO_eff rfl rfl fun K hK => sz ?_
 have FZ := hid (((Fr.refl (One (w.heap.size + 1)) w2).setCell ⟨w.heap.size + 1, 0, none⟩ (.slice B1 f.params.length d1) (fun _ => rfl)).setCell ⟨w.heap.size + 1, 1, none⟩ (.slice B2 f.results.length d2) (fun _ => rfl))
 have GY := hid ((GZ.o.set_ 0 (.slice B1 f.params.length d1)).set_ 1 (.slice B2 f.results.length d2))
 generalize (w2.setCell ⟨w.heap.size + 1, 0, none⟩ (.slice B1 f.params.length d1)).setCell ⟨w.heap.size + 1, 1, none⟩ (.slice B2 f.results.length d2) = X at *
 refine hK _ _ (fun h => by simp at h) ?_
 clear hK K
 refine wpO_nil ?_
 have y0 : Ce X (w.heap.size + 1) 0 (.slice B1 f.params.length d1) := GY.o.cell 0
 have y1 : Ce X (w.heap.size + 1) 1 (.slice B2 f.results.length d2) := GY.o.cell 1
 clear u0 u1 u2 u3
 go_wp2
 have s0 := F0.o.size
 have s1 := F1.o.size
 have s2 := F2.o.size
 obtain ⟨p1, p2, p3⟩ := kAl (w := w) R1.o (by show w.heap.size ≤ W.heap.size; omega) ((F2.o.mono (M := One (w.heap.size + 1)) (fun _ _ h => h.elim)).trans FZ.o i3) (fun k h1 _ h => by have h1 : W.heap.size ≤ k := h1; have h : k = w.heap.size + 1 := h; omega)
 obtain ⟨q1, q2, q3⟩ := kAl (w := w) R2.o om FZ.o (fun k h1 _ h => by have h : k = w.heap.size + 1 := h; omega)
 refine bodyPost_ret (v := .agg #[.slice B1 f.params.length d1, .slice B2 f.results.length d2]) (by simp [results, Tryz.results72, go_sem, y0, y1]) rfl ⟨[.slice B1 f.params.length d1, .slice B2 f.results.length d2], rfl, kNN p1 p2 p3 q1 q2 q3, ?_⟩
 exact F0.o.trans (((F1.o.trans F2.o i3).mono (M := One (w.heap.size + 1)) (fun _ _ h => h.elim)).trans FZ.o i3) (fun i hi h => by have h : i = w.heap.size + 1 := h; omega)
def CssF {α : Type} (t : Ty α) (w : World) (S : Nat → Nat → Prop) (css : List (LV)) (xs : List α) : Prop :=
 css.length = xs.length ∧ ∀ (i : Nat) (c : LV) (x : α), css[i]? = some c → xs[i]? = some x → t.rd w (S i) c x
theorem kGU {sz : Nat} : ∀ (css : List (LV)) (i m : Nat) (d : LV) (u : Value), (∀ c ∈ css, c.length = sz) → css[i]? = some d → m < sz → css.flatten.set (i * sz + m) u = (css.set i (d.set m u)).flatten
 | [], i, m, d, u, _, h, _ => by simp at h
 | c :: css, 0, m, d, u, hl, h, hm => by
  simp only [List.getElem?_cons_zero, Option.some.injEq] at h
  subst h
  have := hl c sm
  rw [List.set_cons_zero, List.flatten_cons, List.flatten_cons, Nat.zero_mul, Nat.zero_add, List.set_append_left _ _ (by omega)]
 | c :: css, i + 1, m, d, u, hl, h, hm => by
  simp only [List.getElem?_cons_succ] at h
  have hc := hl c sm
  rw [List.set_cons_succ, List.flatten_cons, List.flatten_cons, List.set_append_right _ _ (by rw [Nat.add_mul]; omega), show (i + 1) * sz + m - c.length = i * sz + m by rw [Nat.add_mul]; omega,
   kGU css i m d u (fun c hc => hl c (by simp [hc])) h hm]
section
variable {w : World} {base n c g sz : Nat} {e : TypeId} {css : List (LV)} {i : Nat} {d : LV}
theorem kIz (h : w.ownsRow base e sz (.slice (some ⟨g, 0, none⟩) n c) n css.flatten) (hl : ∀ c ∈ css, c.length = sz) (hd : css[i]? = some d) {j : Nat} {u : Value} (hu : d[j]? = some u) : w.cell? ⟨g, i * sz + j, none⟩ = some u := by
 have hf := kDw hl hd hu
 rcases h.2 with ⟨hv, _⟩ | ⟨g', cap, cur, hv, hb, hg, k1, k2, k3, k4⟩
 · cases hv
 injection hv with e1 e2 e3
 injection e1 with e1
 injection e1 with e1 _ _
 subst e1
 rw [Blk.cell (t := e) (cs := cur) hg, ← Array.getElem?_toList]
 rw [← k4, List.getElem?_take] at hf
 split at hf
 · exact hf
 cases hf
theorem kCk (h : w.ownsRow base e sz (.slice (some ⟨g, 0, none⟩) n c) n css.flatten) (k : Nat) : w.frozen? ⟨g, k, none⟩ = false := by
 rcases h.2 with ⟨hv, _⟩ | ⟨g', cap, cur, hv, hb, hg, k1, k2, k3, k4⟩
 · cases hv
 injection hv with e1 e2 e3
 injection e1 with e1
 injection e1 with e1 _ _
 subst e1
 exact Blk.frozen (t := e) (cs := cur) hg k
theorem kIy (h : w.ownsRow base e sz (.slice (some ⟨g, 0, none⟩) n c) n css.flatten) (hl : ∀ c ∈ css, c.length = sz) (hd : css[i]? = some d) {m : Nat} (hm : m < sz) (u : Value) :
    (w.setCell ⟨g, i * sz + m, none⟩ u).ownsRow base e sz (.slice (some ⟨g, 0, none⟩) n c) n (css.set i (d.set m u)).flatten := by
 have hfl := kGU css i m d u hl hd hm
 rw [← hfl]
 refine ⟨by rw [List.length_set]; exact h.1, ?_⟩
 rcases h.2 with ⟨hv, _⟩ | ⟨g', cap, cur, hv, hb, hg, k1, k2, k3, k4⟩
 · cases hv
 injection hv with e1 e2 e3
 injection e1 with e1
 injection e1 with e1 _ _
 subst e1 e3
 refine .inr ⟨g, c, cur.setIfInBounds (i * sz + m) u, rfl, hb, Blk.set_ (t := e) (cs := cur) hg _ _, k1, k2, by simpa using k3, ?_⟩
 rw [Array.toList_setIfInBounds, List.take_set, k4]
theorem kLB {w' : World} {M : Nat → Prop} {xs : LV} (h : w.ownsRow base e sz (.slice (some ⟨g, 0, none⟩) n c) n xs) (f : Fr M w w') (hg : ¬ M g) : w'.ownsRow base e sz (.slice (some ⟨g, 0, none⟩) n c) n xs := by
 refine ⟨h.1, ?_⟩
 rcases h.2 with ⟨hv, _⟩ | ⟨g', cap, cur, hv, hb, hg', k⟩
 · cases hv
 have hv0 := hv
 injection hv with e1 e2 e3
 injection e1 with e1
 injection e1 with e1 _ _
 subst e1
 exact .inr ⟨g, cap, cur, hv0, hb, Blk.fr (t := e) (cs := cur) hg' f hg, k⟩
theorem kBV {xs : LV} (h : w.ownsRow base e sz (.slice (some ⟨g, 0, none⟩) n c) n xs) : base ≤ g ∧ g < w.heap.size := by
 rcases h.2 with ⟨hv, _⟩ | ⟨g', cap, cur, hv, hb, hg', k⟩
 · cases hv
 injection hv with e1 e2 e3
 injection e1 with e1
 injection e1 with e1 _ _
 subst e1
 exact ⟨hb, Blk.lt (t := e) (cs := cur) hg'⟩
end
section
variable {α : Type} {t : Ty α} {w w' : World} {S S' : Nat → Nat → Prop} {css : List (LV)} {xs : List α}
theorem CssF.of {T : Nat → Prop} (h : Css t w T css xs) : CssF t w (fun _ => T) css xs := h
theorem CssF.toCss [hm : TyMore t] {T : Nat → Prop} (h : CssF t w S css xs) (hT : ∀ i k, i < xs.length → S i k → T k) : Css t w T css xs :=
 ⟨h.1, fun i c x e1 e2 => hm.more _ _ _ _ _ (h.2 i c x e1 e2) (fun k hk => hT i k (List.getElem?_eq_some_iff.1 e2).1 hk)⟩
theorem CssF.lens [hok : TyOk t] (h : CssF t w S css xs) : ∀ c ∈ css, c.length = t.size := by
 exact yy79
theorem CssF.keep [hok : TyOk t] [hm : TyMore t] (h : CssF t w S css xs) (hk : ∀ i p, i < xs.length → S i p.block → w'.cell? p = w.cell? p) (hS : ∀ i k, i < xs.length → S i k → S' i k) : CssF t w' S' css xs :=
 ⟨h.1, fun i c x e1 e2 => by
  have hi := (List.getElem?_eq_some_iff.1 e2).1
  exact hm.more _ _ _ _ _ (hok.keep _ w' _ _ _ (h.2 i c x e1 e2) (fun p hp => hk i p hi hp)) (fun k hk => hS i k hi hk)⟩
theorem CssF.upd [hok : TyOk t] [hm : TyMore t] (h : CssF t w S css xs) {i : Nat} {x : α} {d : LV} (hx : xs[i]? = some x) (hr : t.rd w' (S' i) d x) (hk : ∀ j p, j < xs.length → j ≠ i → S j p.block → w'.cell? p = w.cell? p) (hS : ∀ j k, j < xs.length → j ≠ i → S j k → S' j k) :
    CssF t w' S' (css.set i d) xs := by
 refine ⟨by rw [List.length_set]; exact h.1, fun j c y e1 e2 => ?_⟩
 have hj := (List.getElem?_eq_some_iff.1 e2).1
 by_cases hij : i = j
 · subst hij
   rw [hx] at e2
   rw [List.getElem?_set_self (by rw [h.1]; exact hj)] at e1
   simp only [Option.some.injEq] at e1 e2
   subst e1 e2
   exact hr
 rw [List.getElem?_set_ne hij] at e1
 exact hm.more _ _ _ _ _ (hok.keep _ w' _ _ _ (h.2 j c y e1 e2) (fun p hp => hk j p hj (fun e => hij e.symm) hp)) (fun k hk => hS j k hj (fun e => hij e.symm) hk)
end
def Sk (k : Nat) (X Y : Nat → Prop) (i b : Nat) : Prop := (i < k ∧ X b) ∨ (k ≤ i ∧ Y b)
def Nx (w w' : World) (g b : Nat) : Prop := Nw w w' b ∧ b ≠ g
def kMk {α : Type} (t : Ty α) (el : TypeId) (l : List α) (w : World) (e : Ending) (w' : World) : Prop :=
 ∃ (A : OA) (c : Nat), e = .returned (.slice A l.length c) ∧ t.row w' w.heap.size (fun b => Nw w w' b ∧ (Value.slice A l.length c).ownBlock ≠ some b) el (.slice A l.length c) l ∧ Fr No w w'
theorem kGj (A : OA) (c : Nat) (l : List Ca) (S : Nat → Prop) (w : World) (h : tCa.els w S A l) (hS : Lt S w) (hl : l.length * 32 ≤ 140737488351232) (ha : ∀ x ∈ l, x.args.length * 16 ≤ 140737488351232) :
    Calls prog 69 #[.slice A l.length c] w (kMk tCa 113 l w) := by
 have HCL := hid (kIp A c l S w h hS hl)
 have HA := hid ha
 have HS := hid hS
 clear h ha hS
 have hl2 : l.length ≤ 140737488351232 := om
 go_enter func69, ntmps69
 go_wp2_with fail
 refine HCL.o.mono ?_
 clear HCL
 rintro e w1 ⟨A1, k1, rfl, hr1, f1⟩
 have F1 := hid f1
 obtain ⟨css, hcss, hown⟩ := hr1
 have hlen := hcss.len
 rcases hown.2 with ⟨hv, h0⟩ | ⟨g, cap, cur, hv, hb, hg, -⟩
 · injection hv with e1 e2 e3
   subst e1 e3
   have hnil : l = [] := List.eq_nil_of_length_eq_zero e2
   subst hnil
   clear hown hcss f1
   go_wp2_with fail
   go_loopw [9] (fun i wr => i = .int .i64 0 ∧ wr = w1) (fun _ _ => 0)
   case atStart => exact ⟨rfl, rfl⟩
   obtain ⟨rfl, rfl⟩ := hrel
   go_wp2
   go_ret
   exact ⟨none, 0, rfl, Ty.row.nil _ _ _ _, F1.o⟩
 injection hv with e1 e2 e3
 subst e1 e3
 have hgl : g < w1.heap.size := Blk.lt (t := 113) (cs := cur) hg
 have HG := hid hb
 have HC0 := hid hcss
 have HO0 := hid hown
 clear hown hcss f1 hg hb hlen
 obtain ⟨n, hn⟩ : ∃ n, l.length = n := ⟨_, rfl⟩
 have HN := hid hn
 rw [hn] at HO0 hl2 ⊢
 clear hn hl
 go_wp2_with fail
 go_loopw [9] (fun i wr => ∃ (k : Nat) (css : List (LV)), k ≤ n ∧ i = .int .i64 k ∧ Hid (Fr (One g) w1 wr) ∧ Hid (CssF tCa wr (Sk k (Nx w wr g) S) css l) ∧ Hid (wr.ownsRow w.heap.size 113 2 (.slice (some ⟨g, 0, none⟩) n k1) n css.flatten)) (fun i _ => n - (intOf i).toNat)
 case atStart =>
  exact yy91
 clear HO0 HC0 css
 obtain ⟨k, css, hk, rfl, HF, HC, HO⟩ := hrel
 by_cases hlt : k < n
 · have hkl : k < l.length := by rw [HN.o]; exact hlt
   obtain ⟨d, hd⟩ : ∃ d, css[k]? = some d := ⟨_, List.getElem?_eq_getElem (by rw [HC.o.1]; exact hkl)⟩
   have hx : l[k]? = some l[k] := List.getElem?_eq_getElem hkl
   have hrd := HC.o.2 k d _ hd hx
   have hrd : tCa.rd wr S d l[k] := TyMore.more _ _ _ _ _ hrd (fun b hb => by
    rcases hb with ⟨h, _⟩ | ⟨_, h⟩
    · omega
    · exact h)
   have HX := hid hx
   have HAK := hid (HA.o _ (List.getElem_mem hkl))
   obtain ⟨B0, d0, rfl, w0, q1, q2, q3⟩ := kIE hrd
   clear hrd
   generalize l[k] = x at *
   have y0 := kIz HO.o HC.o.lens hd (j := 1) rfl
   have i0 := nki k
   have i1 : (k : Int) < n := om
   have HY := hid (kBA (w' := wr) q3 (Fr.refl No wr) (fun b hb => ltl (ltl (HS.o b hb) F1.o.size) HF.o.size))
   have HS2 : Hid (Lt S wr) := fun b hb => ltl (ltl (HS.o b hb) F1.o.size) HF.o.size
   have z1 := kCk HO.o (k * 2 + 1)
   have HD := hid hd
   have HW0 := hid w0
   clear q3 hd w0 hkl hx
   go_wp2_with (go_at_call 90; refine (kBx B0 d0 x.args S _ HY.o HS2.o HAK.o).mono ?_; rintro e w2 ⟨B1, d1, rfl, hr2, f2⟩; have F2 := hid f2; have R2 := hid hr2; clear f2 hr2; have y1 := (F2.o.frozen (p := ⟨g, k * 2 + 1, none⟩) (kBV HO.o).2 id).trans z1; have y2 := (F2.o.cell (p := ⟨g, k * 2 + 1, none⟩) (kBV HO.o).2 id).trans y0)
   go_roundw
   case rel =>
    have hgw := (kBV HO.o).2
    have hwg := (kBV HO.o).1
    have HO2 := kIy (kLB HO.o F2.o id) HC.o.lens HD.o (m := 1) dc (.slice B1 x.args.length d1)
    have f3 := (Fr.refl (One g) w2).setCell ⟨g, k * 2 + 1, none⟩ (.slice B1 x.args.length d1) (fun _ => rfl)
    have s1 := F1.o.size
    have s2 := HF.o.size
    have s3 := F2.o.size
    have hfr := HF.o.trans (F2.o.mono (M := One g) (fun _ _ h => h.elim)) i3
    obtain ⟨p1, p2, p3⟩ := kAl (w := wr) R2.o nr f3 (fun b h1 _ h => by have h : b = g := h; omega)
    refine ⟨k + 1, _, by omega, by go_num, hfr.trans f3 i3, ?_, HO2⟩
    have hf4 := F2.o.trans (Fr.refl No w2) i3
    have s4 := f3.size
    refine HC.o.upd HX.o (kKZ HW0.o p1 p2 (p3.more (S' := Sk (k + 1) (Nx w (w2.setCell ⟨g, k * 2 + 1, none⟩ (.slice B1 x.args.length d1)) g) S k) (fun b hb => .inl ⟨by omega, ⟨by have := hb.1; omega, hb.2⟩, fun e => by have := hb.1; omega⟩))) (fun j p hj hjk hp => ?_) (fun j b hj hjk hb => ?_)
    · have hpb : p.block < wr.heap.size ∧ p.block ≠ g := by
       rcases hp with ⟨_, hp, hne⟩ | ⟨_, hp⟩
       · exact ⟨hp.2, hne⟩
       have := HS.o _ hp; exact ⟨by omega, by omega⟩
      exact (f3.cell om hpb.2).trans (F2.o.cell hpb.1 id)
    rcases hb with ⟨h1, h2, hne⟩ | ⟨h1, h2⟩
    · exact .inl ⟨by omega, h2.up nr om, hne⟩
    exact .inr ⟨by omega, h2⟩
   simp [intOf]; omega
 go_wp2
 go_ret
 obtain rfl : k = n := om
 have hnl := HN.o
 rw [← hnl] at HO ⊢
 refine ⟨some ⟨g, 0, none⟩, k1, rfl, ⟨css, HC.o.toCss (fun i b hi hb => ?_), HO.o⟩, ?_⟩
 · rcases hb with ⟨_, h2, hne⟩ | ⟨h1, _⟩
   · exact ⟨h2, fun e => hne (Option.some.inj e).symm⟩
   omega
 exact F1.o.trans HF.o (fun i hi h => by have h : i = g := h; have := (kBV HO.o).1; omega)
end Go.Proofs.YtdckghiipijobaaGreat
