/- Contracts: Insts, Table, Global. -/
import Derived.Test.YthggdemiddjlgaaStRW
import Derived.Test.YthggdemiddjlgaaWide
namespace Go.Proofs.Ythggdemiddjlgaa
open Go.RowKit

section
variable {w : World} {R : Nat → Prop} {V : Pl} {x : Rx}
set_option maxRecDepth 100000 in
set_option maxHeartbeats 1600000 in
theorem stTable_any (h : StIn w R V x) (i : Int) (hn : x.tabs.length ≤ 1000000) :
    Calls Try.prog 35 #[.pointer (some ⟨V.P, 0, none⟩), .int .i64 i] w fun e w' => e = .returned (ptrV (getI (V.tp.map (·.1)) i)) ∧ Fr No w w' := by
  obtain ⟨A, c, hv, _, hel⟩ := h.sl_ta
  have hcell : w.cell? ⟨V.P, 4, none⟩ = some (.slice A (V.tp.map (·.1)).length c) := by rw [← hv]; exact h.blk.cell 4
  have HA := hid (atPtT_any V.P 4 A c (V.tp.map (·.1)) i (· < w.heap.size) w hcell hel (by simp [h.tl]; exact hn))
  clear hel hcell hv h
  go_enter Try.func35, Try.ntmps35
  go_wp2_with fail
  refine HA.out.mono ?_
  rintro e w1 ⟨rfl, f1⟩
  have F1 := hid f1
  clear HA f1
  go_wp2
  go_ret
  exact ⟨rfl, F1.out⟩
/-- A global's type and value, and the flag. -/
def GlTo (g : Rg) (ok : Bool) (w : World) (e : Ending) (w' : World) : Prop :=
  e = .returned (.tuple #[.agg #[.int .i64 g.t.val, .bool g.t.mut_], .agg #[.int .i64 g.v.t, .int .u64 g.v.n], .bool ok]) ∧ Fr No w w'
set_option maxRecDepth 100000 in
set_option maxHeartbeats 1600000 in
theorem global_any (h : StIn w R V x) (i : Int) (hn : x.globs.length ≤ 1000000) :
    Calls Try.prog 42 #[.pointer (some ⟨V.P, 0, none⟩), .int .i64 i] w (GlTo (atD zRg x.globs i).1 (atD zRg x.globs i).2 w) := by
  have F0 := hid (((Fr.refl No w).alloc (.cells #[.int .i64 0, .bool false] 37)).alloc (.cells #[.int .i64 0, .int .u64 0] 40))
  have G0 := hid ((Blk.new w 37 #[.int .i64 0, .bool false]).alloc (.cells #[.int .i64 0, .int .u64 0] 40))
  have G1 := hid (Blk.new1 w (.cells #[.int .i64 0, .bool false] 37) 40 #[.int .i64 0, .int .u64 0])
  obtain ⟨A, c, hv, _, hel⟩ := h.sl_gl
  have hcell : w.cell? ⟨V.P, 6, none⟩ = some (.slice A x.globs.length c) := by rw [← hv]; exact h.blk.cell 6
  have hPl : V.P < w.heap.size := h.lt V.oP
  have HA := hid (fun (X : World) (f : Fr No w X) => atGg_any V.P 6 A c x.globs i (· < w.heap.size) X ((f.cell (p := ⟨V.P, 6, none⟩) hPl (fun x => x)).trans hcell) (hel.fr f (fun k hk => ⟨hk, fun x => x⟩)) (fun k hk => Nat.lt_of_lt_of_le hk f.size) hn)
  clear hel hcell hv h hPl
  obtain ⟨ok, hok⟩ : ∃ ok, ok = (atD zRg x.globs i).2 := ⟨_, rfl⟩
  rw [← hok]
  have HOK := hid hok.symm
  clear hok
  go_enter Try.func42, Try.ntmps42
  go_wp2_with fail
  refine (HA.out _ F0.out).mono ?_
  rintro e w1 ⟨cs, rfl, hr, f1⟩
  obtain ⟨rfl, _⟩ := Rg_cells hr
  have F1 := hid (F0.out.trans f1 (fun _ _ h => h))
  replace G0 := hid (G0.out.fr f1 (fun x => x))
  replace G1 := hid (G1.out.fr f1 (fun x => x))
  clear HA hr f1 F0
  generalize (atD zRg x.globs i).1 = g at *
  obtain ⟨p, hp⟩ : ∃ p, p = w.heap.size := ⟨_, rfl⟩
  rw [← hp] at G0 G1
  simp only [← hp]
  have HPW := hid hp
  clear hp
  have F2 := hid (F1.out.alloc (.cells #[.int .i64 g.t.val, .bool g.t.mut_, .int .i64 g.v.t, .int .u64 g.v.n] 106))
  replace G0 := hid (G0.out.alloc (.cells #[.int .i64 g.t.val, .bool g.t.mut_, .int .i64 g.v.t, .int .u64 g.v.n] 106))
  replace G1 := hid (G1.out.alloc (.cells #[.int .i64 g.t.val, .bool g.t.mut_, .int .i64 g.v.t, .int .u64 g.v.n] 106))
  have G2 := hid (Blk.new w1 106 #[.int .i64 g.t.val, .bool g.t.mut_, .int .i64 g.v.t, .int .u64 g.v.n])
  go_upto_region 4 with fail
  generalize w1.alloc (.cells #[.int .i64 g.t.val, .bool g.t.mut_, .int .i64 g.v.t, .int .u64 g.v.n] 106) = W at *
  generalize w1.heap.size = q at *
  have n1 : q ≠ p := Blk.ne_ G2.out G0.out (by decide)
  have n2 : q ≠ p + 1 := Blk.ne_ G2.out G1.out (by decide)
  have z0 := G0.out.frozen 0
  have z1 := G0.out.frozen 1
  have z2 := G1.out.frozen 0
  have z3 := G1.out.frozen 1
  have HX : Hid (∀ X, Blk X q 106 #[.int .i64 g.t.val, .bool g.t.mut_, .int .i64 g.v.t, .int .u64 g.v.n] → X.cell? ⟨q, 0, none⟩ = some (.int .i64 g.t.val) ∧ X.cell? ⟨q, 1, none⟩ = some (.bool g.t.mut_) ∧ X.cell? ⟨q, 2, none⟩ = some (.int .i64 g.v.t) ∧ X.cell? ⟨q, 3, none⟩ = some (.int .u64 g.v.n)) := fun X b => ⟨b.cell 0, b.cell 1, b.cell 2, b.cell 3⟩
  refine wp_region_ord (fun X => X.cell? ⟨q, 0, none⟩ = some (.int .i64 g.t.val) ∧ X.cell? ⟨q, 1, none⟩ = some (.bool g.t.mut_) ∧ X.cell? ⟨q, 2, none⟩ = some (.int .i64 g.v.t) ∧ X.cell? ⟨q, 3, none⟩ = some (.int .u64 g.v.n)) [] [(0, true), (1, true), (2, true), (3, true), (4, true), (5, false), (6, false), (7, true)] (by kernel_rfl) (by kernel_rfl) (by kernel_rfl) rfl (HX.out _ G2.out.drew) ?_
  repeat (first
    | (refine wpO_skip rfl rfl ?_; simp only [List.getElem_toArray, List.getElem_cons_succ, List.getElem_cons_zero, Act.put, List.setIfInBounds_toArray, List.set_cons_zero, List.set_cons_succ])
    | (refine wpO_call rfl rfl ?_; simp only [List.getElem_toArray, List.getElem_cons_succ, List.getElem_cons_zero]; apply Exists.intro; refine ⟨fun X hX => ?_, ?_⟩
       · (have s0 := hX.1; have s1 := hX.2.1; have s2 := hX.2.2.1; have s3 := hX.2.2.2; go_simp; exact stillUpon_value)
       simp only [Act.put, List.setIfInBounds_toArray, List.set_cons_zero, List.set_cons_succ]))
  clear z0 z1 z2 z3
  refine wpO_eff rfl rfl (fun K hK => ?_)
  simp only [List.getElem_toArray, List.getElem_cons_succ, List.getElem_cons_zero]
  refine wp_store_mid 37 _ _ (by rfl) p 0 #[.int .i64 g.t.val, .bool g.t.mut_] (by rfl) (by rfl) (there_blk G0.out.drew rfl) (by kernel_rfl) (by simp [Value.oneCell']) ?_
  have F3 := hid (Fr.setCells' (M := fun k => k = p) (fun _ => rfl) [.int .i64 g.t.val, .bool g.t.mut_] 0 _ (Fr.refl _ W).drew)
  have N0 : Blk (W.drew.setCells p 0 [.int .i64 g.t.val, .bool g.t.mut_]) p 37 #[.int .i64 g.t.val, .bool g.t.mut_] := (G0.out.drew.set_ 0 _).set_ 1 _
  have N1 := G1.out.fr F3.out (fun e => by omega)
  have N2 := G2.out.fr F3.out n1
  have F4 := hid (Fr.setCells' (a := w) (b := p) (M := No) (fun h => absurd h (by have := HPW.out; omega)) [.int .i64 g.t.val, .bool g.t.mut_] 0 W.drew F2.out.drew)
  generalize W.drew.setCells p 0 [.int .i64 g.t.val, .bool g.t.mut_] = X1 at *
  refine hK _ _ (fun _ => HX.out _ N2) ?_
  clear hK K
  refine wpO_eff rfl rfl (fun K hK => ?_)
  simp only [List.getElem_toArray, List.getElem_cons_succ, List.getElem_cons_zero]
  refine wp_store_mid 40 _ _ (by rfl) (p + 1) 0 #[.int .i64 g.v.t, .int .u64 g.v.n] (by rfl) (by rfl) (there_blk N1 rfl) (by kernel_rfl) (by simp [Value.oneCell']) ?_
  have F5 := hid (Fr.setCells' (M := fun k => k = p + 1) (fun _ => rfl) [.int .i64 g.v.t, .int .u64 g.v.n] 0 _ (Fr.refl _ X1))
  have M1 : Blk (X1.setCells (p + 1) 0 [.int .i64 g.v.t, .int .u64 g.v.n]) (p + 1) 40 #[.int .i64 g.v.t, .int .u64 g.v.n] := (N1.set_ 0 _).set_ 1 _
  have M0 := N0.fr F5.out (fun e => by omega)
  have M2 := N2.fr F5.out n2
  have F6 := hid (Fr.setCells' (a := w) (b := p + 1) (M := No) (fun h => absurd h (by have := HPW.out; omega)) [.int .i64 g.v.t, .int .u64 g.v.n] 0 X1 F4.out)
  generalize X1.setCells (p + 1) 0 [.int .i64 g.v.t, .int .u64 g.v.n] = X2 at *
  refine hK _ _ (fun _ => HX.out _ M2) ?_
  clear hK K
  repeat (first
    | (refine wpO_skip rfl rfl ?_; simp only [List.getElem_toArray, List.getElem_cons_succ, List.getElem_cons_zero, Act.put, List.setIfInBounds_toArray, List.set_cons_zero, List.set_cons_succ])
    | (refine wpO_call rfl rfl ?_; simp only [List.getElem_toArray, List.getElem_cons_succ, List.getElem_cons_zero]; apply Exists.intro; refine ⟨fun X hX => ?_, ?_⟩
       · (have s0 := hX.1; have s1 := hX.2.1; have s2 := hX.2.2.1; have s3 := hX.2.2.2; go_simp; exact stillUpon_value)
       simp only [Act.put, List.setIfInBounds_toArray, List.set_cons_zero, List.set_cons_succ]))
  refine wpO_nil ?_
  have y0 := M0.cell 0
  have y1 := M0.cell 1
  have y2 := M1.cell 0
  have y3 := M1.cell 1
  clear M0 M1 M2 N0 N1 N2 F5 F3 G0 G1 G2 HX
  go_wp2
  exact bodyPost_ret (v := .tuple #[.agg #[.int .i64 g.t.val, .bool g.t.mut_], .agg #[.int .i64 g.v.t, .int .u64 g.v.n], .bool ok]) (by simp [results, Try.results42, go_sem, y0, y1, y2, y3, HOK.out]) rfl ⟨rfl, F6.out⟩
end
end Go.Proofs.Ythggdemiddjlgaa
