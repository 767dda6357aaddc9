/- Part 1 of the proof: lemmas and contracts of functions. No condition. -/
import Derived.Below
import Derived.Laws.OwnMore
import Derived.Deep.Draws
import Derived.Laws.Rows
import Derived.Deep.AppendLies
import Derived.Maps.AppendAt
import Derived.Laws.MakeOwn
import Derived.Laws.CopyOwn
import Derived.KernelRfl
import Derived.RegionTactic
import Derived.OwnWalk
import Derived.OpenShut
import Derived.OrdersHeld
import Derived.Deep.RegionHeld3
import Derived.Laws.StructEq
import Derived.Test.YtdckghiipijobaaGreatRows
import Derived.ChangeArms
import Derived.Carry
import Derived.SizedLaws
import Derived.WalkKit
import Derived.ProofKit
import Derived.WalkSpells
import Derived.Deep.MidRow
import Derived.Deep.WholeRow
import Derived.Deep.QuietTactic
import Derived.BigQuiet
import Derived.IntWalk
import GoSem.Core.Utf8
import Derived.WalkLawsBesides
import Derived.ChangeAlike
import Derived.Laws.BytesString
import Derived.Laws.RangeAny
import Derived.Lib.Strings
import Derived.Laws.Bits64b
import Derived.Laws.Shifts
import Derived.Deep.DeepCutAuto
import Derived.Lib.SliceRun
import Derived.Lib.AppendZerosOnto
set_option maxRecDepth 100000
set_option maxHeartbeats 12800000
set_option linter.unusedVariables false
set_option linter.unusedSimpArgs false
set_option linter.unusedSectionVars false
namespace Go.Proofs.YtdckghiipijobaaGreat
open Go.RowKit Go.Proofs.Tryz
theorem _root_.Go.RowKit.Hid.o {p : Prop} (h : Go.RowKit.Hid p) : p := h
theorem i2 {α : Sort _} {p : α → Prop} : ∀ a, p a → p a := fun _ h => h
theorem i3 {n : Nat} {p : Nat → Prop} : ∀ a, a < n → p a → p a := fun _ _ h => h
theorem tvv {α : Sort _} {p : α → Prop} : ∀ a, p a → True := fun _ _ => trivial
theorem ltl {a b c : Nat} (h : a < b) (k : b ≤ c) : a < c := Nat.lt_of_lt_of_le h k
theorem nz {n : Nat} : 0 ≤ n := Nat.zero_le n
theorem nr {n : Nat} : n ≤ n := Nat.le_refl n
theorem nki (k : Nat) : (0 : Int) ≤ k := Int.natCast_nonneg k
theorem om {P : Prop} (h : P := by omega) : P := h
theorem dc {P : Prop} (h : P := by decide) : P := h
theorem kr {P : Prop} (h : P := by kernel_rfl) : P := h
theorem sm {P : Prop} (h : P := by simp) : P := h
theorem so {P : Prop} (h : P := by simp; omega) : P := h
abbrev OA := Option Addr
abbrev LV := List Value
abbrev Lt (S : Nat → Prop) (w : World) : Prop := ∀ k, S k → k < w.heap.size
abbrev Ce (X : World) (b i : Nat) (v : Value) : Prop := X.cell? ⟨b, i, none⟩ = some v
theorem yy0 {P : Prop} (h : P := by
 refine hK _ _ (fun _ => HC.o _ fr1) ?_
 clear hK K hr1 fr1 hv1 hvl
 simp only [zC, Act.put]
 refine rC ?_
 obtain ⟨A1, k1, e1, hk1, hm1, _⟩ := R1.o.els (S' := fun _ => True) tvv tvv
 subst e1
 rw [show (xs ++ [x]).length = xs.length + 1 by simp] at R1 HV
 have z0 : w1.cell? ⟨P, off, none⟩ = some v := (HC.o _ FR.o).1
 have z1 : w1.frozen? ⟨P, off, none⟩ = false := (FR.o.frozen (p := ⟨P, off, none⟩) (by show P < _; omega) (fun e => HA.o.ne e.symm)).trans HJ.o.fz
 refine wpO_eff rfl rfl fun K hK => sz ?_
 refine hK _ _ (fun h => by simp at h) ?_
 clear hK K
 refine wpO_nil ?_
 go_wp2
 go_ret
 have := HJ.o.len
 refine ⟨.slice A1 (xs.length + 1) k1, rt_int (wrap64_len HJ.o.len), ?_, ?_, ?_, ?_⟩
 · exact R1.o.fr ((Fr.refl (One P) w1).setCell ⟨P, off, none⟩ _ (fun _ => rfl)) (fun k hk => ⟨ltl (HJ.o.lt k hk) FR.o.size, fun e => (HA.o.own k hk).2 e⟩) (fun k hk e => by
    rcases HV.o k hk with h1 | h1
    · exact HA.o.ne (h1.trans (congrArg some e))
    · have e : k = P := e
      omega)
 · exact (((F0.o.trans F1.o i3).mono (M := fun k => k = P ∨ v.ownBlock = some k) (fun _ _ h => h.elim)).trans FR.o (fun _ _ h => .inr h.symm)).setCell _ _ (fun _ => .inl rfl)
 · intro T cs hb
   exact blk_gone ((hb.fr F0.o id).fr F1.o id) FR.o HA.o.ne _
 intro k hk
 rcases HV.o k hk with h1 | h1
 · exact .inl h1
 exact .inr ⟨h1.1, by simpa [World.setCell] using h1.2⟩) : P := h
theorem yy1 {P : Prop} (h : P := by
 have z0 := G2.o.cell 0
 have z1 := G2.o.cell 1
 go_wp2_with fail
 refine (HC.o _ F2.o).mono ?_
 rintro e w3 ⟨cs, rfl, hr, f3⟩
 clear z0 z1 HC HX
 obtain ⟨B1, D1, B2, D2, rfl, r1, r2, r3, r4, r5, r6⟩ := Fn_cells hr
 have R3 := hid r3
 have R6 := hid r6
 clear hr r3 r6
 have F3 := ftr F2 f3
 have G3 := hid (G2.o.fr f3 id)
 have LT2 := hid G2.o.lt
 clear f3 F2 G2
 have z0 := G3.o.cell 0
 have z1 := G3.o.cell 1
 have y0 := G3.o.frozen 0
 have y2 : ∀ u, (w3.setCell ⟨w.heap.size, 0, none⟩ u).cell? ⟨w.heap.size, 1, none⟩ = some (.slice A2 f.ty.results.length c2) := fun u => (G3.o.set_ 0 u).cell 1
 have y3 : ∀ u, (w3.setCell ⟨w.heap.size, 0, none⟩ u).frozen? ⟨w.heap.size, 1, none⟩ = false := fun u => (G3.o.set_ 0 u).frozen 1
 go_upto_region 6 with fail
 have N1 := hid ((G3.o.set_ 0 (.slice B1 f.ty.params.length D1)).set_ 1 (.slice B2 f.ty.results.length D2))
 have F5 := hid ((F3.o.setCell ⟨w.heap.size, 0, none⟩ (.slice B1 f.ty.params.length D1) (fun h => absurd h (Nat.lt_irrefl _))).setCell ⟨w.heap.size, 1, none⟩ (.slice B2 f.ty.results.length D2) (fun h => absurd h (Nat.lt_irrefl _)))
 have fq := (((Fr.refl (fun k => k = w.heap.size) w3).setCell ⟨w.heap.size, 0, none⟩ (.slice B1 f.ty.params.length D1) (fun _ => rfl)).setCell ⟨w.heap.size, 1, none⟩ (.slice B2 f.ty.results.length D2) (fun _ => rfl))
 have hlq : Hid (∀ k, Nw w2 w3 k → k < w3.heap.size ∧ ¬ k = w.heap.size ∧ w.heap.size ≤ k) := by
  rintro k ⟨ha, hb⟩
  have h3 := LT2.o
  refine ⟨hb, ?_, ?_⟩ <;> omega
 have E3 := hid (R3.o.fr fq (fun k hk => ⟨(hlq.o k hk).1, (hlq.o k hk).2.1⟩))
 have E6 := hid (R6.o.fr fq (fun k hk => ⟨(hlq.o k hk).1, (hlq.o k hk).2.1⟩))
 have SZ := hid fq.size
 clear fq z0 z1 y0 y2 y3 G3 R3 R6 F3
 generalize (w3.setCell ⟨w.heap.size, 0, none⟩ (.slice B1 f.ty.params.length D1)).setCell ⟨w.heap.size, 1, none⟩ (.slice B2 f.ty.results.length D2) = W5 at *
 have K6 := hid (H.o.frNo F5.o.drew)
 have hup : ∀ k, Nw w2 w3 k → Sd W5.drew R k := fun k hk => ⟨ltl (hlq.o k hk).1 SZ.o, fun r => by have := H.o.low k r; have := (hlq.o k hk).2.2; omega⟩
 have RX : Hid (tFi.rd W5.drew (Sd W5.drew R) (q8x3 B1 B2 f D1 D2) f) := Fi_mk (a := f) r1 r2 (Ty.els.more (E3.o.fr (Fr.refl No W5).drew (fun k hk => ⟨ltl (hlq.o k hk).1 SZ.o, fun x => x⟩)) hup) r4 r5 (Ty.els.more (E6.o.fr (Fr.refl No W5).drew (fun k hk => ⟨ltl (hlq.o k hk).1 SZ.o, fun x => x⟩)) hup) wi wx
 clear hup E3 E6
 have HX : Hid (∀ X, Blk X w.heap.size 47 #[.slice B1 f.ty.params.length D1, .slice B2 f.ty.results.length D2, .int .i64 f.inst, .int .i64 f.index] → Ce X w.heap.size 0 (.slice B1 f.ty.params.length D1) ∧ Ce X w.heap.size 1 (.slice B2 f.ty.results.length D2) ∧ Ce X w.heap.size 2 (.int .i64 f.inst) ∧ Ce X w.heap.size 3 (.int .i64 f.index)) := fun X b => ⟨b.cell 0, b.cell 1, b.cell 2, b.cell 3⟩
 refine rwO (fun X => Ce X w.heap.size 0 (.slice B1 f.ty.params.length D1) ∧ Ce X w.heap.size 1 (.slice B2 f.ty.results.length D2) ∧ Ce X w.heap.size 2 (.int .i64 f.inst) ∧ Ce X w.heap.size 3 (.int .i64 f.index)) [] (List.range 6) [4] (HX.o _ N1.o.drew) ?_
 refine rC ?_
 refine wpO_eff rfl rfl fun K hK => sz ?_
 refine (addFi_any V.P 3 (Sd W5.drew R) V.fu x.funcs (q8x3 B1 B2 f D1 D2) f W5.drew (K6.o.addIn_fu RX.o hn)).mono ?_
 intro e w6 ha
 obtain ⟨V', R', rfl, h2, h3⟩ := K6.o.added_fu ha
 have H2 := hid h2
 have H3 := hid h3
 clear h2 h3 ha
 have G6 := N1.o.drew.fr H3.o.fr (fun o => by have := H.o.lt o; omega)
 refine hK _ _ (fun _ => HX.o _ G6) ?_
 clear hK K G6
 refine rC ?_
 refine wpO_nil ?_
 go_wp2
 go_ret
 exact ⟨V', R', rfl, H2.o, (Grown.of_no F5.o.drew).trans H3.o⟩) : P := h
theorem yy2 {P : Prop} (h : P := by
 obtain ⟨A1, k1, e1, _, _, _⟩ := R1.o.els (S' := fun _ => True) tvv tvv
 subst e1
 go_ret
 rw [← HN.o]
 refine ⟨A1, k1, rfl, ?_, F2.o⟩
 have := R1.o
 simpa [HN.o] using this) : P := h
theorem yy3 {P : Prop} (h : P := by
 obtain ⟨Bh, dh, _, _, e0', _, eho', _⟩ := Rx_two H.o.rf
 rw [hH6.o] at eho' e0'
 obtain ⟨b', o', A1', c1', A2', c2', A3', c3', rfl, hbS', _, _, t2, t3, _, _, _, _, _, _, _, _, q3', _⟩ := Ho_get eho' HHX.o
 have hbz := H.o.rs _ hbS'
 have HX2 : Hid (∀ X, Fr No Z X → Ce X w.heap.size 0 (.slice (some ⟨b', o', none⟩) x.hosts.length dh) ∧ Ce X b' (o' + k * 5 + 2) (.slice A1' hx.ty.params.length c1') ∧ Ce X b' (o' + k * 5 + 3) (.slice A2' hx.ty.results.length c2') ∧ Ce X ga 0 (.int .i64 a.kind) ∧ Ce X ga 1 (.slice Av a.vals.length cv) ∧ Ce X ga 2 (.int .i64 a.mem) ∧ Ce X ga 3 (.int .i64 a.at_) ∧ Ce X ga 4 (.int .u8 a.byte)) := hid (fun X f => by
  have gx := H.o.gx.fr f id
  have g := H.o.gb.fr f id
  exact ⟨(gx.cell 0).trans (by rw [← e0']; simp), (f.cell (p := ⟨b', o' + k * 5 + 2, none⟩) hbz id).trans t2, (f.cell (p := ⟨b', o' + k * 5 + 3, none⟩) hbz id).trans t3, g.cell 0, g.cell 1, g.cell 2, g.cell 3, g.cell 4⟩)
 have HQ3 := hid q3'
 clear e0' eho' t2 t3 q3' hbz hbS'
 refine rwO (Fr No Z) [] (List.range 13) [7] (Fr.refl _ Z).drew ?_
 refine rO HX2.o ?_
 refine wpO_eff rfl rfl fun K hK => sz ?_
 refine (rans_any a hx.ty.params.length hx.ty.results Av A1' A2' cv c1' c2' (Qs S w Z) Z.drew H.o.rs (H.o.ev.more (fun _ h => .inl h)) HQ3.o H.o.hc (by have := HAV.o; omega) (by have := HG.o.r; omega)).mono ?_
 rintro e wy ⟨Ax, cx, rfl, hcx, hex, fd⟩
 have FD : Hid (Fr No Z wy) := hid ((Fr.refl No Z).drew.trans fd i3)
 have HXE : Hid ((ansL a hx.ty.results).1.length ≤ cx ∧ tVl.els wy (Qs S w wy) Ax (ansL a hx.ty.results).1) := hid ⟨hcx, hex.more (fun b hb => hb.imp id (fun h => ⟨h.1, ltl h.2 fd.size⟩))⟩
 refine hK _ _ (fun _ => FD.o) ?_
 clear hK K
 clear fd hex hcx
 refine rO HX2.o ?_
 refine wpO_nil ?_
 replace H := hid (H.o.no FD.o)
 clear HX2 HQ3
 go_wp2_with (first | refine ldX H.o.gx HO2.o.1 ?_ | refine stX H.o.gr rfl HO2.o.1 HO2.o.2 ?_ | fail)
 exact H.o.fin HFIN.o HXE.o) : P := h
theorem yy4 {P : Prop} (h : P := by
 refine rC ?_
 refine wpO_nil ?_
 have y0 : W.cell? ⟨w.heap.size, 0, none⟩ = some (.int .i64 l.min) := G.o.cell 0
 have y1 : W.cell? ⟨w.heap.size, 1, none⟩ = some (.int .i64 l.max) := G.o.cell 1
 have y2 : W.cell? ⟨w.heap.size, 2, none⟩ = some (.bool l.has) := G.o.cell 2
 have y3 : W.cell? ⟨w.heap.size, 3, none⟩ = some (.slice A B.length c) := G.o.cell 3
 have z0 : W.cell? ⟨w.heap.size + 1, 0, none⟩ = some (.int .i64 0) := GR.o.cell 0
 have z1 : W.cell? ⟨w.heap.size + 1, 1, none⟩ = some (.int .i64 0) := GR.o.cell 1
 have z2 : W.cell? ⟨w.heap.size + 1, 2, none⟩ = some (.bool false) := GR.o.cell 2
 have z3 : W.cell? ⟨w.heap.size + 1, 3, none⟩ = some (.slice none 0 0) := GR.o.cell 3
 have q0 : W.frozen? ⟨w.heap.size + 1, 0, none⟩ = false := GR.o.frozen 0
 have q1 : W.frozen? ⟨w.heap.size + 1, 1, none⟩ = false := GR.o.frozen 1
 have q2 : W.frozen? ⟨w.heap.size + 1, 2, none⟩ = false := GR.o.frozen 2
 have q3 : W.frozen? ⟨w.heap.size + 1, 3, none⟩ = false := GR.o.frozen 3
 go_wp2
 have FZ := (((((Fr.refl (One (w.heap.size + 1)) W).setCell ⟨w.heap.size + 1, 0, none⟩ (.int .i64 l.min) (fun _ => rfl)).setCell ⟨w.heap.size + 1, 1, none⟩ (.int .i64 l.max) (fun _ => rfl)).setCell ⟨w.heap.size + 1, 2, none⟩ (.bool l.has) (fun _ => rfl)).setCell ⟨w.heap.size + 1, 3, none⟩ (.slice A B.length c) (fun _ => rfl))
 have FF := F.o.trans FZ.drew (fun i hi h => by simp only [One] at h; omega)
 exact bodyPost_ret (v := .tuple #[.agg (q11x8 l A B c), .int .i64 2]) (by simp [results, Tryz.results44, go_sem, z0, z1, z2, z3]) rfl ⟨A, c, rfl, HI.o.fr FF, .inl ⟨rfl, rfl⟩, FF⟩) : P := h
theorem yy5 {P : Prop} (h : P := by
 refine rC ?_
 refine wpO_nil ?_
 have y0 : W.cell? ⟨w.heap.size, 0, none⟩ = some (.int .i64 l.min) := G.o.cell 0
 have y1 : W.cell? ⟨w.heap.size, 1, none⟩ = some (.int .i64 l.max) := G.o.cell 1
 have y2 : W.cell? ⟨w.heap.size, 2, none⟩ = some (.bool l.has) := G.o.cell 2
 have y3 : W.cell? ⟨w.heap.size, 3, none⟩ = some (.slice A B.length c) := G.o.cell 3
 have z0 : W.cell? ⟨w.heap.size + 1, 0, none⟩ = some (.int .i64 0) := GR.o.cell 0
 have z1 : W.cell? ⟨w.heap.size + 1, 1, none⟩ = some (.int .i64 0) := GR.o.cell 1
 have z2 : W.cell? ⟨w.heap.size + 1, 2, none⟩ = some (.bool false) := GR.o.cell 2
 have z3 : W.cell? ⟨w.heap.size + 1, 3, none⟩ = some (.slice none 0 0) := GR.o.cell 3
 have q0 : W.frozen? ⟨w.heap.size + 1, 0, none⟩ = false := GR.o.frozen 0
 have q1 : W.frozen? ⟨w.heap.size + 1, 1, none⟩ = false := GR.o.frozen 1
 have q2 : W.frozen? ⟨w.heap.size + 1, 2, none⟩ = false := GR.o.frozen 2
 have q3 : W.frozen? ⟨w.heap.size + 1, 3, none⟩ = false := GR.o.frozen 3
 go_wp2
 have FZ := (((((Fr.refl (One (w.heap.size + 1)) W).setCell ⟨w.heap.size + 1, 0, none⟩ (.int .i64 l.min) (fun _ => rfl)).setCell ⟨w.heap.size + 1, 1, none⟩ (.int .i64 l.max) (fun _ => rfl)).setCell ⟨w.heap.size + 1, 2, none⟩ (.bool l.has) (fun _ => rfl)).setCell ⟨w.heap.size + 1, 3, none⟩ (.slice A B.length c) (fun _ => rfl))
 have FF := F.o.trans FZ.drew (fun i hi h => by simp only [One] at h; omega)
 exact bodyPost_ret (v := .tuple #[.agg (q4x0 l A B c), .int .i64 2]) (by simp [results, Tryz.results44, go_sem, z0, z1, z2, z3]) rfl ⟨A, c, rfl, HI.o.fr FF, .inl ⟨rfl, rfl⟩, FF⟩) : P := h
theorem yy6 {P : Prop} (h : P := by
 have i0 := nki k
 have i1 : (k : Int) < xs.length := om
 have i2 : (k : Int) < ys.length := om
 generalize hx : xs[k] = x at c1
 generalize hy : ys[k] = y at c2
 have HX := hid hx
 have HY := hid hy
 clear hx hy ha hb
 by_cases hxy : x = y
 · have hn : (x != y) = false := by simp [hxy]
   have HXY := hid hxy
   clear hxy
   go_wp2
   go_quiet (fail)
   go_wp2
   go_roundw
   case rel =>
    refine ⟨k + 1, _, by omega, by go_num, rfl, ?_⟩
    rw [List.take_succ_eq_append_getElem hlt, List.take_succ_eq_append_getElem (by omega), HQ.o, HX.o, HY.o, HXY.o]
   simp [intOf]; omega
 have hn : (x != y) = true := by simp [hxy]
 have HXY := hid hxy
 clear hxy
 go_wp2
 go_quiet (fail)
 go_wp2
 go_ret
 refine ⟨ret_bool ?_, m + nq, World.drewN_drewN _ _ _⟩
 symm
 rw [decide_eq_false_iff_not]
 rintro rfl
 exact HXY.o (HX.o.symm.trans HY.o)) : P := h
theorem yy7 {P : Prop} (h : P := by
 go_enter func41, ntmps41
 go_upto_region 1 with fail
 generalize (w.alloc (.cells cs.toArray 39)).alloc (.cells q12x0 39) = W at *
 have HT : Hid (W.there (w.heap.size + 1) 0 cs.toArray.size) := by
  have h := there_blk (n := 10) GR.o rfl
  have e : cs.toArray.size = 10 := HCL.o
  rw [e]
  exact h
 have HJ : Hid ((prog.info? 39).map (·.size) = some cs.toArray.size) := HI.o _ (show cs.toArray.size = 10 from HCL.o)
 have HO3 := hid (HON.o RF.o).2
 have RX : W.rangeAt w.heap.size 0 cs := by simpa using rangeAt_blk GX.o
 go_wp2_with (first
  | (refine wpList_load_mid (by rfl) 39 _ (by rfl) w.heap.size 0 (by rfl) _ _ RX underlying39 (by rfl) (HI.o _ HCL.o) ?_)
  | (refine wpList_store_mid (by rfl) 39 _ _ (by rfl) (w.heap.size + 1) 0 cs.toArray (by rfl) (by rfl) (by exact HT.o) (by exact HJ.o) (by exact HO3.o) ?_)
  | fail)
 have FT := Fr.setCells' (M := Bx w) (b := w.heap.size + 1) (fun _ => .inr rfl) cs 0 W (Fr.refl _ W)
 have FW := Fr.setCells' (a := w) (M := No) (b := w.heap.size + 1) (fun h => absurd h om) cs 0 W F0.o
 have RR := World.rangeAt_setCells_same W (w.heap.size + 1) 0 cs (show W.there _ 0 cs.length from HT.o)
 have hsz := F0.o.size
 refine bodyPost_ret (v := .tuple #[.agg cs.toArray, .slice none ([] : List Vl).length 0, .int .i64 12]) (results_wide3 (fn := f41) (p := 6) (t := 7) (u := 8) (ty := 39) rfl _ _ (w.heap.size + 1) _ _ (by rfl) RR underlying39 (by rfl) (HI.o _ HCL.o)) rfl ?_
 exact ⟨cs, none, 0, rfl, TyMore.more _ _ _ _ _ (q_rd RF.o HS.o F0.o.size FT) (fun k hk => hk.imp id (fun h => ⟨by have := h.1; omega, h.2⟩)), nr, .inl rfl, FW⟩) : P := h
theorem yy8 {P : Prop} (h : P := by
 have z0 := GB.o.cell 0
 have z1 := GB.o.cell 1
 have z2 := GB.o.cell 2
 have z3 := GB.o.cell 3
 have z4 := GB.o.cell 4
 have u0 := GB.o.frozen 0
 have u1 := GB.o.frozen 1
 have u2 := GB.o.frozen 2
 have u3 := GB.o.frozen 3
 have u4 := GB.o.frozen 4
 have hgal := GB.o.lt
 refine wpT_eff rfl rfl fun K hK => sz ?_
 have FS := hid ((((((Fr.refl (One ga) Y).setCell ⟨ga, 0, none⟩ (.int .i64 a.kind) (fun _ => rfl)).setCell ⟨ga, 1, none⟩ (.slice Av a.vals.length cv) (fun _ => rfl)).setCell ⟨ga, 2, none⟩ (.int .i64 a.mem) (fun _ => rfl)).setCell ⟨ga, 3, none⟩ (.int .i64 a.at_) (fun _ => rfl)).setCell ⟨ga, 4, none⟩ (.int .u8 a.byte) (fun _ => rfl))
 have GS := hid (((((GB.o.set_ 0 (.int .i64 a.kind)).set_ 1 (.slice Av a.vals.length cv)).set_ 2 (.int .i64 a.mem)).set_ 3 (.int .i64 a.at_)).set_ 4 (.int .u8 a.byte))
 clear z0 z1 z2 z3 z4 u0 u1 u2 u3 u4
 generalize ((((Y.setCell ⟨ga, 0, none⟩ (.int .i64 a.kind)).setCell ⟨ga, 1, none⟩ (.slice Av a.vals.length cv)).setCell ⟨ga, 2, none⟩ (.int .i64 a.mem)).setCell ⟨ga, 3, none⟩ (.int .i64 a.at_)).setCell ⟨ga, 4, none⟩ (.int .u8 a.byte) = Z at *
 have FYZ : Hid (Fr No w5 Z) := FY.o.trans FS.o (fun i hi h => by have h : i = ga := h; have := LG.o; omega)
 refine hK _ _ (FYZ.o) ?_
 clear hK K
 refine rT HX5.o ?_
 refine wpT_nil ?_
 go_wp2
 go_meet
 refine ⟨ga, Av, cv, rfl, FYZ.o, LG.o, GS.o, hcv, ?_⟩
 exact (EY.o.fr FS.o (fun b hb => ⟨hb.1.2, fun e => hb.2 e⟩)).more (fun b hb => ⟨hb.1.up nr FS.o.size, hb.2⟩)) : P := h
theorem yy9 {P : Prop} (h : P := by
 generalize w2.alloc (.cells cs2.toArray 39) = W3 at *
 generalize w2.heap.size = q at *
 go_wp2_with (first | refine ldX GY.o HL2.o ?_ | refine stX GQ.o rfl HL2.o HO2.o ?_ | fail)
 exact HD.fin GG.o K1.o F3.o RF2.o GQ.o) : P := h
theorem yy10 {P : Prop} (h : P := by
 have H := hid h
 have HS := hid hS
 have HCL := hid (rx_one h)
 obtain ⟨A6, c6, e6, -, -, EG6⟩ := Rx_g6 H.o
 have HE6 := hid e6
 clear e6
 clear h hS
 go_enter func38, ntmps38
 go_upto_region 1 with fail
 generalize (((w.alloc (.cells cs.toArray 39)).alloc (.cells #[.int .i64 v.t, .int .u64 v.n] 57)).alloc (.cells z10 39)) = W0 at *
 have HX : Hid (∀ X, Fr No W0 X → Ce X (w.heap.size + 1) 0 (.int .i64 v.t) ∧ Ce X (w.heap.size + 1) 1 (.int .u64 v.n) ∧ Ce X w.heap.size 6 (.slice A6 x.globs.length c6)) := fun X f => ⟨(G1.o.fr f id).cell 0, (G1.o.fr f id).cell 1, (G0.o.fr f id).at_ HE6.o⟩
 refine rwO (fun X => Ce X (w.heap.size + 1) 0 (.int .i64 v.t) ∧ Ce X (w.heap.size + 1) 1 (.int .u64 v.n) ∧ Ce X w.heap.size 6 (.slice A6 x.globs.length c6)) [] (List.range 26) [23] (HX.o _ (Fr.refl No _).drew) ?_
 refine rC ?_
 refine wpO_skipE rfl rfl (HX.o _ (Fr.refl No _).drew) ?_
 simp only [List.getElem_toArray, List.getElem_cons_succ, List.getElem_cons_zero, Act.put, List.setIfInBounds_toArray, List.set_cons_zero, List.set_cons_succ]
 refine rC ?_
 refine wpO_nil ?_
 replace F0 := hid F0.o.drew
 replace G0 := hid G0.o.drew
 replace G1 := hid G1.o.drew
 replace G2 := hid G2.o.drew
 clear HX
 generalize W0.drew = W at *
 go_upto_region 2 with fail
 go_wp2_with (first | refine ldX G0.o HCL.o.1 ?_ | refine stX G2.o rfl HCL.o.1 HCL.o.2 ?_ | fail)
 exact ryes (rnc H.o HS.o F0.o G2.o om)) : P := h
theorem yy11 {P : Prop} (h : P := by
 go_enter func135, ntmps135
 go_upto_region 3 with (at_builtin; refine wpList_appC (t := tB) (base := w.heap.size) (S := Emp) (xs := []) (ys := []) (dss := []) (B2 := w.heap.size) elBs rfl rfl rfl rfl (Ty.row.nil _ _ _ _) Css.nil Rd.nil rfl sm sm (fun _ h => h.elim) nr ?_; intro v1 w1 hr1 fr1 hv1; have F1 := hid (fr1.mono (N := fun k => some k = (Value.slice none 0 0).ownBlock) (M := No) (fun _ _ h => by simp [Value.ownBlock] at h)); have R1 := hid hr1; clear hr1 fr1 hv1)
 go_upto_region 4 with (at_builtin; refine wpList_appC (t := tB) (base := w.heap.size) (S := Emp) (v := v1) (xs := [] ++ []) (ys := []) (dss := []) (B2 := w.heap.size) elBs rfl rfl rfl rfl R1.o Css.nil Rd.nil rfl sm sm (fun _ h => h.elim) F1.o.size ?_; intro v2 w2 hr2 fr2 hv2; have F2 := hid (own_frame R1.o F1.o fr2 nr); have R2 := hid hr2; clear hr2 fr2 hv2)
 go_wp2_with (at_builtin; refine wpList_appC (t := tB) (base := w.heap.size) (S := Emp) (v := v2) (xs := [] ++ [] ++ []) (ys := []) (dss := []) (B2 := w.heap.size) elBs rfl rfl rfl rfl R2.o Css.nil Rd.nil rfl sm sm (fun _ h => h.elim) F2.o.size ?_; intro v3 w3 hr3 fr3 hv3; have F3 := hid (own_frame R2.o F2.o fr3 nr); have R3 := hid hr3; clear hr3 fr3 hv3)
 all_goals
  obtain ⟨A3, c3, e3, _, _, _⟩ := R3.o.els (S' := fun _ => True) tvv tvv
  subst e3
  go_ret
  exact ⟨A3, c3, rfl, R3.o, F3.o⟩) : P := h
theorem yy12 {P : Prop} (h : P := by
 obtain ⟨b, o, rfl, _, c1⟩ := bl_at ha k hlt
 obtain ⟨b', o', rfl, _, c2⟩ := bl_at hb k om
 have i0 := nki k
 have i1 : (k : Int) < xs.length := om
 have i2 : (k : Int) < ys.length := om
 generalize hx : xs[k] = x at c1
 generalize hy : ys[k] = y at c2
 have HX := hid hx
 have HY := hid hy
 clear hx hy ha hb
 cases x with
 | true =>
  cases y with
  | true =>
   go_wp2
   go_quiet (fail)
   go_wp2
   go_roundw
   case rel =>
    refine ⟨k + 1, _, by omega, by go_num, rfl, ?_⟩
    rw [List.take_succ_eq_append_getElem hlt, List.take_succ_eq_append_getElem (by omega), HQ.o, HX.o, HY.o]
   case measure => simp [intOf]; omega
  | false =>
   go_wp2
   go_quiet (fail)
   go_wp2
   go_ret
   refine ⟨ret_bool ?_, m + nq, World.drewN_drewN _ _ _⟩
   symm
   rw [decide_eq_false_iff_not]
   rintro rfl
   cases HX.o.symm.trans HY.o
 | false =>
  cases y with
  | true =>
   go_wp2
   go_quiet (fail)
   go_wp2
   go_ret
   refine ⟨ret_bool ?_, m + nq, World.drewN_drewN _ _ _⟩
   symm
   rw [decide_eq_false_iff_not]
   rintro rfl
   cases HX.o.symm.trans HY.o
  | false =>
   go_wp2
   go_quiet (fail)
   go_wp2
   go_roundw
   case rel =>
    refine ⟨k + 1, _, by omega, by go_num, rfl, ?_⟩
    rw [List.take_succ_eq_append_getElem hlt, List.take_succ_eq_append_getElem (by omega), HQ.o, HX.o, HY.o]
   case measure => simp [intOf]; omega) : P := h
theorem yy13 {P : Prop} (h : P := by
 go_wp2_with (first | refine ldX G0.o HCL.o.1 ?_ | refine stX G2.o rfl HCL.o.1 HCL.o.2 ?_ | fail)
 exact ryes (rnc H.o HS.o F0.o G2.o om)) : P := h
theorem yy14 {P : Prop} (h : P := by
 have h1 := H.2 j (ready_mono hj hji)
 obtain ⟨hjun, oj, hoj, hall⟩ := mem_ready.1 hj
 have hnot : ∀ e ∈ oj.after, Region.binds md e = true → e.on ≠ i := fun e he hb heq => by
  have h1 := hall e he hb
  have h0 := (mem_ready.1 hr).1
  rw [heq] at h1
  rcases Nat.lt_or_ge i L.size with h' | h'
  · simp [h'] at h0 h1; rw [h0] at h1; cases h1
  simp [Array.getElem?_eq_none h'] at h1
 have h2 := wpOp_putQ hoj (hfree j oj hoj hji hjun hnot) (fun cs b => hsel i oi cs b hi) (fun cs b => hsel j oj cs b hoj) hQ hy h1
 have hfree' : ∀ k ok, ops[k]? = some ok → k ≠ i → (L.setIfInBounds j true).getD k true = false →
     (∀ e ∈ ok.after, Region.binds md e = true → e.on ≠ i) → oi.apart ops ok = true := fun k ok hk hki hun hno => by
  refine hfree k ok hk hki ?_ hno
  by_cases hjk : j = k
  · subst hjk; exact hjun
  rw [getD_set_ne true hjk] at hun; exact hun
 refine wpOp_mono (fun a' w' h3 => ?_) h2
 have h4 : SL S fins (L.setIfInBounds j true) w' := by
  refine SL_unset (i := i) hif ?_
  rw [← Array.setIfInBounds_comm _ _ (Ne.symm hji)]
  exact h3.2.1
 refine ⟨h4, ih (L.setIfInBounds j true) a' w' (clo_set hc hj) hfree' (ready_mono hr (Ne.symm hji)) h3.1 h4 ?_⟩
 rw [Array.setIfInBounds_comm _ _ hji]
 exact h3.2.2) : P := h
theorem yy15 {P : Prop} (h : P := by
 have hkn : k = xs.length := om
 subst hkn
 rw [List.take_length] at HR
 obtain ⟨A', c', rfl, HL⟩ := eachEnd HR.o
 go_wp2
 go_ret
 exact ⟨A', c', rfl, HL.o.1, HL.o.2.1, HL.o.2.2, F1.o⟩) : P := h
theorem yy16 {P : Prop} (h : P := by
 refine ⟨⟨k + 1, hlt, rfl, F3, by rw [List.take_succ_eq_append_getElem hlt]; exact R3⟩, ?_⟩
 show xs.length - ((k : Int) + 1).toNat < xs.length - ((k : Int)).toNat
 omega) : P := h
theorem yy17 {P : Prop} (h : P := by
 clear hx
 cases hr : isR x with
 | false =>
  have hq : okI (x : Int) = false := hok.o.trans hr
  have HR := hid hr
  clear hr
  go_wp2_with (go_at_call 212; refine (is_any _ _).mono ?_; rintro e w' ⟨rfl, rfl⟩)
  go_ret2
  refine ⟨?_, rfl⟩
  unfold decI
  rw [HD.o, if_pos (.inr HR.o)]
  rfl
 | true =>
  have hq : okI (x : Int) = true := hok.o.trans hr
  have HR := hid hr
  clear hr
  go_wp2_with (go_at_call 212; refine (is_any _ _).mono ?_; rintro e w' ⟨rfl, rfl⟩)
  go_ret2
  refine ⟨?_, rfl⟩
  unfold decI
  rw [HD.o, if_neg (by rw [HR.o]; have := HX.o; simp; omega)]
  rfl) : P := h
theorem yy18 {P : Prop} (h : P := by
 go_wp2
 go_ret
 exact ⟨none, 0, rfl, Ty.row.nil _ _ _ _, Fr.refl No w⟩) : P := h
theorem yy19 {P : Prop} (h : P := by
 clear z0_0 z0_1 z0_2 z0_3
 replace G0 := hid (KG.o _ _ _ G0.o dc)
 replace G2 := hid (KG.o _ _ _ G2.o dc)
 clear KG FW1 FT1 G1
 have FT2 := ftr F0 FW2.o
 obtain ⟨A', c', e2, l1, l2, E2⟩ := R2.o.els (S' := fun k => S k ∨ v2.ownBlock = some k) (fun _ h => .inl h) (fun g hg => .inr hg)
 have e3 : ([] ++ x.funcs ++ [(f : Fi)]).length = x.funcs.length + 1 := by simp
 have HR := hid (And.intro (And.intro l1 l2) (And.intro E2 (fun g (e : v2.ownBlock = some g) => R2.o.own e)))
 rw [e3] at e2
 subst e2
 clear R2 l1 l2 E2
 have y := G0.o.frozen 3
 have y' := G0.o.at_ HE3.o
 go_upto_region 9 with fail
 clear y y'
 obtain ⟨N0, N1, HL2, HO2⟩ := setf G0.o G2.o om H.o 3 (.slice A' (x.funcs.length + 1) c') rfl
 go_wp2_with (first | refine ldX N0.o HL2.o ?_ | refine stX N1.o rfl HL2.o HO2.o ?_ | fail)
 exact ryes (rcore (x' := { x with funcs := x.funcs ++ [(f : Fi)] }) (t := tFi) (ys := [] ++ x.funcs ++ [(f : Fi)]) (fun f hB l m e => Rx_p3 H.o f HS.o hB l m e) H.o FT2.o G0.o G2.o om HR.o e3 HSS.o (by have := FW2.o.size; omega) F0.o.size dc)) : P := h
theorem yy20 {P : Prop} (h : P := by
 clear HC
 by_cases hxy : x = y
 · have hd : decide (x = y) = true := by simp [hxy]
   have HXY := hid hxy
   rw [hd]
   clear hxy hd
   go_wp2
   go_roundw
   case rel =>
    refine ⟨k + 1, by omega, by go_num, ?_, F1.o⟩
    show List.take (k + 1) xs = List.take (k + 1) ys
    rw [HX.o, HY.o, HQ.o, HXY.o]
   simp [intOf]; omega
 have hd : decide (x = y) = false := by simp [hxy]
 have HXY := hid hxy
 rw [hd]
 clear hxy hd
 go_wp2
 go_ret
 refine ⟨ret_bool ?_, F1.o⟩
 symm
 rw [decide_eq_false_iff_not]
 exact HNE.o HXY.o) : P := h
theorem yy21 {P : Prop} (h : P := by
 symm
 rw [decide_eq_true_eq]
 have h := HQ.o
 have h' := hL.o
 rwa [List.take_of_length_le om, List.take_of_length_le om] at h) : P := h
theorem yy22 {P : Prop} (h : P := by
 refine ⟨.slice A1 (xs.length + 1) k1, rt_int (wrap64_len HJ.o.len), ?_, ?_, ?_, ?_⟩
 · exact R1.o.fr ((Fr.refl (One P) w1).setCell ⟨P, off, none⟩ _ (fun _ => rfl)) (fun k hk => ⟨ltl (HJ.o.lt k hk) FR.o.size, fun e => (HA.o.own k hk).2 e⟩) (fun k hk e => by
    have e : k = P := e
    rcases HV.o with h1 | h1
    · rw [hk] at h1; exact HA.o.ne (h1.symm.trans (congrArg some e))
    · rw [hk] at h1; have := Option.some.inj h1; omega)
 · exact ((F0.o.mono (M := fun k => k = P ∨ v.ownBlock = some k) (fun _ _ h => h.elim)).trans FR.o (fun _ _ h => .inr h.symm)).setCell _ _ (fun _ => .inl rfl)
 · intro T cs hb
   exact blk_gone (hb.fr F0.o id) FR.o HA.o.ne _
 intro k hk
 rcases HV.o with h1 | h1
 · exact .inl (h1.symm.trans hk)
 refine .inr ?_
 obtain ⟨_, cs1, hb1⟩ := R1.o.own hk
 rw [hk] at h1
 have := Option.some.inj h1
 have := hb1.lt
 exact ⟨by omega, by simpa [World.setCell] using hb1.lt⟩) : P := h
theorem yy23 {P : Prop} (h : P := by
 have H := hid h
 have HS := hid hS
 have HCL := hid (rx_one h)
 have HV1 := hid h1
 clear h1
 clear h hS
 go_enter func122, ntmps122
 go_wp2_with fail
 generalize ((((w.alloc (.cells cs.toArray 39)).alloc (.cells #[.int .i64 g.val, .bool g.mut_] 54)).alloc (.cells #[.int .i64 v.t, .int .u64 v.n] 57)).alloc (.cells z10 39)) = W0 at *
 refine (r6glob_any g _).mono ?_
 rintro e wa ⟨rfl, f1⟩
 replace F0 := ftr F0 f1
 replace G0 := hid (G0.o.fr f1 id)
 replace G1 := hid (G1.o.fr f1 id)
 replace G2 := hid (G2.o.fr f1 id)
 replace G3 := hid (G3.o.fr f1 id)
 clear f1
 rw [HV1.o]
 have z1_0 := G1.o.cell 0
 have z1_1 := G1.o.cell 1
 have z2_0 := G2.o.cell 0
 have z2_1 := G2.o.cell 1
 go_upto_region 2 with fail
 clear z1_0 z1_1
 clear z2_0 z2_1
 generalize wa = W at *
 go_wp2_with (first | refine ldX G0.o HCL.o.1 ?_ | refine stX G3.o rfl HCL.o.1 HCL.o.2 ?_ | fail)
 exact ryes (rnc H.o HS.o F0.o G3.o om)) : P := h
theorem yy24 {P : Prop} (h : P := by
 rcases hv1 with e | e
 · exact .inl (e.symm.trans hk)
 refine .inr ?_
 obtain ⟨_, cs1, hb1⟩ := hr1.own hk
 rw [e] at hk; injection hk with hk
 have := HG.o
 exact ⟨by omega, hb1.lt⟩) : P := h
theorem yy25 {P : Prop} (h : P := by
 go_upto_region 2 with fail
 generalize ((w.alloc (.cells cs.toArray 39)).alloc (.cells z10 39)) = W at *
 go_wp2_with (first | refine ldX G0.o HCL.o.1 ?_ | refine stX G1.o rfl HCL.o.1 HCL.o.2 ?_ | fail)
 exact ryes1 (rnc H.o HS.o F0.o G1.o om)) : P := h
theorem yy26 {P : Prop} (h : P := by
 go_enter func138, ntmps138
 go_wp2
 have G1 := (Blk.new w 180 #[.int .i64 0, .bool false, .int .i64 0, .int .u64 0]).alloc (.cells #[.int .i64 0, .bool false, .int .i64 0, .int .u64 0] 180)
 generalize (w.alloc (.cells #[.int .i64 0, .bool false, .int .i64 0, .int .u64 0] 180)).alloc (.cells #[.int .i64 0, .bool false, .int .i64 0, .int .u64 0] 180) = W at *
 have z0 := G1.cell 0
 have z1 := G1.cell 1
 have z2 := G1.cell 2
 have z3 := G1.cell 3
 exact bodyPost_ret (v := .tuple #[.agg #[.int .i64 0, .bool false, .int .i64 0, .int .u64 0], .bool false]) (by simp [results, Tryz.results138, go_sem, z0, z1, z2, z3]) rfl ⟨[.int .i64 0, .bool false, .int .i64 0, .int .u64 0], rfl, zRg_rd _ _, F0.o⟩) : P := h
theorem yy27 {P : Prop} (h : P := by
 go_upto_region 1 with fail
 try simp only [World.size_alloc]
 generalize (w.alloc (.cells (q8x5 A1 A2 f c1 c2) 45)).alloc (.cells (q8x6 B1 B2 g d1 d2) 45) = W at *
 generalize hp : w.heap.size = p at *
 clear hp
 have z0 := G0.o.cell 0
 have z1 := G1.o.cell 0
 go_wp2_with fail
 refine (HP.o _ F0.o).mono ?_
 rintro e w1 ⟨rfl, n, rfl⟩
 clear z0 z1
 have z0 := (G0.o.drewN n).cell 1
 have z1 := (G1.o.drewN n).cell 1
 have F1 := hid (F0.o.drewN n)
 generalize World.drewN W n = W1 at *
 cases q1 with
 | false =>
  go_wp2
  go_ret
  exact ⟨rfl, F1.o⟩
 | true =>
  go_wp2_with fail
  refine (HR.o _ F1.o).mono ?_
  rintro e w2 ⟨rfl, m, rfl⟩
  go_wp2
  go_ret
  exact ⟨by simp, F1.o.drewN m⟩) : P := h
theorem yy28 {P : Prop} (h : P := by
 intro i z t h1 h2
 have o := h.tbk (List.mem_of_getElem? h1)
 exact (h.tat i z t h1 h2).fr f (nP o.1 dc dc) (nP o.2 dc dc)) : P := h
theorem yy29 {P : Prop} (h : P := by
 intro i z t h1 h2
 have o := h.mbk (List.mem_of_getElem? h1)
 exact (h.mat i z t h1 h2).fr f (nP o.1 dc dc) (nP o.2 dc dc)) : P := h
theorem yy30 {P : Prop} (h : P := by
 go_enter func92, ntmps92
 go_wp2_with fail
 refine (mem_any K0.o a.mem hn).mono ?_
 rw [HN.o]
 rintro e w1 ⟨rfl, f1⟩
 have F1 := hid f1
 have G1 := hid (G0.o.fr f1 id)
 clear f1
 simp only [ptrV]
 go_wp2_with fail
 have HX : Hid (∀ X, Fr No w1 X → Ce X w.heap.size 3 (.int .i64 a.at_)) := fun X f => (G1.o.fr f id).cell 3
 refine rwO (fun X => Ce X w.heap.size 3 (.int .i64 a.at_)) [] (List.range 15) [11] (HX.o _ (Fr.refl _ _).drew) ?_
 refine rC ?_
 refine wpO_skipE rfl rfl (HX.o _ (Fr.refl _ _).drew) ?_
 simp only [zA, zC, Act.put]
 refine rC ?_
 refine wpO_nil ?_
 go_wp2
 go_ret
 exact GrTo.no H.o (F0.o.trans F1.o.drew i3)) : P := h
theorem yy31 {P : Prop} (h : P := by
 have g := F0.o.trans f i3
 have hb1 := HS.o _ HBS.o.1
 have hb2 := HS.o _ HBS.o.2
 have gx := GX.o.fr f id
 exact ⟨(gx.cell 0).trans (by rw [← HE0.o]; simp), (gx.cell 1).trans (by rw [← HE1.o]; simp), (g.cell (p := ⟨b, o + k * 5, none⟩) hb1 id).trans HY.o.1, (g.cell (p := ⟨b, o + k * 5 + 1, none⟩) hb1 id).trans HY.o.2.1, (g.cell (p := ⟨b, o + k * 5 + 2, none⟩) hb1 id).trans HY.o.2.2.1, (g.cell (p := ⟨b, o + k * 5 + 3, none⟩) hb1 id).trans HY.o.2.2.2.1, (g.cell (p := ⟨b, o + k * 5 + 4, none⟩) hb1 id).trans HY.o.2.2.2.2.1, (g.cell (p := ⟨bc, oc + k, none⟩) hb2 id).trans HY.o.2.2.2.2.2⟩) : P := h
theorem yy32 {P : Prop} (h : P := by
 clear hK K
 refine rT tvv ?_
 refine wpT_nil ?_
 go_wp2
 go_meet
 have fz := Fr.setCells' (a := Y) (M := No) (b := q) (fun h => absurd h (by have := LQ.o.2; omega)) cs2 0 Z FZ.o
 exact ⟨q, cs2, V2, R2, rfl, rfl, HG.o.P, L0.o.step HG.o HBB.o fz (BZ.o.setAll (by have := HL2.o; simp; omega)) LQ.o.1, G2.o.no fz⟩) : P := h
theorem yy33 {P : Prop} (h : P := by
 rintro e w4 ⟨rfl, f4⟩
 have F4 := hid (HF.o.drew.trans f4 i3)
 clear f4
 refine hK _ _ (fun _ => HY.o _ F4.o) ?_
 clear hK K
 cases hq : actB ⟨kind, vals, mem, at_, byte⟩ h.ty.results with
 | true =>
  have HR := hid (HA.o.trans hq)
  clear hq
  refine rC ?_
  refine wpO_nil ?_
  go_wp2
  go_roundw
  case rel => exact ⟨k + 1, by omega, by go_num, F4.o, allUp_step HQ.o HR.o⟩
  case measure => simp [intOf]; omega
 | false =>
  have HR := hid (HA.o.trans hq)
  clear hq
  refine rC ?_
  refine wpO_nil ?_
  go_wp2
  go_ret
  exact ⟨rt_bool (hoB_no5 hlt HR.o).symm, F0.o.trans F4.o i3⟩) : P := h
theorem yy34 {P : Prop} (h : P := by
 have hgo : ¬ some g = v.ownBlock := fun e => by
  obtain ⟨_, csr, hbr⟩ := (HA.o.row).own e.symm
  have := hbr.lt
  have := HG.o
  omega
 have hY := HX.o W1 F1.o
 exact ⟨(f.cell (p := ⟨P, off, none⟩) (by show P < _; omega) (fun e => HA.o.ne e.symm)).trans hY.1, (f.cell (p := ⟨g, 0, none⟩) (by show g < _; omega) hgo).trans hY.2.1, (f.cell (p := ⟨g, 1, none⟩) (by show g < _; omega) hgo).trans hY.2.2.1, (f.cell (p := ⟨g, 2, none⟩) (by show g < _; omega) hgo).trans hY.2.2.2.1, (f.cell (p := ⟨g, 3, none⟩) (by show g < _; omega) hgo).trans hY.2.2.2.2⟩) : P := h
theorem yy35 {P : Prop} (h : P := by
 go_enter func17, ntmps17
 go_wp2_with fail
 refine (HR.o _ F0.o).mono ?_
 rintro e w1 ⟨rfl, f1⟩
 have F1 := ftr F0 f1
 have G1 := hid (G0.o.fr f1 id)
 clear f1 HR
 have z0 := G1.o.cell 0
 have z1 := G1.o.cell 1
 have z2 := G1.o.cell 2
 have z3 := G1.o.cell 3
 go_wp2
 go_ret
 exact GrTo.no H.o F1.o) : P := h
theorem yy36 {P : Prop} (h : P := by
 have h := G.o.fr f (fun x => by simp only [One] at x; omega)
 exact ⟨h.cell 0, h.cell 1, h.cell 2, h.cell 3⟩) : P := h
theorem yy37 {P : Prop} (h : P := by
 go_wp2_with fail
 refine (HT.o _).mono ?_
 rintro e w' ⟨rfl, rfl⟩
 go_wp2_with fail
 refine (HN.o _).mono ?_
 rintro e w' ⟨rfl, rfl⟩
 go_wp2_with fail
 refine (HR.o _).mono ?_
 rintro e w' ⟨rfl, rfl⟩
 go_wp2
 all_goals first
  | (go_ret; exact ⟨rfl, HM.o, Fr.refl _ _⟩)
  | (go_loopw [41] (fun j wr => j = .int .i64 0 ∧ wr = w) (fun _ _ => 0)
     case atStart => exact ⟨rfl, rfl⟩
     case round =>
      obtain ⟨rfl, rfl⟩ := hrel
      go_wp2
      go_ret
      exact ⟨rfl, HM.o, Fr.refl _ _⟩)) : P := h
theorem yy38 {P : Prop} (h : P := by
 clear hK K
 refine rT tvv ?_
 refine wpT_nil ?_
 go_wp2
 go_meet
 exact ⟨q, cs2, V2, R2, rfl, rfl, HG.o.P, L0.o.step2 HG.o HBB.o BZ.o rfl (.inr rfl) NQ.o.1 NQ.o.2, G2.o.fr2 (Fr.setCells' (M := One q) (b := q) (fun _ => rfl) cs2 0 Y (Fr.refl _ Y)) (.inr GS.o)⟩) : P := h
theorem yy39 {P : Prop} (h : P := by
 go_wp2
 go_ret
 refine ⟨ret_bool ?_, 0, rfl⟩
 symm
 rw [decide_eq_false_iff_not]
 rintro rfl
 exact hL.o rfl) : P := h
theorem yy40 {P : Prop} (h : P := by
 go_ret
 exact ⟨ret_bool (by rw [fits, Bool.eq_iff_iff]; simp; omega), rfl⟩) : P := h
theorem yy41 {P : Prop} (h : P := by
 clear hi E
 go_enter func42, ntmps42
 go_upto_region 2 with fail
 generalize ((w.alloc (.cells cs.toArray 39)).alloc (.cells #[.int .i64 0, .int .i64 0, .bool false, .slice none 0 0] 143)) = W at *
 have HT : Hid (W.there (w.heap.size + 1) 0 4) := there_blk G1.o rfl
 go_wp2_with (first | refine stG (ds := [.int .i64 0, .int .i64 0, .bool false, .slice none 0 0]) HI.o HT.o rfl rfl ?_ | fail)
 exact rafin underlying143 HI.o F0.o om HT.o rfl (fun _ => zRm_rdR _ _)) : P := h
theorem yy42 {P : Prop} (h : P := by
 symm
 rw [decide_eq_false_iff_not]
 rintro rfl
 exact hL.o rfl) : P := h
theorem yy43 {P : Prop} (h : P := by
 rcases h with h | ⟨b, o, e, _⟩
 · exact h
 cases e) : P := h
theorem yy44 {P : Prop} (h : P := by
 have hgo : ¬ some g = v.ownBlock := fun e => by
  obtain ⟨_, csr, hbr⟩ := (HA.o.row).own e.symm
  have := hbr.lt
  have := HG.o
  omega
 have hY := HX.o W1 F1.o
 exact ⟨(f.cell (p := ⟨P, off, none⟩) (by show P < _; omega) (fun e => HA.o.ne e.symm)).trans hY.1, (f.cell (p := ⟨g, 0, none⟩) (by show g < _; omega) hgo).trans hY.2.1, (f.cell (p := ⟨g, 1, none⟩) (by show g < _; omega) hgo).trans hY.2.2⟩) : P := h
theorem yy45 {P : Prop} (h : P := by
 clear hi E
 go_enter func47, ntmps47
 go_upto_region 2 with fail
 generalize ((w.alloc (.cells cs.toArray 39)).alloc (.cells q10x7 47)) = W at *
 have HT : Hid (W.there (w.heap.size + 1) 0 4) := there_blk G1.o rfl
 go_wp2_with (first | refine stG (ds := [.slice none 0 0, .slice none 0 0, .int .i64 0, .int .i64 0]) HI.o HT.o rfl rfl ?_ | fail)
 exact rafin underlying47 HI.o F0.o om HT.o rfl (fun _ => zFi_rdR _ _)) : P := h
theorem yy46 {P : Prop} (h : P := by
 go_roundw
 case rel =>
  refine ⟨k + 1, .slice A9 (k + 1) k9, by omega, by go_num, ?_⟩
  rw [List.take_succ_eq_append_getElem (by simp; omega), List.getElem_map, ← HA.o]
  exact PU.o
 simp [intOf]; omega) : P := h
theorem yy47 {P : Prop} (h : P := by
 have e : cs2.toArray.size = 10 := HL2.o
 rw [e]
 exact h) : P := h
theorem yy48 {P : Prop} (h : P := by
 go_wp2_with (first | refine ldX G0.o HCL.o.1 ?_ | refine stX G3.o rfl HCL.o.1 HCL.o.2 ?_ | fail)
 exact ryes (rnc H.o HS.o F0.o G3.o om)) : P := h
theorem yy49 {P : Prop} (h : P := by
 go_enter func206, ntmps206
 go_wp2
 go_ret
 exact ⟨ret_bool (by unfold validB; rw [Bool.eq_iff_iff]; simp [hh]; omega), F0.o⟩) : P := h
theorem yy50 {P : Prop} (h : P := by
 subst e9
 have z0 := Z0.o
 have z1 := Z1.o
 refine wpO_eff rfl rfl fun K hK => sz ?_
 refine hK _ _ (fun h => by simp at h) ?_
 clear hK K
 refine wpO_nil ?_
 go_wp2
 go_roundw
 case rel =>
  refine ⟨k + 1, .slice A9 (k + 1) k9, by omega, by go_num, ?_⟩
  rw [List.take_succ_eq_append_getElem (by simp; omega), List.getElem_map]
  exact PU.o
 simp [intOf]; omega) : P := h
theorem yy51 {P : Prop} (h : P := by
 clear hd HC
 rcases (by omega : s[i + k].toNat < 128 ∨ 192 ≤ s[i + k].toNat) with hq | hq
 all_goals
  go_wp2_with fail
  go_ret2
  refine ⟨?_, rfl⟩
  unfold decI
  rw [HD.o]
  rfl) : P := h
theorem yy52 {P : Prop} (h : P := by
 rintro e W3 ⟨cs2, rfl, hr2, f2⟩
 have RF2 := hid (rd_fresh2 K1.o.low f2 hr2)
 obtain ⟨l2, o2⟩ := rx_one RF2.o
 have HL2 := hid l2
 have HO2 := hid o2
 have F3 := hid f2
 have GQ := hid (GR.o.fr f2 id)
 clear hr2 f2 l2 o2 y1
 go_wp2_with (first | refine stX GQ.o rfl HL2.o HO2.o ?_ | fail)
 exact HD.fin GG.o K1.o F3.o RF2.o GQ.o) : P := h
theorem yy53 {P : Prop} (h : P := by
 have hg := GA7.o.fr f id
 have hPl := K7.o.blk.lt
 rw [hP7] at hPl
 exact ⟨(f.cell (p := ⟨V.P, 0, none⟩) hPl id).trans hcell7, (f.cell (p := ⟨b7, o7 + k * 5 + 2, none⟩) hbS7 id).trans y2, (f.cell (p := ⟨b7, o7 + k * 5 + 3, none⟩) hbS7 id).trans y3, hg.cell 0, hg.cell 1, hg.cell 2, hg.cell 3, hg.cell 4⟩) : P := h
theorem yy54 {P : Prop} (h : P := by
 go_wp2
 refine bodyPost_ret (v := .tuple #[]) (results_none (by rfl) _ _ _) rfl ?_
 exact GrTo.no H.o (Fr.refl _ _)) : P := h
theorem yy55 {P : Prop} (h : P := by
 intro j oj _ hl
 rw [Array.getD_eq_getD_getElem?] at hl
 rcases Nat.lt_or_ge j l.toArray.size with h' | h'
 · simp at h'; simp [h'] at hl
 simp at h'; simp [h'] at hl) : P := h
theorem yy56 {P : Prop} (h : P := by
 have hbW : b < W.heap.size := ltl hb HB.o
 exact ⟨(f.cell (p := ⟨b, _, none⟩) hbW id).trans y0, (f.cell (p := ⟨b, _, none⟩) hbW id).trans y1, (f.cell (p := ⟨b, _, none⟩) hbW id).trans y2, (f.cell (p := ⟨b, _, none⟩) hbW id).trans y3, (f.cell (p := ⟨b, _, none⟩) hbW id).trans y4, x2, x3, x4⟩) : P := h
theorem yy57 {P : Prop} (h : P := by
 go_wp2_with (go_at_call 212; refine (is_any _ _).mono ?_; rintro e w' ⟨rfl, rfl⟩)
 go_ret2
 refine ⟨?_, rfl⟩
 unfold decI
 rw [HD.o, if_pos (.inl hx)]
 rfl) : P := h
theorem yy58 {P : Prop} (h : P := by
 refine ⟨rt_bool ?_, by first | exact F1.o | exact (((Fr.refl No w).alloc _).alloc _)⟩
 have hv := HV.o
 clear H1 H2 HB HV L1 L2
 first | (simp_all [actB]; done) | (simp_all [actB]; omega) | (rw [Bool.eq_iff_iff]; simp_all [actB]; done) | (rw [Bool.eq_iff_iff]; simp_all [actB]; omega)) : P := h
theorem yy59 {P : Prop} (h : P := by
 intro hf
 refine k1 ?_
 cases hd' : d with
 | true =>
  obtain ⟨f, hfm, hl⟩ := hd hd'
  have := hf f hfm
  rw [getD_set_true hl] at this; cases this
 | false =>
  cases hcj : fins.contains j with
  | false => rfl
  | true =>
   have := hf j (by simpa using hcj)
   rw [hin] at this; cases this) : P := h
theorem yy60 {P : Prop} (h : P := by
 rw [ei] at HC
 clear ei
 refine HC.o.mono ?_
 rintro e6 w6 ⟨rfl, t6, f6⟩
 have T6 := hid t6
 have F6 := hid (F.o.trans f6 (fun i hi e => by have e : i = q' := e; have := HP.o.2; omega))
 clear t6 f6 HC
 go_wp2_with fail
 go_ret
 exact ⟨p', q', _, rfl, T6.o, HP.o.1, HP.o.2, F6.o⟩) : P := h
theorem yy61 {P : Prop} (h : P := by
 clear hi hf
 go_enter func199, ntmps199
 go_wp2_with (first
  | (go_at_call 152; refine (list_at _ _ _ t.c4).mono ?_; rintro e w' ⟨rfl, rfl⟩)
  | (go_at_call 208; refine (tthere_any _ _ _ _ _ _ om om om).mono ?_; rintro e w' ⟨rfl, rfl⟩))
 go_ret
 exact ⟨rfl, rfl⟩) : P := h
theorem yy62 {P : Prop} (h : P := by
 go_wp2_with (first | refine ldX H.o.gx HO2.o.1 ?_ | refine stX H.o.gr rfl HO2.o.1 HO2.o.2 ?_ | fail)
 exact H.o.fin HFIN.o ⟨nr, .inl rfl⟩) : P := h
theorem yy63 {P : Prop} (h : P := by
 exact ⟨(f.cell (p := ⟨b, _, none⟩) hbW id).trans y0, (f.cell (p := ⟨b, _, none⟩) hbW id).trans y1, (f.cell (p := ⟨b, _, none⟩) hbW id).trans y2, (f.cell (p := ⟨b, _, none⟩) hbW id).trans y3, (f.cell (p := ⟨b, _, none⟩) hbW id).trans y4⟩) : P := h
theorem yy64 {P : Prop} (h : P := by
 have h := run_mk elBs rfl W .i64 .i64 (mn * 256) om om
 rw [show ((mn * 256 : Nat) : Int) = (mn : Int) * 256 by omega] at h
 exact h) : P := h
theorem yy65 {P : Prop} (h : P := by
 clear hV
 go_enter func77, ntmps77
 go_wp2
 go_ret
 exact ⟨rfl, F0.o⟩) : P := h
theorem yy66 {P : Prop} (h : P := by
 have h1 := List.getElem?_eq_getElem HK.o
 rw [hy] at h1
 exact (Option.some.inj h1).symm) : P := h
theorem yy67 {P : Prop} (h : P := by
 obtain ⟨l2, o2⟩ := rx_one RF0.o
 have HL2 := hid l2
 have HO2 := hid o2
 clear l2 o2
 go_wp2_with (first | refine stX GR.o rfl HL2.o HO2.o ?_ | refine ldX GX.o HCL.o ?_ | fail)
 exact HD.fin GG.o K1.o F3.o RF2.o GR.o) : P := h
theorem yy68 {P : Prop} (h : P := by
 exact hR2 k (h.own k (.inr (.inr (.inr hk))))) : P := h
theorem yy69 {P : Prop} (h : P := by
 exact hR2 k (h.own k (.inr (.inr (.inl hk))))) : P := h
theorem yy70 {P : Prop} (h : P := by
 rw [e, Nat.mul_one, Nat.add_zero] at this
 exact ⟨b, o, rfl, hb, this, hw⟩) : P := h
theorem yy71 {P : Prop} (h : P := by
 rintro e w3 ⟨rfl, f3⟩
 rw [H3.o]
 have F3 := ftr F2 f3
 clear f3 x0 x1 x2 x3 x4
 obtain ⟨x0, x1, x2, x3, x4⟩ := HX.o _ F3.o
 go_wp2
 go_ret
 exact ⟨rt_bool (hoB_no4 H4.o).symm, F0.o.trans F3.o i3⟩) : P := h
theorem yy72 {P : Prop} (h : P := by
 rintro e w3 ⟨rfl, f3⟩
 rw [H3.o]
 have F3 := ftr F2 f3
 clear f3 x0 x1 x2 x3 x4
 obtain ⟨x0, x1, x2, x3, x4⟩ := HX.o _ F3.o
 go_wp2
 go_ret
 exact ⟨rt_bool (hoB_no3 H3.o).symm, F0.o.trans F3.o i3⟩) : P := h
theorem yy73 {P : Prop} (h : P := by
 rintro e w2 ⟨rfl, f2⟩
 rw [H2.o]
 have F2 := ftr F1 f2
 clear f2 x0 x1 x2 x3 x4
 obtain ⟨x0, x1, x2, x3, x4⟩ := HX.o _ F2.o
 go_wp2
 go_ret
 exact ⟨rt_bool (hoB_no2 H2.o).symm, F0.o.trans F2.o i3⟩) : P := h
theorem yy74 {P : Prop} (h : P := by
 go_wp2
 all_goals first
  | (go_ret; exact ⟨⟨_, rfl, fun e => by cases e⟩, F3.o⟩)
  | (go_roundw; (case rel => exact ⟨k + 1, HLT.o, by go_num, F3.o⟩); (case measure => simp [intOf]; omega))) : P := h
theorem yy75 {P : Prop} (h : P := by
 rw [hv]
 exact hrow.more nr (fun k hk => hk.up f.size (fun _ _ r => r))) : P := h
theorem yy76 {P : Prop} (h : P := by
 subst e3
 go_ret
 have hs : [] ++ B.take a ++ bs ++ B.drop (a + bs.length) = splice B a bs := by simp [splice]
 have hR := R3.o
 rw [hs] at hR
 exact ⟨A3, c3, by rw [hs]; rfl, hR, F3.o⟩) : P := h
theorem yy77 {P : Prop} (h : P := by
 rintro e w1 ⟨rfl, f1⟩
 rw [H1.o]
 have F1 := hid f1
 clear f1
 obtain ⟨x0, x1, x2, x3, x4⟩ := HX.o _ F1.o
 go_wp2
 go_ret
 exact ⟨rt_bool (hoB_no1 H1.o).symm, F0.o.trans F1.o i3⟩) : P := h
theorem yy78 {P : Prop} (h : P := by
 rintro e w' ⟨rfl, h4⟩
 exact ⟨none, 0, rfl, nr, .inl rfl, h4⟩) : P := h
theorem yy79 {P : Prop} (h : P := by
 intro c hc
 obtain ⟨i, hi, rfl⟩ := List.getElem_of_mem hc
 exact hok.len _ _ _ _ (h.2 i _ _ (List.getElem?_eq_getElem hi) (List.getElem?_eq_getElem (by rw [← h.1]; exact hi)))) : P := h
theorem yy80 {P : Prop} (h : P := by
 intro hdt
 cases hd' : d with
 | true => obtain ⟨f, hfm, hl⟩ := hd hd'; exact ⟨f, hfm, getD_set_true hl⟩
 | false => rw [hd'] at hdt; exact ⟨j, by simpa using hdt, hin⟩) : P := h
theorem yy81 {P : Prop} (h : P := by
 have := I.o
 rwa [List.take_of_length_le sm] at this) : P := h
theorem yy82 {P : Prop} (h : P := by
 go_wp2
 go_ret2
 exact ⟨rfl, Fr.refl _ _⟩) : P := h
theorem yy83 {P : Prop} (h : P := by
 unfold wpOp
 simp only [ho, hw, if_true]
 exact .inl (h _ fun a' w' h1 h2 => ⟨h1, h2⟩)) : P := h
theorem yy84 {P : Prop} (h : P := by
 go_wp2
 go_ret2
 have e : runes s.data.toList = some acc := by rw [HC.o, List.drop_of_length_le (by simp), runes_nil]; simp
 rw [e]
 exact ⟨A, c, rfl, HR.o, hf⟩) : P := h
theorem yy85 {P : Prop} (h : P := by
 go_wp2
 go_ret
 exact ⟨rt_bool (by simp [fnB, hp]), F.o⟩) : P := h
theorem yy86 {P : Prop} (h : P := by
 refine hK _ _ (fun _ => trivial) ?_
 clear hK K
 refine rC ?_
 refine wpO_nil ?_
 go_wp2
 go_ret
 exact ⟨V', R', rfl, h2, (Grown.of_no F1.o).trans h3⟩) : P := h
theorem yy87 {P : Prop} (h : P := by
 exact hR2 k (h.own k (Pl.o_ta hk))) : P := h
theorem yy88 {P : Prop} (h : P := by
 exact hR2 k (h.own k (Pl.o_me hk))) : P := h
theorem yy89 {P : Prop} (h : P := by
 exact hR2 k (h.own k (Pl.o_ho hk))) : P := h
theorem yy90 {P : Prop} (h : P := by
 simpa [Lit.wf, IntKind.min, IntKind.max, IntKind.signed, IntKind.bits] using h) : P := h
theorem yy91 {P : Prop} (h : P := by
 refine ⟨0, css, by omega, rfl, Fr.refl _ _, ?_, HO0.o⟩
 exact (CssF.of HC0.o).keep (fun i p _ _ => rfl) (fun i k _ hk => .inr ⟨nz, hk⟩)) : P := h
theorem yy92 {P : Prop} (h : P := by
 rw [hi0] at e1 e2
 simp only [List.getElem?_cons_zero, Option.some.injEq] at e1 e2
 subst e1 e2
 exact hm.fr h3 (nP hz.1 dc dc) (nP hz.2 dc dc)) : P := h
theorem yy93 {P : Prop} (h : P := by
 exact .inl (.inr (.inr (.inr h)))) : P := h
theorem yy94 {P : Prop} (h : P := by
 exact .inl (.inr (.inr (.inl h)))) : P := h
theorem yy95 {P : Prop} (h : P := by
 rintro e w' ⟨rfl, rfl⟩
 go_wp2
 go_ret
 exact ⟨rfl, HM.o, Fr.refl _ _⟩) : P := h
theorem yy96 {P : Prop} (h : P := by
 simp [dec, h0, h2, h3, h4, headN, headX, headL, conts, k1, Utf8.runeError]) : P := h
theorem yy97 {P : Prop} (h : P := by
 simp [results, h, hp', asAddr, run_loadVar_mid w g 0 ty ds d hr hu hd hi]) : P := h
theorem hid {p : Prop} (h : p) : Hid p := h
theorem zA : (∀ {α : Type} {l : List α} {i : Nat} (h : i < l.toArray.size), l.toArray[i] = l[i]'(by simpa using h)) ∧ (∀ {α : Type} (a : α) (l : List α) (i : Nat) (h : i + 1 < (a :: l).length), (a :: l)[i + 1] = l[i]'(by simpa using h)) ∧ ∀ {α : Type} (a : α) (l : List α) (h : 0 < (a :: l).length), (a :: l)[0] = a :=
 ⟨fun h => List.getElem_toArray h, fun _ _ _ _ => rfl, fun _ _ _ => rfl⟩
theorem zC : (∀ {α : Type} {l : List α} {i : Nat} {a : α}, l.toArray.setIfInBounds i a = (l.set i a).toArray) ∧ (∀ {α : Type} (a b : α) (l : List α), (a :: l).set 0 b = b :: l) ∧ ∀ {α : Type} (a b : α) (l : List α) (i : Nat), (a :: l).set (i + 1) b = a :: l.set i b :=
 ⟨fun {_ l i a} => List.setIfInBounds_toArray l i a, fun _ _ _ => rfl, fun _ _ _ _ => rfl⟩
structure Fr (M : Nat → Prop) (w w' : World) : Prop where
 os : w'.os = w.os
 tape : w'.tape = w.tape
 output : w'.output = w.output
 size : w.heap.size ≤ w'.heap.size
 block : ∀ k, k < w.heap.size → ¬ M k → w'.heap[k]? = w.heap[k]?
def No : Nat → Prop := fun _ => False
def One (q : Nat) : Nat → Prop := fun k => k = q
def Two (p q : Nat) : Nat → Prop := fun k => k = p ∨ k = q
section
variable {M N : Nat → Prop} {a b c w w' : World}
theorem Fr.refl (M : Nat → Prop) (w : World) : Fr M w w := ⟨rfl, rfl, rfl, nr, fun _ _ _ => rfl⟩
theorem Fr.trans (h : Fr M a b) (k : Fr N b c) (hm : ∀ i, i < a.heap.size → N i → M i) : Fr M a c :=
 ⟨k.os.trans h.os, k.tape.trans h.tape, k.output.trans h.output, Nat.le_trans h.size k.size, fun i hi hn =>
  (k.block i (ltl hi h.size) (fun x => hn (hm i hi x))).trans (h.block i hi hn)⟩
theorem Fr.mono (h : Fr N a b) (hm : ∀ i, i < a.heap.size → N i → M i) : Fr M a b :=
 ⟨h.os, h.tape, h.output, h.size, fun i hi hn => h.block i hi (fun x => hn (hm i hi x))⟩
theorem Fr.drew (h : Fr M a w) : Fr M a w.drew := ⟨h.os, h.tape, h.output, h.size, h.block⟩
theorem Fr.drewN (h : Fr M a w) (n : Nat) : Fr M a (w.drewN n) := ⟨h.os, h.tape, h.output, h.size, h.block⟩
theorem Fr.alloc (h : Fr M a w) (o : Obj) : Fr M a (w.alloc o) :=
 ⟨h.os, h.tape, h.output, by have := h.size; simp; omega, fun k hk hn => (Below.heap_alloc w o k (ltl hk h.size)).trans (h.block k hk hn)⟩
theorem Fr.setCell (h : Fr M a w) (p : Addr) (u : Value) (hp : p.block < a.heap.size → M p.block) : Fr M a (w.setCell p u) :=
 ⟨h.os, h.tape, h.output, by simpa [World.setCell] using h.size, fun k hk hn => by
  by_cases e : k = p.block
  · exact absurd (e ▸ hp (e ▸ hk)) (e ▸ hn)
  · exact (Below.heap_setCell w p u k e).trans (h.block k hk hn)⟩
theorem Fr.of_below (h : Below a.heap.size a b) : Fr M a b := ⟨h.os, h.tape, h.output, h.size, fun k hk _ => h.block k hk⟩
theorem Fr.below (h : Fr No a b) : Below a.heap.size a b := ⟨h.os, h.tape, h.output, h.size, fun k hk => h.block k hk id⟩
theorem Fr.of_grown {row : Option Nat} (h : a.grownBy b row) : Fr (fun k => some k = row) a b := ⟨h.os, h.tape, h.output, h.size, h.block⟩
theorem Fr.cell (h : Fr M w w') {p : Addr} (hp : p.block < w.heap.size) (hn : ¬ M p.block) : w'.cell? p = w.cell? p := World.cell?_of_block (w := w) (h.block p.block hp hn)
theorem Fr.frozen (h : Fr M w w') {p : Addr} (hp : p.block < w.heap.size) (hn : ¬ M p.block) : w'.frozen? p = w.frozen? p := World.frozen?_of_block (w := w) (h.block p.block hp hn)
end
def Blk (w : World) (g : Nat) (t : TypeId) (cs : Array Value) : Prop := w.heap[g]? = some (.cells cs t (0, 0))
section
variable {M : Nat → Prop} {w w' : World} {g : Nat} {t : TypeId} {cs : Array Value}
theorem Blk.lt (h : Blk w g t cs) : g < w.heap.size := by
 rcases Nat.lt_or_ge g w.heap.size with hlt | hge
 · exact hlt
 unfold Blk at h; rw [Array.getElem?_eq_none hge] at h; cases h
theorem Blk.cell (h : Blk w g t cs) (i : Nat) : w.cell? ⟨g, i, none⟩ = cs[i]? := cell_of_row w g i cs t (0, 0) h
theorem Blk.frozen (h : Blk w g t cs) (i : Nat) : w.frozen? ⟨g, i, none⟩ = false := by
 unfold Blk at h
 simp [World.frozen?, h]
theorem Blk.new (w : World) (t : TypeId) (cs : Array Value) : Blk (w.alloc (.cells cs t)) w.heap.size t cs := heap_alloc_new w _
theorem Blk.new1 (w : World) (o : Obj) (t : TypeId) (cs : Array Value) : Blk ((w.alloc o).alloc (.cells cs t)) (w.heap.size + 1) t cs := by
 have := Blk.new (w.alloc o) t cs
 simpa using this
theorem Blk.drew (h : Blk w g t cs) : Blk w.drew g t cs := h
theorem Blk.drewN (h : Blk w g t cs) (n : Nat) : Blk (w.drewN n) g t cs := h
theorem Blk.alloc (h : Blk w g t cs) (o : Obj) : Blk (w.alloc o) g t cs := (Below.heap_alloc w o g h.lt).trans h
theorem Blk.set_ (h : Blk w g t cs) (i : Nat) (u : Value) : Blk (w.setCell ⟨g, i, none⟩ u) g t (cs.setIfInBounds i u) := by
 unfold Blk at h ⊢
 simp [World.setCell, Array.getElem?_modify, h]
theorem Blk.far (h : Blk w g t cs) {p : Addr} (hp : g ≠ p.block) (u : Value) : Blk (w.setCell p u) g t cs := (Below.heap_setCell w p u g hp).trans h
theorem Blk.fr (h : Blk w g t cs) (f : Fr M w w') (hg : ¬ M g) : Blk w' g t cs := (f.block g h.lt hg).trans h
theorem Blk.ne_ {g' : Nat} {t' : TypeId} {cs' : Array Value} (h : Blk w g t cs) (h' : Blk w g' t' cs') (hne : t ≠ t') : g ≠ g' := by
 rintro rfl
 unfold Blk at h h'
 rw [h] at h'
 injection h' with h'
 injection h' with _ ht
 exact hne ht
end
def Rd (w : World) (B : Nat) (A : OA) (xs : LV) : Prop :=
 xs = [] ∨ ∃ b o, A = some ⟨b, o, none⟩ ∧ b < B ∧ ∀ k u, xs[k]? = some u → w.cell? ⟨b, o + k, none⟩ = some u
section
variable {M : Nat → Prop} {w w' : World} {B B' : Nat} {A : OA} {xs : LV}
theorem Rd.nil : Rd w B A [] := .inl rfl
theorem Rd.at_ {k : Nat} (h : Rd w B A xs) (hk : k < xs.length) : ∃ b o, A = some ⟨b, o, none⟩ ∧ b < B ∧ w.cell? ⟨b, o + k, none⟩ = some xs[k] := by
 rcases h with rfl | ⟨b, o, e, hb, hc⟩
 · simp at hk
 exact ⟨b, o, e, hb, hc k _ (List.getElem?_eq_getElem hk)⟩
theorem Rd.more (h : Rd w B A xs) (hB : B ≤ B') : Rd w B' A xs := by
 rcases h with rfl | ⟨b, o, e, hb, hc⟩
 · exact .inl rfl
 exact .inr ⟨b, o, e, ltl hb hB, hc⟩
theorem Rd.fr (h : Rd w B A xs) (hb : Fr M w w') (hM : ∀ k, k < B → ¬ M k) : Rd w' B A xs := by
 rcases h with rfl | ⟨b, o, e, hlt, hc⟩
 · exact .inl rfl
 exact .inr ⟨b, o, e, hlt, fun k u hu => (hb.cell (p := ⟨b, o + k, none⟩) (World.block_lt_of_cell? w ⟨b, o + k, none⟩ (hc k u hu)) (hM b hlt)).trans (hc k u hu)⟩
theorem Rd.frNo (h : Rd w B A xs) (hb : Fr No w w') : Rd w' B A xs := h.fr hb (fun _ _ x => x)
theorem Rd.drew (h : Rd w B A xs) : Rd w.drew B A xs := h
theorem Rd.blk {q : Nat} {t : TypeId} {cs : Array Value} (hq : Blk w q t cs) (hb : q < B) (o : Nat) (hx : ∀ (k : Nat) (u : Value), xs[k]? = some u → cs[o + k]? = some u) : Rd w B (some ⟨q, o, none⟩) xs :=
 .inr ⟨q, o, rfl, hb, fun k u hu => by rw [hq.cell]; exact hx k u hu⟩
end
theorem ftr {M : Nat → Prop} {a b c : World} (h : Go.RowKit.Hid (Fr M a b)) (f : Fr M b c) : Go.RowKit.Hid (Fr M a c) := hid (h.o.trans f i3)
theorem sz {G H : Prop} (g : G) (h : G → H := by intro g; simp only [zA]; go_simp; exact g) : H := h g
def oq (l e : List Nat) : List (Nat × Bool) := l.map fun i => (i, !e.contains i)
structure ElemOk (P : Program) (t e : TypeId) (size bytes : Nat) (z : Value) : Prop where
 slice : P.underlying t = some (.slice e)
 info : ∃ i, P.info? e = some i ∧ i.zero = some z ∧ i.size = size ∧ i.bytes = bytes
 zs : z.cells.size = size
 pos : 0 < size
theorem ElemOk.mk' {P : Program} {t e : TypeId} {size bytes : Nat} {z : Value} (h : P.underlying t = some (.slice e))
    (hi : (P.info? e).map (fun i => (i.zero, i.size, i.bytes)) = some (some z, size, bytes)) (hz : z.cells.size = size) (hp : 0 < size) : ElemOk P t e size bytes z := by
 refine ⟨h, ?_, hz, hp⟩
 cases hq : P.info? e with
 | none => simp [hq] at hi
 | some i =>
  simp [hq] at hi
  exact ⟨i, rfl, hi.1, hi.2.1, hi.2.2⟩
section
variable {P : Program} {t e : TypeId} {size bytes : Nat} {z : Value} {B base : Nat} {A : OA}
theorem kGo (E : ElemOk P t e size bytes z) (w : World) (ty : TypeId) {v : Value} {n : Nat} {xs : LV} (hown : w.ownsRow base e size v n xs) (c : Nat) :
    (Builtin.append_ #[t, t] ty #[v, .slice none 0 c]).run P w = .ok v w := by
 obtain ⟨i, hi, hz0, hz1, hz2⟩ := E.info
 rcases hown.2 with ⟨rfl, rfl⟩ | ⟨g, cap, cur, rfl, _, _, hnc, _⟩
 · simp [Builtin.append_, run_underlying E.slice, sizeOf, typeInfo, hi, Builtin.lenOf, Builtin.firstCells]
 simp [Builtin.append_, run_underlying E.slice, sizeOf, typeInfo, hi, Builtin.lenOf, Builtin.firstCells, hnc, storeCells]
theorem add_lit' (b o j : Nat) : (⟨b, o, none⟩ : Addr).add j = ⟨b, o + j, none⟩ := by unfold Addr.add; split <;> simp_all
theorem kFB (E : ElemOk P t e size bytes z) (w : World) (ty : TypeId) {v : Value} {n m : Nat} (c : Nat) {xs news : LV} (hown : w.ownsRow base e size v n xs)
    (hr : Rd w B A news) (hl : news.length = m * size) (h1 : ∀ u ∈ news, u.oneCell' = true)
    (h63 : n + m ≤ maxLen) (hbytes : (n + m) * bytes ≤ 140737488355328) (hbase : base ≤ w.heap.size) :
    ∃ v' w', (Builtin.append_ #[t, t] ty #[v, .slice A m c]).run P w = .ok v' w' ∧ w'.ownsRow base e size v' (n + m) (xs ++ news) ∧ Fr (fun k => some k = v.ownBlock) w w' ∧
     (v' = .slice none 0 0 ↔ v = .slice none 0 0 ∧ m = 0) ∧ (v'.ownBlock = v.ownBlock ∨ v'.ownBlock = some w.heap.size) := by
 obtain ⟨i, hi, hz0, hz1, hz2⟩ := E.info
 have key : A = none ∨ ∃ ad : Addr, A = some ad ∧ ∀ j u, news[j]? = some u → w.cell? (ad.add j) = some u := by
  rcases hr with rfl | ⟨b, o, rfl, hb, hc⟩
  · cases A with
    | none => exact .inl rfl
    | some ad => exact .inr ⟨ad, rfl, fun j u hu => by simp at hu⟩
  exact .inr ⟨⟨b, o, none⟩, rfl, fun j u hu => by rw [add_lit']; exact hc j u hu⟩
 rcases key with rfl | ⟨ad, rfl, hc⟩
 · have hn : news = [] := by
    rcases hr with rfl | ⟨b, o, h, _⟩
    · rfl
    cases h
   subst hn
   have hm : m = 0 := by
    rcases Nat.eq_zero_or_pos m with h | h
    · exact h
    have := Nat.mul_pos h E.pos; simp at hl; omega
   subst hm
   exact ⟨v, w, kGo E w ty hown c, by simpa using hown, Fr.refl _ _, by simp, .inl rfl⟩
 obtain ⟨v', w', hrun, h2, h3, h4, h5⟩ := run_append_own_at (P := P) w base t ty e i z size bytes E.slice hi hz0 hz1 hz2 E.zs E.pos v n xs hown ad m c news hl hc h1 h63 hbytes hbase
 exact ⟨v', w', hrun, h2, Fr.of_grown h3, h4, h5⟩
end
def Own (w : World) (q : Nat) (e : TypeId) (c : Nat) (xs : LV) : Prop := w.ownsRow 0 e 1 (.slice (some ⟨q, 0, none⟩) xs.length c) xs.length xs
section
variable {M : Nat → Prop} {w w' : World} {q c : Nat} {e : TypeId} {xs : LV}
theorem Own.cur (h : Own w q e c xs) : ∃ cur, Blk w q e cur ∧ xs.length ≤ c ∧ c ≤ maxLen ∧ cur.size = c ∧ cur.toList.take xs.length = xs := by
 rcases h.2 with ⟨h, _⟩ | ⟨g, cap, cur, hv, _, hg, h1, h2, h3, h4⟩
 · cases h
 injection hv with hv hn hc
 injection hv with hv
 injection hv with hv
 subst hv; subst hc
 exact ⟨cur, hg, h1, h2, by simpa using h3, by simpa using h4⟩
theorem Own.mk {cur : Array Value} (hb : Blk w q e cur) (h1 : xs.length ≤ c) (h2 : c ≤ maxLen) (h3 : cur.size = c) (h4 : cur.toList.take xs.length = xs) : Own w q e c xs :=
 ⟨by simp, .inr ⟨q, c, cur, rfl, nz, hb, h1, h2, by simpa using h3, by simpa using h4⟩⟩
theorem Own.lt (h : Own w q e c xs) : q < w.heap.size := by obtain ⟨cur, hb, _⟩ := h.cur; exact hb.lt
theorem Own.cell (h : Own w q e c xs) (k : Nat) (hk : k < xs.length) : w.cell? ⟨q, k, none⟩ = some xs[k] := by
 have := World.ownsRow.cellAt h k (by simpa using hk)
 rw [this, List.getElem?_eq_getElem hk]
theorem Own.frozen (h : Own w q e c xs) (k : Nat) : w.frozen? ⟨q, k, none⟩ = false := World.ownsRow.frozenAt h k
theorem Own.fr (h : Own w q e c xs) (f : Fr M w w') (hq : ¬ M q) : Own w' q e c xs := by
 obtain ⟨cur, hb, r1, r2, r3, r4⟩ := h.cur
 exact Own.mk (hb.fr f hq) r1 r2 r3 r4
theorem Own.set_ (h : Own w q e c xs) (k : Nat) (u : Value) : Own (w.setCell ⟨q, k, none⟩ u) q e c (xs.set k u) := by
 obtain ⟨cur, hb, r1, r2, r3, r4⟩ := h.cur
 refine Own.mk (hb.set_ k u) (by simpa using r1) r2 (by simpa using r3) ?_
 rw [Array.toList_setIfInBounds, List.length_set, List.take_set, r4]
theorem Own.rd {B : Nat} (h : Own w q e c xs) (hB : q < B) : Rd w B (some ⟨q, 0, none⟩) xs :=
 .inr ⟨q, 0, rfl, hB, fun k u hu => by
  obtain ⟨hk, rfl⟩ := List.getElem?_eq_some_iff.1 hu
  rw [Nat.zero_add]; exact h.cell k hk⟩
theorem Own.of_row {base : Nat} {v : Value} {n : Nat} (h : w.ownsRow base e 1 v n xs) (hv : v ≠ .slice none 0 0) : ∃ q c, v = .slice (some ⟨q, 0, none⟩) n c ∧ base ≤ q ∧ n = xs.length ∧ Own w q e c xs := by
 rcases h.2 with ⟨h, _⟩ | ⟨g, cap, cur, rfl, hb, hg, h1, h2, h3, h4⟩
 · exact absurd h hv
 have hn : n = xs.length := by have := h.1; omega
 subst hn
 exact ⟨g, cap, rfl, hb, rfl, Own.mk hg h1 h2 (by simpa using h3) (by simpa using h4)⟩
end
section
variable {P : Program} {t e : TypeId} {bytes : Nat} {z : Value} {B : Nat} {A : OA}
theorem kLZ (E : ElemOk P t e 1 bytes z) (w : World) (ty : TypeId) {q c m : Nat} (cs : Nat) {xs news : LV} (hown : Own w q e c xs)
    (hr : Rd w B A news) (hl : news.length = m) (h1 : ∀ u ∈ news, u.oneCell' = true)
    (h63 : xs.length + m ≤ 16777216) (hbytes : bytes ≤ 64) :
    ∃ q' c' w', (Builtin.append_ #[t, t] ty #[.slice (some ⟨q, 0, none⟩) xs.length c, .slice A m cs]).run P w = .ok (.slice (some ⟨q', 0, none⟩) (xs.length + m) c') w' ∧ Own w' q' e c' (xs ++ news) ∧ Fr (One q) w w' ∧
     (q' = q ∨ q' = w.heap.size) := by
 obtain ⟨v', w', hrun, h2, h3, h4, h5⟩ := kFB E w ty cs hown hr (by simpa using hl) h1 (by simp only [maxLen]; omega)
  (Nat.le_trans (Nat.mul_le_mul h63 hbytes) dc) nz
 obtain ⟨q', c', rfl, _, hn, ho⟩ := Own.of_row h2 (by intro h; have := h4.1 h; simp at this)
 refine ⟨q', c', w', hrun, ho, h3.mono (fun i _ h => by simpa [Value.ownBlock, One] using h), ?_⟩
 simpa [Value.ownBlock] using h5
theorem kGQ (z : Value) (hz : z.cells = #[z]) (n : Nat) : madeCells z.cells n = Array.replicate n z := by
 apply Array.ext
 · simp [madeCells]
 intro i h1 h2
 simp [madeCells, hz, Nat.mod_one]
theorem run_mk (E : ElemOk P t e 1 bytes z) (hz : z.cells = #[z]) (w : World) (kl kc : IntKind) (n : Nat) (hn : n ≤ 16777216) (hbytes : bytes ≤ 64) :
    (Instr.makeSlice t (.int kl (n : Int)) (.int kc (n : Int))).run P w = .ok (.slice (some ⟨w.heap.size, 0, none⟩) n n) (w.alloc (.cells (Array.replicate n z) e)) := by
 obtain ⟨i, hi, hz0, hz1, hz2⟩ := E.info
 have hb : (i.bytes : Int) * (n : Int) ≤ 281474976710656 := by
  rw [hz2]
  have : ((bytes * n : Nat) : Int) ≤ 281474976710656 := by
   have := Nat.mul_le_mul hbytes hn
   omega
  rwa [Int.natCast_mul] at this
 have hr := run_make (P := P) w t e i z E.slice hi hz0 kl kc n n om om hb om
 rw [hr, hz1, Int.toNat_natCast, Nat.mul_one, kGQ z hz]
theorem kFf (w : World) (e : TypeId) (z : Value) (n : Nat) (hn : n ≤ 16777216) : Own (w.alloc (.cells (Array.replicate n z) e)) w.heap.size e n (List.replicate n z) :=
 Own.mk (Blk.new w e _) sm (by simp only [maxLen]; omega) sm sm
theorem kNX (w : World) (e : TypeId) (l : LV) (hn : l.length ≤ 16777216) : Own (w.alloc (.cells l.toArray e)) w.heap.size e l.length l :=
 Own.mk (Blk.new w e _) sm (by simp only [maxLen]; omega) sm sm
theorem kHM {α : Type} (L xs cs : List α) (off : Nat) (h : L.take xs.length = xs) (hf : off + cs.length ≤ xs.length) :
    (L.take off ++ cs ++ L.drop (off + cs.length)).take xs.length = splice xs off cs := by
 have e1 := List.take_append_drop xs.length L
 rw [h] at e1
 generalize L.drop xs.length = r at e1
 subst e1
 rw [List.take_append_of_le_length (l₁ := xs) (by omega), List.drop_append_of_le_length (l₁ := xs) (by omega)]
 have hl : (xs.take off ++ cs ++ xs.drop (off + cs.length)).length = xs.length := by simp; omega
 rw [← List.append_assoc, List.take_append_of_le_length (by omega), List.take_of_length_le (by omega)]
 simp [splice]
theorem kNx (E : ElemOk P t e 1 bytes z) (w : World) (ty : TypeId) {q c : Nat} {xs cs : LV} (hown : Own w q e c xs) (off dLen dCap sLen sCap : Nat)
    (hr : Rd w B A cs) (hn : cs.length = Nat.min sLen dLen) (hfit : off + cs.length ≤ xs.length) (h1 : ∀ u ∈ cs, u.oneCell' = true) :
    ∃ w', (Builtin.copy_ #[t, t] ty #[.slice (some ⟨q, off, none⟩) dLen dCap, .slice A sLen sCap]).run P w = .ok (goInt cs.length) w' ∧ Own w' q e c (splice xs off cs) ∧ Fr (One q) w w' := by
 obtain ⟨i, hi, hz0, hz1, hz2⟩ := E.info
 have hsz : (P.info? e).map (·.size) = some 1 := by simp [hi, hz1]
 obtain ⟨cur, hb, r1, r2, r3, r4⟩ := hown.cur
 by_cases h0 : cs = []
 · subst h0
   refine ⟨w, run_copy_none (P := P) w t t ty e _ _ dLen dCap sLen sCap E.slice hsz (by simpa using hn.symm), by simpa [splice] using hown, Fr.refl _ _⟩
 rcases hr with h | ⟨b, o, rfl, hbb, hc⟩
 · exact absurd h h0
 have hrun := run_copy_row (P := P) w t t ty e q off dLen dCap ⟨b, o, none⟩ sLen sCap cur e cs E.slice hsz hb hn (fun j u hu => by rw [add_lit']; exact hc j u hu) (by omega) h1
 refine ⟨_, hrun, Own.mk (setRow_heap w q _ _ e _ hb) (by rw [length_splice _ _ _ hfit]; exact r1) r2 ?_ ?_, ⟨rfl, rfl, rfl, by simp [World.setRow], fun k _ hk => setRow_other w q k _ hk⟩⟩
 · simp only [List.size_toArray, List.length_append, List.length_take, List.length_drop, Array.length_toList]; omega
 rw [length_splice _ _ _ hfit]
 exact kHM _ _ _ _ r4 hfit
end
section
variable {P : Program} {t e : TypeId} {bytes : Nat} {z : Value} {B : Nat} {A : OA}
variable {ops : Array Oper} {rest : List Oper} {o : Oper} {a : Act} {Q : Exit → Act → World → Prop} {w : World}
theorem kIH {q c m : Nat} {s x : Operand} (cs : Nat) {xs news : LV} (E : ElemOk P t e 1 bytes z) (hgd : o.guard = none)
    (ho : o.op = .call { callee := .builtin .append, args := #[s, x], argTypes := #[t, t] })
    (hs : a.eval s = .slice (some ⟨q, 0, none⟩) xs.length c) (hx : a.eval x = .slice A m cs) (hown : Own w q e c xs)
    (hr : Rd w B A news) (hl : news.length = m) (h1 : ∀ u ∈ news, u.oneCell' = true)
    (h63 : xs.length + m ≤ 16777216) (hbytes : bytes ≤ 64)
    (h : ∀ q' c' w', Own w' q' e c' (xs ++ news) → Fr (One q) w w' → (q' = q ∨ q' = w.heap.size) → wpList P ops Q rest (a.put o.dst (.slice (some ⟨q', 0, none⟩) (xs.length + m) c')) w') :
    wpList P ops Q (o :: rest) a w := by
 refine wpList_plain hgd fun K hK => ?_
 obtain ⟨q', c', w', hrun, h2, h3, h4⟩ := kLZ E w o.type cs hown hr hl h1 h63 hbytes
 unfold Oper.wp execOp
 simp only [ho, resolve, invoke, builtin, Sem.run_bind, Sem.run_pure, Result.andThen_ok, List.map_toArray, List.map_cons, List.map_nil, hs, hx, hrun]
 exact hK _ _ (h q' c' w' h2 h3 h4)
theorem kNO (w0 : World) (v : Value) (e : TypeId) : Rd (w0.alloc (.cells #[v] e)) (w0.heap.size + 1) (some ⟨w0.heap.size, 0, none⟩) [v] :=
 .inr ⟨_, 0, rfl, by omega, fun k u hu => by
  rw [(Blk.new w0 e #[v]).cell]
  cases k with
  | zero => simpa using hu
  | succ k => simp at hu⟩
theorem kFY (w0 : World) (l : LV) (e : TypeId) : Rd (w0.alloc (.cells l.toArray e)) (w0.heap.size + 1) (some ⟨w0.heap.size, 0, none⟩) l :=
 .inr ⟨_, 0, rfl, by omega, fun k u hu => by
  rw [(Blk.new w0 e l.toArray).cell, Nat.zero_add]
  simpa using hu⟩
theorem kCv {w0 : World} {base n cs : Nat} {s x : Operand} {v u : Value} {xs : LV} (E : ElemOk P t e 1 bytes z) (hgd : o.guard = none)
    (ho : o.op = .call { callee := .builtin .append, args := #[s, x], argTypes := #[t, t] })
    (hs : a.eval s = v) (hx : a.eval x = .slice (some ⟨w0.heap.size, 0, none⟩) 1 cs) (hown : w0.ownsRow base e 1 v n xs)
    (hv : u.oneCell' = true) (h63 : n + 1 ≤ 16777216) (hbytes : bytes ≤ 64) (hbase : base ≤ w0.heap.size)
    (h : ∀ v' w', w'.ownsRow base e 1 v' (n + 1) (xs ++ [u]) → Fr (fun k => some k = v.ownBlock) w0 w' → (v'.ownBlock = v.ownBlock ∨ ∃ g, v'.ownBlock = some g ∧ w0.heap.size ≤ g) → wpList P ops Q rest (a.put o.dst v') w') :
    wpList P ops Q (o :: rest) a (w0.alloc (.cells #[u] e)) := by
 refine wpList_plain hgd fun K hK => ?_
 obtain ⟨v', w', hrun, h2, h3, h4, h5⟩ := kFB (B := w0.heap.size + 1) E (w0.alloc (.cells #[u] e)) o.type cs (hown.alloc _) (kNO w0 u e) (m := 1) sm (by simpa using hv)
  (by simp only [maxLen]; omega) (Nat.le_trans (Nat.mul_le_mul h63 hbytes) dc) so
 unfold Oper.wp execOp
 simp only [ho, resolve, invoke, builtin, Sem.run_bind, Sem.run_pure, Result.andThen_ok, List.map_toArray, List.map_cons, List.map_nil, hs, hx, hrun]
 refine hK _ _ (h v' w' h2 (((Fr.refl _ w0).alloc _).trans h3 i3) ?_)
 rcases h5 with h5 | h5
 · exact .inl h5
 exact .inr ⟨_, h5, by simp⟩
theorem kFC {w : World} {base n : Nat} {v : Value} {xs : LV} (h : w.ownsRow base e 1 v n xs) : ∃ A c, v = .slice A xs.length c ∧ xs.length ≤ c ∧ Rd w w.heap.size A xs ∧ (A = none ∨ ∃ b o, A = some ⟨b, o, none⟩) := by
 by_cases hv : v = .slice none 0 0
 · subst hv
   have hx : xs = [] := by
    rcases h.2 with ⟨_, h0⟩ | ⟨g, cap, cur, h0, _⟩
    · have := h.1; rw [h0] at this; exact List.eq_nil_of_length_eq_zero (by simpa using this)
    cases h0
   subst hx
   exact ⟨none, 0, rfl, by simp, .inl rfl, .inl rfl⟩
 obtain ⟨q, c, rfl, _, hn, ho⟩ := Own.of_row h hv
 subst hn
 obtain ⟨_, _, hc, _⟩ := ho.cur
 exact ⟨_, c, rfl, hc, ho.rd ho.lt, .inr ⟨_, _, rfl⟩⟩
end
theorem kBU {α : Type} (xs cs : List α) (off : Nat) (h : off + cs.length ≤ xs.length) (i : Nat) :
    (splice xs off cs)[i]? = if i < off then xs[i]? else if i < off + cs.length then cs[i - off]? else xs[i]? := by
 unfold splice
 by_cases h1 : i < off
 · rw [if_pos h1, List.getElem?_append_left (by simp; omega), List.getElem?_take, if_pos h1]
 rw [if_neg h1, List.getElem?_append_right (by simp; omega)]
 have e1 : (xs.take off).length = off := by simp; omega
 rw [e1]
 by_cases h2 : i < off + cs.length
 · rw [if_pos h2, List.getElem?_append_left (by omega)]
 rw [if_neg h2, List.getElem?_append_right (by omega), List.getElem?_drop]
 congr 1; omega
theorem kJV {α : Type} (xs cs : List α) (off : Nat) (x : α) (h : off + cs.length < xs.length) :
    (splice xs off cs).set (off + cs.length) x = splice xs off (cs ++ [x]) := by
 apply List.ext_getElem?
 intro i
 rw [List.getElem?_set, kBU _ _ _ (by omega), kBU _ _ _ (by simp; omega), length_splice _ _ _ (by omega)]
 simp only [List.length_append, List.length_cons, List.length_nil]
 by_cases h1 : i < off
 · rw [if_neg (by omega), if_pos h1, if_pos h1]
 by_cases h2 : i < off + cs.length
 · rw [if_neg (by omega), if_neg h1, if_pos h2, if_neg h1, if_pos (by omega), List.getElem?_append_left (by omega)]
 by_cases h3 : off + cs.length = i
 · subst h3
   rw [if_pos rfl, if_pos h, if_neg h1, if_pos (by omega), List.getElem?_append_right (by omega)]
   simp
 rw [if_neg h3, if_neg h1, if_neg h2, if_neg h1, if_neg (by omega)]
theorem splice_nil {α : Type} (xs : List α) (off : Nat) : splice xs off [] = xs := by simp [splice]
theorem kNv {n : Int} (h : (Lit.int .u64 n).wf = true) : 0 ≤ n ∧ n < 18446744073709551616 := by
 have : 0 ≤ n ∧ n ≤ 18446744073709551615 := by simpa [Lit.wf, IntKind.min, IntKind.max, IntKind.signed, IntKind.bits] using h
 omega
theorem kEM {n : Int} (h : (Lit.int .i64 n).wf = true) : -9223372036854775808 ≤ n ∧ n ≤ 9223372036854775807 := by
 have : -9223372036854775808 ≤ n ∧ n ≤ 9223372036854775807 := by simpa [Lit.wf, IntKind.min, IntKind.max, IntKind.signed, IntKind.bits] using h
 omega
section
variable {P : Program} {ops : Array Oper} {Q : Exit → Act → World → Prop} {md : Region.Mode} {S : World → Prop}
def kAk (P : Program) (w : World) (v : Value) : Result Next → Prop
 | .ok (.value u) w' => w' = w ∧ u = v
 | .ok (.enter f args) w' => w' = w ∧ Calls P f args w (fun e w'' => e = .returned v ∧ w'' = w)
 | _ => False
def YieldsQ (P : Program) (ops : Array Oper) (S : World → Prop) (o : Oper) (v : Value) (a : Act) : Prop :=
 (Region.wanted o (yielded ops a.tmps) = true ∧ ∀ w, S w → kAk P w v ((execOp a.eval o).run P w)) ∨
 (Region.wanted o (yielded ops a.tmps) = false ∧ v = undef)
theorem YieldsQ.wpOp {i : Nat} {o : Oper} {v : Value} {a : Act} (hi : ops[i]? = some o) (hy : YieldsQ P ops S o v a)
    {K : Act → World → Prop} {w : World} (hS : S w) (h : K (a.put o.dst v) w) : wpOp P ops Q i K a w := by
 unfold Go.wpOp
 simp only [hi]
 rcases hy with ⟨hw, hv⟩ | ⟨hw, rfl⟩
 · simp only [hw, if_true]
   refine .inl ?_
   have h1 := hv w hS
   unfold Oper.wp
   generalize (execOp a.eval o).run P w = r at *
   cases r with
   | ok n w' =>
    cases n <;> simp only [kAk] at h1 <;> simp only [Oper.upon]
    case value u => obtain ⟨rfl, rfl⟩ := h1; exact h
    case enter f args =>
     obtain ⟨rfl, h2⟩ := h1
     exact h2.mono fun e w'' ⟨he, hw''⟩ => by subst he; subst hw''; exact h
   | halt x w' => simp only [kAk] at h1
 simp only [hw, Bool.false_eq_true, if_false]; exact h
theorem YieldsQ.of_same {o : Oper} {v : Value} {a a' : Act} (hy : YieldsQ P ops S o v a) (he : execOp a'.eval o = execOp a.eval o)
    (hw : Region.wanted o (yielded ops a'.tmps) = Region.wanted o (yielded ops a.tmps)) : YieldsQ P ops S o v a' := by
 unfold YieldsQ at *
 rw [he, hw]
 exact hy
theorem wpOp_putQ {j : Nat} {oi oj : Oper} {v : Value} (hj : ops[j]? = some oj) (hap : oi.apart ops oj = true)
    (hsi : ∀ cs b, oi.op ≠ .select cs b) (hsj : ∀ cs b, oj.op ≠ .select cs b)
    (hQ : ∀ c a w, Q (.panic c) (a.put oi.dst v) w → Q (.panic c) a w) {K : Act → World → Prop} {a : Act} {w : World}
    (hy : YieldsQ P ops S oi v a) (h : wpOp P ops Q j K (a.put oi.dst v) w) :
    wpOp P ops Q j (fun a' w' => YieldsQ P ops S oi v a' ∧ K (a'.put oi.dst v) w') a w := by
 obtain ⟨h1, h2, h3⟩ := Oper.apart_spec hap
 have keep : ∀ (a : Act), YieldsQ P ops S oi v a → ∀ u, YieldsQ P ops S oi v (a.put oj.dst u) := fun a hy u =>
  hy.of_same (execOp_put oi hsi a oj.dst u h3) (wanted_put oi a oj.dst u h3)
 have keepD : ∀ d, YieldsQ P ops S oi v { a with defers := d :: a.defers } := fun d => hy.of_same rfl rfl
 unfold wpOp at *
 simp only [hj] at *
 rw [wanted_put oj a oi.dst v h1] at h
 split
 · rename_i hw
   simp only [hw, if_true] at h
   rcases h with h | ⟨hasks, hlets⟩
   case inr => exact .inr ⟨by unfold Oper.asks at *; rw [execOp_put oj hsj a oi.dst v h1] at hasks; exact hasks, hlets⟩
   refine .inl ?_
   unfold Oper.wp at *
   rw [execOp_put oj hsj a oi.dst v h1] at h
   generalize (execOp a.eval oj).run P w = r at *
   cases r with
   | ok n w' =>
    cases n <;> simp only [Oper.upon] at h ⊢
    case value u => exact ⟨keep a hy u, by rw [← Act.put_comm a v u h2]; exact h⟩
    case skip => exact ⟨keep a hy _, by rw [← Act.put_comm a v undef h2]; exact h⟩
    case defer d =>
     refine ⟨keep _ (keepD d) _, ?_⟩
     rw [← Act.put_comm _ v undef h2, ← Act.put_defers]
     exact h
    case enter f args =>
     refine Calls.mono h fun e w'' he => ?_
     cases e with
     | returned u => exact ⟨keep a hy u, by rw [← Act.put_comm a v u h2]; exact he⟩
     | panicked c => exact hQ _ _ _ he
     | outgrown => exact he
    case row row args => exact Rows.mono h fun u w'' he => ⟨keep a hy u, by rw [← Act.put_comm a v u h2]; exact he⟩
   | halt x w' =>
    cases x <;> simp only [Oper.upon] at h ⊢
    case panic u => exact hQ _ _ _ h
 rename_i hw
 simp only [hw] at h
 exact ⟨keep a hy _, by rw [← Act.put_comm a v undef h2]; exact h⟩
def clo (md : Region.Mode) (ops : Array Oper) (L : Array Bool) : Prop :=
 ∀ (j : Nat) (oj : Oper), ops[j]? = some oj → L.getD j false = true → ∀ e ∈ oj.after, Region.binds md e = true → L.getD e.on false = true
theorem clo_set {L : Array Bool} {i : Nat} (h : clo md ops L) (hi : i ∈ Region.ready md ops L) : clo md ops (L.setIfInBounds i true) := by
 obtain ⟨_, oi, hoi, hall⟩ := mem_ready.1 hi
 intro j oj hj hl e he hb
 by_cases hij : i = j
 · subst hij
   have : oj = oi := Option.some.inj (hj.symm.trans hoi)
   subst this
   exact getD_set_true (hall e he hb)
 rw [getD_set_ne false hij] at hl
 exact getD_set_true (h j oj hj hl e he hb)
def SL (S : World → Prop) (fins : List Nat) (L : Array Bool) (w : World) : Prop := (∀ f ∈ fins, L.getD f false = false) → S w
def kCE (P : Program) (md : Region.Mode) (ops : Array Oper) (Q : Exit → Act → World → Prop) (S : World → Prop) (fins : List Nat) : Nat → Array Bool → Act → World → Prop
 | 0, L, a, w => Region.ready md ops L = [] ∧ Q .normal a w
 | fuel + 1, L, a, w =>
  (Region.ready md ops L = [] → Q .normal a w) ∧
  ∀ i ∈ Region.ready md ops L, wpOp P ops Q i (fun a' w' => SL S fins (L.setIfInBounds i true) w' ∧ kCE P md ops Q S fins fuel (L.setIfInBounds i true) a' w') a w
theorem kCe {fins : List Nat} : ∀ (fuel : Nat) (L : Array Bool) (a : Act) (w : World), kCE P md ops Q S fins fuel L a w → wpAny P md ops Q fuel L a w
 | 0, _, _, _, h => h
 | fuel + 1, _, _, _, h => ⟨h.1, fun i hi => wpOp_mono (fun a' w' h' => kCe fuel _ a' w' h'.2) (h.2 i hi)⟩
theorem kDR {fins : List Nat} {L : Array Bool} {w : World} (i : Nat) (h : SL S fins L w) : SL S fins (L.setIfInBounds i true) w := by
 intro hf
 refine h fun f hfm => ?_
 have h1 := hf f hfm
 cases h2 : L.getD f false with
 | false => rfl
 | true => rw [getD_set_true h2] at h1; cases h1
theorem SL_unset {fins : List Nat} {L : Array Bool} {w : World} {i : Nat} (hi : i ∉ fins) (h : SL S fins (L.setIfInBounds i true) w) : SL S fins L w := by
 intro hf
 refine h fun f hfm => ?_
 rw [getD_set_ne false (show i ≠ f from fun e => hi (by rw [e]; exact hfm))]
 exact hf f hfm
theorem kCt {fins : List Nat} {i : Nat} {oi : Oper} {v : Value} (hi : ops[i]? = some oi) (hsel : ∀ (j : Nat) (o : Oper) cs b, ops[j]? = some o → o.op ≠ .select cs b)
    (hQ : ∀ c a w, Q (.panic c) (a.put oi.dst v) w → Q (.panic c) a w) (hif : i ∉ fins) (hwait : ∀ f ∈ fins, ∀ L, clo md ops L → L.getD f false = true → L.getD i false = true) :
    ∀ (fuel : Nat) (L : Array Bool) (a : Act) (w : World), clo md ops L →
     (∀ j oj, ops[j]? = some oj → j ≠ i → L.getD j true = false → (∀ e ∈ oj.after, Region.binds md e = true → e.on ≠ i) → oi.apart ops oj = true) →
     i ∈ Region.ready md ops L → YieldsQ P ops S oi v a → SL S fins L w →
     kCE P md ops Q S fins fuel (L.setIfInBounds i true) (a.put oi.dst v) w → kCE P md ops Q S fins (fuel + 1) L a w := by
 have key : ∀ L w, clo md ops L → i ∈ Region.ready md ops L → SL S fins L w → S w := by
  intro L w hc hr h
  refine h fun f hf => ?_
  cases h2 : L.getD f false with
  | false => rfl
  | true =>
   have h3 := hwait f hf L hc h2
   have h4 := (mem_ready.1 hr).1
   rcases Nat.lt_or_ge i L.size with h' | h'
   · simp [h'] at h3 h4; rw [h4] at h3; cases h3
   · simp [Array.getElem?_eq_none h'] at h3
 intro fuel
 induction fuel with
 | zero =>
  intro L a w hc _ hr hy hS H
  refine ⟨fun h => (by rw [h] at hr; cases hr), fun j hj => ?_⟩
  by_cases hji : j = i
  · subst hji; exact hy.wpOp hi (key L w hc hr hS) ⟨kDR _ hS, H⟩
  · have := ready_mono hj hji
    rw [H.1] at this
    cases this
 | succ fuel ih =>
  intro L a w hc hfree hr hy hS H
  refine ⟨fun h => (by rw [h] at hr; cases hr), fun j hj => ?_⟩
  by_cases hji : j = i
  · subst hji; exact hy.wpOp hi (key L w hc hr hS) ⟨kDR _ hS, H⟩
  · exact yy14
def ancs (md : Region.Mode) (ops : Array Oper) (f : Nat) : Array Bool :=
 (List.range (f + 1)).reverse.foldl (fun m j => if m.getD j false then (match ops[j]? with
  | some o => o.after.toList.foldl (fun m e => if Region.binds md e then m.setIfInBounds e.on true else m) m
  | none => m) else m) ((Array.replicate ops.size false).setIfInBounds f true)
theorem kDq {m : Array Bool} {i k : Nat} (h : (m.setIfInBounds i true).getD k false = true) : k = i ∨ m.getD k false = true := by
 by_cases e : i = k
 · exact .inl e.symm
 rw [getD_set_ne false e] at h; exact .inr h
theorem kGL {f : Nat} {L : Array Bool} (hc : clo md ops L) (hf : L.getD f false = true) : ∀ k, (ancs md ops f).getD k false = true → L.getD k false = true := by
 have inner : ∀ (l : List Edge) (m : Array Bool), (∀ e ∈ l, Region.binds md e = true → L.getD e.on false = true) → (∀ k, m.getD k false = true → L.getD k false = true) →
     ∀ k, (l.foldl (fun m e => if Region.binds md e then m.setIfInBounds e.on true else m) m).getD k false = true → L.getD k false = true := by
  intro l
  induction l with
  | nil => intro m _ hm k hk; exact hm k hk
  | cons e l ih =>
   intro m he hm k hk
   simp only [List.foldl_cons] at hk
   refine ih _ (fun e' he' hb => he e' (by simp [he']) hb) ?_ k hk
   intro k' hk'
   split at hk'
   · rename_i hb
     rcases kDq hk' with rfl | h
     · exact he e sm hb
     exact hm k' h
   · exact hm k' hk'
 have outer : ∀ (l : List Nat) (m : Array Bool), (∀ k, m.getD k false = true → L.getD k false = true) →
     ∀ k, (l.foldl (fun m j => if m.getD j false then (match ops[j]? with
      | some o => o.after.toList.foldl (fun m e => if Region.binds md e then m.setIfInBounds e.on true else m) m
      | none => m) else m) m).getD k false = true → L.getD k false = true := by
  intro l
  induction l with
  | nil => intro m hm k hk; exact hm k hk
  | cons j l ih =>
   intro m hm k hk
   simp only [List.foldl_cons] at hk
   refine ih _ ?_ k hk
   intro k' hk'
   split at hk'
   · rename_i hj
     split at hk'
     · rename_i o ho
       exact inner _ m (fun e he hb => hc j o ho (hm j hj) e (by simpa using he) hb) hm k' hk'
     exact hm k' hk'
   · exact hm k' hk'
 intro k hk
 refine outer _ _ ?_ k hk
 intro k' hk'
 rcases kDq hk' with rfl | h
 · exact hf
 rw [Array.getD_eq_getD_getElem?] at h
 rcases Nat.lt_or_ge k' ops.size with h' | h'
 · simp [h'] at h
 simp [h'] at h
def kCj (md : Region.Mode) (ops : Array Oper) (fins : List Nat) : List (Nat × Bool) → Array Bool → Bool
 | [], L => (Region.ready md ops L).isEmpty
 | (i, true) :: r, L => Region.free md ops L i && (Region.ready md ops L).contains i && !fins.contains i && fins.all (fun f => (ancs md ops f).getD i false) && kCj md ops fins r (L.setIfInBounds i true)
 | (i, false) :: r, L => (Region.ready md ops L == [i]) && kCj md ops fins r (L.setIfInBounds i true)
def wpO (P : Program) (ops : Array Oper) (Q : Exit → Act → World → Prop) (S : World → Prop) (fins : List Nat) : Bool → List (Nat × Bool) → Act → World → Prop
 | _, [], a, w => Q .normal a w
 | d, (i, true) :: r, a, w => ∃ o, ops[i]? = some o ∧ ∃ v, YieldsQ P ops S o v a ∧ wpO P ops Q S fins d r (a.put o.dst v) w
 | d, (i, false) :: r, a, w => wpOp P ops Q i (fun a' w' => ((d || fins.contains i) = false → S w') ∧ wpO P ops Q S fins (d || fins.contains i) r a' w') a w
theorem kDH {fins : List Nat} (hsel : Region.noSelect ops = true) (hQ : ∀ c a a' w, Q (.panic c) a w → Q (.panic c) a' w) : ∀ (ord : List (Nat × Bool)) (d : Bool) (L : Array Bool) (a : Act) (w : World),
    clo md ops L → kCj md ops fins ord L = true → (d = true → ∃ f ∈ fins, L.getD f false = true) → SL S fins L w → wpO P ops Q S fins d ord a w → kCE P md ops Q S fins ord.length L a w
 | [], d, L, a, w, _, ho, _, _, h => ⟨by simpa [kCj] using ho, h⟩
 | (i, true) :: r, d, L, a, w, hc, ho, hd, hS, h => by
  obtain ⟨o, hi, v, hy, hn⟩ := h
  simp only [kCj, Bool.and_eq_true] at ho
  obtain ⟨⟨⟨⟨h1, h2⟩, h3⟩, h4⟩, h5⟩ := ho
  have hr : i ∈ Region.ready md ops L := by simpa using h2
  have hif : i ∉ fins := by simpa using h3
  refine kCt hi (Region.noSelect_spec hsel) (fun c a w hq => hQ c _ _ _ hq) hif ?_ r.length L a w hc (Region.free_spec hi h1) hr hy hS ?_
  · intro f hf L' hc' hl'
    exact kGL hc' hl' i (List.all_eq_true.1 h4 f hf)
  · exact kDH hsel hQ r d _ _ w (clo_set hc hr) h5 (fun hdt => by obtain ⟨f, hf, hl⟩ := hd hdt; exact ⟨f, hf, getD_set_true hl⟩) (kDR _ hS) hn
 | (i, false) :: r, d, L, a, w, hc, ho, hd, hS, h => by
  simp only [kCj, Bool.and_eq_true, beq_iff_eq] at ho
  obtain ⟨h1, h2⟩ := ho
  have hr : i ∈ Region.ready md ops L := by rw [h1]; simp
  refine ⟨fun h0 => (by rw [h0] at h1; cases h1), fun j hj => ?_⟩
  rw [h1] at hj
  have hji : j = i := by simpa using hj
  subst hji
  refine wpOp_mono (fun a' w' ⟨k1, k2⟩ => ?_) h
  have hin : (L.setIfInBounds j true).getD j false = true := by
   obtain ⟨h0, _⟩ := mem_ready.1 hr
   rcases Nat.lt_or_ge j L.size with h' | h'
   · simp [h']
   simp [Array.getElem?_eq_none h'] at h0
  have hSL : SL S fins (L.setIfInBounds j true) w' := by
   exact yy59
  refine ⟨hSL, kDH hsel hQ r _ _ a' w' (clo_set hc hr) h2 ?_ hSL k2⟩
  exact yy80
theorem kDe {id : Nat} {a : Act} {w : World} {l : List Oper} (S : World → Prop) (fins : List Nat) (ord : List (Nat × Bool)) (hm : P.follows .mixedOrders = true) (hs : Region.noSelect l.toArray = true)
    (ho : kCj .any l.toArray fins ord (Array.replicate l.toArray.size false) = true) (hl : ord.length = l.length) (hS : S w.drew) (h : wpO P l.toArray (NoPanic Q) S fins false ord a w.drew) :
    (Code.region id l.toArray true).wp P Q a w := by
 refine wp_region_noPanic (wp_region_any hm ?_)
 have hc : clo .any l.toArray (Array.replicate l.toArray.size false) := by
  exact yy55
 have := kDH (Q := NoPanic Q) (S := S) hs (fun _ _ _ _ h => h) ord false _ a w.drew hc ho (fun h => by cases h) (fun _ => hS) h
 rw [hl] at this
 have h2 := kCe _ _ _ _ this
 simpa using h2
theorem wpO_nil {d : Bool} {fins : List Nat} {a : Act} {w : World} (h : Q .normal a w) : wpO P ops (NoPanic Q) S fins d [] a w := h
theorem kLY {d : Bool} {fins : List Nat} {i : Nat} {o : Oper} {r : List (Nat × Bool)} {a : Act} {w : World} (ho : ops[i]? = some o) (hw : Region.wanted o (yielded ops a.tmps) = false)
    (h : wpO P ops Q S fins d r (a.put o.dst undef) w) : wpO P ops Q S fins d ((i, true) :: r) a w := ⟨o, ho, undef, .inr ⟨hw, rfl⟩, h⟩
theorem kCu {d : Bool} {fins : List Nat} {i : Nat} {o : Oper} {r : List (Nat × Bool)} {a : Act} {w : World} (ho : ops[i]? = some o) (hw : Region.wanted o (yielded ops a.tmps) = true)
    (h : ∃ v, (∀ X, S X → kAk P X v ((execOp a.eval o).run P X)) ∧ wpO P ops Q S fins d r (a.put o.dst v) w) : wpO P ops Q S fins d ((i, true) :: r) a w := by
 obtain ⟨v, h1, h2⟩ := h
 exact ⟨o, ho, v, .inl ⟨hw, h1⟩, h2⟩
theorem stillUpon_value {w : World} {v : Value} : kAk P w v (.ok (.value v) w) := ⟨rfl, rfl⟩
theorem wpO_skipE {d : Bool} {fins : List Nat} {i : Nat} {o : Oper} {r : List (Nat × Bool)} {a : Act} {w : World} (ho : ops[i]? = some o) (hw : Region.wanted o (yielded ops a.tmps) = false) (hS : S w)
    (h : wpO P ops Q S fins (d || fins.contains i) r (a.put o.dst undef) w) : wpO P ops Q S fins d ((i, false) :: r) a w := by
 show wpOp P ops Q i _ a w
 unfold wpOp
 simp only [ho, hw]
 exact ⟨fun _ => hS, h⟩
theorem wpO_eff {d : Bool} {fins : List Nat} {i : Nat} {o : Oper} {r : List (Nat × Bool)} {a : Act} {w : World} (ho : ops[i]? = some o) (hw : Region.wanted o (yielded ops a.tmps) = true)
    (h : ∀ K : Act → World → Prop, (∀ a' w', ((d || fins.contains i) = false → S w') → wpO P ops Q S fins (d || fins.contains i) r a' w' → K a' w') → o.wp P a w K Q) : wpO P ops Q S fins d ((i, false) :: r) a w := by
 show wpOp P ops Q i _ a w
 exact yy83
theorem rgO {id : Nat} {a : Act} {w : World} {l : List Oper} (S : World → Prop) (fins : List Nat) (ord : List (Nat × Bool)) (hS : S w.drew) (h : wpO P l.toArray (NoPanic Q) S fins false ord a w.drew) (hm : P.follows .mixedOrders = true := by kernel_rfl) (hs : Region.noSelect l.toArray = true := by kernel_rfl)
    (ho : kCj .any l.toArray fins ord (Array.replicate l.toArray.size false) = true := by kernel_rfl) (hl : ord.length = l.length := by rfl) : (Code.region id l.toArray true).wp P Q a w := kDe S fins ord hm hs ho hl hS h
theorem oS {d : Bool} {fins : List Nat} {i : Nat} {o : Oper} {r : List (Nat × Bool)} {a a' : Act} {w : World} (h : wpO P ops Q S fins d r a' w) (ho : ops[i]? = some o := by rfl) (hw : Region.wanted o (yielded ops a.tmps) = false := by rfl)
    (ha : a.put o.dst undef = a' := by simp only [zA, zC, Act.put]; rfl) : wpO P ops Q S fins d ((i, true) :: r) a w := kLY ho hw (ha ▸ h)
theorem oX {d : Bool} {fins : List Nat} {i : Nat} {o : Oper} {r : List (Nat × Bool)} {a a' : Act} {w : World} {v : Value} {F : World → Prop} (hF : ∀ X, S X → F X) (h : wpO P ops Q S fins d r a' w) (ho : ops[i]? = some o := by rfl) (hw : Region.wanted o (yielded ops a.tmps) = true := by rfl)
    (hv : ∀ X, F X → kAk P X v ((execOp a.eval o).run P X) := by simp only [zA]; intro X hX; (repeat (have := And.left hX; replace hX := And.right hX)); go_simp; exact stillUpon_value) (ha : a.put o.dst v = a' := by simp only [zA, zC, Act.put]; rfl) : wpO P ops Q S fins d ((i, true) :: r) a w :=
 kCu ho hw ⟨v, fun X hX => hv X (hF X hX), ha ▸ h⟩
theorem oC {d : Bool} {fins : List Nat} {i : Nat} {o : Oper} {r : List (Nat × Bool)} {a a' : Act} {w : World} {v : Value} (h : wpO P ops Q S fins d r a' w) (ho : ops[i]? = some o := by rfl) (hw : Region.wanted o (yielded ops a.tmps) = true := by rfl)
    (hv : ∀ X, S X → kAk P X v ((execOp a.eval o).run P X) := by simp only [zA]; intro X hX; (repeat (have := And.left hX; replace hX := And.right hX)); go_simp; exact stillUpon_value) (ha : a.put o.dst v = a' := by simp only [zA, zC, Act.put]; rfl) : wpO P ops Q S fins d ((i, true) :: r) a w :=
 kCu ho hw ⟨v, hv, ha ▸ h⟩
end
theorem rO {A G H : Prop} (a : A) (g : G) (h : A → G → H := by intro a g; (repeat (first | refine oS ?_ | refine oX a ?_)); exact g) : H := h a g
theorem rC {G H : Prop} (g : G) (h : G → H := by intro g; (repeat (first | refine oS ?_ | refine oC ?_)); exact g) : H := h g
theorem rwO {P : Program} {Q : Exit → Act → World → Prop} {id : Nat} {a : Act} {w : World} {l : List Oper} {ord : List (Nat × Bool)} (S : World → Prop) (fins : List Nat) (n e : List Nat) (hS : S w.drew) (h : wpO P l.toArray (NoPanic Q) S fins false ord a w.drew) (hd : oq n e = ord := by simp only [oq, List.range, List.range.loop, List.map, List.contains, List.elem, Nat.reduceBEq, Bool.not_true, Bool.not_false]; rfl) (hm : P.follows .mixedOrders = true := by kernel_rfl) (hs : Region.noSelect l.toArray = true := by kernel_rfl)
 (ho : kCj .any l.toArray fins ord (Array.replicate l.toArray.size false) = true := by kernel_rfl) (hl : ord.length = l.length := by rfl) : (Code.region id l.toArray true).wp P Q a w := kDe S fins ord hm hs ho hl hS h
def isFA (ops : Array Oper) (i : Nat) : Bool := match ops[i]? with
 | some o => (match o.op with | .fieldAddr _ _ _ => true | _ => false)
 | none => false
def SP (ops : Array Oper) (i : Nat) (S : World → Prop) : World → Prop := if isFA ops i then fun _ => True else S
def kCI (md : Region.Mode) (ops : Array Oper) (fins : List Nat) : List (Nat × Bool) → Array Bool → Bool
 | [], L => (Region.ready md ops L).isEmpty
 | (i, true) :: r, L => Region.free md ops L i && (Region.ready md ops L).contains i && !fins.contains i && (isFA ops i || fins.all (fun f => (ancs md ops f).getD i false)) && kCI md ops fins r (L.setIfInBounds i true)
 | (i, false) :: r, L => (Region.ready md ops L == [i]) && kCI md ops fins r (L.setIfInBounds i true)
section
variable {P : Program} {ops : Array Oper} {Q : Exit → Act → World → Prop} {md : Region.Mode} {S : World → Prop}
theorem kGM {fins : List Nat} {i : Nat} {oi : Oper} {v : Value} (hi : ops[i]? = some oi) (hsel : ∀ (j : Nat) (o : Oper) cs b, ops[j]? = some o → o.op ≠ .select cs b)
    (hQ : ∀ c a w, Q (.panic c) (a.put oi.dst v) w → Q (.panic c) a w) (hif : i ∉ fins) :
    ∀ (fuel : Nat) (L : Array Bool) (a : Act) (w : World), clo md ops L →
     (∀ j oj, ops[j]? = some oj → j ≠ i → L.getD j true = false → (∀ e ∈ oj.after, Region.binds md e = true → e.on ≠ i) → oi.apart ops oj = true) →
     i ∈ Region.ready md ops L → YieldsQ P ops (fun _ => True) oi v a → SL S fins L w →
     kCE P md ops Q S fins fuel (L.setIfInBounds i true) (a.put oi.dst v) w → kCE P md ops Q S fins (fuel + 1) L a w := by
 intro fuel
 induction fuel with
 | zero =>
  intro L a w hc _ hr hy hS H
  refine ⟨fun h => (by rw [h] at hr; cases hr), fun j hj => ?_⟩
  by_cases hji : j = i
  · subst hji; exact hy.wpOp hi trivial ⟨kDR _ hS, H⟩
  · have := ready_mono hj hji
    rw [H.1] at this
    cases this
 | succ fuel ih =>
  intro L a w hc hfree hr hy hS H
  refine ⟨fun h => (by rw [h] at hr; cases hr), fun j hj => ?_⟩
  by_cases hji : j = i
  · subst hji; exact hy.wpOp hi trivial ⟨kDR _ hS, H⟩
  · exact yy14
def wpP (P : Program) (ops : Array Oper) (Q : Exit → Act → World → Prop) (S : World → Prop) (fins : List Nat) : Bool → List (Nat × Bool) → Act → World → Prop
 | _, [], a, w => Q .normal a w
 | d, (i, true) :: r, a, w => ∃ o, ops[i]? = some o ∧ ∃ v, YieldsQ P ops (SP ops i S) o v a ∧ wpP P ops Q S fins d r (a.put o.dst v) w
 | d, (i, false) :: r, a, w => wpOp P ops Q i (fun a' w' => ((d || fins.contains i) = false → S w') ∧ wpP P ops Q S fins (d || fins.contains i) r a' w') a w
theorem kDG {fins : List Nat} (hsel : Region.noSelect ops = true) (hQ : ∀ c a a' w, Q (.panic c) a w → Q (.panic c) a' w) : ∀ (ord : List (Nat × Bool)) (d : Bool) (L : Array Bool) (a : Act) (w : World),
    clo md ops L → kCI md ops fins ord L = true → (d = true → ∃ f ∈ fins, L.getD f false = true) → SL S fins L w → wpP P ops Q S fins d ord a w → kCE P md ops Q S fins ord.length L a w
 | [], d, L, a, w, _, ho, _, _, h => ⟨by simpa [kCI] using ho, h⟩
 | (i, true) :: r, d, L, a, w, hc, ho, hd, hS, h => by
  obtain ⟨o, hi, v, hy, hn⟩ := h
  simp only [kCI, Bool.and_eq_true] at ho
  obtain ⟨⟨⟨⟨h1, h2⟩, h3⟩, h4⟩, h5⟩ := ho
  have hr : i ∈ Region.ready md ops L := by simpa using h2
  have hif : i ∉ fins := by simpa using h3
  have hnext := kDG hsel hQ r d _ _ w (clo_set hc hr) h5 (fun hdt => by obtain ⟨f, hf, hl⟩ := hd hdt; exact ⟨f, hf, getD_set_true hl⟩) (kDR _ hS) hn
  cases hfa : isFA ops i with
  | true =>
   unfold SP at hy
   rw [if_pos hfa] at hy
   exact kGM hi (Region.noSelect_spec hsel) (fun c a w hq => hQ c _ _ _ hq) hif r.length L a w hc (Region.free_spec hi h1) hr hy hS hnext
  | false =>
   unfold SP at hy
   rw [hfa] at hy h4
   refine kCt hi (Region.noSelect_spec hsel) (fun c a w hq => hQ c _ _ _ hq) hif ?_ r.length L a w hc (Region.free_spec hi h1) hr hy hS hnext
   intro f hf L' hc' hl'
   rw [Bool.false_or] at h4
   exact kGL hc' hl' i (List.all_eq_true.1 h4 f hf)
 | (i, false) :: r, d, L, a, w, hc, ho, hd, hS, h => by
  simp only [kCI, Bool.and_eq_true, beq_iff_eq] at ho
  obtain ⟨h1, h2⟩ := ho
  have hr : i ∈ Region.ready md ops L := by rw [h1]; simp
  refine ⟨fun h0 => (by rw [h0] at h1; cases h1), fun j hj => ?_⟩
  rw [h1] at hj
  have hji : j = i := by simpa using hj
  subst hji
  refine wpOp_mono (fun a' w' ⟨k1, k2⟩ => ?_) h
  have hin : (L.setIfInBounds j true).getD j false = true := by
   obtain ⟨h0, _⟩ := mem_ready.1 hr
   rcases Nat.lt_or_ge j L.size with h' | h'
   · simp [h']
   simp [Array.getElem?_eq_none h'] at h0
  have hSL : SL S fins (L.setIfInBounds j true) w' := by
   exact yy59
  refine ⟨hSL, kDG hsel hQ r _ _ a' w' (clo_set hc hr) h2 ?_ hSL k2⟩
  exact yy80
theorem kDd {id : Nat} {a : Act} {w : World} {l : List Oper} (S : World → Prop) (fins : List Nat) (ord : List (Nat × Bool)) (hm : P.follows .mixedOrders = true) (hs : Region.noSelect l.toArray = true)
    (ho : kCI .any l.toArray fins ord (Array.replicate l.toArray.size false) = true) (hl : ord.length = l.length) (hS : S w.drew) (h : wpP P l.toArray (NoPanic Q) S fins false ord a w.drew) :
    (Code.region id l.toArray true).wp P Q a w := by
 refine wp_region_noPanic (wp_region_any hm ?_)
 have hc : clo .any l.toArray (Array.replicate l.toArray.size false) := by
  exact yy55
 have := kDG (Q := NoPanic Q) (S := S) hs (fun _ _ _ _ h => h) ord false _ a w.drew hc ho (fun h => by cases h) (fun _ => hS) h
 rw [hl] at this
 have h2 := kCe _ _ _ _ this
 simpa using h2
theorem kAj {d : Bool} {fins : List Nat} {a : Act} {w : World} (h : Q .normal a w) : wpP P ops (NoPanic Q) S fins d [] a w := h
theorem kEs {d : Bool} {fins : List Nat} {i : Nat} {o : Oper} {r : List (Nat × Bool)} {a : Act} {w : World} (ho : ops[i]? = some o) (hf : isFA ops i = true) (hw : Region.wanted o (yielded ops a.tmps) = true)
    (h : ∃ v, (∀ X, kAk P X v ((execOp a.eval o).run P X)) ∧ wpP P ops Q S fins d r (a.put o.dst v) w) : wpP P ops Q S fins d ((i, true) :: r) a w := by
 obtain ⟨v, h1, h2⟩ := h
 exact ⟨o, ho, v, .inl ⟨hw, fun X _ => h1 X⟩, h2⟩
theorem kCq {d : Bool} {fins : List Nat} {i : Nat} {o : Oper} {r : List (Nat × Bool)} {a : Act} {w : World} (ho : ops[i]? = some o) (hf : isFA ops i = false) (hw : Region.wanted o (yielded ops a.tmps) = true)
    (h : ∃ v, (∀ X, S X → kAk P X v ((execOp a.eval o).run P X)) ∧ wpP P ops Q S fins d r (a.put o.dst v) w) : wpP P ops Q S fins d ((i, true) :: r) a w := by
 obtain ⟨v, h1, h2⟩ := h
 refine ⟨o, ho, v, .inl ⟨hw, fun X hX => h1 X ?_⟩, h2⟩
 unfold SP at hX
 rw [if_neg (by simp [hf])] at hX
 exact hX
theorem kAp {d : Bool} {fins : List Nat} {i : Nat} {op : Oper} {r : List (Nat × Bool)} {a : Act} {w : World} (ho : ops[i]? = some op) (hf : isFA ops i = false) (hw : Region.wanted op (yielded ops a.tmps) = true) (ty : TypeId) (x : Operand) (hop : op.op = .load ty x)
    (b q : Nat) (hx : a.eval x = .pointer (some ⟨b, q, none⟩)) (cs : LV) (dd : TypeDesc) (hc : ∀ X, S X → X.rangeAt b q cs) (hu : P.underlying ty = some dd) (hd : dd.isRow = true) (hi : (P.info? ty).map (·.size) = some cs.length)
    (h : wpP P ops Q S fins d r (a.put op.dst (.agg cs.toArray)) w) : wpP P ops Q S fins d ((i, true) :: r) a w :=
 kCq ho hf hw ⟨_, fun X hX => by unfold execOp; simp only [hop, hx, Instr.loadAt, Instr.sureAddr, Sem.run_bind, Sem.run_pure, Result.andThen_ok, run_loadVar_mid X b q ty cs dd (hc X hX) hu hd hi]; exact stillUpon_value, h⟩
theorem kAE {d : Bool} {fins : List Nat} {i : Nat} {o : Oper} {r : List (Nat × Bool)} {a : Act} {w : World} (ho : ops[i]? = some o) (hw : Region.wanted o (yielded ops a.tmps) = true)
    (h : ∀ K : Act → World → Prop, (∀ a' w', ((d || fins.contains i) = false → S w') → wpP P ops Q S fins (d || fins.contains i) r a' w' → K a' w') → o.wp P a w K Q) : wpP P ops Q S fins d ((i, false) :: r) a w := by
 show wpOp P ops Q i _ a w
 exact yy83
theorem rgP {id : Nat} {a : Act} {w : World} {l : List Oper} (S : World → Prop) (fins : List Nat) (ord : List (Nat × Bool)) (hS : S w.drew) (h : wpP P l.toArray (NoPanic Q) S fins false ord a w.drew) (hm : P.follows .mixedOrders = true := by kernel_rfl) (hs : Region.noSelect l.toArray = true := by kernel_rfl)
    (ho : kCI .any l.toArray fins ord (Array.replicate l.toArray.size false) = true := by kernel_rfl) (hl : ord.length = l.length := by rfl) : (Code.region id l.toArray true).wp P Q a w := kDd S fins ord hm hs ho hl hS h
theorem pF {d : Bool} {fins : List Nat} {i : Nat} {o : Oper} {r : List (Nat × Bool)} {a a' : Act} {w : World} {v : Value} (h : wpP P ops Q S fins d r a' w) (ho : ops[i]? = some o := by rfl) (hf : isFA ops i = true := by rfl) (hw : Region.wanted o (yielded ops a.tmps) = true := by rfl)
    (hv : ∀ X, kAk P X v ((execOp a.eval o).run P X) := by simp only [zA]; intro X; go_simp; exact stillUpon_value) (ha : a.put o.dst v = a' := by simp only [zA, zC, Act.put]; rfl) : wpP P ops Q S fins d ((i, true) :: r) a w :=
 kEs ho hf hw ⟨v, hv, ha ▸ h⟩
theorem pX {d : Bool} {fins : List Nat} {i : Nat} {o : Oper} {r : List (Nat × Bool)} {a a' : Act} {w : World} {v : Value} {F : World → Prop} (hF : ∀ X, S X → F X) (h : wpP P ops Q S fins d r a' w) (ho : ops[i]? = some o := by rfl) (hf : isFA ops i = false := by rfl) (hw : Region.wanted o (yielded ops a.tmps) = true := by rfl)
    (hv : ∀ X, F X → kAk P X v ((execOp a.eval o).run P X) := by simp only [zA]; intro X hX; (repeat (have := And.left hX; replace hX := And.right hX)); go_simp; exact stillUpon_value) (ha : a.put o.dst v = a' := by simp only [zA, zC, Act.put]; rfl) : wpP P ops Q S fins d ((i, true) :: r) a w :=
 kCq ho hf hw ⟨v, fun X hX => hv X (hF X hX), ha ▸ h⟩
end
theorem rP {A G H : Prop} (a : A) (g : G) (h : A → G → H := by intro a g; (repeat (first | refine pS ?_ | refine pF ?_ | refine pX a ?_)); exact g) : H := h a g
theorem rwP {P : Program} {Q : Exit → Act → World → Prop} {id : Nat} {a : Act} {w : World} {l : List Oper} {ord : List (Nat × Bool)} (S : World → Prop) (fins : List Nat) (n e : List Nat) (hS : S w.drew) (h : wpP P l.toArray (NoPanic Q) S fins false ord a w.drew) (hd : oq n e = ord := by simp only [oq, List.range, List.range.loop, List.map, List.contains, List.elem, Nat.reduceBEq, Bool.not_true, Bool.not_false]; rfl) (hm : P.follows .mixedOrders = true := by kernel_rfl) (hs : Region.noSelect l.toArray = true := by kernel_rfl)
 (ho : kCI .any l.toArray fins ord (Array.replicate l.toArray.size false) = true := by kernel_rfl) (hl : ord.length = l.length := by rfl) : (Code.region id l.toArray true).wp P Q a w := kDd S fins ord hm hs ho hl hS h
inductive OT where
 | nil
 | rd (i : Nat) (r : OT)
 | eff (i : Nat) (r : OT)
 | alt (i : Nat) (r : OT) (j : Nat) (s : OT)
def OT.len : OT → Nat
 | .nil => 0
 | .rd _ r => r.len + 1
 | .eff _ r => r.len + 1
 | .alt _ r _ _ => r.len + 1
def kBf (md : Region.Mode) (ops : Array Oper) : OT → Array Bool → Bool
 | .nil, L => (Region.ready md ops L).isEmpty
 | .rd i r, L => Region.free md ops L i && (Region.ready md ops L).contains i && kBf md ops r (L.setIfInBounds i true)
 | .eff i r, L => (Region.ready md ops L == [i]) && kBf md ops r (L.setIfInBounds i true)
 | .alt i r j s, L => (Region.ready md ops L == [i, j]) && (s.len == r.len) && kBf md ops r (L.setIfInBounds i true) && kBf md ops s (L.setIfInBounds j true)
section
variable {P : Program} {ops : Array Oper} {Q : Exit → Act → World → Prop} {md : Region.Mode} {S : World → Prop}
def wpT (P : Program) (ops : Array Oper) (Q : Exit → Act → World → Prop) (S : World → Prop) : OT → Act → World → Prop
 | .nil, a, w => Q .normal a w
 | .rd i r, a, w => ∃ o, ops[i]? = some o ∧ ∃ v, YieldsQ P ops S o v a ∧ wpT P ops Q S r (a.put o.dst v) w
 | .eff i r, a, w => wpOp P ops Q i (fun a' w' => S w' ∧ wpT P ops Q S r a' w') a w
 | .alt i r j s, a, w => wpOp P ops Q i (fun a' w' => S w' ∧ wpT P ops Q S r a' w') a w ∧ wpOp P ops Q j (fun a' w' => S w' ∧ wpT P ops Q S s a' w') a w
theorem kBt (hsel : Region.noSelect ops = true) (hQ : ∀ c a a' w, Q (.panic c) a w → Q (.panic c) a' w) : ∀ (t : OT) (L : Array Bool) (a : Act) (w : World),
    clo md ops L → kBf md ops t L = true → S w → wpT P ops Q S t a w → kCE P md ops Q S [] t.len L a w
 | .nil, L, a, w, _, ho, _, h => ⟨by simpa [kBf] using ho, h⟩
 | .rd i r, L, a, w, hc, ho, hS, h => by
  obtain ⟨o, hi, v, hy, hn⟩ := h
  simp only [kBf, Bool.and_eq_true] at ho
  obtain ⟨⟨h1, h2⟩, h5⟩ := ho
  have hr : i ∈ Region.ready md ops L := by simpa using h2
  refine kCt hi (Region.noSelect_spec hsel) (fun c a w hq => hQ c _ _ _ hq) sm (fun f hf => by cases hf) r.len L a w hc (Region.free_spec hi h1) hr hy (fun _ => hS) ?_
  exact kBt hsel hQ r _ _ w (clo_set hc hr) h5 hS hn
 | .eff i r, L, a, w, hc, ho, hS, h => by
  simp only [kBf, Bool.and_eq_true, beq_iff_eq] at ho
  obtain ⟨h1, h2⟩ := ho
  have hr : i ∈ Region.ready md ops L := by rw [h1]; simp
  refine ⟨fun h0 => (by rw [h0] at h1; cases h1), fun j hj => ?_⟩
  rw [h1] at hj
  have hji : j = i := by simpa using hj
  subst hji
  exact wpOp_mono (fun a' w' ⟨k1, k2⟩ => ⟨fun _ => k1, kBt hsel hQ r _ a' w' (clo_set hc hr) h2 k1 k2⟩) h
 | .alt i r j s, L, a, w, hc, ho, hS, h => by
  simp only [kBf, Bool.and_eq_true, beq_iff_eq] at ho
  obtain ⟨⟨⟨h1, h2⟩, h3⟩, h4⟩ := ho
  have hr : i ∈ Region.ready md ops L := by rw [h1]; simp
  have hs : j ∈ Region.ready md ops L := by rw [h1]; simp
  refine ⟨fun h0 => (by rw [h0] at h1; cases h1), fun k hk => ?_⟩
  rw [h1] at hk
  have hkk : k = i ∨ k = j := by simpa using hk
  rcases hkk with rfl | rfl
  · exact wpOp_mono (fun a' w' ⟨k1, k2⟩ => ⟨fun _ => k1, kBt hsel hQ r _ a' w' (clo_set hc hr) h3 k1 k2⟩) h.1
  · have := fun a' w' (hh : S w' ∧ wpT P ops Q S s a' w') => kBt hsel hQ s _ a' w' (clo_set hc hs) h4 hh.1 hh.2
    rw [h2] at this
    exact wpOp_mono (fun a' w' hh => ⟨fun _ => hh.1, this a' w' hh⟩) h.2
theorem kBu {id : Nat} {a : Act} {w : World} {l : List Oper} (S : World → Prop) (t : OT) (hm : P.follows .mixedOrders = true) (hs : Region.noSelect l.toArray = true)
    (ho : kBf .any l.toArray t (Array.replicate l.toArray.size false) = true) (hl : t.len = l.length) (hS : S w.drew) (h : wpT P l.toArray (NoPanic Q) S t a w.drew) :
    (Code.region id l.toArray true).wp P Q a w := by
 refine wp_region_noPanic (wp_region_any hm ?_)
 have hc : clo .any l.toArray (Array.replicate l.toArray.size false) := by
  exact yy55
 have := kBt (Q := NoPanic Q) (S := S) hs (fun _ _ _ _ h => h) t _ a w.drew hc ho hS h
 rw [hl] at this
 have h2 := kCe _ _ _ _ this
 simpa using h2
theorem wpT_nil {a : Act} {w : World} (h : Q .normal a w) : wpT P ops (NoPanic Q) S .nil a w := h
theorem kGh {i : Nat} {o : Oper} {r : OT} {a : Act} {w : World} (ho : ops[i]? = some o) (hw : Region.wanted o (yielded ops a.tmps) = true)
    (h : ∃ v, (∀ X, S X → kAk P X v ((execOp a.eval o).run P X)) ∧ wpT P ops Q S r (a.put o.dst v) w) : wpT P ops Q S (.rd i r) a w := by
 obtain ⟨v, h1, h2⟩ := h
 exact ⟨o, ho, v, .inl ⟨hw, h1⟩, h2⟩
theorem wpT_eff {i : Nat} {o : Oper} {r : OT} {a : Act} {w : World} (ho : ops[i]? = some o) (hw : Region.wanted o (yielded ops a.tmps) = true)
    (h : ∀ K : Act → World → Prop, (∀ a' w', S w' → wpT P ops Q S r a' w' → K a' w') → o.wp P a w K Q) : wpT P ops Q S (.eff i r) a w := by
 show wpOp P ops Q i _ a w
 exact yy83
theorem kCl {i j : Nat} {r s : OT} {a : Act} {w : World} (h1 : wpT P ops Q S (.eff i r) a w) (h2 : wpT P ops Q S (.eff j s) a w) : wpT P ops Q S (.alt i r j s) a w := ⟨h1, h2⟩
theorem rgT {id : Nat} {a : Act} {w : World} {l : List Oper} (S : World → Prop) (t : OT) (hS : S w.drew) (h : wpT P l.toArray (NoPanic Q) S t a w.drew) (hm : P.follows .mixedOrders = true := by kernel_rfl) (hs : Region.noSelect l.toArray = true := by kernel_rfl)
    (ho : kBf .any l.toArray t (Array.replicate l.toArray.size false) = true := by kernel_rfl) (hl : t.len = l.length := by rfl) : (Code.region id l.toArray true).wp P Q a w := kBu S t hm hs ho hl hS h
theorem tX {i : Nat} {o : Oper} {r : OT} {a a' : Act} {w : World} {v : Value} {F : World → Prop} (hF : ∀ X, S X → F X) (h : wpT P ops Q S r a' w) (ho : ops[i]? = some o := by rfl) (hw : Region.wanted o (yielded ops a.tmps) = true := by rfl)
    (hv : ∀ X, F X → kAk P X v ((execOp a.eval o).run P X) := by simp only [zA]; intro X hX; (repeat (have := And.left hX; replace hX := And.right hX)); go_simp; exact stillUpon_value) (ha : a.put o.dst v = a' := by simp only [zA, zC, Act.put]; rfl) : wpT P ops Q S (.rd i r) a w :=
 kGh ho hw ⟨v, fun X hX => hv X (hF X hX), ha ▸ h⟩
end
theorem rT {A G H : Prop} (a : A) (g : G) (h : A → G → H := by intro a g; (repeat (first | refine tS ?_ | refine tX a ?_)); exact g) : H := h a g
section
variable {P : Program} {t : TypeId} {w : World}
theorem kAV {k : IntKind} (h : P.underlying t = some (.int k)) : (isAgg t).run P w = .ok false w := by simp [isAgg, run_underlying h]
theorem kAK {cs : Array Value} {off : Nat} {v : Value} (h : (isAgg t).run P w = .ok false w) (hv : cs[off]? = some v) : (part t cs off).run P w = .ok v w := by
 simp [part, h, hv]
theorem kCm {d : Nat} {xs ys : Array Value} : (Op.eqFields d xs ys []).run P w = .ok true w := rfl
theorem kAX {d : Nat} {xs ys : Array Value} {f : Field} {fs : List Field} {a b : Value} {r s : Bool} (hn : f.name ≠ "_") (ha : (part f.type xs f.offset).run P w = .ok a w) (hb : (part f.type ys f.offset).run P w = .ok b w)
    (he : (Op.equalIn d f.type a b).run P w = .ok r w) (h : (Op.eqFields d xs ys fs).run P w = .ok s w) : (Op.eqFields d xs ys (f :: fs)).run P w = .ok (r && s) w := by
 rw [Op.eqFields, if_pos hn]
 simp only [Sem.run_bind, ha, hb, he, Result.andThen_ok]
 cases r <;> simp [h]
theorem kEf {d : Nat} {xs ys : Array Value} {r : Bool} (ht : P.underlying t = some (.struct (P.fieldsOf t))) (hp : P.stoodInHeld t = false) (h : (Op.eqFields d xs ys (P.fieldsOf t).toList).run P w = .ok r w) :
    (Op.equalIn (d + 1) t (.agg xs) (.agg ys)).run P w = .ok r w := by rw [run_equalIn_struct w d t xs ys ht hp, h]
end
def kBY (p : Nat → Bool) (n : Nat) : Bool := (List.range n).all p
theorem allUp_step {p : Nat → Bool} {k : Nat} (h : kBY p k = true) (hp : p k = true) : kBY p (k + 1) = true := by
 unfold kBY at h ⊢
 rw [List.range_succ, List.all_append, h]; simp [hp]
theorem kFq {p : Nat → Bool} {k n : Nat} (hk : k < n) (hp : p k = false) : kBY p n = false := by
 rw [← Bool.not_eq_true]; intro h
 have := List.all_eq_true.1 h k (List.mem_range.2 hk)
 rw [hp] at this; cases this
theorem kLX {p : Nat → Bool} {n : Nat} : kBY p n = true ↔ ∀ i, i < n → p i = true := by
 unfold kBY
 rw [List.all_eq_true]
 exact ⟨fun h i hi => h i (List.mem_range.2 hi), fun h i hi => h i (List.mem_range.1 hi)⟩
structure Ty (α : Type) where
 size : Nat
 rd : World → (Nat → Prop) → LV → α → Prop
 le : Nat → α → Prop
 bytes : Nat
 lw : Nat → α → Prop
def Ty.int (k : IntKind) : Ty Int := ⟨1, fun _ _ cs n => cs = [.int k n] ∧ (Lit.int k n).wf = true, fun _ _ => True, k.bits / 8, fun _ _ => True⟩
def Ty.bool : Ty Bool := ⟨1, fun _ _ cs b => cs = [.bool b], fun _ _ => True, 1, fun _ _ => True⟩
def Ty.str : Ty ByteArray := ⟨1, fun _ _ cs s => cs = [.string s] ∧ s.size ≤ maxLen, fun m s => s.size ≤ m, 16, fun m s => s.size ≤ m⟩
def Ty.unit : Ty Unit := ⟨0, fun _ _ cs _ => cs = [], fun _ _ => True, 0, fun _ _ => True⟩
def Ty.pair {α β : Type} (s : Ty α) (t : Ty β) : Ty (α × β) :=
 ⟨s.size + t.size, fun w S cs x => ∃ c1 c2, cs = c1 ++ c2 ∧ s.rd w S c1 x.1 ∧ t.rd w S c2 x.2, fun m x => s.le m x.1 ∧ t.le m x.2, s.bytes + t.bytes, fun m x => s.lw m x.1 ∧ t.lw m x.2⟩
def Ty.iso {α β : Type} (t : Ty β) (g : α → β) : Ty α := ⟨t.size, fun w S cs x => t.rd w S cs (g x), fun m x => t.le m (g x), t.bytes, fun m x => t.lw m (g x)⟩
def Ty.els {α : Type} (t : Ty α) (w : World) (S : Nat → Prop) (A : OA) (xs : List α) : Prop :=
 xs = [] ∨ ∃ b o, A = some ⟨b, o, none⟩ ∧ S b ∧ ∀ (i : Nat) (x : α), xs[i]? = some x →
  ∃ ds, (∀ (j : Nat) (u : Value), ds[j]? = some u → w.cell? ⟨b, o + (i * t.size + j), none⟩ = some u) ∧ t.rd w S ds x
def Ty.slice {α : Type} (t : Ty α) : Ty (List α) :=
 ⟨1, fun w S cs xs => ∃ A c, cs = [.slice A xs.length c] ∧ xs.length ≤ c ∧ c ≤ maxLen ∧ t.els w S A xs, fun m xs => xs.length ≤ m ∧ ∀ x ∈ xs, t.le m x, 24, fun m xs => xs.length ≤ m ∧ xs.length * t.bytes ≤ m ∧ ∀ x ∈ xs, t.lw m x⟩
class TyOk {α : Type} (t : Ty α) : Prop where
 len : ∀ w S cs x, t.rd w S cs x → cs.length = t.size
 keep : ∀ w w' S cs x, t.rd w S cs x → (∀ p : Addr, S p.block → w'.cell? p = w.cell? p) → t.rd w' S cs x
instance (k : IntKind) : TyOk (Ty.int k) := ⟨fun _ _ _ _ h => by rw [h.1]; rfl, fun _ _ _ _ _ h _ => h⟩
instance : TyOk Ty.bool := ⟨fun _ _ _ _ h => by rw [show _ = _ from h]; rfl, fun _ _ _ _ _ h _ => h⟩
instance : TyOk Ty.str := ⟨fun _ _ _ _ h => by rw [h.1]; rfl, fun _ _ _ _ _ h _ => h⟩
instance : TyOk Ty.unit := ⟨fun _ _ _ _ h => by rw [show _ = _ from h]; rfl, fun _ _ _ _ _ h _ => h⟩
instance {α β : Type} (s : Ty α) (t : Ty β) [hs : TyOk s] [ht : TyOk t] : TyOk (s.pair t) :=
 ⟨fun w S cs x ⟨c1, c2, e, h1, h2⟩ => by rw [e, List.length_append, hs.len _ _ _ _ h1, ht.len _ _ _ _ h2]; rfl,
  fun w w' S cs x ⟨c1, c2, e, h1, h2⟩ hk => ⟨c1, c2, e, hs.keep _ _ _ _ _ h1 hk, ht.keep _ _ _ _ _ h2 hk⟩⟩
instance {α β : Type} (t : Ty β) (g : α → β) [ht : TyOk t] : TyOk (t.iso g) :=
 ⟨fun w S cs x h => ht.len w S cs (g x) h, fun w w' S cs x h hk => ht.keep w w' S cs (g x) h hk⟩
theorem Ty.els.keep {α : Type} {t : Ty α} [ht : TyOk t] {w w' : World} {S : Nat → Prop} {A : OA} {xs : List α} (h : t.els w S A xs) (hk : ∀ p : Addr, S p.block → w'.cell? p = w.cell? p) : t.els w' S A xs := by
 rcases h with h | ⟨b, o, e, hb, h⟩
 · exact .inl h
 refine .inr ⟨b, o, e, hb, fun i x hx => ?_⟩
 obtain ⟨ds, h1, h2⟩ := h i x hx
 exact ⟨ds, fun j u hu => (hk _ hb).trans (h1 j u hu), ht.keep _ _ _ _ _ h2 hk⟩
instance {α : Type} (t : Ty α) [ht : TyOk t] : TyOk t.slice :=
 ⟨fun w S cs xs ⟨A, c, e, _⟩ => by rw [e]; rfl, fun w w' S cs xs ⟨A, c, e, h1, h2, h3⟩ hk => ⟨A, c, e, h1, h2, h3.keep hk⟩⟩
theorem Ty.els.fr {α : Type} {t : Ty α} [TyOk t] {w w' : World} {S : Nat → Prop} {A : OA} {xs : List α} {M : Nat → Prop} (h : t.els w S A xs) (f : Fr M w w') (hM : ∀ k, S k → k < w.heap.size ∧ ¬ M k) : t.els w' S A xs :=
 h.keep fun _ hp => f.cell (hM _ hp).1 (hM _ hp).2
theorem Ty.els.at_ {α : Type} {t : Ty α} {w : World} {S : Nat → Prop} {A : OA} {xs : List α} (h : t.els w S A xs) (i : Nat) (hi : i < xs.length) :
    ∃ b o ds, A = some ⟨b, o, none⟩ ∧ S b ∧ (∀ (j : Nat) (u : Value), ds[j]? = some u → w.cell? ⟨b, o + (i * t.size + j), none⟩ = some u) ∧ t.rd w S ds xs[i] := by
 rcases h with h | ⟨b, o, e, hb, h⟩
 · subst h; simp at hi
 obtain ⟨ds, h1, h2⟩ := h i _ (List.getElem?_eq_getElem hi)
 exact ⟨b, o, ds, e, hb, h1, h2⟩
def kAd {α : Type} (P : Program) (t : TypeId) (ty : Ty α) : Prop :=
 ∀ (H : Type) (enc : TypeId × Value → H) (w : World) (fuel : Nat) (cs : LV) (x : DataW H × List MemPlace), DataW.trod enc P w 0 (fun _ => true) true fuel t cs = some x →
  ∃ y, ty.rd w (· < w.heap.size) cs y ∧ (∀ m, Rows.uptoBulk x.1 ≤ m → ty.le m y) ∧ ∀ m, (∀ n ∈ x.1.weights P t, n ≤ m) → ty.lw m y
theorem kAD {P : Program} {t : TypeId} {k : IntKind} (hu : P.underlying t = some (.int k)) : kAd P t (Ty.int k) := by
 intro H enc w fuel cs x h
 obtain ⟨n, h1, _, h3⟩ := DataW.trod_int hu h
 exact ⟨n, ⟨h1, h3⟩, fun _ _ => trivial, fun _ _ => trivial⟩
theorem kDt {P : Program} {t : TypeId} (hu : P.underlying t = some .bool) : kAd P t Ty.bool := by
 intro H enc w fuel cs x h
 obtain ⟨b, h1, _⟩ := DataW.trod_bool hu h
 exact ⟨b, h1, fun _ _ => trivial, fun _ _ => trivial⟩
theorem kCD {P : Program} {t : TypeId} (hu : P.underlying t = some .string) : kAd P t Ty.str := by
 intro H enc w fuel cs x h
 obtain ⟨s, h1, h2, h3⟩ := DataW.trod_string hu h
 refine ⟨s, ⟨h1, h3⟩, fun m hm => ?_, fun m hm => ?_⟩
 · subst h2
   simp only [Rows.uptoBulk, Array.length_toList] at hm
   show s.size ≤ m
   have : s.data.size = s.size := rfl
   omega
 subst h2
 have := hm s.data.toList.length (by simp [DataW.weights])
 show s.size ≤ m
 have : s.data.size = s.size := rfl
 simp at *
 omega
theorem kAW {α β : Type} {P : Program} {t : TypeId} {ty : Ty β} (g : α → β) (f : β → α) (hgf : ∀ y, g (f y) = y) (h : kAd P t ty) : kAd P t (ty.iso g) := by
 intro H enc w fuel cs x hx
 obtain ⟨y, h1, h2, h3⟩ := h H enc w fuel cs x hx
 exact ⟨f y, by show ty.rd _ _ _ (g (f y)); rw [hgf]; exact h1, fun m hm => by show ty.le m (g (f y)); rw [hgf]; exact h2 m hm, fun m hm => by show ty.lw m (g (f y)); rw [hgf]; exact h3 m hm⟩
theorem kHB {H : Type} {d : DataW H} : ∀ {l : List (DataW H)}, d ∈ l → Rows.uptoBulk d ≤ Rows.uptoBulkAll l
 | [], h => by cases h
 | e :: l, h => by
  simp only [Rows.uptoBulkAll]
  cases h with
  | head => omega
  | tail _ h => have := kHB h; omega
theorem kLd {H : Type} (d : DataW H) : 1 ≤ Rows.uptoBulk d := by
 cases d with
 | lit l => cases l <;> simp [Rows.uptoBulk]
 | _ => simp [Rows.uptoBulk]
theorem kHJ {H : Type} : ∀ (l : List (DataW H)), l.length ≤ Rows.uptoBulkAll l
 | [] => by simp
 | e :: l => by simp only [Rows.uptoBulkAll, List.length_cons]; have := kHJ l; have := kLd e; omega
theorem kEh {H : Type} {P : Program} {e : TypeId} {d : DataW H} {n : Nat} (hn : n ∈ d.weights P e) : ∀ {l : List (DataW H)}, d ∈ l → n ∈ DataW.weightsAll P e l
 | [], h => by cases h
 | c :: l, h => by
  simp only [DataW.weightsAll, List.mem_append]
  cases h with
  | head => exact .inl hn
  | tail _ h => exact .inr (kEh hn h)
theorem kDI {α β : Type} (R : β → α → Prop) : ∀ (l : List β), (∀ b ∈ l, ∃ a, R b a) → ∃ ys : List α, ys.length = l.length ∧ ∀ (i : Nat) (b : β) (a : α), l[i]? = some b → ys[i]? = some a → R b a
 | [], _ => ⟨[], rfl, by simp⟩
 | b :: l, h => by
  obtain ⟨a, ha⟩ := h b sm
  obtain ⟨ys, h1, h2⟩ := kDI R l (fun b hb => h b (by simp [hb]))
  refine ⟨a :: ys, by simp [h1], fun i b' a' e1 e2 => ?_⟩
  cases i with
  | zero => simp at e1 e2; subst e1; subst e2; exact ha
  | succ i => simp at e1 e2; exact h2 i b' a' e1 e2
theorem kAF {α : Type} {P : Program} {t e : TypeId} {ty : Ty α} (hu : P.underlying t = some (.slice e)) (hsz : P.cellsOf e = ty.size) (hpos : 0 < ty.size) (ho : kAd P e ty) (hby : decide (0 < P.bytesOf e) = true := by kernel_rfl) (hbw : decide (ty.bytes ≤ P.bytesOf e) = true := by kernel_rfl) : kAd P t ty.slice := by
 have hby' : 0 < P.bytesOf e := of_decide_eq_true hby
 intro H enc w fuel cs x h
 rcases DataW.trod_slice hu h with ⟨h1, h2⟩ | ⟨a, len, cap, elems, rest, n, _, hcs, hx, _, hlc, hcm, hel, hcells, _, _⟩
 · exact ⟨[], ⟨none, 0, h1, by simp, by simp [maxLen], .inl rfl⟩, fun m _ => ⟨by simp, by simp⟩, fun m _ => ⟨by simp, by simp, by simp⟩⟩
 rw [hsz] at hcells
 have hget : ∀ i, i < len → ∃ (y : α) (ds : LV) (el : DataW H × List MemPlace), elems[i]? = some el ∧ w.cells? 0 (a.add (i * ty.size)) ty.size = some ds ∧ ty.rd w (· < w.heap.size) ds y ∧ (∀ m, Rows.uptoBulk el.1 ≤ m → ty.le m y) ∧ ∀ m, (∀ n ∈ el.1.weights P e, n ≤ m) → ty.lw m y := by
  intro i hi
  have hc := hcells i hi
  have hsome : elems[i]? = some (elems[i]'om) := List.getElem?_eq_getElem om
  rw [hsome, Option.bind_eq_some_iff] at hc
  obtain ⟨ds, h1, h2⟩ := hc
  obtain ⟨y, h3, h4, h5⟩ := ho H enc w n ds _ h2
  exact ⟨y, ds, _, hsome, h1, h3, h4, h5⟩
 obtain ⟨ys, hyl, hys⟩ := kDI (fun (i : Nat) (y : α) => ∃ (ds : LV) (el : DataW H × List MemPlace), elems[i]? = some el ∧ w.cells? 0 (a.add (i * ty.size)) ty.size = some ds ∧ ty.rd w (· < w.heap.size) ds y ∧ (∀ m, Rows.uptoBulk el.1 ≤ m → ty.le m y) ∧ ∀ m, (∀ n ∈ el.1.weights P e, n ≤ m) → ty.lw m y) (List.range len)
  (fun i hi => hget i (by simpa using hi))
 simp only [List.length_range] at hyl
 refine ⟨ys, ⟨some a, cap, by rw [hcs, hyl], by omega, hcm, ?_⟩, fun m hm => ?_, fun m hm => ?_⟩
 · by_cases h0 : len = 0
   · left; exact List.eq_nil_of_length_eq_zero om
   right
   obtain ⟨y0, ds0, el0, _, hd0, _, _, _⟩ := hget 0 om
   obtain ⟨_, hl0, hc0⟩ := World.cells?_some hd0
   have hz := hc0 0 om
   rw [List.getElem?_eq_getElem (by omega)] at hz
   simp only [Nat.zero_mul] at hz
   have hz' : w.cell? a = some ds0[0] := by simpa [Addr.add] using hz
   obtain ⟨b, o, sp⟩ := a
   have hsp : sp = none := World.cell?_spot hz'
   subst hsp
   refine ⟨b, o, rfl, World.block_lt_of_cell? w _ hz', fun i y hy => ?_⟩
   have hi : i < len := by have := (List.getElem?_eq_some_iff.1 hy).1; omega
   obtain ⟨ds, el, _, hd, hr, _, _⟩ := hys i i y (by simp [hi]) hy
   obtain ⟨_, hl, hc⟩ := World.cells?_some hd
   refine ⟨ds, fun j u hu => ?_, hr⟩
   have hj : j < ty.size := by have := (List.getElem?_eq_some_iff.1 hu).1; omega
   have := hc j hj
   rw [hu, add_lit'', add_lit''] at this
   rw [← this, Nat.add_assoc]
 · subst hx
   simp only [Rows.uptoBulk] at hm
   refine ⟨by have := kHJ (elems.map (·.1)); simp at this; omega, fun y hy => ?_⟩
   obtain ⟨i, hi, rfl⟩ := List.getElem_of_mem hy
   obtain ⟨ds, el, he, _, _, hle, _⟩ := hys i i _ (List.getElem?_range om) (List.getElem?_eq_getElem hi)
   refine hle m ?_
   have hmem : el ∈ elems := List.mem_of_getElem? he
   have := kHB (List.mem_map_of_mem (f := (·.1)) hmem)
   omega
 subst hx
 simp only [DataW.weights, hu] at hm
 have hl := hm _ (List.mem_cons_self ..)
 simp only [List.length_map] at hl
 refine ⟨?_, ?_, fun y hy => ?_⟩
 · have := Nat.le_mul_of_pos_right (elems.length + rest.length) hby'
   omega
 · exact Nat.le_trans (Nat.mul_le_mul om (of_decide_eq_true hbw)) hl
 obtain ⟨i, hi, rfl⟩ := List.getElem_of_mem hy
 obtain ⟨ds, el, he, _, _, _, hle⟩ := hys i i _ (List.getElem?_range om) (List.getElem?_eq_getElem hi)
 refine hle m fun n hn => hm n (List.mem_cons_of_mem _ (List.mem_append.2 (.inl ?_)))
 exact kEh hn (List.mem_map_of_mem (f := (·.1)) (List.mem_of_getElem? he))
where add_lit'' (b o j : Nat) : (⟨b, o, none⟩ : Addr).add j = ⟨b, o + j, none⟩ := by unfold Addr.add; split <;> simp_all
inductive Flds (P : Program) : {α : Type} → List Field → Nat → Ty α → Prop
 | nil {off : Nat} : Flds P [] off Ty.unit
 | one {α : Type} {f : Field} {off : Nat} {ty : Ty α} (h1 : f.offset = off) (h2 : P.cellsOf f.type = ty.size) (h3 : kAd P f.type ty) : Flds P [f] off ty
 | cons {α β : Type} {f : Field} {fs : List Field} {off : Nat} {ty : Ty α} {tys : Ty β} (h1 : f.offset = off) (h2 : P.cellsOf f.type = ty.size) (h3 : kAd P f.type ty) (h4 : Flds P fs (off + ty.size) tys) :
     Flds P (f :: fs) off (ty.pair tys)
theorem kKo {α : Type} {P : Program} {fs : List Field} {off : Nat} {ty : Ty α} (hf : Flds P fs off ty) : ∀ (H : Type) (enc : TypeId × Value → H) (w : World) (n : Nat) (cs : LV) (xs : List (DataW H × List MemPlace)),
    cs.length = off + ty.size → xs.length = fs.length →
    (∀ (i : Nat) (f : Field), fs[i]? = some f → DataW.trod enc P w 0 (fun _ => true) true n f.type ((cs.drop f.offset).take (P.cellsOf f.type)) = xs[i]?) →
    ∃ y, ty.rd w (· < w.heap.size) (cs.drop off) y ∧ (∀ m, Rows.uptoBulkAll (xs.map (·.1)) ≤ m → ty.le m y) ∧ ∀ m, (∀ n ∈ DataW.weightsEach P (fs.map (·.type)) (xs.map (·.1)), n ≤ m) → ty.lw m y := by
 induction hf with
 | nil =>
  intro H enc w n cs xs hl _ _
  refine ⟨(), ?_, fun _ _ => trivial, fun _ _ => trivial⟩
  show List.drop _ cs = []
  rw [List.drop_eq_nil_iff]
  simp [Ty.unit] at hl
  omega
 | one h1 h2 h3 =>
  rename_i f off ty
  intro H enc w n cs xs hl hx h
  obtain ⟨x, rfl⟩ : ∃ x, xs = [x] := by
   match xs, hx with
   | [x], _ => exact ⟨x, rfl⟩
  have := h 0 f rfl
  rw [h1, h2] at this
  simp only [List.getElem?_cons_zero] at this
  obtain ⟨y, r1, r2, r3⟩ := h3 H enc w n _ _ this
  rw [List.take_of_length_le (by simp; omega)] at r1
  exact ⟨y, r1, fun m hm => r2 m (by simp only [List.map_cons, List.map_nil, Rows.uptoBulkAll] at hm; omega), fun m hm => r3 m fun n hn => hm n (by simp only [List.map_cons, List.map_nil, DataW.weightsEach, List.append_nil]; exact hn)⟩
 | cons h1 h2 h3 h4 ih =>
  rename_i f fs off ty tys
  intro H enc w n cs xs hl hx h
  obtain ⟨x, xs', rfl⟩ : ∃ x xs', xs = x :: xs' := by
   match xs, hx with
   | x :: xs', _ => exact ⟨x, xs', rfl⟩
  have h0 := h 0 f rfl
  rw [h1, h2] at h0
  simp only [List.getElem?_cons_zero] at h0
  obtain ⟨y, r1, r2, r3⟩ := h3 H enc w n _ _ h0
  have hl' : cs.length = off + ty.size + tys.size := by rw [hl]; show off + (ty.size + tys.size) = _; omega
  obtain ⟨z, s1, s2, s3⟩ := ih H enc w n cs xs' hl' (by simpa using hx) (fun i g hg => by
   have := h (i + 1) g (by simpa using hg)
   simpa using this)
  refine ⟨(y, z), ⟨(cs.drop off).take ty.size, cs.drop (off + ty.size), ?_, r1, s1⟩, fun m hm => ?_, fun m hm => ?_⟩
  · rw [← List.drop_drop, List.take_append_drop]
  · simp only [List.map_cons, Rows.uptoBulkAll] at hm
    exact ⟨r2 m om, s2 m om⟩
  · simp only [List.map_cons, DataW.weightsEach, List.mem_append] at hm
    exact ⟨r3 m fun n hn => hm n (.inl hn), s3 m fun n hn => hm n (.inr hn)⟩
theorem kAT {α : Type} {P : Program} {t : TypeId} {fs : List Field} {ty : Ty α} (hu : P.underlying t = some (.struct fs.toArray)) (hsz : P.cellsOf t = ty.size) (hf : Flds P fs 0 ty) : kAd P t ty := by
 intro H enc w fuel cs x h
 obtain ⟨xs, n, _, hx, hl, hxl, hc⟩ := DataW.trod_struct hu h
 obtain ⟨y, h1, h2, h3⟩ := kKo hf H enc w n cs xs om (by simpa using hxl) (fun i f hf' => hc i f (by simpa using hf'))
 refine ⟨y, by simpa using h1, fun m hm => h2 m ?_, fun m hm => h3 m fun n hn => hm n ?_⟩
 · subst hx
   simp only [Rows.uptoBulk] at hm
   omega
 subst hx
 simpa only [DataW.weights, hu] using hn
class TyMore {α : Type} (t : Ty α) : Prop where
 more : ∀ w (S S' : Nat → Prop) cs x, t.rd w S cs x → (∀ k, S k → S' k) → t.rd w S' cs x
instance (k : IntKind) : TyMore (Ty.int k) := ⟨fun _ _ _ _ _ h _ => h⟩
instance : TyMore Ty.bool := ⟨fun _ _ _ _ _ h _ => h⟩
instance : TyMore Ty.str := ⟨fun _ _ _ _ _ h _ => h⟩
instance : TyMore Ty.unit := ⟨fun _ _ _ _ _ h _ => h⟩
instance {α β : Type} (s : Ty α) (t : Ty β) [hs : TyMore s] [ht : TyMore t] : TyMore (s.pair t) :=
 ⟨fun _ _ _ _ _ ⟨c1, c2, e, h1, h2⟩ hB => ⟨c1, c2, e, hs.more _ _ _ _ _ h1 hB, ht.more _ _ _ _ _ h2 hB⟩⟩
instance {α β : Type} (t : Ty β) (g : α → β) [ht : TyMore t] : TyMore (t.iso g) := ⟨fun w S S' cs x h hB => ht.more w S S' cs (g x) h hB⟩
theorem Ty.els.more {α : Type} {t : Ty α} [ht : TyMore t] {w : World} {S S' : Nat → Prop} {A : OA} {xs : List α} (h : t.els w S A xs) (hB : ∀ k, S k → S' k) : t.els w S' A xs := by
 rcases h with h | ⟨b, o, e, hb, h⟩
 · exact .inl h
 refine .inr ⟨b, o, e, hB _ hb, fun i x hx => ?_⟩
 obtain ⟨ds, h1, h2⟩ := h i x hx
 exact ⟨ds, h1, ht.more _ _ _ _ _ h2 hB⟩
instance {α : Type} (t : Ty α) [ht : TyMore t] : TyMore t.slice := ⟨fun _ _ _ _ _ ⟨A, c, e, h1, h2, h3⟩ hB => ⟨A, c, e, h1, h2, h3.more hB⟩⟩
class kAG {α : Type} (t : Ty α) : Prop where
 one : ∀ w S cs x, t.rd w S cs x → ∀ u ∈ cs, u.oneCell' = true
instance (k : IntKind) : kAG (Ty.int k) := ⟨fun _ _ _ _ h u hu => by rw [h.1] at hu; simp at hu; subst hu; rfl⟩
instance : kAG Ty.bool := ⟨fun _ _ _ _ h u hu => by rw [show _ = _ from h] at hu; simp at hu; subst hu; rfl⟩
instance : kAG Ty.str := ⟨fun _ _ _ _ h u hu => by rw [h.1] at hu; simp at hu; subst hu; rfl⟩
instance : kAG Ty.unit := ⟨fun _ _ _ _ h u hu => by rw [show _ = _ from h] at hu; simp at hu⟩
instance {α β : Type} (s : Ty α) (t : Ty β) [hs : kAG s] [ht : kAG t] : kAG (s.pair t) :=
 ⟨fun _ _ _ _ ⟨c1, c2, e, h1, h2⟩ u hu => by
  rw [e, List.mem_append] at hu
  rcases hu with hu | hu
  · exact hs.one _ _ _ _ h1 u hu
  · exact ht.one _ _ _ _ h2 u hu⟩
instance {α β : Type} (t : Ty β) (g : α → β) [ht : kAG t] : kAG (t.iso g) := ⟨fun w S cs x h => ht.one w S cs (g x) h⟩
instance {α : Type} (t : Ty α) : kAG t.slice := ⟨fun _ _ _ _ ⟨A, c, e, _⟩ u hu => by rw [e] at hu; simp at hu; subst hu; rfl⟩
def Css {α : Type} (t : Ty α) (w : World) (S : Nat → Prop) (css : List (LV)) (xs : List α) : Prop :=
 css.length = xs.length ∧ ∀ (i : Nat) (c : LV) (x : α), css[i]? = some c → xs[i]? = some x → t.rd w S c x
section
variable {α : Type} {t : Ty α}
theorem Css.nil {w : World} {S : Nat → Prop} : Css t w S [] [] := ⟨rfl, fun i c x h => by simp at h⟩
theorem Css.append {w : World} {S : Nat → Prop} {css dss : List (LV)} {xs ys : List α} (h : Css t w S css xs) (k : Css t w S dss ys) : Css t w S (css ++ dss) (xs ++ ys) := by
 refine ⟨by simp [h.1, k.1], fun i c x e1 e2 => ?_⟩
 by_cases hi : i < css.length
 · rw [List.getElem?_append_left hi] at e1
   rw [List.getElem?_append_left (by rw [← h.1]; exact hi)] at e2
   exact h.2 i c x e1 e2
 rw [List.getElem?_append_right (by omega)] at e1
 rw [List.getElem?_append_right (by rw [← h.1]; omega)] at e2
 exact k.2 _ c x e1 (by rw [h.1]; exact e2)
theorem Css.one {w : World} {S : Nat → Prop} {c : LV} {x : α} (h : t.rd w S c x) : Css t w S [c] [x] := by
 refine ⟨rfl, fun i c' x' e1 e2 => ?_⟩
 cases i with
 | zero => simp at e1 e2; subst e1; subst e2; exact h
 | succ i => simp at e1
theorem Css.two {w : World} {S : Nat → Prop} {c c' : LV} {x x' : α} (h : t.rd w S c x) (h' : t.rd w S c' x') : Css t w S [c, c'] [x, x'] := Css.append (css := [c]) (dss := [c']) (xs := [x]) (ys := [x']) (Css.one h) (Css.one h')
theorem Css.more [hm : TyMore t] {w : World} {S S' : Nat → Prop} {css : List (LV)} {xs : List α} (h : Css t w S css xs) (hS : ∀ k, S k → S' k) : Css t w S' css xs := ⟨h.1, fun i c x e1 e2 => hm.more _ _ _ _ _ (h.2 i c x e1 e2) hS⟩
theorem Css.ones [ho : kAG t] {w : World} {S : Nat → Prop} {css : List (LV)} {xs : List α} (h : Css t w S css xs) : ∀ u ∈ css.flatten, u.oneCell' = true := by
 intro u hu
 obtain ⟨c, hc, huc⟩ := List.mem_flatten.1 hu
 obtain ⟨i, hi, rfl⟩ := List.getElem_of_mem hc
 exact ho.one _ _ _ _ (h.2 i _ _ (List.getElem?_eq_getElem hi) (List.getElem?_eq_getElem (by rw [← h.1]; exact hi))) u huc
theorem kDw {m : Nat} : ∀ {css : List (LV)} (_ : ∀ c ∈ css, c.length = m) {i j : Nat} {c : LV} {u : Value}, css[i]? = some c → c[j]? = some u → css.flatten[i * m + j]? = some u
 | [], _, i, j, c, u, h, _ => by simp at h
 | d :: css, hl, i, j, c, u, h, hu => by
  have hd := hl d sm
  cases i with
  | zero =>
   simp at h
   subst h
   rw [List.flatten_cons, Nat.zero_mul, Nat.zero_add, List.getElem?_append_left (List.getElem?_eq_some_iff.1 hu).1]
   exact hu
  | succ i =>
   simp at h
   rw [List.flatten_cons, List.getElem?_append_right (by rw [Nat.add_mul]; omega), show (i + 1) * m + j - d.length = i * m + j by rw [Nat.add_mul]; omega]
   exact kDw (fun c hc => hl c (by simp [hc])) h hu
def Ty.row (t : Ty α) (w : World) (base : Nat) (S : Nat → Prop) (e : TypeId) (v : Value) (xs : List α) : Prop :=
 ∃ css, Css t w S css xs ∧ w.ownsRow base e t.size v xs.length css.flatten
theorem Ty.row.nil (w : World) (base : Nat) (S : Nat → Prop) (e : TypeId) : t.row w base S e (.slice none 0 0) [] := ⟨[], Css.nil, by simpa using World.ownsRow_nil w base e t.size⟩
theorem Ty.row.more [hm : TyMore t] {w : World} {base base' : Nat} {S S' : Nat → Prop} {e : TypeId} {v : Value} {xs : List α} (h : t.row w base S e v xs) (hb : base' ≤ base) (hS : ∀ k, S k → S' k) : t.row w base' S' e v xs := by
 obtain ⟨css, h1, h2⟩ := h
 refine ⟨css, h1.more hS, h2.1, ?_⟩
 rcases h2.2 with h0 | ⟨g, cap, cur, rfl, hg, k⟩
 · exact .inl h0
 exact .inr ⟨g, cap, cur, rfl, Nat.le_trans hb hg, k⟩
theorem Ty.row.own {w : World} {base : Nat} {S : Nat → Prop} {e : TypeId} {v : Value} {xs : List α} (h : t.row w base S e v xs) {g : Nat} (hv : v.ownBlock = some g) : base ≤ g ∧ ∃ cs, Blk w g e cs := by
 obtain ⟨css, _, h2⟩ := h
 rcases h2.2 with ⟨rfl, _⟩ | ⟨g', cap, cur, rfl, hb, hg, _⟩
 · cases hv
 simp only [Value.ownBlock, Option.some.injEq] at hv
 subst hv
 exact ⟨hb, cur, hg⟩
end
section
variable {α : Type} {t : Ty α} [hok : TyOk t]
theorem Css.len {w : World} {S : Nat → Prop} : ∀ {css : List (LV)} {xs : List α}, Css t w S css xs → css.flatten.length = xs.length * t.size
 | [], [], _ => by simp
 | [], _ :: _, h => by have := h.1; simp at this
 | _ :: _, [], h => by have := h.1; simp at this
 | c :: css, x :: xs, h => by
  have h1 := hok.len _ _ _ _ (h.2 0 c x rfl rfl)
  have h2 := Css.len (css := css) (xs := xs) ⟨by have := h.1; simpa using this, fun i c' x' e1 e2 => h.2 (i + 1) c' x' (by simpa using e1) (by simpa using e2)⟩
  simp only [List.flatten_cons, List.length_append, List.length_cons, h1, h2, Nat.add_mul]
  omega
theorem Css.keep {w w' : World} {S : Nat → Prop} {css : List (LV)} {xs : List α} (h : Css t w S css xs) (hk : ∀ p : Addr, S p.block → w'.cell? p = w.cell? p) : Css t w' S css xs :=
 ⟨h.1, fun i c x e1 e2 => hok.keep _ _ _ _ _ (h.2 i c x e1 e2) hk⟩
theorem Css.fr {w w' : World} {S : Nat → Prop} {M : Nat → Prop} {css : List (LV)} {xs : List α} (h : Css t w S css xs) (f : Fr M w w') (hM : ∀ k, S k → k < w.heap.size ∧ ¬ M k) : Css t w' S css xs :=
 h.keep fun _ hp => f.cell (hM _ hp).1 (hM _ hp).2
theorem Css.lens {w : World} {S : Nat → Prop} {css : List (LV)} {xs : List α} (h : Css t w S css xs) : ∀ c ∈ css, c.length = t.size := by
 exact yy79
theorem kMv {w : World} {S : Nat → Prop} {A : OA} {xs : List α} (h : t.els w S A xs) : ∃ css, Css t w S css xs ∧ (xs = [] ∨ ∃ b o, A = some ⟨b, o, none⟩ ∧ S b ∧ ∀ k u, css.flatten[k]? = some u → w.cell? ⟨b, o + k, none⟩ = some u) := by
 rcases h with rfl | ⟨b, o, e, hb, h⟩
 · exact ⟨[], Css.nil, .inl rfl⟩
 obtain ⟨css, hl, hc⟩ := kDI (fun (i : Nat) (c : LV) => ∀ x, xs[i]? = some x → (∀ (j : Nat) (u : Value), c[j]? = some u → w.cell? ⟨b, o + (i * t.size + j), none⟩ = some u) ∧ t.rd w S c x) (List.range xs.length)
  (fun i hi => by
   obtain ⟨ds, h1, h2⟩ := h i _ (List.getElem?_eq_getElem (List.mem_range.1 hi))
   exact ⟨ds, fun x hx => by rw [List.getElem?_eq_getElem (List.mem_range.1 hi)] at hx; injection hx with hx; subst hx; exact ⟨h1, h2⟩⟩)
 simp only [List.length_range] at hl
 have hcss : Css t w S css xs := ⟨hl, fun i c x e1 e2 => (hc i i c (by rw [List.getElem?_range]; have := (List.getElem?_eq_some_iff.1 e2).1; exact this) e1 x e2).2⟩
 refine ⟨css, hcss, .inr ⟨b, o, e, hb, fun k u hu => ?_⟩⟩
 have hk : k < xs.length * t.size := by rw [← hcss.len]; exact (List.getElem?_eq_some_iff.1 hu).1
 have hs : 0 < t.size := by
  rcases Nat.eq_zero_or_pos t.size with h0 | h0
  · rw [h0] at hk; simp at hk
  exact h0
 have hi : k / t.size < xs.length := Nat.div_lt_of_lt_mul (by rwa [Nat.mul_comm] at hk)
 have hcl := hcss.lens _ (List.getElem_mem (n := k / t.size) (by omega : k / t.size < css.length))
 have hj : k % t.size < (css[k / t.size]'om).length := by rw [hcl]; exact Nat.mod_lt _ hs
 have e1 := kDw hcss.lens (List.getElem?_eq_getElem (by omega : k / t.size < css.length)) (List.getElem?_eq_getElem hj)
 have e2 : k / t.size * t.size + k % t.size = k := by rw [Nat.mul_comm]; exact Nat.div_add_mod k t.size
 rw [e2, hu] at e1
 have := (hc (k / t.size) (k / t.size) _ (List.getElem?_range hi) (List.getElem?_eq_getElem (by omega : k / t.size < css.length)) _ (List.getElem?_eq_getElem hi)).1 _ _ (List.getElem?_eq_getElem hj)
 rw [e2] at this
 rw [this, e1]
theorem kAY {w : World} {S : Nat → Prop} {A : OA} {xs : List α} {B : Nat} (h : t.els w S A xs) (hS : ∀ k, S k → k < B) : ∃ css, Css t w S css xs ∧ Rd w B A css.flatten := by
 obtain ⟨css, h1, h2⟩ := kMv h
 refine ⟨css, h1, ?_⟩
 rcases h2 with rfl | ⟨b, o, e, hb, h⟩
 · have := h1.len
   exact .inl (List.eq_nil_of_length_eq_zero (by simpa using this))
 exact .inr ⟨b, o, e, hS _ hb, h⟩
theorem kGF {w : World} {S S' : Nat → Prop} {q : Nat} {css : List (LV)} {xs : List α} (h : Css t w S css xs) (hm : TyMore t) (hB : ∀ k, S k → S' k) (hq : S' q) (o : Nat) (hc : ∀ (k : Nat) (u : Value), css.flatten[k]? = some u → w.cell? ⟨q, o + k, none⟩ = some u) : t.els w S' (some ⟨q, o, none⟩) xs := by
 refine .inr ⟨q, o, rfl, hq, fun i x hx => ?_⟩
 have hi : i < css.length := by rw [h.1]; exact (List.getElem?_eq_some_iff.1 hx).1
 exact ⟨css[i], fun j u hu => hc _ u (kDw h.lens (List.getElem?_eq_getElem hi) hu), hm.more _ _ _ _ _ (h.2 i _ x (List.getElem?_eq_getElem hi) hx) hB⟩
theorem Ty.row.els [hm : TyMore t] {w : World} {base : Nat} {S S' : Nat → Prop} {e : TypeId} {v : Value} {xs : List α} (h : t.row w base S e v xs) (hS : ∀ k, S k → S' k) (hv : ∀ g, v.ownBlock = some g → S' g) : ∃ A c, v = .slice A xs.length c ∧ xs.length ≤ c ∧ c ≤ maxLen ∧ t.els w S' A xs := by
 obtain ⟨css, h1, h2⟩ := h
 have hl := h1.len
 rcases h2.2 with ⟨rfl, h0⟩ | ⟨g, cap, cur, rfl, hb, hg, k1, k2, k3, k4⟩
 · have hx : xs = [] := List.eq_nil_of_length_eq_zero h0
   subst hx
   exact ⟨none, 0, rfl, by simp, by simp [maxLen], .inl rfl⟩
 refine ⟨some ⟨g, 0, none⟩, cap, rfl, k1, k2, kGF h1 hm hS (hv g rfl) 0 fun k u hu => ?_⟩
 rw [Nat.zero_add, Blk.cell (t := e) (cs := cur) hg k]
 rw [← k4, List.getElem?_take] at hu
 split at hu
 · simpa using hu
 cases hu
theorem Ty.row.els' [hm : TyMore t] {w : World} {base : Nat} {S S' : Nat → Prop} {e : TypeId} {A : OA} {n c : Nat} {xs : List α} (h : t.row w base S e (.slice A n c) xs) (hS : ∀ k, S k → S' k) (hv : ∀ g, (Value.slice A n c).ownBlock = some g → S' g) : t.els w S' A xs := by
 obtain ⟨A', c', hv, _, _, k⟩ := h.els hS hv
 injection hv with h1 _ _
 subst h1
 exact k
theorem Ty.row.fr {w w' : World} {M : Nat → Prop} {base : Nat} {S : Nat → Prop} {e : TypeId} {v : Value} {xs : List α} (h : t.row w base S e v xs) (f : Fr M w w') (hM : ∀ k, S k → k < w.heap.size ∧ ¬ M k) (hv : ∀ k, v.ownBlock = some k → ¬ M k) : t.row w' base S e v xs := by
 obtain ⟨css, h1, h2⟩ := h
 refine ⟨css, h1.fr f hM, h2.1, ?_⟩
 rcases h2.2 with h0 | ⟨g, cap, cur, rfl, hb, hg, k⟩
 · exact .inl h0
 exact .inr ⟨g, cap, cur, rfl, hb, Blk.fr (t := e) (cs := cur) hg f (hv g rfl), k⟩
theorem Ty.row.rd {w : World} {base : Nat} {S : Nat → Prop} {e : TypeId} {A : OA} {n c : Nat} {xs : List α} (h : t.row w base S e (.slice A n c) xs) : ∃ css, Css t w S css xs ∧ Rd w w.heap.size A css.flatten := by
 obtain ⟨css, h1, h2⟩ := h
 refine ⟨css, h1, ?_⟩
 have hl := h1.len
 rcases h2.2 with ⟨hv, h0⟩ | ⟨g, cap, cur, hv, hb, hg, k1, k2, k3, k4⟩
 · have hx : xs = [] := List.eq_nil_of_length_eq_zero h0
   subst hx
   exact .inl (List.eq_nil_of_length_eq_zero (by simpa using hl))
 injection hv with e1 _ _
 subst e1
 refine .inr ⟨g, 0, rfl, Blk.lt (t := e) (cs := cur) hg, fun k u hu => ?_⟩
 rw [Nat.zero_add, Blk.cell (t := e) (cs := cur) hg k]
 rw [← k4, List.getElem?_take] at hu
 split at hu
 · simpa using hu
 cases hu
theorem Ty.row.lit {w : World} {base q : Nat} {S : Nat → Prop} {e : TypeId} {css : List (LV)} {xs : List α} (hb : Blk w q e css.flatten.toArray) (hq : base ≤ q) (h : Css t w S css xs) (hm : xs.length ≤ maxLen) : t.row w base S e (.slice (some ⟨q, 0, none⟩) xs.length xs.length) xs :=
 ⟨css, h, h.len, .inr ⟨q, xs.length, css.flatten.toArray, rfl, hq, hb, nr, hm, by simp [h.len], by rw [← h.len, List.take_of_length_le (by simp)]⟩⟩
theorem kGz [kAG t] {P : Program} {ts e : TypeId} {bytes : Nat} {z : Value} {base B2 : Nat} {S : Nat → Prop} {A : OA} (E : ElemOk P ts e t.size bytes z) (w : World) (ty : TypeId) {v : Value} (m c : Nat) {xs ys : List α} {dss : List (LV)} (hown : t.row w base S e v xs)
    (k1 : Css t w S dss ys) (k2 : Rd w B2 A dss.flatten) (hl : ys.length = m) (h63 : (xs.length + m) ≤ maxLen) (hbytes : (xs.length + m) * bytes ≤ 140737488355328) (hS : ∀ k, S k → k < w.heap.size ∧ ¬ some k = v.ownBlock) (hbase : base ≤ w.heap.size) :
    ∃ v' w', (Builtin.append_ #[ts, ts] ty #[v, .slice A m c]).run P w = .ok v' w' ∧ t.row w' base S e v' (xs ++ ys) ∧ Fr (fun k => some k = v.ownBlock) w w' ∧
     (v' = .slice none 0 0 ↔ v = .slice none 0 0 ∧ m = 0) ∧ (v'.ownBlock = v.ownBlock ∨ v'.ownBlock = some w.heap.size) := by
 obtain ⟨css, h1, h2⟩ := hown
 subst hl
 obtain ⟨v', w', hrun, r1, r2, r3, r4⟩ := kFB E w ty c h2 k2 (by rw [k1.len]) k1.ones h63 hbytes hbase
 refine ⟨v', w', hrun, ⟨css ++ dss, Css.append (h1.fr r2 hS) (k1.fr r2 hS), ?_⟩, r2, r3, r4⟩
 rw [List.flatten_append, List.length_append]; exact r1
end
section
variable {α : Type} {t : Ty α} [hok : TyOk t] [hone : kAG t]
variable {P : Program} {ts e : TypeId} {bytes : Nat} {z : Value} {base : Nat} {S : Nat → Prop} {A : OA}
variable {ops : Array Oper} {rest : List Oper} {o : Oper} {a : Act} {Q : Exit → Act → World → Prop} {w : World}
theorem wpList_appC {m cs B2 : Nat} {s x : Operand} {v : Value} {xs ys : List α} {dss : List (LV)} (E : ElemOk P ts e t.size bytes z) (hgd : o.guard = none)
    (ho : o.op = .call { callee := .builtin .append, args := #[s, x], argTypes := #[ts, ts] })
    (hs : a.eval s = v) (hx : a.eval x = .slice A m cs) (hown : t.row w base S e v xs) (k1 : Css t w S dss ys) (k2 : Rd w B2 A dss.flatten) (hl : ys.length = m)
    (h63 : xs.length + m ≤ 140737488355328) (hbytes : (xs.length + m) * bytes ≤ 140737488355328) (hS : ∀ k, S k → k < w.heap.size ∧ ¬ some k = v.ownBlock) (hbase : base ≤ w.heap.size)
    (h : ∀ v' w', t.row w' base S e v' (xs ++ ys) → Fr (fun k => some k = v.ownBlock) w w' → (v'.ownBlock = v.ownBlock ∨ v'.ownBlock = some w.heap.size) → wpList P ops Q rest (a.put o.dst v') w') :
    wpList P ops Q (o :: rest) a w := by
 refine wpList_plain hgd fun K hK => ?_
 obtain ⟨v', w', hrun, h2, h3, h4, h5⟩ := kGz E w o.type m cs hown k1 k2 hl (by simp only [maxLen]; omega) hbytes hS hbase
 unfold Oper.wp execOp
 simp only [ho, resolve, invoke, builtin, Sem.run_bind, Sem.run_pure, Result.andThen_ok, List.map_toArray, List.map_cons, List.map_nil, hs, hx, hrun]
 exact hK _ _ (h v' w' h2 h3 h5)
theorem kAs {K : Act → World → Prop} {m cs B2 : Nat} {s x : Operand} {v : Value} {xs ys : List α} {dss : List (LV)} (E : ElemOk P ts e t.size bytes z)
    (ho : o.op = .call { callee := .builtin .append, args := #[s, x], argTypes := #[ts, ts] })
    (hs : a.eval s = v) (hx : a.eval x = .slice A m cs) (hown : t.row w base S e v xs) (k1 : Css t w S dss ys) (k2 : Rd w B2 A dss.flatten) (hl : ys.length = m)
    (h63 : xs.length + m ≤ 140737488355328) (hbytes : (xs.length + m) * bytes ≤ 140737488355328) (hS : ∀ k, S k → k < w.heap.size ∧ ¬ some k = v.ownBlock) (hbase : base ≤ w.heap.size)
    (h : ∀ v' w', t.row w' base S e v' (xs ++ ys) → Fr (fun k => some k = v.ownBlock) w w' → (v'.ownBlock = v.ownBlock ∨ v'.ownBlock = some w.heap.size) → K (a.put o.dst v') w') : o.wp P a w K Q := by
 obtain ⟨v', w', hrun, h2, h3, h4, h5⟩ := kGz E w o.type m cs hown k1 k2 hl (by simp only [maxLen]; omega) hbytes hS hbase
 unfold Oper.wp execOp
 simp only [ho, resolve, invoke, builtin, Sem.run_bind, Sem.run_pure, Result.andThen_ok, List.map_toArray, List.map_cons, List.map_nil, hs, hx, hrun]
 exact h v' w' h2 h3 h5
end
class kAh {α : Type} (t : Ty α) : Prop where
 flat : ∀ w w' S S' cs x, t.rd w S cs x → t.rd w' S' cs x
instance (k : IntKind) : kAh (Ty.int k) := ⟨fun _ _ _ _ _ _ h => h⟩
instance : kAh Ty.bool := ⟨fun _ _ _ _ _ _ h => h⟩
instance : kAh Ty.str := ⟨fun _ _ _ _ _ _ h => h⟩
instance {α β : Type} (s : Ty α) (t : Ty β) [hs : kAh s] [ht : kAh t] : kAh (s.pair t) :=
 ⟨fun _ _ _ _ _ _ ⟨c1, c2, e, h1, h2⟩ => ⟨c1, c2, e, hs.flat _ _ _ _ _ _ h1, ht.flat _ _ _ _ _ _ h2⟩⟩
instance {α β : Type} (t : Ty β) (g : α → β) [ht : kAh t] : kAh (t.iso g) := ⟨fun w w' S S' cs x h => ht.flat w w' S S' cs (g x) h⟩
theorem Css.flat {α : Type} {t : Ty α} [hf : kAh t] {w : World} {S : Nat → Prop} {css : List (LV)} {xs : List α} (h : Css t w S css xs) (w' : World) (S' : Nat → Prop) : Css t w' S' css xs :=
 ⟨h.1, fun i c x e1 e2 => hf.flat _ _ _ _ _ _ (h.2 i c x e1 e2)⟩
theorem kDy {α : Type} {t : Ty α} [TyOk t] [hf : kAh t] {w : World} {S : Nat → Prop} {A : OA} {xs : List α} {B : Nat} (h : t.els w S A xs) (hS : ∀ k, S k → k < B) : ∃ css, (∀ w' S', Css t w' S' css xs) ∧ Rd w B A css.flatten := by
 obtain ⟨css, h1, h2⟩ := kAY h hS
 exact ⟨css, fun w' S' => h1.flat w' S', h2⟩
variable {P : Program}
theorem kAz {ops : Array Oper} {rest : List Oper} {op : Oper} {a : Act} {w : World} {Q : Exit → Act → World → Prop} (hgd : op.guard = none) (ty : TypeId) (x y : Operand) (ho : op.op = .store ty x y)
    (c : Array Value) (ds : LV) (hx : a.eval x = .pointer (some ⟨w.heap.size, 0, none⟩)) (hy : a.eval y = .agg ds.toArray)
    (hi : (P.info? ty).map (·.size) = some ds.length) (hs : c.size = ds.length) (h1 : ds.all (·.oneCell') = true)
    (h : wpList P ops Q rest (a.put op.dst undef) (w.alloc (.cells ds.toArray ty))) : wpList P ops Q (op :: rest) a (w.alloc (.cells c ty)) :=
 wpList_plain hgd fun _ hK => by
  unfold Oper.wp execOp
  simp only [ho, hx, hy, Sem.run_bind, run_storeAt_new w ty c ds.toArray (by simpa using hi) (by simpa using hs) (by simpa using h1)]
  exact hK _ _ h
theorem rangeAt_blk {w : World} {p : Nat} {t : TypeId} {cs : Array Value} (h : Blk w p t cs) : w.rangeAt p 0 cs.toList := fun j v hv => by
 rw [Nat.zero_add]
 rw [World.cell?, h]
 simpa using hv
theorem kFy : ∀ (ds : LV) (k : Nat) (pre Z : LV), pre.length = k → Z.length = ds.length →
    List.foldl (fun (cs : Array Value) (x : Value × Nat) => cs.setIfInBounds x.snd x.fst) (pre ++ Z).toArray (ds.zipIdx k) = (pre ++ ds).toArray
 | [], k, pre, Z, _, h => by
  have : Z = [] := List.eq_nil_of_length_eq_zero h
  subst this
  rfl
 | d :: ds, k, pre, Z, hk, h => by
  obtain ⟨z, Z', rfl⟩ : ∃ z Z', Z = z :: Z' := by cases Z with | nil => simp at h | cons z Z' => exact ⟨z, Z', rfl⟩
  have ih := kFy ds (k + 1) (pre ++ [d]) Z' (by simp [hk]) (by simpa using h)
  rw [List.zipIdx_cons, List.foldl_cons]
  have e : (pre ++ z :: Z').toArray.setIfInBounds k d = (pre ++ [d] ++ Z').toArray := by
   rw [List.setIfInBounds_toArray]
   congr 1
   rw [List.set_append_right _ _ (by omega), ← hk]
   simp
  rw [e, ih]
  simp
theorem kBj {ds : LV} {Z : Array Value} (h : Z.size = ds.length) :
    List.foldl (fun (cs : Array Value) (x : Value × Nat) => cs.setIfInBounds x.snd x.fst) Z ds.zipIdx = ds.toArray := by
 have := kFy ds 0 [] Z.toList rfl (by simpa using h)
 simpa using this
theorem Fr.setCells' {M : Nat → Prop} {a : World} {b : Nat} (hb : b < a.heap.size → M b) : ∀ (ds : LV) (o : Nat) (w : World), Fr M a w → Fr M a (w.setCells b o ds)
 | [], _, _, h => h
 | v :: r, o, w, h => Fr.setCells' hb r (o + 1) _ (h.setCell ⟨b, o, none⟩ v hb)
theorem there_blk {w : World} {p n : Nat} {t : TypeId} {cs : Array Value} (h : Blk w p t cs) (hn : cs.size = n) : w.there p 0 n := fun j hj => by
 rw [Nat.zero_add]
 refine ⟨?_, h.frozen j⟩
 rw [h.cell j]
 have : j < cs.size := om
 simp [this]
theorem kCi {fn : Func} {p t : Tmp} {ty : TypeId} (h : fn.results = #[.cell p ty, .tmp t]) (tmps : Array Value) (w : World) (g : Nat) (ds : LV) (d : TypeDesc)
    (hp : tmps.getD p undef = .pointer (some ⟨g, 0, none⟩)) (hr : w.rangeAt g 0 ds) (hu : P.underlying ty = some d) (hd : d.isRow = true) (hi : (P.info? ty).map (·.size) = some ds.length) :
    (results fn tmps).run P w = .ok (.tuple #[.agg ds.toArray, tmps.getD t undef]) w := by
 have hp' : tmps[p]?.getD undef = .pointer (some ⟨g, 0, none⟩) := by simpa using hp
 exact yy97
def setA (cur : Array Value) (o : Nat) : LV → Array Value
 | [] => cur
 | v :: vs => setA (cur.setIfInBounds o v) (o + 1) vs
def setL (l : LV) (o : Nat) : LV → LV
 | [] => l
 | v :: vs => setL (l.set o v) (o + 1) vs
theorem kFw : ∀ (vs : LV) (cur : Array Value) (o : Nat), (setA cur o vs).toList = setL cur.toList o vs
 | [], _, _ => rfl
 | v :: vs, cur, o => by rw [setA, kFw vs, setL, Array.toList_setIfInBounds]
theorem kFv : ∀ (vs : LV) (cur : Array Value) (o : Nat), (setA cur o vs).size = cur.size
 | [], _, _ => rfl
 | v :: vs, cur, o => by rw [setA, kFv vs]; simp
theorem kFt : ∀ (vs : LV) (l : LV) (o n : Nat), (setL l o vs).take n = setL (l.take n) o vs
 | [], _, _, _ => rfl
 | v :: vs, l, o, n => by rw [setL, kFt vs, setL, List.take_set]
theorem kDr (u : Value) : ∀ (vs : LV) (l : LV) (o : Nat), setL (u :: l) (o + 1) vs = u :: setL l o vs
 | [], _, _ => rfl
 | v :: vs, l, o => by rw [setL, List.set_cons_succ, kDr u vs, setL]
theorem kJw (m : LV) : ∀ (vs : LV) (l : LV) (o : Nat), setL (m ++ l) (m.length + o) vs = m ++ setL l o vs := by
 induction m with
 | nil => intro vs l o; simp
 | cons u m ih =>
  intro vs l o
  rw [List.cons_append, List.length_cons, show m.length + 1 + o = (m.length + o) + 1 by omega, kDr, ih]; rfl
theorem kGl : ∀ (vs c l : LV), c.length = vs.length → setL (c ++ l) 0 vs = vs ++ l
 | [], c, l, h => by rw [List.eq_nil_of_length_eq_zero h]; rfl
 | v :: vs, [], l, h => by simp at h
 | v :: vs, u :: c, l, h => by
  rw [setL, List.cons_append, List.set_cons_zero, kDr, kGl vs c l (by simpa using h)]; rfl
theorem kFu {m : Nat} (ds : LV) (hd : ds.length = m) : ∀ (css : List (LV)) (i : Nat), (∀ c ∈ css, c.length = m) → i < css.length → setL css.flatten (i * m) ds = (css.set i ds).flatten
 | [], i, _, h => by simp at h
 | c :: css, 0, hc, _ => by
  rw [List.flatten_cons, Nat.zero_mul, kGl ds c _ (by rw [hc c (by simp), hd])]; rfl
 | c :: css, i + 1, hc, h => by
  have e : (i + 1) * m = c.length + i * m := by rw [hc c (by simp), Nat.add_mul]; omega
  rw [List.flatten_cons, e, kJw, kFu ds hd css i (fun d hd => hc d (by simp [hd])) (by simpa using h)]
  rfl
section
variable {α : Type} {t : Ty α}
theorem Css.set {w : World} {S : Nat → Prop} {css : List (LV)} {xs : List α} (h : Css t w S css xs) {ds : LV} {x : α} (i : Nat) (hr : t.rd w S ds x) : Css t w S (css.set i ds) (xs.set i x) := by
 refine ⟨by simp [h.1], fun j c y e1 e2 => ?_⟩
 rw [List.getElem?_set] at e1 e2
 by_cases hij : i = j
 · subst hij
   rw [if_pos rfl] at e1 e2
   split at e1
   · split at e2
     · simp only [Option.some.injEq] at e1 e2; subst e1; subst e2; exact hr
     cases e2
   cases e1
 rw [if_neg hij] at e1 e2
 exact h.2 j c y e1 e2
theorem Ty.row.set [hok : TyOk t] {w w' : World} {base : Nat} {S : Nat → Prop} {e : TypeId} {g n c : Nat} {xs : List α} {ds : LV} {x : α} (h : t.row w base S e (.slice (some ⟨g, 0, none⟩) n c) xs) (i : Nat) (hi : i < xs.length) (hr : t.rd w' S ds x)
    (hk : ∀ p : Addr, S p.block → w'.cell? p = w.cell? p) (hw : ∀ cur, Blk w g e cur → Blk w' g e (setA cur (i * t.size) ds)) : t.row w' base S e (.slice (some ⟨g, 0, none⟩) n c) (xs.set i x) := by
 obtain ⟨css, h1, h2⟩ := h
 have hl := h1.len
 have hlc := h1.1
 have hlens := h1.lens
 refine ⟨css.set i ds, (h1.keep hk).set i hr, ?_⟩
 have hfl : (css.set i ds).flatten = setL css.flatten (i * t.size) ds := (kFu ds (hok.len _ _ _ _ hr) css i hlens om).symm
 have hlen : (css.set i ds).flatten.length = xs.length * t.size := by
  have := ((h1.keep hk).set i hr).len
  rwa [List.length_set] at this
 rcases h2.2 with ⟨hv, _⟩ | ⟨g', cap, cur, hv, hb, hg, k1, k2, k3, k4⟩
 · cases hv
 injection hv with e1 e2 e3
 injection e1 with e1
 injection e1 with e1 _ _
 subst e1 e2 e3
 refine ⟨by rw [List.length_set]; exact hlen, .inr ⟨g, c, setA cur (i * t.size) ds, by rw [List.length_set], hb, hw cur hg, by rw [List.length_set]; exact k1, k2, by rw [kFv]; exact k3, ?_⟩⟩
 rw [kFw, List.length_set, kFt, k4, hfl]
end
end Go.Proofs.YtdckghiipijobaaGreat
