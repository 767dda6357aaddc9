/- The walk of StoreSame. -/
import Derived.Test.YtdckghiipijobaaTaE
import Derived.Test.YtdckghiipijobaaStW
namespace Go.Proofs.Ytdckghiipijobaa
open Go.RowKit

theorem shLe_of {a : Sh} (h : tSh.le 1048576 a) : ShLe a := by
  obtain ⟨⟨m1, m2⟩, ⟨t1, t2⟩, ⟨g1, -⟩, ⟨e1, -⟩, ⟨d1, -⟩, c1, c2⟩ := h
  exact ⟨m1, t1, g1, e1, d1, c1, fun x hx => (m2 x hx).1, fun x hx => (t2 x hx).1, fun x hx => ((c2 x hx).2).1⟩
set_option maxRecDepth 100000 in
set_option maxHeartbeats 3200000 in
theorem storeSame_walk (w : World) (v0 v1 : Value) (a b : Sh) (y0 : tSh.rd w (· < w.heap.size) v0.cells.toList a) (y1 : tSh.rd w (· < w.heap.size) v1.cells.toList b)
    (l0 : tSh.le 1048576 a) (l1 : tSh.le 1048576 b) (hv0 : ∃ cs, v0 = .agg cs) (hv1 : ∃ cs, v1 = .agg cs) :
    Calls Try.prog 4 #[v0, v1] w fun e w' => e = .returned (.bool true) ∧ Below w.heap.size w w' := by
  obtain ⟨cs, rfl⟩ := hv0
  obtain ⟨ds, rfl⟩ := hv1
  have ha : tSh.rd w (· < w.heap.size) cs.toList a := y0
  have hb : tSh.rd w (· < w.heap.size) ds.toList b := y1
  have la := shLe_of l0
  have lb := shLe_of l1
  clear y0 y1 l0 l1
  suffices h : Calls Try.prog 4 #[.agg cs, .agg ds] w fun e w' => e = .returned (.bool true) ∧ Fr No w w' from h.mono fun e w' ⟨h1, h2⟩ => ⟨h1, h2.below⟩
  obtain ⟨Ama, cma, Ata, cta, Aga, cga, Aea, cea, Ada, cda, Aca, cca, ea, -, -, ema, -, -, eta, -, -, ega, -, -, eea, -, -, eda, -, -, eca⟩ := Sh_cells ha
  obtain ⟨Amb, cmb, Atb, ctb, Agb, cgb, Aeb, ceb, Adb, cdb, Acb, ccb, eb, -, -, emb, -, -, etb, -, -, egb, -, -, eeb, -, -, edb, -, -, ecb⟩ := Sh_cells hb
  obtain rfl : cs = #[.slice Ama a.mems.length cma, .slice Ata a.tables.length cta, .slice Aga a.globals.length cga, .slice Aea a.elems.length cea, .slice Ada a.datas.length cda, .slice Aca a.calls.length cca] := by cases cs; simp only at ea; rw [ea]
  obtain rfl : ds = #[.slice Amb b.mems.length cmb, .slice Atb b.tables.length ctb, .slice Agb b.globals.length cgb, .slice Aeb b.elems.length ceb, .slice Adb b.datas.length cdb, .slice Acb b.calls.length ccb] := by cases ds; simp only at eb; rw [eb]
  clear ea eb ema eta ega eea eda eca emb etb egb eeb edb ecb
  have hS : ∀ X, Fr No w X → ∀ k, k < w.heap.size → k < X.heap.size := fun X f k hk => Nat.lt_of_lt_of_le hk f.size
  have ra : ∀ X, Fr No w X → tSh.rd X (· < w.heap.size) [.slice Ama a.mems.length cma, .slice Ata a.tables.length cta, .slice Aga a.globals.length cga, .slice Aea a.elems.length cea, .slice Ada a.datas.length cda, .slice Aca a.calls.length cca] a := fun X f => TyOk.keep w X _ _ _ ha (fun p hp => f.cell hp (fun x => x))
  have rb : ∀ X, Fr No w X → tSh.rd X (· < w.heap.size) [.slice Amb b.mems.length cmb, .slice Atb b.tables.length ctb, .slice Agb b.globals.length cgb, .slice Aeb b.elems.length ceb, .slice Adb b.datas.length cdb, .slice Acb b.calls.length ccb] b := fun X f => TyOk.keep w X _ _ _ hb (fun p hp => f.cell hp (fun x => x))
  have SZA := hid (fun X (f : Fr No w X) => lsize_any a _ (· < w.heap.size) X (ra X f) (hS X f) la.m la.t)
  have SZB := hid (fun X (f : Fr No w X) => lsize_any b _ (· < w.heap.size) X (rb X f) (hS X f) lb.m lb.t)
  have SAB := hid (fun X (f : Fr No w X) => ssame_any a b _ _ (· < w.heap.size) (· < w.heap.size) X (ra X f) (rb X f) (hS X f) (hS X f) la lb)
  have SAA := hid (fun X (f : Fr No w X) => ssame_any a a _ _ (· < w.heap.size) (· < w.heap.size) X (ra X f) (ra X f) (hS X f) (hS X f) la la)
  have RAB := hid (fun X (f : Fr No w X) => rsame31_any a b _ _ (· < w.heap.size) (· < w.heap.size) X (ra X f) (rb X f) (hS X f) (hS X f) la lb)
  rw [shEq_self] at SAA
  have F0 := hid (((Fr.refl No w).alloc (.cells #[.slice Ama a.mems.length cma, .slice Ata a.tables.length cta, .slice Aga a.globals.length cga, .slice Aea a.elems.length cea, .slice Ada a.datas.length cda, .slice Aca a.calls.length cca] 66)).alloc (.cells #[.slice Amb b.mems.length cmb, .slice Atb b.tables.length ctb, .slice Agb b.globals.length cgb, .slice Aeb b.elems.length ceb, .slice Adb b.datas.length cdb, .slice Acb b.calls.length ccb] 66))
  have BX := hid (blk6 ((Blk.new w 66 #[.slice Ama a.mems.length cma, .slice Ata a.tables.length cta, .slice Aga a.globals.length cga, .slice Aea a.elems.length cea, .slice Ada a.datas.length cda, .slice Aca a.calls.length cca]).alloc (.cells #[.slice Amb b.mems.length cmb, .slice Atb b.tables.length ctb, .slice Agb b.globals.length cgb, .slice Aeb b.elems.length ceb, .slice Adb b.datas.length cdb, .slice Acb b.calls.length ccb] 66)))
  have BY := hid (blk6 (Blk.new1 w (.cells #[.slice Ama a.mems.length cma, .slice Ata a.tables.length cta, .slice Aga a.globals.length cga, .slice Aea a.elems.length cea, .slice Ada a.datas.length cda, .slice Aca a.calls.length cca] 66) 66 #[.slice Amb b.mems.length cmb, .slice Atb b.tables.length ctb, .slice Agb b.globals.length cgb, .slice Aeb b.elems.length ceb, .slice Adb b.datas.length cdb, .slice Acb b.calls.length ccb]))
  have bm := la.m
  have bt := la.t
  have bm' := lb.m
  have bt' := lb.t
  clear ha hb hS ra rb
  go_enter Try.func4, Try.ntmps4
  go_upto_region 1 with fail
  try simp only [World.size_alloc]
  generalize hW : (w.alloc (.cells #[.slice Ama a.mems.length cma, .slice Ata a.tables.length cta, .slice Aga a.globals.length cga, .slice Aea a.elems.length cea, .slice Ada a.datas.length cda, .slice Aca a.calls.length cca] 66)).alloc (.cells #[.slice Amb b.mems.length cmb, .slice Atb b.tables.length ctb, .slice Agb b.globals.length cgb, .slice Aeb b.elems.length ceb, .slice Adb b.datas.length cdb, .slice Acb b.calls.length ccb] 66) = W at *
  clear hW
  obtain ⟨p, hp⟩ : ∃ p, p = w.heap.size := ⟨_, rfl⟩
  simp only [← hp] at BX BY ⊢
  have HP := hid hp
  clear hp
  obtain ⟨z0, z1, z2, z3, z4, z5⟩ := BX.out _ (Fr.refl No W)
  obtain ⟨y0, y1, y2, y3, y4, y5⟩ := BY.out _ (Fr.refl No W)
  by_cases c1 : 40 < a.mems.length + a.tables.length + b.mems.length + b.tables.length
  · have d1 : (40 : Int) < a.mems.length + a.tables.length + b.mems.length + b.tables.length := by omega
    go_wp2_with fail
    refine (alive_any _).mono ?_
    rintro e wx ⟨rfl, fx⟩
    have FX := hid (F0.out.trans fx (fun _ _ h => h))
    clear fx z0 z1 z2 z3 z4 z5 y0 y1 y2 y3 y4 y5
    go_wp2
    go_ret
    exact ⟨rfl, FX.out⟩
  · have d1 : decide ((40 : Int) < a.mems.length + a.tables.length + b.mems.length + b.tables.length) = false := by simp; omega
    clear c1
    go_wp2_with fail
    refine (SZA.out _ F0.out).mono ?_
    rintro e w1 ⟨⟨n, rfl⟩, g1⟩
    clear z0 z1 z2 z3 z4 z5 y0 y1 y2 y3 y4 y5
    have R1 := hid g1
    have F1 := hid (F0.out.trans g1 (fun _ _ h => h))
    clear g1
    obtain ⟨z0, z1, z2, z3, z4, z5⟩ := BX.out _ R1.out
    obtain ⟨y0, y1, y2, y3, y4, y5⟩ := BY.out _ R1.out
    by_cases c2 : 3000 < n
    · have d2 : decide ((3000 : Int) < n) = true := by simp [c2]
      clear c2
      go_wp2_with fail
      refine (alive_any _).mono ?_
      rintro e wx ⟨rfl, fx⟩
      have FX := hid (F1.out.trans fx (fun _ _ h => h))
      clear fx z0 z1 z2 z3 z4 z5 y0 y1 y2 y3 y4 y5
      go_wp2
      go_ret
      exact ⟨rfl, FX.out⟩
    · have d2 : decide ((3000 : Int) < n) = false := by simp; omega
      clear c2
      go_wp2_with fail
      refine (SZB.out _ F1.out).mono ?_
      rintro e w2 ⟨⟨m, rfl⟩, g2⟩
      clear z0 z1 z2 z3 z4 z5 y0 y1 y2 y3 y4 y5
      have R2 := hid (R1.out.trans g2 (fun _ _ h => h))
      have F2 := hid (F1.out.trans g2 (fun _ _ h => h))
      clear g2 R1 F1
      obtain ⟨z0, z1, z2, z3, z4, z5⟩ := BX.out _ R2.out
      obtain ⟨y0, y1, y2, y3, y4, y5⟩ := BY.out _ R2.out
      by_cases c3 : 3000 < m
      · have d3 : decide ((3000 : Int) < m) = true := by simp [c3]
        clear c3
        go_wp2_with fail
        refine (alive_any _).mono ?_
        rintro e wx ⟨rfl, fx⟩
        have FX := hid (F2.out.trans fx (fun _ _ h => h))
        clear fx z0 z1 z2 z3 z4 z5 y0 y1 y2 y3 y4 y5
        go_wp2
        go_ret
        exact ⟨rfl, FX.out⟩
      · have d3 : decide ((3000 : Int) < m) = false := by simp; omega
        clear c3
        go_wp2_with fail
        clear z0 z1 z2 z3 z4 z5 y0 y1 y2 y3 y4 y5
        have HX : Hid (∀ X, Fr No W X → X.cell? ⟨p, 0, none⟩ = some (.slice Ama a.mems.length cma) ∧ X.cell? ⟨p, 1, none⟩ = some (.slice Ata a.tables.length cta) ∧ X.cell? ⟨p, 2, none⟩ = some (.slice Aga a.globals.length cga) ∧ X.cell? ⟨p, 3, none⟩ = some (.slice Aea a.elems.length cea) ∧ X.cell? ⟨p, 4, none⟩ = some (.slice Ada a.datas.length cda) ∧ X.cell? ⟨p, 5, none⟩ = some (.slice Aca a.calls.length cca) ∧ X.cell? ⟨p + 1, 0, none⟩ = some (.slice Amb b.mems.length cmb) ∧ X.cell? ⟨p + 1, 1, none⟩ = some (.slice Atb b.tables.length ctb) ∧ X.cell? ⟨p + 1, 2, none⟩ = some (.slice Agb b.globals.length cgb) ∧ X.cell? ⟨p + 1, 3, none⟩ = some (.slice Aeb b.elems.length ceb) ∧ X.cell? ⟨p + 1, 4, none⟩ = some (.slice Adb b.datas.length cdb) ∧ X.cell? ⟨p + 1, 5, none⟩ = some (.slice Acb b.calls.length ccb)) := fun X g => ⟨(BX.out X g).1, (BX.out X g).2.1, (BX.out X g).2.2.1, (BX.out X g).2.2.2.1, (BX.out X g).2.2.2.2.1, (BX.out X g).2.2.2.2.2, (BY.out X g).1, (BY.out X g).2.1, (BY.out X g).2.2.1, (BY.out X g).2.2.2.1, (BY.out X g).2.2.2.2.1, (BY.out X g).2.2.2.2.2⟩
        obtain ⟨q, hq⟩ : ∃ q, q = shEq a b := ⟨_, rfl⟩
        rw [← hq] at SAB RAB
        clear hq
        refine wp_region_ord (fun X => X.cell? ⟨p, 0, none⟩ = some (.slice Ama a.mems.length cma) ∧ X.cell? ⟨p, 1, none⟩ = some (.slice Ata a.tables.length cta) ∧ X.cell? ⟨p, 2, none⟩ = some (.slice Aga a.globals.length cga) ∧ X.cell? ⟨p, 3, none⟩ = some (.slice Aea a.elems.length cea) ∧ X.cell? ⟨p, 4, none⟩ = some (.slice Ada a.datas.length cda) ∧ X.cell? ⟨p, 5, none⟩ = some (.slice Aca a.calls.length cca) ∧ X.cell? ⟨p + 1, 0, none⟩ = some (.slice Amb b.mems.length cmb) ∧ X.cell? ⟨p + 1, 1, none⟩ = some (.slice Atb b.tables.length ctb) ∧ X.cell? ⟨p + 1, 2, none⟩ = some (.slice Agb b.globals.length cgb) ∧ X.cell? ⟨p + 1, 3, none⟩ = some (.slice Aeb b.elems.length ceb) ∧ X.cell? ⟨p + 1, 4, none⟩ = some (.slice Adb b.datas.length cdb) ∧ X.cell? ⟨p + 1, 5, none⟩ = some (.slice Acb b.calls.length ccb)) [] [(0, true), (1, true), (3, true), (4, true), (2, false), (5, false), (6, true), (7, true), (8, true), (9, true), (10, false), (11, true), (12, true), (13, false), (14, true), (15, true)] (by kernel_rfl) (by kernel_rfl) (by kernel_rfl) rfl (HX.out _ R2.out.drew) ?_
        repeat (first
          | (refine wpO_skip rfl rfl ?_; simp only [List.getElem_toArray, List.getElem_cons_succ, List.getElem_cons_zero, Act.put, List.setIfInBounds_toArray, List.set_cons_zero, List.set_cons_succ])
          | (refine wpO_call rfl rfl ?_; simp only [List.getElem_toArray, List.getElem_cons_succ, List.getElem_cons_zero]; apply Exists.intro; refine ⟨fun X hX => ?_, ?_⟩
             · (have s0 := hX.1; have s1 := hX.2.1; have s2 := hX.2.2.1; have s3 := hX.2.2.2.1; have s4 := hX.2.2.2.2.1; have s5 := hX.2.2.2.2.2.1; have s6 := hX.2.2.2.2.2.2.1; have s7 := hX.2.2.2.2.2.2.2.1; have s8 := hX.2.2.2.2.2.2.2.2.1; have s9 := hX.2.2.2.2.2.2.2.2.2.1; have s10 := hX.2.2.2.2.2.2.2.2.2.2.1; have s11 := hX.2.2.2.2.2.2.2.2.2.2.2; go_simp; exact stillUpon_value)
             simp only [Act.put, List.setIfInBounds_toArray, List.set_cons_zero, List.set_cons_succ]))
        refine wpO_eff rfl rfl (fun K hK => ?_)
        simp only [List.getElem_toArray, List.getElem_cons_succ, List.getElem_cons_zero]
        go_simp
        refine (SAB.out _ F2.out.drew).mono ?_
        rintro e w3 ⟨rfl, g3⟩
        have R3 := hid (R2.out.drew.trans g3 (fun _ _ h => h))
        have F3 := hid (F2.out.drew.trans g3 (fun _ _ h => h))
        clear g3
        refine hK _ _ (fun _ => HX.out _ R3.out) ?_
        clear hK K
        repeat (first
          | (refine wpO_skip rfl rfl ?_; simp only [List.getElem_toArray, List.getElem_cons_succ, List.getElem_cons_zero, Act.put, List.setIfInBounds_toArray, List.set_cons_zero, List.set_cons_succ])
          | (refine wpO_call rfl rfl ?_; simp only [List.getElem_toArray, List.getElem_cons_succ, List.getElem_cons_zero]; apply Exists.intro; refine ⟨fun X hX => ?_, ?_⟩
             · (have s0 := hX.1; have s1 := hX.2.1; have s2 := hX.2.2.1; have s3 := hX.2.2.2.1; have s4 := hX.2.2.2.2.1; have s5 := hX.2.2.2.2.2.1; have s6 := hX.2.2.2.2.2.2.1; have s7 := hX.2.2.2.2.2.2.2.1; have s8 := hX.2.2.2.2.2.2.2.2.1; have s9 := hX.2.2.2.2.2.2.2.2.2.1; have s10 := hX.2.2.2.2.2.2.2.2.2.2.1; have s11 := hX.2.2.2.2.2.2.2.2.2.2.2; go_simp; exact stillUpon_value)
             simp only [Act.put, List.setIfInBounds_toArray, List.set_cons_zero, List.set_cons_succ]))
        refine wpO_eff rfl rfl (fun K hK => ?_)
        simp only [List.getElem_toArray, List.getElem_cons_succ, List.getElem_cons_zero]
        go_simp
        refine (RAB.out _ F3.out).mono ?_
        rintro e w4 ⟨rfl, g4⟩
        have R4 := hid (R3.out.trans g4 (fun _ _ h => h))
        have F4 := hid (F3.out.trans g4 (fun _ _ h => h))
        clear g4
        refine hK _ _ (fun _ => HX.out _ R4.out) ?_
        clear hK K
        repeat (first
          | (refine wpO_skip rfl rfl ?_; simp only [List.getElem_toArray, List.getElem_cons_succ, List.getElem_cons_zero, Act.put, List.setIfInBounds_toArray, List.set_cons_zero, List.set_cons_succ])
          | (refine wpO_call rfl rfl ?_; simp only [List.getElem_toArray, List.getElem_cons_succ, List.getElem_cons_zero]; apply Exists.intro; refine ⟨fun X hX => ?_, ?_⟩
             · (have s0 := hX.1; have s1 := hX.2.1; have s2 := hX.2.2.1; have s3 := hX.2.2.2.1; have s4 := hX.2.2.2.2.1; have s5 := hX.2.2.2.2.2.1; have s6 := hX.2.2.2.2.2.2.1; have s7 := hX.2.2.2.2.2.2.2.1; have s8 := hX.2.2.2.2.2.2.2.2.1; have s9 := hX.2.2.2.2.2.2.2.2.2.1; have s10 := hX.2.2.2.2.2.2.2.2.2.2.1; have s11 := hX.2.2.2.2.2.2.2.2.2.2.2; go_simp; exact stillUpon_value)
             simp only [Act.put, List.setIfInBounds_toArray, List.set_cons_zero, List.set_cons_succ]))
        refine wpO_eff rfl rfl (fun K hK => ?_)
        simp only [List.getElem_toArray, List.getElem_cons_succ, List.getElem_cons_zero]
        go_simp
        refine (SAA.out _ F4.out).mono ?_
        rintro e w5 ⟨rfl, g5⟩
        have R5 := hid (R4.out.trans g5 (fun _ _ h => h))
        have F5 := hid (F4.out.trans g5 (fun _ _ h => h))
        clear g5
        refine hK _ _ (fun _ => HX.out _ R5.out) ?_
        clear hK K
        repeat (first
          | (refine wpO_skip rfl rfl ?_; simp only [List.getElem_toArray, List.getElem_cons_succ, List.getElem_cons_zero, Act.put, List.setIfInBounds_toArray, List.set_cons_zero, List.set_cons_succ])
          | (refine wpO_call rfl rfl ?_; simp only [List.getElem_toArray, List.getElem_cons_succ, List.getElem_cons_zero]; apply Exists.intro; refine ⟨fun X hX => ?_, ?_⟩
             · (have s0 := hX.1; have s1 := hX.2.1; have s2 := hX.2.2.1; have s3 := hX.2.2.2.1; have s4 := hX.2.2.2.2.1; have s5 := hX.2.2.2.2.2.1; have s6 := hX.2.2.2.2.2.2.1; have s7 := hX.2.2.2.2.2.2.2.1; have s8 := hX.2.2.2.2.2.2.2.2.1; have s9 := hX.2.2.2.2.2.2.2.2.2.1; have s10 := hX.2.2.2.2.2.2.2.2.2.2.1; have s11 := hX.2.2.2.2.2.2.2.2.2.2.2; go_simp; exact stillUpon_value)
             simp only [Act.put, List.setIfInBounds_toArray, List.set_cons_zero, List.set_cons_succ]))
        refine wpO_eff rfl rfl (fun K hK => ?_)
        simp only [List.getElem_toArray, List.getElem_cons_succ, List.getElem_cons_zero]
        go_simp
        refine (alive_any _).mono ?_
        rintro e w6 ⟨rfl, g6⟩
        have R6 := hid (R5.out.trans g6 (fun _ _ h => h))
        have F6 := hid (F5.out.trans g6 (fun _ _ h => h))
        clear g6
        refine hK _ _ (fun _ => HX.out _ R6.out) ?_
        clear hK K
        repeat (first
          | (refine wpO_skip rfl rfl ?_; simp only [List.getElem_toArray, List.getElem_cons_succ, List.getElem_cons_zero, Act.put, List.setIfInBounds_toArray, List.set_cons_zero, List.set_cons_succ])
          | (refine wpO_call rfl rfl ?_; simp only [List.getElem_toArray, List.getElem_cons_succ, List.getElem_cons_zero]; apply Exists.intro; refine ⟨fun X hX => ?_, ?_⟩
             · (have s0 := hX.1; have s1 := hX.2.1; have s2 := hX.2.2.1; have s3 := hX.2.2.2.1; have s4 := hX.2.2.2.2.1; have s5 := hX.2.2.2.2.2.1; have s6 := hX.2.2.2.2.2.2.1; have s7 := hX.2.2.2.2.2.2.2.1; have s8 := hX.2.2.2.2.2.2.2.2.1; have s9 := hX.2.2.2.2.2.2.2.2.2.1; have s10 := hX.2.2.2.2.2.2.2.2.2.2.1; have s11 := hX.2.2.2.2.2.2.2.2.2.2.2; go_simp; exact stillUpon_value)
             simp only [Act.put, List.setIfInBounds_toArray, List.set_cons_zero, List.set_cons_succ]))
        refine wpO_nil ?_
        go_wp2
        go_ret
        refine ⟨?_, F6.out⟩
        cases q <;> rfl
end Go.Proofs.Ytdckghiipijobaa
