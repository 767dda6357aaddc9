/- Contracts: the reference's Same of two shots. -/
import Derived.Test.YtdckghiipijobaaGreatTm
namespace Go.Proofs.YtdckghiipijobaaGreat
open Go.RowKit

theorem shNo6 {a b : Sh} (h : ¬ a.calls = b.calls) : false = shEq a b := by symm; rw [shEq, decide_eq_false_iff_not]; exact fun k => h k.2.2.2.2.2
theorem shNoM {a b : Sh} (h : ¬ a.mems = b.mems) : false = shEq a b := shNo1 (by symm; rw [decide_eq_false_iff_not]; exact h)
theorem shNoT {a b : Sh} (h : ¬ a.tables = b.tables) : false = shEq a b := shNo2 (by symm; rw [decide_eq_false_iff_not]; exact h)
theorem take_all {α : Type} {xs ys : List α} {k : Nat} (hk : k = xs.length) (hl : xs.length = ys.length) (h : xs.take k = ys.take k) : xs = ys := by
  subst hk
  rwa [List.take_of_length_le (by omega), List.take_of_length_le (by omega)] at h
theorem els_lt {α : Type} {t : Ty α} [TyOk t] [TyMore t] {w : World} {S : Nat → Prop} {A : Option Addr} {l : List α} (h : t.els w S A l) (hS : ∀ k, S k → k < w.heap.size) : t.els w (· < w.heap.size) A l := h.more hS
set_option maxRecDepth 100000 in
set_option maxHeartbeats 6400000 in
theorem rsame31_any (a b : Sh) (cs ds : List Value) (S T : Nat → Prop) (w : World) (ha : tSh.rd w S cs a) (hb : tSh.rd w T ds b) (hS : ∀ k, S k → k < w.heap.size) (hT : ∀ k, T k → k < w.heap.size) (la : ShLe a) (lb : ShLe b) :
    Calls Tryz.prog 14 #[.agg cs.toArray, .agg ds.toArray] w fun e w' => e = .returned (.bool (shEq a b)) ∧ Fr No w w' := by
  obtain ⟨Ama, cma, Ata, cta, Aga, cga, Aea, cea, Ada, cda, Aca, cca, rfl, -, -, ema, -, -, eta, -, -, ega, -, -, eea, -, -, eda, -, -, eca⟩ := Sh_cells ha
  obtain ⟨Amb, cmb, Atb, ctb, Agb, cgb, Aeb, ceb, Adb, cdb, Acb, ccb, rfl, -, -, emb, -, -, etb, -, -, egb, -, -, eeb, -, -, edb, -, -, ecb⟩ := Sh_cells hb
  have hs : ∀ X, Fr No w X → ∀ k, S k → k < X.heap.size := fun X f k hk => Nat.lt_of_lt_of_le (hS k hk) f.size
  have ht : ∀ X, Fr No w X → ∀ k, T k → k < X.heap.size := fun X f k hk => Nat.lt_of_lt_of_le (hT k hk) f.size
  have H3 := hid (fun X (f : Fr No w X) => r27same_any Aga Agb a.globals b.globals cga cgb X.heap.size X.heap.size X (els_lt (ega.fr f (fun k hk => ⟨hS k hk, fun x => x⟩)) (hs X f)) (els_lt (egb.fr f (fun k hk => ⟨hT k hk, fun x => x⟩)) (ht X f)) (Nat.le_trans la.g (by decide)) (Nat.le_trans lb.g (by decide)))
  have H4 := hid (fun X (f : Fr No w X) => flags_any Aea Aeb a.elems b.elems cea ceb S T X (eea.fr f (fun k hk => ⟨hS k hk, fun x => x⟩)) (eeb.fr f (fun k hk => ⟨hT k hk, fun x => x⟩)) (Nat.le_trans la.e (by decide)) (Nat.le_trans lb.e (by decide)))
  have H5 := hid (fun X (f : Fr No w X) => flags_any Ada Adb a.datas b.datas cda cdb S T X (eda.fr f (fun k hk => ⟨hS k hk, fun x => x⟩)) (edb.fr f (fun k hk => ⟨hT k hk, fun x => x⟩)) (Nat.le_trans la.d (by decide)) (Nat.le_trans lb.d (by decide)))
  obtain ⟨q3, e3⟩ : ∃ q, q = decide (a.globals = b.globals) := ⟨_, rfl⟩
  obtain ⟨q4, e4⟩ : ∃ q, q = decide (a.elems = b.elems) := ⟨_, rfl⟩
  obtain ⟨q5, e5⟩ : ∃ q, q = decide (a.datas = b.datas) := ⟨_, rfl⟩
  rw [← e3] at H3
  rw [← e4] at H4
  rw [← e5] at H5
  have E3 := hid e3
  have E4 := hid e4
  have E5 := hid e5
  have F0 := hid (((Fr.refl No w).alloc (.cells #[.slice Ama a.mems.length cma, .slice Ata a.tables.length cta, .slice Aga a.globals.length cga, .slice Aea a.elems.length cea, .slice Ada a.datas.length cda, .slice Aca a.calls.length cca] 83)).alloc (.cells #[.slice Amb b.mems.length cmb, .slice Atb b.tables.length ctb, .slice Agb b.globals.length cgb, .slice Aeb b.elems.length ceb, .slice Adb b.datas.length cdb, .slice Acb b.calls.length ccb] 83))
  have BX := hid (blk6 ((Blk.new w 83 #[.slice Ama a.mems.length cma, .slice Ata a.tables.length cta, .slice Aga a.globals.length cga, .slice Aea a.elems.length cea, .slice Ada a.datas.length cda, .slice Aca a.calls.length cca]).alloc (.cells #[.slice Amb b.mems.length cmb, .slice Atb b.tables.length ctb, .slice Agb b.globals.length cgb, .slice Aeb b.elems.length ceb, .slice Adb b.datas.length cdb, .slice Acb b.calls.length ccb] 83)))
  have BY := hid (blk6 (Blk.new1 w (.cells #[.slice Ama a.mems.length cma, .slice Ata a.tables.length cta, .slice Aga a.globals.length cga, .slice Aea a.elems.length cea, .slice Ada a.datas.length cda, .slice Aca a.calls.length cca] 83) 83 #[.slice Amb b.mems.length cmb, .slice Atb b.tables.length ctb, .slice Agb b.globals.length cgb, .slice Aeb b.elems.length ceb, .slice Adb b.datas.length cdb, .slice Acb b.calls.length ccb]))
  have bm := la.m
  have bt := la.t
  have bcl := la.c
  have EMA := hid ema
  have EMB := hid emb
  have ETA := hid eta
  have ETB := hid etb
  have ECA := hid eca
  have ECB := hid ecb
  clear e3 e4 e5 ema eta ega eea eda eca emb etb egb eeb edb ecb hs ht ha hb
  by_cases hl0 : a.mems.length = b.mems.length
  case neg =>
    have h0 : (((a.mems.length : Nat) : Int) != ((b.mems.length : Nat) : Int)) = true := by simp; omega
    have HL := hid hl0
    clear hl0
    go_enter Tryz.func14, Tryz.ntmps14
    go_upto_region 1 with fail
    try simp only [World.size_alloc]
    generalize hW : (w.alloc (.cells #[.slice Ama a.mems.length cma, .slice Ata a.tables.length cta, .slice Aga a.globals.length cga, .slice Aea a.elems.length cea, .slice Ada a.datas.length cda, .slice Aca a.calls.length cca] 83)).alloc (.cells #[.slice Amb b.mems.length cmb, .slice Atb b.tables.length ctb, .slice Agb b.globals.length cgb, .slice Aeb b.elems.length ceb, .slice Adb b.datas.length cdb, .slice Acb b.calls.length ccb] 83) = W at *
    clear hW
    obtain ⟨p, hp⟩ : ∃ p, p = w.heap.size := ⟨_, rfl⟩
    simp only [← hp] at BX BY ⊢
    have HP := hid hp
    clear hp
    obtain ⟨z0, z1, z2, z3, z4, z5⟩ := BX.out _ (Fr.refl No W)
    obtain ⟨y0, y1, y2, y3, y4, y5⟩ := BY.out _ (Fr.refl No W)
    go_wp2
    go_ret
    refine ⟨rt_bool (shNoM (fun e => HL.out (by rw [e]))), F0.out⟩
  have h0 : (((a.mems.length : Nat) : Int) != ((b.mems.length : Nat) : Int)) = false := by simp [hl0]
  have HL0 := hid hl0
  clear hl0
  by_cases hl1 : a.tables.length = b.tables.length
  case neg =>
    have h1 : (((a.tables.length : Nat) : Int) != ((b.tables.length : Nat) : Int)) = true := by simp; omega
    have HL := hid hl1
    clear hl1
    go_enter Tryz.func14, Tryz.ntmps14
    go_upto_region 1 with fail
    try simp only [World.size_alloc]
    generalize hW : (w.alloc (.cells #[.slice Ama a.mems.length cma, .slice Ata a.tables.length cta, .slice Aga a.globals.length cga, .slice Aea a.elems.length cea, .slice Ada a.datas.length cda, .slice Aca a.calls.length cca] 83)).alloc (.cells #[.slice Amb b.mems.length cmb, .slice Atb b.tables.length ctb, .slice Agb b.globals.length cgb, .slice Aeb b.elems.length ceb, .slice Adb b.datas.length cdb, .slice Acb b.calls.length ccb] 83) = W at *
    clear hW
    obtain ⟨p, hp⟩ : ∃ p, p = w.heap.size := ⟨_, rfl⟩
    simp only [← hp] at BX BY ⊢
    have HP := hid hp
    clear hp
    obtain ⟨z0, z1, z2, z3, z4, z5⟩ := BX.out _ (Fr.refl No W)
    obtain ⟨y0, y1, y2, y3, y4, y5⟩ := BY.out _ (Fr.refl No W)
    go_wp2
    go_ret
    refine ⟨rt_bool (shNoT (fun e => HL.out (by rw [e]))), F0.out⟩
  have h1 : (((a.tables.length : Nat) : Int) != ((b.tables.length : Nat) : Int)) = false := by simp [hl1]
  have HL1 := hid hl1
  clear hl1
  by_cases hl2 : a.calls.length = b.calls.length
  case neg =>
    have h2 : (((a.calls.length : Nat) : Int) != ((b.calls.length : Nat) : Int)) = true := by simp; omega
    have HL := hid hl2
    clear hl2
    go_enter Tryz.func14, Tryz.ntmps14
    go_upto_region 1 with fail
    try simp only [World.size_alloc]
    generalize hW : (w.alloc (.cells #[.slice Ama a.mems.length cma, .slice Ata a.tables.length cta, .slice Aga a.globals.length cga, .slice Aea a.elems.length cea, .slice Ada a.datas.length cda, .slice Aca a.calls.length cca] 83)).alloc (.cells #[.slice Amb b.mems.length cmb, .slice Atb b.tables.length ctb, .slice Agb b.globals.length cgb, .slice Aeb b.elems.length ceb, .slice Adb b.datas.length cdb, .slice Acb b.calls.length ccb] 83) = W at *
    clear hW
    obtain ⟨p, hp⟩ : ∃ p, p = w.heap.size := ⟨_, rfl⟩
    simp only [← hp] at BX BY ⊢
    have HP := hid hp
    clear hp
    obtain ⟨z0, z1, z2, z3, z4, z5⟩ := BX.out _ (Fr.refl No W)
    obtain ⟨y0, y1, y2, y3, y4, y5⟩ := BY.out _ (Fr.refl No W)
    go_wp2
    go_ret
    refine ⟨rt_bool (shNo6 (fun e => HL.out (by rw [e]))), F0.out⟩
  have h2 : (((a.calls.length : Nat) : Int) != ((b.calls.length : Nat) : Int)) = false := by simp [hl2]
  have HL2 := hid hl2
  clear hl2
  go_enter Tryz.func14, Tryz.ntmps14
  go_upto_region 1 with fail
  try simp only [World.size_alloc]
  generalize hW : (w.alloc (.cells #[.slice Ama a.mems.length cma, .slice Ata a.tables.length cta, .slice Aga a.globals.length cga, .slice Aea a.elems.length cea, .slice Ada a.datas.length cda, .slice Aca a.calls.length cca] 83)).alloc (.cells #[.slice Amb b.mems.length cmb, .slice Atb b.tables.length ctb, .slice Agb b.globals.length cgb, .slice Aeb b.elems.length ceb, .slice Adb b.datas.length cdb, .slice Acb b.calls.length ccb] 83) = W at *
  clear hW
  obtain ⟨p, hp⟩ : ∃ p, p = w.heap.size := ⟨_, rfl⟩
  simp only [← hp] at BX BY ⊢
  have HP := hid hp
  clear hp
  obtain ⟨z0, z1, z2, z3, z4, z5⟩ := BX.out _ (Fr.refl No W)
  obtain ⟨y0, y1, y2, y3, y4, y5⟩ := BY.out _ (Fr.refl No W)
  go_wp2_with fail
  refine (H3.out _ F0.out).mono ?_
  rintro e w1 ⟨rfl, m1, rfl⟩
  clear z0 z1 z2 z3 z4 z5 y0 y1 y2 y3 y4 y5
  have F1 := hid (F0.out.drewN m1)
  have R1 := hid ((Fr.refl No W).drewN m1)
  obtain ⟨w1, hw1⟩ : ∃ X, X = World.drewN W m1 := ⟨_, rfl⟩
  rw [← hw1] at F1 R1 ⊢
  clear hw1
  obtain ⟨z0, z1, z2, z3, z4, z5⟩ := BX.out _ R1.out
  obtain ⟨y0, y1, y2, y3, y4, y5⟩ := BY.out _ R1.out
  cases q3 with
  | false =>
    go_wp2
    go_ret
    exact ⟨rt_bool (shNo3 E3.out), F1.out⟩
  | true =>
  go_wp2_with fail
  refine (H4.out _ F1.out).mono ?_
  rintro e w2 ⟨rfl, m2, rfl⟩
  clear z0 z1 z2 z3 z4 z5 y0 y1 y2 y3 y4 y5
  have F2 := hid (F1.out.drewN m2)
  have R2 := hid (R1.out.drewN m2)
  obtain ⟨w2, hw2⟩ : ∃ X, X = World.drewN w1 m2 := ⟨_, rfl⟩
  rw [← hw2] at F2 R2 ⊢
  clear hw2
  obtain ⟨z0, z1, z2, z3, z4, z5⟩ := BX.out _ R2.out
  obtain ⟨y0, y1, y2, y3, y4, y5⟩ := BY.out _ R2.out
  cases q4 with
  | false =>
    go_wp2
    go_ret
    exact ⟨rt_bool (shNo4 E4.out), F2.out⟩
  | true =>
  go_wp2_with fail
  refine (H5.out _ F2.out).mono ?_
  rintro e w3 ⟨rfl, m3, rfl⟩
  clear z0 z1 z2 z3 z4 z5 y0 y1 y2 y3 y4 y5
  have F3 := hid (F2.out.drewN m3)
  have R3 := hid (R2.out.drewN m3)
  obtain ⟨w3, hw3⟩ : ∃ X, X = World.drewN w2 m3 := ⟨_, rfl⟩
  rw [← hw3] at F3 R3 ⊢
  clear hw3
  obtain ⟨z0, z1, z2, z3, z4, z5⟩ := BX.out _ R3.out
  obtain ⟨y0, y1, y2, y3, y4, y5⟩ := BY.out _ R3.out
  cases q5 with
  | false =>
    go_wp2
    go_ret
    exact ⟨rt_bool (shNo5 E5.out), F3.out⟩
  | true =>
  clear R1 R2 F1 F2 H3 H4 H5 z0 z1 z2 z3 z4 z5 y0 y1 y2 y3 y4 y5
  go_wp2_with fail
  go_loopw [5] (fun i wr => ∃ k : Nat, k ≤ a.mems.length ∧ i = .int .i64 k ∧ Hid (a.mems.take k = b.mems.take k) ∧ Hid (Fr No W wr)) (fun i _ => a.mems.length - (intOf i).toNat)
  case atStart => exact ⟨0, by omega, rfl, by simp [Hid], R3.out⟩
  case round =>
  rename_i wr _ _
  obtain ⟨k, hk, rfl, HQ, F⟩ := hrel
  obtain ⟨z0, z1, z2, z3, z4, z5⟩ := BX.out _ F.out
  obtain ⟨y0, y1, y2, y3, y4, y5⟩ := BY.out _ F.out
  by_cases hlt : k < a.mems.length
  · have hkx : k < a.mems.length := hlt
    have hky : k < b.mems.length := by have := HL0.out; omega
    have FW := hid (F0.out.trans F.out (fun _ _ h => h))
    obtain ⟨bb, oo, A1, c1, rfl, hbS, k1, e1⟩ := slel_at EMA.out k hkx
    obtain ⟨bc, oc, B1, d1, rfl, hbT, k3, e2⟩ := slel_at EMB.out k hky
    have HXT : Hid (a.mems.take (k + 1) = a.mems.take k ++ [a.mems[k]]) := List.take_succ_eq_append_getElem hkx
    have HYT : Hid (b.mems.take (k + 1) = b.mems.take k ++ [b.mems[k]]) := List.take_succ_eq_append_getElem hky
    have HNE : Hid (a.mems[k] ≠ b.mems[k] → ¬ a.mems = b.mems) := by
      intro h e
      exact h (by simp only [e])
    obtain ⟨x, hxx⟩ : ∃ x, x = a.mems[k] := ⟨_, rfl⟩
    obtain ⟨y, hyy⟩ : ∃ y, y = b.mems[k] := ⟨_, rfl⟩
    simp only [← hxx, ← hyy] at k1 k3 e1 e2 HXT HYT HNE
    clear hxx hyy
    have HX : Hid (∀ X, Fr No w X → Fr No W X → X.cell? ⟨p, 0, none⟩ = some (.slice (some ⟨bb, oo, none⟩) a.mems.length cma) ∧ X.cell? ⟨p + 1, 0, none⟩ = some (.slice (some ⟨bc, oc, none⟩) b.mems.length cmb) ∧ X.cell? ⟨bb, oo + k, none⟩ = some (.slice A1 x.length c1) ∧ X.cell? ⟨bc, oc + k, none⟩ = some (.slice B1 y.length d1) ∧ (convert 59 9 (.slice A1 x.length c1)).run Tryz.prog X = .ok (.string (strU x)) X ∧ (convert 59 9 (.slice B1 y.length d1)).run Tryz.prog X = .ok (.string (strU y)) X) := fun X f g =>
      ⟨(BX.out X g).1, (BY.out X g).1, (f.cell (p := ⟨bb, oo + k, none⟩) (hS bb hbS) (fun x => x)).trans k1, (f.cell (p := ⟨bc, oc + k, none⟩) (hT bc hbT) (fun x => x)).trans k3, (conv_els c1 (e1.fr f (fun k hk => ⟨hS k hk, fun x => x⟩))).1, (conv_els d1 (e2.fr f (fun k hk => ⟨hT k hk, fun x => x⟩))).1⟩
    have i0 : (0 : Int) ≤ k := by omega
    have i1 : (k : Int) < a.mems.length := by omega
    have i2 : (k : Int) < b.mems.length := by omega
    have XE1 := hid (fun X (f : Fr No w X) => els_lt (e1.fr f (fun k hk => ⟨hS k hk, fun x => x⟩)) (fun k hk => Nat.lt_of_lt_of_le (hS k hk) f.size))
    have XE2 := hid (fun X (f : Fr No w X) => els_lt (e2.fr f (fun k hk => ⟨hT k hk, fun x => x⟩)) (fun k hk => Nat.lt_of_lt_of_le (hT k hk) f.size))
    obtain ⟨-, u1⟩ := conv_els c1 e1
    obtain ⟨-, u2⟩ := conv_els d1 e2
    have HSS := hid (strU_beq u1 u2)
    clear u1 u2
    clear k1 k3 e1 e2
    go_wp2_with fail
    clear z0 z1 z2 z3 z4 z5 y0 y1 y2 y3 y4 y5
    refine wp_region_ord (fun X => X.cell? ⟨p, 0, none⟩ = some (.slice (some ⟨bb, oo, none⟩) a.mems.length cma) ∧ X.cell? ⟨p + 1, 0, none⟩ = some (.slice (some ⟨bc, oc, none⟩) b.mems.length cmb) ∧ X.cell? ⟨bb, oo + k, none⟩ = some (.slice A1 x.length c1) ∧ X.cell? ⟨bc, oc + k, none⟩ = some (.slice B1 y.length d1) ∧ (convert 59 9 (.slice A1 x.length c1)).run Tryz.prog X = .ok (.string (strU x)) X ∧ (convert 59 9 (.slice B1 y.length d1)).run Tryz.prog X = .ok (.string (strU y)) X) [] [(0, true), (1, true), (2, true), (3, true), (4, true), (5, true), (6, true), (7, true), (8, true), (9, true), (10, true), (11, true), (12, true)] (by kernel_rfl) (by kernel_rfl) (by kernel_rfl) rfl (HX.out _ FW.out.drew F.out.drew) ?_
    repeat (first
      | (refine wpO_skip rfl rfl ?_; simp only [List.getElem_toArray, List.getElem_cons_succ, List.getElem_cons_zero, Act.put, List.setIfInBounds_toArray, List.set_cons_zero, List.set_cons_succ])
      | (refine wpO_call rfl rfl ?_; simp only [List.getElem_toArray, List.getElem_cons_succ, List.getElem_cons_zero]; apply Exists.intro; refine ⟨fun X hX => ?_, ?_⟩
         · (have s0 := hX.1; have s1 := hX.2.1; have s2 := hX.2.2.1; have s3 := hX.2.2.2.1; have s4 := hX.2.2.2.2.1; have s5 := hX.2.2.2.2.2; go_simp; exact stillUpon_value)
         simp only [Act.put, List.setIfInBounds_toArray, List.set_cons_zero, List.set_cons_succ]))
    refine wpO_nil ?_
    have FR := hid F.out.drew
    by_cases hxy : x = y
    · have hn : ((strU x).toList == (strU y).toList) = true := by rw [hxy]; simp
      have hn' : (!((strU x).toList == (strU y).toList)) = false := by rw [hn]; rfl
      have HXY := hid hxy
      clear hxy
      rw [hn]
      clear hn hn'
      go_wp2
      go_roundw
      case rel =>
        refine ⟨k + 1, by omega, by go_num, ?_, by first | exact FR.out | exact F.out.drewN _⟩
        show List.take (k + 1) a.mems = List.take (k + 1) b.mems
        rw [HXT.out, HYT.out, HQ.out, HXY.out]
      case measure => simp [intOf]; omega
    · have hn : ((strU x).toList == (strU y).toList) = false := by rw [HSS.out]; simp [hxy]
      have hn' : (!((strU x).toList == (strU y).toList)) = true := by rw [hn]; rfl
      have HXY := hid hxy
      clear hxy
      rw [hn]
      clear hn hn'
      go_wp2
      go_ret
      refine ⟨rt_bool (shNoM (HNE.out HXY.out)), F0.out.trans (by first | exact FR.out | exact F.out.drewN _) (fun _ _ h => h)⟩
  · have hkn : k = a.mems.length := by omega
    have HE1 := hid (take_all hkn HL0.out HQ.out)
    clear HQ hk
    clear hkn
    have hd : decide ((k : Int) < (a.mems.length : Int)) = false := by simp; omega
    obtain ⟨wx, hwx⟩ : ∃ X, X = wr := ⟨_, rfl⟩
    subst hwx
    have R4 := hid F.out
    clear F hd R3 F3
    go_wp2_with fail
    go_loopw [6] (fun i wr => ∃ k : Nat, k ≤ a.tables.length ∧ i = .int .i64 k ∧ Hid (a.tables.take k = b.tables.take k) ∧ Hid (Fr No W wr)) (fun i _ => a.tables.length - (intOf i).toNat)
    case atStart => exact ⟨0, by omega, rfl, by simp [Hid], R4.out⟩
    case round =>
    rename_i wr _ _
    obtain ⟨k, hk, rfl, HQ, F⟩ := hrel
    obtain ⟨z0, z1, z2, z3, z4, z5⟩ := BX.out _ F.out
    obtain ⟨y0, y1, y2, y3, y4, y5⟩ := BY.out _ F.out
    by_cases hlt : k < a.tables.length
    · have hkx : k < a.tables.length := hlt
      have hky : k < b.tables.length := by have := HL1.out; omega
      have FW := hid (F0.out.trans F.out (fun _ _ h => h))
      obtain ⟨bb, oo, A1, c1, rfl, hbS, k1, e1⟩ := slel_at ETA.out k hkx
      obtain ⟨bc, oc, B1, d1, rfl, hbT, k3, e2⟩ := slel_at ETB.out k hky
      have HXT : Hid (a.tables.take (k + 1) = a.tables.take k ++ [a.tables[k]]) := List.take_succ_eq_append_getElem hkx
      have HYT : Hid (b.tables.take (k + 1) = b.tables.take k ++ [b.tables[k]]) := List.take_succ_eq_append_getElem hky
      have HNE : Hid (a.tables[k] ≠ b.tables[k] → ¬ a.tables = b.tables) := by
        intro h e
        exact h (by simp only [e])
      have bnx := la.ts a.tables[k] (List.getElem_mem hkx)
      have bny := lb.ts b.tables[k] (List.getElem_mem hky)
      obtain ⟨x, hxx⟩ : ∃ x, x = a.tables[k] := ⟨_, rfl⟩
      obtain ⟨y, hyy⟩ : ∃ y, y = b.tables[k] := ⟨_, rfl⟩
      simp only [← hxx, ← hyy] at k1 k3 e1 e2 HXT HYT HNE bnx bny
      clear hxx hyy
      have HX : Hid (∀ X, Fr No w X → Fr No W X → X.cell? ⟨p, 1, none⟩ = some (.slice (some ⟨bb, oo, none⟩) a.tables.length cta) ∧ X.cell? ⟨p + 1, 1, none⟩ = some (.slice (some ⟨bc, oc, none⟩) b.tables.length ctb) ∧ X.cell? ⟨bb, oo + k, none⟩ = some (.slice A1 x.length c1) ∧ X.cell? ⟨bc, oc + k, none⟩ = some (.slice B1 y.length d1)) := fun X f g =>
        ⟨(BX.out X g).2.1, (BY.out X g).2.1, (f.cell (p := ⟨bb, oo + k, none⟩) (hS bb hbS) (fun x => x)).trans k1, (f.cell (p := ⟨bc, oc + k, none⟩) (hT bc hbT) (fun x => x)).trans k3⟩
      have i0 : (0 : Int) ≤ k := by omega
      have i1 : (k : Int) < a.tables.length := by omega
      have i2 : (k : Int) < b.tables.length := by omega
      have XE1 := hid (fun X (f : Fr No w X) => els_lt (e1.fr f (fun k hk => ⟨hS k hk, fun x => x⟩)) (fun k hk => Nat.lt_of_lt_of_le (hS k hk) f.size))
      have XE2 := hid (fun X (f : Fr No w X) => els_lt (e2.fr f (fun k hk => ⟨hT k hk, fun x => x⟩)) (fun k hk => Nat.lt_of_lt_of_le (hT k hk) f.size))
      clear k1 k3 e1 e2
      obtain ⟨q, hq⟩ : ∃ q, q = decide (x = y) := ⟨_, rfl⟩
      have HC := hid (fun X (f : Fr No w X) => refs_any A1 B1 x y c1 d1 (· < X.heap.size) (· < X.heap.size) X (XE1.out X f) (XE2.out X f) (by omega) (by omega))
      rw [← hq] at HC
      have HQ2 := hid hq
      clear hq
      go_wp2_with fail
      clear z0 z1 z2 z3 z4 z5 y0 y1 y2 y3 y4 y5
      refine wp_region_ord (fun X => X.cell? ⟨p, 1, none⟩ = some (.slice (some ⟨bb, oo, none⟩) a.tables.length cta) ∧ X.cell? ⟨p + 1, 1, none⟩ = some (.slice (some ⟨bc, oc, none⟩) b.tables.length ctb) ∧ X.cell? ⟨bb, oo + k, none⟩ = some (.slice A1 x.length c1) ∧ X.cell? ⟨bc, oc + k, none⟩ = some (.slice B1 y.length d1)) [] [(0, true), (1, true), (2, true), (3, true), (4, true), (5, true), (6, true), (7, true), (8, true), (9, true), (10, false), (11, true)] (by kernel_rfl) (by kernel_rfl) (by kernel_rfl) rfl (HX.out _ FW.out.drew F.out.drew) ?_
      repeat (first
        | (refine wpO_skip rfl rfl ?_; simp only [List.getElem_toArray, List.getElem_cons_succ, List.getElem_cons_zero, Act.put, List.setIfInBounds_toArray, List.set_cons_zero, List.set_cons_succ])
        | (refine wpO_call rfl rfl ?_; simp only [List.getElem_toArray, List.getElem_cons_succ, List.getElem_cons_zero]; apply Exists.intro; refine ⟨fun X hX => ?_, ?_⟩
           · (have s0 := hX.1; have s1 := hX.2.1; have s2 := hX.2.2.1; have s3 := hX.2.2.2; go_simp; exact stillUpon_value)
           simp only [Act.put, List.setIfInBounds_toArray, List.set_cons_zero, List.set_cons_succ]))
      refine wpO_eff rfl rfl (fun K hK => ?_)
      simp only [List.getElem_toArray, List.getElem_cons_succ, List.getElem_cons_zero]
      go_simp
      refine (HC.out _ FW.out.drew).mono ?_
      rintro e w1 ⟨rfl, nn, rfl⟩
      have FR := hid (F.out.drew.drewN nn)
      refine hK _ _ (fun _ => HX.out _ (FW.out.drew.drewN nn) FR.out) ?_
      clear hK K
      repeat (first
        | (refine wpO_skip rfl rfl ?_; simp only [List.getElem_toArray, List.getElem_cons_succ, List.getElem_cons_zero, Act.put, List.setIfInBounds_toArray, List.set_cons_zero, List.set_cons_succ])
        | (refine wpO_call rfl rfl ?_; simp only [List.getElem_toArray, List.getElem_cons_succ, List.getElem_cons_zero]; apply Exists.intro; refine ⟨fun X hX => ?_, ?_⟩
           · (have s0 := hX.1; have s1 := hX.2.1; have s2 := hX.2.2.1; have s3 := hX.2.2.2; go_simp; exact stillUpon_value)
           simp only [Act.put, List.setIfInBounds_toArray, List.set_cons_zero, List.set_cons_succ]))
      refine wpO_nil ?_
      cases q with
      | true =>
        have HXY := hid (of_decide_eq_true HQ2.out.symm)
        go_wp2
        go_roundw
        case rel =>
          refine ⟨k + 1, by omega, by go_num, ?_, by first | exact FR.out | exact F.out.drewN _⟩
          show List.take (k + 1) a.tables = List.take (k + 1) b.tables
          rw [HXT.out, HYT.out, HQ.out, HXY.out]
        case measure => simp [intOf]; omega
      | false =>
        have HXY := hid (of_decide_eq_false HQ2.out.symm)
        go_wp2
        go_ret
        refine ⟨rt_bool (shNoT (HNE.out HXY.out)), F0.out.trans (by first | exact FR.out | exact F.out.drewN _) (fun _ _ h => h)⟩
    · have hkn : k = a.tables.length := by omega
      have HE2 := hid (take_all hkn HL1.out HQ.out)
      clear HQ hk
      clear hkn
      have hd : decide ((k : Int) < (a.tables.length : Int)) = false := by simp; omega
      obtain ⟨wy, hwy⟩ : ∃ X, X = wr := ⟨_, rfl⟩
      subst hwy
      have R5 := hid F.out
      clear F hd R4
      go_wp2_with fail
      go_loopw [7] (fun i wr => ∃ k : Nat, k ≤ a.calls.length ∧ i = .int .i64 k ∧ Hid (a.calls.take k = b.calls.take k) ∧ Hid (Fr No W wr)) (fun i _ => a.calls.length - (intOf i).toNat)
      case atStart => exact ⟨0, by omega, rfl, by simp [Hid], R5.out⟩
      case round =>
      rename_i wr _ _
      obtain ⟨k, hk, rfl, HQ, F⟩ := hrel
      obtain ⟨z0, z1, z2, z3, z4, z5⟩ := BX.out _ F.out
      obtain ⟨y0, y1, y2, y3, y4, y5⟩ := BY.out _ F.out
      by_cases hlt : k < a.calls.length
      · have hkx : k < a.calls.length := hlt
        have hky : k < b.calls.length := by have := HL2.out; omega
        have FW := hid (F0.out.trans F.out (fun _ _ h => h))
        obtain ⟨bb, oo, A1, c1, rfl, hbS, k1, k2, -, -, -, e1⟩ := Ca_at ECA.out k hkx
        obtain ⟨bc, oc, B1, d1, rfl, hbT, k3, k4, -, -, -, e2⟩ := Ca_at ECB.out k hky
        have HXT : Hid (a.calls.take (k + 1) = a.calls.take k ++ [a.calls[k]]) := List.take_succ_eq_append_getElem hkx
        have HYT : Hid (b.calls.take (k + 1) = b.calls.take k ++ [b.calls[k]]) := List.take_succ_eq_append_getElem hky
        have HNE : Hid (a.calls[k] ≠ b.calls[k] → ¬ a.calls = b.calls) := by
          intro h e
          exact h (by simp only [e])
        have bnx := la.cs a.calls[k] (List.getElem_mem hkx)
        have bny := lb.cs b.calls[k] (List.getElem_mem hky)
        obtain ⟨x, hxx⟩ : ∃ x, x = a.calls[k] := ⟨_, rfl⟩
        obtain ⟨y, hyy⟩ : ∃ y, y = b.calls[k] := ⟨_, rfl⟩
        simp only [← hxx, ← hyy] at k1 k2 k3 k4 e1 e2 HXT HYT HNE bnx bny
        clear hxx hyy
        have HX : Hid (∀ X, Fr No w X → Fr No W X → X.cell? ⟨p, 5, none⟩ = some (.slice (some ⟨bb, oo, none⟩) a.calls.length cca) ∧ X.cell? ⟨p + 1, 5, none⟩ = some (.slice (some ⟨bc, oc, none⟩) b.calls.length ccb) ∧ X.cell? ⟨bb, oo + k * 2, none⟩ = some (.int .i64 x.host) ∧ X.cell? ⟨bb, oo + k * 2 + 1, none⟩ = some (.slice A1 x.args.length c1) ∧ X.cell? ⟨bc, oc + k * 2, none⟩ = some (.int .i64 y.host) ∧ X.cell? ⟨bc, oc + k * 2 + 1, none⟩ = some (.slice B1 y.args.length d1)) := fun X f g =>
          ⟨(BX.out X g).2.2.2.2.2, (BY.out X g).2.2.2.2.2, (f.cell (p := ⟨bb, oo + k * 2, none⟩) (hS bb hbS) (fun x => x)).trans k1, (f.cell (p := ⟨bb, oo + k * 2 + 1, none⟩) (hS bb hbS) (fun x => x)).trans k2, (f.cell (p := ⟨bc, oc + k * 2, none⟩) (hT bc hbT) (fun x => x)).trans k3, (f.cell (p := ⟨bc, oc + k * 2 + 1, none⟩) (hT bc hbT) (fun x => x)).trans k4⟩
        have i0 : (0 : Int) ≤ k := by omega
        have i1 : (k : Int) < a.calls.length := by omega
        have i2 : (k : Int) < b.calls.length := by omega
        have XE1 := hid (fun X (f : Fr No w X) => els_lt (e1.fr f (fun k hk => ⟨hS k hk, fun x => x⟩)) (fun k hk => Nat.lt_of_lt_of_le (hS k hk) f.size))
        have XE2 := hid (fun X (f : Fr No w X) => els_lt (e2.fr f (fun k hk => ⟨hT k hk, fun x => x⟩)) (fun k hk => Nat.lt_of_lt_of_le (hT k hk) f.size))
        clear k1 k2 k3 k4 e1 e2
        obtain ⟨q, hq⟩ : ∃ q, q = decide (x.args = y.args) := ⟨_, rfl⟩
        have HC := hid (fun X (f : Fr No w X) => r27same_any A1 B1 x.args y.args c1 d1 X.heap.size X.heap.size X (XE1.out X f) (XE2.out X f) (by omega) (by omega))
        rw [← hq] at HC
        have HQ2 := hid hq
        clear hq
        by_cases hh : x.host = y.host
        · have hn : (x.host != y.host) = false := by simp [hh]
          have HH := hid hh
          clear hh
          go_wp2_with fail
          clear z0 z1 z2 z3 z4 z5 y0 y1 y2 y3 y4 y5
          refine wp_region_ord (fun X => X.cell? ⟨p, 5, none⟩ = some (.slice (some ⟨bb, oo, none⟩) a.calls.length cca) ∧ X.cell? ⟨p + 1, 5, none⟩ = some (.slice (some ⟨bc, oc, none⟩) b.calls.length ccb) ∧ X.cell? ⟨bb, oo + k * 2, none⟩ = some (.int .i64 x.host) ∧ X.cell? ⟨bb, oo + k * 2 + 1, none⟩ = some (.slice A1 x.args.length c1) ∧ X.cell? ⟨bc, oc + k * 2, none⟩ = some (.int .i64 y.host) ∧ X.cell? ⟨bc, oc + k * 2 + 1, none⟩ = some (.slice B1 y.args.length d1)) [] [(0, true), (1, true), (2, true), (3, true), (4, true), (5, true), (6, true), (7, true), (8, true), (9, true), (10, true), (11, true), (12, true), (13, true), (14, true), (15, true), (16, true), (17, true), (18, true), (19, true), (20, true), (21, true), (22, true), (23, true), (24, true), (25, true), (26, false), (27, true), (28, true)] (by kernel_rfl) (by kernel_rfl) (by kernel_rfl) rfl (HX.out _ FW.out.drew F.out.drew) ?_
          repeat (first
            | (refine wpO_skip rfl rfl ?_; simp only [List.getElem_toArray, List.getElem_cons_succ, List.getElem_cons_zero, Act.put, List.setIfInBounds_toArray, List.set_cons_zero, List.set_cons_succ])
            | (refine wpO_call rfl rfl ?_; simp only [List.getElem_toArray, List.getElem_cons_succ, List.getElem_cons_zero]; apply Exists.intro; refine ⟨fun X hX => ?_, ?_⟩
               · (have s0 := hX.1; have s1 := hX.2.1; have s2 := hX.2.2.1; have s3 := hX.2.2.2.1; have s4 := hX.2.2.2.2.1; have s5 := hX.2.2.2.2.2; go_simp; exact stillUpon_value)
               simp only [Act.put, List.setIfInBounds_toArray, List.set_cons_zero, List.set_cons_succ]))
          refine wpO_eff rfl rfl (fun K hK => ?_)
          simp only [List.getElem_toArray, List.getElem_cons_succ, List.getElem_cons_zero]
          go_simp
          refine (HC.out _ FW.out.drew).mono ?_
          rintro e w1 ⟨rfl, nn, rfl⟩
          have FR := hid (F.out.drew.drewN nn)
          refine hK _ _ (fun _ => HX.out _ (FW.out.drew.drewN nn) FR.out) ?_
          clear hK K
          repeat (first
            | (refine wpO_skip rfl rfl ?_; simp only [List.getElem_toArray, List.getElem_cons_succ, List.getElem_cons_zero, Act.put, List.setIfInBounds_toArray, List.set_cons_zero, List.set_cons_succ])
            | (refine wpO_call rfl rfl ?_; simp only [List.getElem_toArray, List.getElem_cons_succ, List.getElem_cons_zero]; apply Exists.intro; refine ⟨fun X hX => ?_, ?_⟩
               · (have s0 := hX.1; have s1 := hX.2.1; have s2 := hX.2.2.1; have s3 := hX.2.2.2.1; have s4 := hX.2.2.2.2.1; have s5 := hX.2.2.2.2.2; go_simp; exact stillUpon_value)
               simp only [Act.put, List.setIfInBounds_toArray, List.set_cons_zero, List.set_cons_succ]))
          refine wpO_nil ?_
          cases q with
          | true =>
            have HXY : Hid (x = y) := by
              have h1 := of_decide_eq_true HQ2.out.symm
              have h2 := HH.out
              show x = y
              cases x; cases y; simp only at h1 h2; subst h1; subst h2; rfl
            go_wp2
            go_roundw
            case rel =>
              refine ⟨k + 1, by omega, by go_num, ?_, by first | exact FR.out | exact F.out.drewN _⟩
              show List.take (k + 1) a.calls = List.take (k + 1) b.calls
              rw [HXT.out, HYT.out, HQ.out, HXY.out]
            case measure => simp [intOf]; omega
          | false =>
            have HXY : Hid (¬ x = y) := fun e => of_decide_eq_false HQ2.out.symm (by rw [e])
            go_wp2
            go_ret
            refine ⟨rt_bool (shNo6 (HNE.out HXY.out)), F0.out.trans (by first | exact FR.out | exact F.out.drewN _) (fun _ _ h => h)⟩
        · have hn : (x.host != y.host) = true := by simp [hh]
          have HXY : Hid (¬ x = y) := fun e => hh (by rw [e])
          clear hh
          go_wp2_with fail
          clear z0 z1 z2 z3 z4 z5 y0 y1 y2 y3 y4 y5
          refine wp_region_ord (fun X => X.cell? ⟨p, 5, none⟩ = some (.slice (some ⟨bb, oo, none⟩) a.calls.length cca) ∧ X.cell? ⟨p + 1, 5, none⟩ = some (.slice (some ⟨bc, oc, none⟩) b.calls.length ccb) ∧ X.cell? ⟨bb, oo + k * 2, none⟩ = some (.int .i64 x.host) ∧ X.cell? ⟨bb, oo + k * 2 + 1, none⟩ = some (.slice A1 x.args.length c1) ∧ X.cell? ⟨bc, oc + k * 2, none⟩ = some (.int .i64 y.host) ∧ X.cell? ⟨bc, oc + k * 2 + 1, none⟩ = some (.slice B1 y.args.length d1)) [] [(0, true), (1, true), (2, true), (3, true), (4, true), (5, true), (6, true), (7, true), (8, true), (9, true), (10, true), (11, true), (12, true), (13, true), (14, true), (15, true), (16, true), (17, true), (18, true), (19, true), (20, true), (21, true), (22, true), (23, true), (24, true), (25, true), (26, false), (27, true), (28, true)] (by kernel_rfl) (by kernel_rfl) (by kernel_rfl) rfl (HX.out _ FW.out.drew F.out.drew) ?_
          repeat (first
            | (refine wpO_skip rfl rfl ?_; simp only [List.getElem_toArray, List.getElem_cons_succ, List.getElem_cons_zero, Act.put, List.setIfInBounds_toArray, List.set_cons_zero, List.set_cons_succ])
            | (refine wpO_call rfl rfl ?_; simp only [List.getElem_toArray, List.getElem_cons_succ, List.getElem_cons_zero]; apply Exists.intro; refine ⟨fun X hX => ?_, ?_⟩
               · (have s0 := hX.1; have s1 := hX.2.1; have s2 := hX.2.2.1; have s3 := hX.2.2.2.1; have s4 := hX.2.2.2.2.1; have s5 := hX.2.2.2.2.2; go_simp; exact stillUpon_value)
               simp only [Act.put, List.setIfInBounds_toArray, List.set_cons_zero, List.set_cons_succ]))
          refine wpO_skipE rfl rfl (HX.out _ FW.out.drew F.out.drew) ?_
          simp only [List.getElem_toArray, List.getElem_cons_succ, List.getElem_cons_zero, Act.put, List.setIfInBounds_toArray, List.set_cons_zero, List.set_cons_succ]
          repeat (first
            | (refine wpO_skip rfl rfl ?_; simp only [List.getElem_toArray, List.getElem_cons_succ, List.getElem_cons_zero, Act.put, List.setIfInBounds_toArray, List.set_cons_zero, List.set_cons_succ])
            | (refine wpO_call rfl rfl ?_; simp only [List.getElem_toArray, List.getElem_cons_succ, List.getElem_cons_zero]; apply Exists.intro; refine ⟨fun X hX => ?_, ?_⟩
               · (have s0 := hX.1; have s1 := hX.2.1; have s2 := hX.2.2.1; have s3 := hX.2.2.2.1; have s4 := hX.2.2.2.2.1; have s5 := hX.2.2.2.2.2; go_simp; exact stillUpon_value)
               simp only [Act.put, List.setIfInBounds_toArray, List.set_cons_zero, List.set_cons_succ]))
          refine wpO_nil ?_
          have FR := hid F.out.drew
          go_wp2
          go_ret
          refine ⟨rt_bool (shNo6 (HNE.out HXY.out)), F0.out.trans (by first | exact FR.out | exact F.out.drewN _) (fun _ _ h => h)⟩
      · have hkn : k = a.calls.length := by omega
        have HE3 := hid (take_all hkn HL2.out HQ.out)
        clear HQ hk
        clear hkn
        have hd : decide ((k : Int) < (a.calls.length : Int)) = false := by simp; omega
        go_wp2
        go_ret
        refine ⟨rt_bool ?_, F0.out.trans F.out (fun _ _ h => h)⟩
        symm
        rw [shEq, decide_eq_true_eq]
        exact ⟨HE1.out, HE2.out, of_decide_eq_true E3.out.symm, of_decide_eq_true E4.out.symm, of_decide_eq_true E5.out.symm, HE3.out⟩
end Go.Proofs.YtdckghiipijobaaGreat
