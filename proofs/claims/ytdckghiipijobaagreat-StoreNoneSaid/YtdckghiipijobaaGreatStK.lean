/- Contracts: New, its walk. -/
import Derived.Test.YtdckghiipijobaaGreatStJ
namespace Go.Proofs.YtdckghiipijobaaGreat
open Go.RowKit

set_option maxRecDepth 100000 in
set_option maxHeartbeats 6400000 in
theorem newS_any (A : Option Addr) (c : Nat) (hosts : List Ho) (S : Nat → Prop) (w : World) (h : tHo.els w S A hosts) (hS : ∀ k, S k → k < w.heap.size) (hl : hosts.length ≤ 140737488351232) (hb : ∀ x ∈ hosts, HoBd x) :
    Calls Tryz.prog 8 #[.slice A hosts.length c] w (NewSTo hosts w) := by
  by_cases hbig : 32 < hosts.length
  · have hi : (32 : Int) < (hosts.length : Int) := by omega
    unfold NewSTo
    rw [may_long hbig]
    clear h hb
    go_enter Tryz.func8, Tryz.ntmps8
    go_wp2
    go_ret
    exact ⟨rfl, Fr.refl _ _⟩
  · have hd32 : decide ((32 : Int) < (hosts.length : Int)) = false := by simp; omega
    have hn32 : hosts.length ≤ 32 := by omega
    have H := hid h
    have HB := hid hb
    have HS := hid hS
    have hmk := fun (W : World) => run_mk elInts rfl W .i64 .i64 hosts.length (by omega) (by omega)
    have OC := hid (own_mk w 3 (.int .i64 0) hosts.length (by omega))
    clear h hb hS hbig hl
    go_enter Tryz.func8, Tryz.ntmps8
    have I0 : Hid (NewInv w ((w.alloc (.cells (Array.replicate hosts.length (.int .i64 0)) 3)).alloc (.cells #[.slice none 0 0, .slice (some ⟨w.heap.size, 0, none⟩) hosts.length hosts.length, .slice none 0 0, .slice none 0 0, .slice none 0 0, .slice none 0 0, .slice none 0 0, .slice none 0 0, .slice none 0 0, .slice none 0 0] 135)) (w.heap.size + 1) w.heap.size hosts 0 (.slice none 0 0)) :=
      ⟨((Fr.refl No w).alloc _).alloc _, Blk.new1 w _ 135 #[.slice none 0 0, .slice (some ⟨w.heap.size, 0, none⟩) hosts.length hosts.length, .slice none 0 0, .slice none 0 0, .slice none 0 0, .slice none 0 0, .slice none 0 0, .slice none 0 0, .slice none 0 0, .slice none 0 0], OC.out.fr ((Fr.refl No _).alloc _) (fun x => x), Ty.row.nil _ _ _ _, fun j _ hj => absurd hj (by omega), by omega, Nat.le_refl _⟩
    go_wp2_with fail
    clear hmk OC
    generalize (w.alloc (.cells (Array.replicate hosts.length (.int .i64 0)) 3)).alloc (.cells #[.slice none 0 0, .slice (some ⟨w.heap.size, 0, none⟩) hosts.length hosts.length, .slice none 0 0, .slice none 0 0, .slice none 0 0, .slice none 0 0, .slice none 0 0, .slice none 0 0, .slice none 0 0, .slice none 0 0] 135) = W0 at *
    generalize w.heap.size + 1 = P at *
    generalize hC : w.heap.size = C at I0 ⊢
    clear hC
    go_loopw [16] (fun i wr => ∃ (k : Nat) (v : Value), k ≤ hosts.length ∧ i = .int .i64 k ∧ Hid (NewInv w wr P C hosts k v)) (fun i _ => hosts.length - (intOf i).toNat)
    case atStart => exact ⟨0, _, by omega, rfl, I0.out⟩
    case round =>
      clear I0
      obtain ⟨k, v, hk, rfl, I⟩ := hrel
      by_cases hlt : k < hosts.length
      · have F := hid I.out.fr
        obtain ⟨b, o, A1, c1, A2, c2, A3, c3, rfl, hbS, y0, y1, y2, y3, y4, m1, m2, p1, p2, p3, q1, q2, q3, r1, r2, r3⟩ := Ho_at (H.out.fr F.out (fun k hk => ⟨HS.out k hk, fun x => x⟩)) k hlt
        have HBk := hid (HB.out _ (List.getElem_mem hlt))
        have i0 : (0 : Int) ≤ k := by omega
        have i1 : (k : Int) < hosts.length := by omega
        have hbl : b < wr.heap.size := Nat.lt_of_lt_of_le (HS.out b hbS) F.out.size
        have HSr : Hid (∀ k, S k → k < wr.heap.size) := fun k hk => Nat.lt_of_lt_of_le (HS.out k hk) F.out.size
        have hx : hosts[k]? = some hosts[k] := List.getElem?_eq_getElem hlt
        obtain ⟨x, hx2⟩ : ∃ x, x = hosts[k] := ⟨_, rfl⟩
        have HX2 := hid hx2
        rw [← hx2] at y0 y1 y2 y3 y4 m1 m2 p1 p3 q1 q3 r1 r3 HBk
        have HE := hid (And.intro p3 (And.intro q3 r3))
        have HM := hid (And.intro m1 m2)
        clear p3 q3 r3 m1 m2 hx2 hx
        have FA := hid ((Fr.refl No wr).alloc (.cells #[.string x.mod, .string x.name, .slice A1 x.ty.params.length c1, .slice A2 x.ty.results.length c2, .slice A3 x.acts.length c3] 108))
        have GA := hid (Blk.new wr 108 #[.string x.mod, .string x.name, .slice A1 x.ty.params.length c1, .slice A2 x.ty.results.length c2, .slice A3 x.acts.length c3])
        go_wp2_with fail
        generalize wr.alloc (.cells #[.string x.mod, .string x.name, .slice A1 x.ty.params.length c1, .slice A2 x.ty.results.length c2, .slice A3 x.acts.length c3] 108) = W at *
        obtain ⟨hb, hhb⟩ : ∃ hb, hb = wr.heap.size := ⟨_, rfl⟩
        have HHB := hid hhb
        rw [← hhb] at GA hbl ⊢
        clear hhb
        have IW := hid (I.out.frNo FA.out)
        have HSW : Hid (∀ k, S k → k < W.heap.size) := fun k hk => Nat.lt_of_lt_of_le (HSr.out k hk) FA.out.size
        have E1 := hid (fr_els HE.out.1 FA.out HSr.out)
        have E2 := hid (fr_els HE.out.2.1 FA.out HSr.out)
        have E3 := hid (fr_els HE.out.2.2 FA.out HSr.out)
        have bd := HBk.out
        refine (hright_any x A1 A2 A3 c1 c2 c3 W.heap.size _ (Nat.le_refl _) ⟨E1.out.more HSW.out, E2.out.more HSW.out, E3.out.more HSW.out, by have := bd.p; omega, by have := bd.r; omega, by have := bd.a; omega, HM.out.1, HM.out.2, fun a ha => by have := bd.v a ha; omega⟩).mono ?_
        clear bd
        rintro e w1 ⟨rfl, f1⟩
        have F1 := hid f1
        clear f1 y0 y1 y2 y3 y4
        cases hq : hoB x with
        | false =>
          have HQ := hid hq
          clear hq
          go_wp2
          go_ret
          unfold NewSTo
          rw [may_no hlt (by rw [← HX2.out]; exact HQ.out)]
          exact ⟨rfl, ((F.out.trans FA.out (fun _ _ h => h)).trans F1.out (fun _ _ h => h))⟩
        | true =>
          have HQ := hid hq
          clear hq
          have I1 := hid (IW.out.frNo F1.out)
          have G1 := hid (GA.out.fr F1.out (fun x => x))
          have hP1 : P < w1.heap.size := I1.out.hP.lt
          have hb1 : hb < w1.heap.size := G1.out.lt
          have HY : Hid (∀ X, Fr No w1 X → X.cell? ⟨P, 0, none⟩ = some v ∧ X.cell? ⟨hb, 0, none⟩ = some (.string x.mod) ∧ X.cell? ⟨hb, 1, none⟩ = some (.string x.name) ∧ X.cell? ⟨hb, 2, none⟩ = some (.slice A1 x.ty.params.length c1) ∧ X.cell? ⟨hb, 3, none⟩ = some (.slice A2 x.ty.results.length c2) ∧ X.cell? ⟨hb, 4, none⟩ = some (.slice A3 x.acts.length c3)) := fun X f => ⟨(I1.out.hP.fr f (fun x => x)).cell 0, (G1.out.fr f (fun x => x)).cell 0, (G1.out.fr f (fun x => x)).cell 1, (G1.out.fr f (fun x => x)).cell 2, (G1.out.fr f (fun x => x)).cell 3, (G1.out.fr f (fun x => x)).cell 4⟩
          go_wp2_with fail
          refine wp_region_ord (fun X => X.cell? ⟨P, 0, none⟩ = some v ∧ X.cell? ⟨hb, 0, none⟩ = some (.string x.mod) ∧ X.cell? ⟨hb, 1, none⟩ = some (.string x.name) ∧ X.cell? ⟨hb, 2, none⟩ = some (.slice A1 x.ty.params.length c1) ∧ X.cell? ⟨hb, 3, none⟩ = some (.slice A2 x.ty.results.length c2) ∧ X.cell? ⟨hb, 4, none⟩ = some (.slice A3 x.acts.length c3)) [11] [(0, true), (1, true), (2, true), (3, true), (4, true), (5, true), (6, false), (7, false), (8, false), (9, true), (10, true), (11, false)] (by kernel_rfl) (by kernel_rfl) (by kernel_rfl) rfl (HY.out _ (Fr.refl _ _).drew) ?_
          repeat (first
            | (refine wpO_skip rfl rfl ?_; simp only [List.getElem_toArray, List.getElem_cons_succ, List.getElem_cons_zero, Act.put, List.setIfInBounds_toArray, List.set_cons_zero, List.set_cons_succ])
            | (refine wpO_call rfl rfl ?_; simp only [List.getElem_toArray, List.getElem_cons_succ, List.getElem_cons_zero]; apply Exists.intro; refine ⟨fun X hX => ?_, ?_⟩
               · (have s0 := hX.1; have s1 := hX.2.1; have s2 := hX.2.2.1; have s3 := hX.2.2.2.1; have s4 := hX.2.2.2.2.1; have s5 := hX.2.2.2.2.2; go_simp; exact stillUpon_value)
               simp only [Act.put, List.setIfInBounds_toArray, List.set_cons_zero, List.set_cons_succ]))
          refine wpO_eff rfl rfl (fun K hK => ?_)
          simp only [List.getElem_toArray, List.getElem_cons_succ, List.getElem_cons_zero]
          go_simp
          have HS1 : Hid (∀ k, S k → k < w1.heap.size) := fun k hk => Nat.lt_of_lt_of_le (HSW.out k hk) F1.out.size
          refine (copyHost_any x A1 A2 A3 c1 c2 c3 S w1.drew HS1.out (fr_els E1.out F1.out.drew HSW.out) (fr_els E2.out F1.out.drew HSW.out) (fr_els E3.out F1.out.drew HSW.out) HBk.out.p HBk.out.r HBk.out.a HBk.out.v HM.out.1 HM.out.2).mono ?_
          rintro e w2 ⟨cs, rfl, hr2, f2⟩
          have F2 : Hid (Fr No w1 w2) := (Fr.refl No w1).drew.trans f2 (fun _ _ h => h)
          have R2 := hid hr2
          obtain ⟨D1, d1, D2, d2, D3, d3, rfl, -⟩ := Ho_cells hr2
          clear hr2 f2
          refine hK _ _ (fun _ => HY.out _ F2.out) ?_
          clear hK K
          repeat (first
            | (refine wpO_skip rfl rfl ?_; simp only [List.getElem_toArray, List.getElem_cons_succ, List.getElem_cons_zero, Act.put, List.setIfInBounds_toArray, List.set_cons_zero, List.set_cons_succ])
            | (refine wpO_call rfl rfl ?_; simp only [List.getElem_toArray, List.getElem_cons_succ, List.getElem_cons_zero]; apply Exists.intro; refine ⟨fun X hX => ?_, ?_⟩
               · (have s0 := hX.1; have s1 := hX.2.1; have s2 := hX.2.2.1; have s3 := hX.2.2.2.1; have s4 := hX.2.2.2.2.1; have s5 := hX.2.2.2.2.2; go_simp; exact stillUpon_value)
               simp only [Act.put, List.setIfInBounds_toArray, List.set_cons_zero, List.set_cons_succ]))
          refine wpO_eff rfl rfl (fun K hK => ?_)
          simp only [List.getElem_toArray, List.getElem_cons_succ, List.getElem_cons_zero]
          go_simp
          have F3 := hid ((Fr.refl No w2).alloc (.cells #[.string x.mod, .string x.name, .slice D1 x.ty.params.length d1, .slice D2 x.ty.results.length d2, .slice D3 x.acts.length d3] 108))
          have G3 := hid (Blk.new w2 108 #[.string x.mod, .string x.name, .slice D1 x.ty.params.length d1, .slice D2 x.ty.results.length d2, .slice D3 x.acts.length d3])
          refine hK _ _ (fun _ => HY.out _ (F2.out.trans F3.out (fun _ _ h => h))) ?_
          clear hK K
          generalize w2.alloc (.cells #[.string x.mod, .string x.name, .slice D1 x.ty.params.length d1, .slice D2 x.ty.results.length d2, .slice D3 x.acts.length d3] 108) = w3 at *
          have I3 := hid ((I1.out.frNo F2.out).frNo F3.out)
          have s1 := F1.out.size
          have s2 := F2.out.size
          have s3 := F3.out.size
          have hvl : Hid (∀ g, v.ownBlock = some g → g < w1.heap.size ∧ g ≠ P ∧ g ≠ hb) := fun g hg => by
            obtain ⟨_, cs1, hb1⟩ := I1.out.row.own hg
            refine ⟨hb1.lt, fun e => hb1.ne_ I1.out.hP (by decide) e, fun e => ?_⟩
            obtain ⟨_, cs2, hb2⟩ := I.out.row.own hg
            have := hb2.lt
            have := HHB.out
            omega
          have RX : Hid (tHo.rd w3 (Tn w w3 P C v) [.string x.mod, .string x.name, .slice D1 x.ty.params.length d1, .slice D2 x.ty.results.length d2, .slice D3 x.acts.length d3] x) :=
            TyMore.more _ _ _ _ _ (TyOk.keep _ w3 _ _ _ R2.out (fun p hp => F3.out.cell hp.2 (fun x => x))) (fun b hb => by
              have h1 : w1.heap.size ≤ b := hb.1
              have h2 := hb.2
              have h3 := I1.out.hP.lt
              have h4 := I1.out.own.lt
              have h5 := I1.out.fr.size
              exact ⟨⟨by omega, by omega⟩, by omega, by omega, fun e => by have := (hvl.out b e).1; omega⟩)
          repeat (first
            | (refine wpO_skip rfl rfl ?_; simp only [List.getElem_toArray, List.getElem_cons_succ, List.getElem_cons_zero, Act.put, List.setIfInBounds_toArray, List.set_cons_zero, List.set_cons_succ])
            | (refine wpO_call rfl rfl ?_; simp only [List.getElem_toArray, List.getElem_cons_succ, List.getElem_cons_zero]; apply Exists.intro; refine ⟨fun X hX => ?_, ?_⟩
               · (have s0 := hX.1; have s1 := hX.2.1; have s2 := hX.2.2.1; have s3 := hX.2.2.2.1; have s4 := hX.2.2.2.2.1; have s5 := hX.2.2.2.2.2; go_simp; exact stillUpon_value)
               simp only [Act.put, List.setIfInBounds_toArray, List.set_cons_zero, List.set_cons_succ]))
          refine wpO_eff rfl rfl (fun K hK => ?_)
          simp only [List.getElem_toArray, List.getElem_cons_succ, List.getElem_cons_zero]
          have hk32 : (hosts.take k).length ≤ 32 := by simp; omega
          refine opwp_appC (t := tHo) (P := Tryz.prog) (base := w.heap.size) (S := Tn w w3 P C v) (v := v) (xs := hosts.take k) (ys := [x]) (dss := [[.string x.mod, .string x.name, .slice D1 x.ty.params.length d1, .slice D2 x.ty.results.length d2, .slice D3 x.acts.length d3]]) (B2 := w3.heap.size) elHo rfl rfl rfl I3.out.row (Css.one RX.out) (Rd.blk G3.out G3.out.lt 0 (fun k u hu => by rw [Nat.zero_add]; simpa using hu)) rfl (by simp; omega) (by simp; omega) (fun b hb => ⟨hb.1.2, fun e => hb.2.2.2 e.symm⟩) I3.out.fr.size ?_
          intro v1 w4 hr4 f4 hv4
          have F4 := hid f4
          have hrow : tHo.row w4 w.heap.size (Tn w w4 P C v1) 108 v1 (hosts.take (k + 1)) := by
            rw [List.take_succ_eq_append_getElem hlt, ← HX2.out]
            refine hr4.more (Nat.le_refl _) (fun b hb => ⟨hb.1.up (Nat.le_refl _) f4.size, hb.2.1, hb.2.2.1, fun e => ?_⟩)
            rcases hv4 with h | h
            · rw [h] at e; exact hb.2.2.2 e
            · rw [h] at e; have := Option.some.inj e; have := hb.1.2; omega
          have hvP : v1.ownBlock ≠ some P := fun e => by
            obtain ⟨_, cs1, hb1⟩ := hr4.own e
            exact hb1.ne_ (I3.out.hP.fr f4 (fun e => (hvl.out P e.symm).2.1 rfl)) (by decide) rfl
          have HR := hid hrow
          have HVP := hid hvP
          have HP4 := hid (I3.out.hP.fr f4 (fun e => (hvl.out P e.symm).2.1 rfl))
          have HC4 := hid (I3.out.own.fr f4 (fun e => by
            obtain ⟨_, cs1, hb1⟩ := I3.out.row.own e.symm
            obtain ⟨cur, hb2, _⟩ := I3.out.own.cur
            exact hb1.ne_ hb2 (by decide) rfl))
          have HF4 : Hid (Fr No w w4) := I3.out.fr.trans f4 (fun b hb e => by have := (I3.out.row.own e.symm).1; omega)
          have HZ : Hid (∀ X, X = w4 → X.cell? ⟨P, 0, none⟩ = some v ∧ X.cell? ⟨hb, 0, none⟩ = some (.string x.mod) ∧ X.cell? ⟨hb, 1, none⟩ = some (.string x.name) ∧ X.cell? ⟨hb, 2, none⟩ = some (.slice A1 x.ty.params.length c1) ∧ X.cell? ⟨hb, 3, none⟩ = some (.slice A2 x.ty.results.length c2) ∧ X.cell? ⟨hb, 4, none⟩ = some (.slice A3 x.acts.length c3)) := fun X e => by
            subst e
            have hG := (G1.out.fr F2.out (fun x => x)).fr F3.out (fun x => x)
            have hH := hG.fr f4 (fun e => (hvl.out hb e.symm).2.2 rfl)
            exact ⟨HP4.out.cell 0, hH.cell 0, hH.cell 1, hH.cell 2, hH.cell 3, hH.cell 4⟩
          refine hK _ _ (fun _ => HZ.out _ rfl) ?_
          clear hK K hr4 f4 hv4 hrow hvP
          simp only [Act.put, List.setIfInBounds_toArray, List.set_cons_zero, List.set_cons_succ]
          repeat (first
            | (refine wpO_skip rfl rfl ?_; simp only [List.getElem_toArray, List.getElem_cons_succ, List.getElem_cons_zero, Act.put, List.setIfInBounds_toArray, List.set_cons_zero, List.set_cons_succ])
            | (refine wpO_call rfl rfl ?_; simp only [List.getElem_toArray, List.getElem_cons_succ, List.getElem_cons_zero]; apply Exists.intro; refine ⟨fun X hX => ?_, ?_⟩
               · (have s0 := hX.1; have s1 := hX.2.1; have s2 := hX.2.2.1; have s3 := hX.2.2.2.1; have s4 := hX.2.2.2.2.1; have s5 := hX.2.2.2.2.2; go_simp; exact stillUpon_value)
               simp only [Act.put, List.setIfInBounds_toArray, List.set_cons_zero, List.set_cons_succ]))
          obtain ⟨A5, k5, e5, _, _, _⟩ := HR.out.els (S' := fun _ => True) (fun _ _ => trivial) (fun _ _ => trivial)
          rw [show (hosts.take (k + 1)).length = k + 1 by simp; omega] at e5
          subst e5
          have z0 : w4.cell? ⟨P, 0, none⟩ = some v := HP4.out.cell 0
          have z1 : w4.frozen? ⟨P, 0, none⟩ = false := HP4.out.frozen 0
          refine wpO_eff rfl rfl (fun K hK => ?_)
          simp only [List.getElem_toArray, List.getElem_cons_succ, List.getElem_cons_zero]
          go_simp
          refine hK _ _ (fun h => by simp at h) ?_
          clear hK K
          refine wpO_nil ?_
          go_wp2
          go_roundw
          case rel =>
            refine ⟨k + 1, .slice A5 (k + 1) k5, by omega, by go_num, ?_⟩
            have FS := (Fr.refl (One P) w4).setCell ⟨P, 0, none⟩ (.slice A5 (k + 1) k5) (fun _ => rfl)
            have lP := I3.out.lP
            have hCP : C ≠ P := fun e => by
              obtain ⟨cur, hb2, _⟩ := HC4.out.cur
              exact hb2.ne_ HP4.out (by decide) e
            refine ⟨HF4.out.trans FS (fun i hi h => by have h : i = P := h; omega), ?_, HC4.out.fr FS (show ¬ One P C from hCP), ?_, fun j hj hjk => ?_, lP, I3.out.lC⟩
            · simpa using HP4.out.set_ 0 (.slice A5 (k + 1) k5)
            · exact (HR.out.fr FS (fun b hb => ⟨hb.1.2, fun e => hb.2.1 e⟩) (fun b hb e => HVP.out (by rw [hb]; exact congrArg some e))).more (Nat.le_refl _) (fun b hb => ⟨hb.1.up (Nat.le_refl _) FS.size, hb.2⟩)
            · by_cases hjk2 : j < k
              · exact I.out.ok j hj hjk2
              · obtain rfl : j = k := by omega
                rw [← HX2.out]; exact HQ.out
          case measure => simp [intOf]; omega
      · go_wp2
        go_ret
        obtain rfl : k = hosts.length := by omega
        obtain ⟨V, hV, h1, h2⟩ := I.out.done
        unfold NewSTo
        rw [may_yes hn32 (fun j hj => I.out.ok j hj hj)]
        exact ⟨V, by rw [hV]; rfl, h1, h2, I.out.fr⟩
end Go.Proofs.YtdckghiipijobaaGreat
