/- Chapter 46: the law SplitOnce. -/
import Derived.Test.YtiafkakkbbclhaaSmD
namespace Go.Proofs.Ytiafkakkbbclhaa
open Go.RowKit

theorem same_ng (P R V B P' R' V' B' : Option Addr) (np nr nv nb ng pc rc vc bc pc' rc' vc' bc' : Nat) (x : Sf) (S S' : Nat → Prop) (w : World) (hg : ng = nb) (h : FIn w S x P R V B) (h' : FIn w S' x P' R' V' B') (ep : Hid (x.type.params.length = np)) (er : Hid (x.type.results.length = nr)) (ev : Hid (x.vals.length = nv)) (eb : Hid (x.blocks.length = nb)) (hl : Hid (FL x)) :
    Calls Try.prog 11 #[.agg #[.slice P np pc, .slice R nr rc, .slice V nv vc, .slice B nb bc], .agg #[.slice P' np pc', .slice R' nr rc', .slice V' nv vc', .slice B' ng bc']] w (YesTo w) := by
  subst hg
  exact same_any P R V B P' R' V' B' np nr nv ng pc rc vc bc pc' rc' vc' bc' x S S' w h h' ep er ev eb hl
set_option maxRecDepth 100000 in
set_option maxHeartbeats 6400000 in
theorem once_t (P R V B : Option Addr) (np nr nv nb pc rc vc bc : Nat) (x : Sf) (w : World) (h : FIn w (· < w.heap.size) x P R V B)
    (ep : Hid (x.type.params.length = np)) (er : Hid (x.type.results.length = nr)) (ev : Hid (x.vals.length = nv)) (eb : Hid (x.blocks.length = nb)) (u : tSf.lw 140737488351232 x) :
    Calls Try.prog 4 #[.agg #[.slice P np pc, .slice R nr rc, .slice V nv vc, .slice B nb bc]] w fun e w' => e = .returned (.bool true) ∧ Fr No w w' := by
  have F0 := hid ((Fr.refl No w).alloc (.cells #[.slice P np pc, .slice R nr rc, .slice V nv vc, .slice B nb bc] 27))
  have G0 := hid (Blk.new w 27 #[.slice P np pc, .slice R nr rc, .slice V nv vc, .slice B nb bc])
  have HF0 := hid (h.fr F0.out)
  have HFEW := hid (few_any P R V B np nr nv nb pc rc vc bc x (· < w.heap.size) (w.alloc (.cells #[.slice P np pc, .slice R nr rc, .slice V nv vc, .slice B nb bc] 27)) HF0.out.b HF0.out.lt (few_le u) eb ev)
  have HFL := hid (fun s : Small x => fl_of u s)
  have HFS := hid (fun s : Small x => fl_split (fl_of u s) s)
  clear h u
  go_enter Try.func4, Try.ntmps4
  go_wp2_with fail
  refine HFEW.out.mono ?_
  clear HFEW
  rintro e w1 ⟨⟨r, rfl, hs⟩, f⟩
  have F1 := hid (F0.out.trans f (fun _ _ h => h))
  have G1 := hid (G0.out.fr f (fun x => x))
  have HF1 := hid (HF0.out.fr f)
  have HS := hid hs
  clear f hs F0 G0 HF0
  have q0 := G1.out.cell 0
  have q1 := G1.out.cell 1
  have q2 := G1.out.cell 2
  have q3 := G1.out.cell 3
  cases r with
  | false =>
    go_wp2_with fail
    refine (alive_any _).mono ?_
    rintro e w2 ⟨rfl, f⟩
    have F2 := hid (F1.out.trans f (fun _ _ h => h))
    clear f q0 q1 q2 q3
    go_wp2
    go_ret
    exact ⟨rfl, F2.out⟩
  | true =>
    have hl := hid (HFL.out (HS.out rfl))
    have hl2 := hid (HFS.out (HS.out rfl))
    clear HFL HFS HS
    have HNB := hid hl.out.nb
    have HTT := hid hl.out.t
    obtain ⟨nc, hnc⟩ : ∃ n, (crit (tosOf x.blocks)).length = n := ⟨_, rfl⟩
    have HNC := hid hnc
    have hcl : nc ≤ 100000 := by rw [← hnc]; exact Nat.le_trans (critR_tot _ _) hl.out.t
    have hnb : nb ≤ 100000 := by rw [← eb.out]; exact HNB.out
    obtain ⟨ng, hng⟩ : ∃ n, (splitB x.blocks).length = n := ⟨_, rfl⟩
    have HNG := hid hng
    have HGN : Hid (ng = nb + nc) := hid (by rw [← hng, splitB_len, eb.out, hnc])
    clear hng hnc
    go_wp2_with fail
    refine (func_in P R V B np nr nv nb ng pc rc vc bc x (· < w.heap.size) w1 HF1.out ep er ev eb HNG hl).mono ?_
    rintro e w2 ⟨P2, R2, V2, B2, pc2, rc2, vc2, bc2, rfl, h2, f⟩
    have FA := hid ((Fr.refl No w2).alloc (.cells #[.slice P2 np pc2, .slice R2 nr rc2, .slice V2 nv vc2, .slice B2 ng bc2] 27))
    have GV := hid (Blk.new w2 27 #[.slice P2 np pc2, .slice R2 nr rc2, .slice V2 nv vc2, .slice B2 ng bc2])
    have HG3 := hid (h2.fr FA.out)
    have F3 := hid ((F1.out.trans f (fun _ _ h => h)).trans FA.out (fun _ _ h => h))
    have G3 := hid ((G1.out.fr f (fun x => x)).fr FA.out (fun x => x))
    have HF3 := hid ((HF1.out.fr f).fr FA.out)
    clear f h2 FA HF1 F1 G1 q0 q1 q2 q3
    have q0 := G3.out.cell 0
    have q1 := G3.out.cell 1
    have q2 := G3.out.cell 2
    have q3 := G3.out.cell 3
    go_wp2_with fail
    clear q0 q1 q2 q3
    generalize w2.alloc (.cells #[.slice P2 np pc2, .slice R2 nr rc2, .slice V2 nv vc2, .slice B2 ng bc2] 27) = W3 at *
    obtain ⟨qg, hqg⟩ : ∃ q, w2.heap.size = q := ⟨_, rfl⟩
    have HQG : Hid (∀ k, k < w2.heap.size → k < qg) := hid fun k hk => by omega
    have HG3' : Hid (FIn W3 (· < qg) (splitF x) P2 R2 V2 B2) := hid (by rw [← hqg]; exact HG3.out)
    rw [hqg] at GV ⊢
    clear hqg HG3 HQG
    refine (crit_any P R V B np nr nv nb pc rc vc bc x.blocks (· < w.heap.size) W3 HF3.out.b HF3.out.lt eb hnb HTT.out).mono ?_
    rintro e w4 ⟨A, c, rfl, _, f⟩
    rw [HNC.out]
    have HG4 := hid (HG3'.out.fr f)
    have F4 := hid (F3.out.trans f (fun _ _ h => h))
    have G4 := hid (G3.out.fr f (fun x => x))
    have GV4 := hid (GV.out.fr f (fun x => x))
    have HF4 := hid (HF3.out.fr f)
    clear f HG3' F3 G3 GV HF3
    have q0 := G4.out.cell 0
    have q1 := G4.out.cell 1
    have q2 := G4.out.cell 2
    have q3 := G4.out.cell 3
    have g0 := GV4.out.cell 0
    have g1 := GV4.out.cell 1
    have g2 := GV4.out.cell 2
    have g3 := GV4.out.cell 3
    have kg : ((ng : Int) != (nb : Int) + (nc : Int)) = false := by have := HGN.out; simp; omega
    by_cases hn0 : nc = 0
    · have kn : ((nc : Int) == 0) = true := by simpa using hn0
      have hgb : ng = nb := by have := HGN.out; omega
      have hxx : splitF x = x := by
        have h0 : crit (tosOf x.blocks) = [] := List.eq_nil_of_length_eq_zero (by rw [HNC.out]; exact hn0)
        show (⟨x.type, x.vals, splitB x.blocks⟩ : Sf) = x
        rw [splitB_none h0]
      have HSA := hid (same_ng P R V B P2 R2 V2 B2 np nr nv nb ng pc rc vc bc pc2 rc2 vc2 bc2 x (· < w.heap.size) (· < qg) w4 hgb HF4.out (by have h := HG4.out; rw [hxx] at h; exact h) ep er ev eb hl)
      clear hn0 hgb hxx
      go_wp2_with fail
      refine HSA.out.mono ?_
      rintro e w5 ⟨rfl, f⟩
      have HG5 := hid (HG4.out.fr f)
      have F5 := hid (F4.out.trans f (fun _ _ h => h))
      have G5 := hid (G4.out.fr f (fun x => x))
      have GV5 := hid (GV4.out.fr f (fun x => x))
      have HF5 := hid (HF4.out.fr f)
      clear f HSA HG4 F4 G4 GV4 HF4 q0 q1 q2 q3 g0 g1 g2 g3
      have q3 := G5.out.cell 3
      have g3 := GV5.out.cell 3
      go_wp2_with fail
      clear kg kn q3 g3
      go_loopw [5] (fun i wr => ∃ k : Nat, nb ≤ k ∧ k ≤ ng ∧ i = .int .i64 k ∧ Hid (Fr No w5 wr)) (fun i _ => ng - (intOf i).toNat)
      case atStart => exact ⟨nb, Nat.le_refl _, by have := HGN.out; omega, rfl, hid (Fr.refl No w5)⟩
      case round =>
        obtain ⟨k, hk0, hk, rfl, FR⟩ := hrel
        have GF := hid (G5.out.fr FR.out (fun x => x))
        have GG := hid (GV5.out.fr FR.out (fun x => x))
        have HGF := hid (HG5.out.fr FR.out)
        have q3 := GF.out.cell 3
        have g3 := GG.out.cell 3
        have hkb0 : ng ≤ 200000 := by have := HGN.out; omega
        by_cases hgk : k < ng
        · have hlk : k < (splitB x.blocks).length := by have := HNG.out; omega
          obtain ⟨e, he, e1, e2⟩ := split_new (bs := x.blocks) (i := k) (by have := eb.out; omega) hlk
          rw [eb.out] at e2
          have HB6 : tSb.els wr (· < qg) B2 (splitB x.blocks) := HGF.out.b
          obtain ⟨b, o, A0, c0, A1, c1, A2, c2, A3, c3, rfl, hb, y0, y1, y2, y3, y4, y5, y6, _, _, _, _, _, _, _, _, _, _, _, _, _, e3, _⟩ := Sb_at HB6 k hlk
          rw [he] at y0 y1 y2 y3 y4 y5 y6 e3
          replace y0 : wr.cell? ⟨b, o + k * 7, none⟩ = some (.slice A0 0 c0) := y0
          replace y1 : wr.cell? ⟨b, o + k * 7 + 1, none⟩ = some (.slice A1 0 c1) := y1
          replace y2 : wr.cell? ⟨b, o + k * 7 + 2, none⟩ = some (.int .i64 0) := y2
          replace y3 : wr.cell? ⟨b, o + k * 7 + 3, none⟩ = some (.int .i64 0) := y3
          replace y4 : wr.cell? ⟨b, o + k * 7 + 4, none⟩ = some (.slice A2 0 c2) := y4
          replace y5 : wr.cell? ⟨b, o + k * 7 + 5, none⟩ = some (.slice A3 1 c3) := y5
          replace y6 : wr.cell? ⟨b, o + k * 7 + 6, none⟩ = some (.int .i64 0) := y6
          replace e3 : tEd.els wr (· < qg) A3 [e] := e3
          obtain ⟨bb, oo, Aa, ca, rfl, hbe, z0, _⟩ := Ed_at e3 0 (by simp)
          replace z0 : wr.cell? ⟨bb, oo, none⟩ = some (.int .i64 e.to) := by simpa using z0
          have hbw : bb < wr.heap.size := Nat.lt_trans hbe GG.out.lt
          have FA := (Fr.refl No wr).alloc (.cells #[.slice A0 0 c0, .slice A1 0 c1, .int .i64 0, .int .i64 0, .slice A2 0 c2, .slice (some ⟨bb, oo, none⟩) 1 c3, .int .i64 0] 42)
          have GX := Blk.new wr 42 #[.slice A0 0 c0, .slice A1 0 c1, .int .i64 0, .int .i64 0, .slice A2 0 c2, .slice (some ⟨bb, oo, none⟩) 1 c3, .int .i64 0]
          have HX : Hid (∀ X, Fr No (wr.alloc (.cells #[.slice A0 0 c0, .slice A1 0 c1, .int .i64 0, .int .i64 0, .slice A2 0 c2, .slice (some ⟨bb, oo, none⟩) 1 c3, .int .i64 0] 42)) X → X.cell? ⟨wr.heap.size, 0, none⟩ = some (.slice A0 0 c0) ∧ X.cell? ⟨wr.heap.size, 1, none⟩ = some (.slice A1 0 c1) ∧ X.cell? ⟨wr.heap.size, 2, none⟩ = some (.int .i64 0) ∧ X.cell? ⟨wr.heap.size, 5, none⟩ = some (.slice (some ⟨bb, oo, none⟩) 1 c3) ∧ X.cell? ⟨bb, oo, none⟩ = some (.int .i64 e.to) ∧ X.cell? ⟨w.heap.size, 3, none⟩ = some (.slice B nb bc)) := hid fun X f => by
            have g := GX.fr f (fun x => x)
            have fa := FA.trans f (fun _ _ h => h)
            exact ⟨g.cell 0, g.cell 1, g.cell 2, g.cell 5, (fa.cell (p := ⟨bb, oo, none⟩) hbw (fun x => x)).trans z0, (GF.out.fr fa (fun x => x)).cell 3⟩
          have FX := hid (FR.out.trans FA (fun _ _ h => h))
          generalize e.to = et at *
          have kz1 : decide (et < 0) = false := decide_eq_false (by omega)
          have kz2 : decide (et < (nb : Int)) = true := decide_eq_true (by omega)
          have kz3 : decide ((nb : Int) ≤ et) = false := decide_eq_false (by omega)
          clear he e3 HB6 FA GX hbw z0
          go_wp2_with fail
          generalize wr.alloc (.cells #[.slice A0 0 c0, .slice A1 0 c1, .int .i64 0, .int .i64 0, .slice A2 0 c2, .slice (some ⟨bb, oo, none⟩) 1 c3, .int .i64 0] 42) = wy at *
          refine wp_region_ort (Fr No wy) (.rd 0 (.rd 1 (.rd 2 (.rd 3 (.rd 4 (.rd 5 (.rd 6 (.rd 7 (.rd 8 (.rd 9 (.rd 10 (.rd 11 (.rd 12 (.rd 13 (.rd 14 (.rd 15 (.rd 16 (.rd 17 (.rd 18 (.rd 19 (.rd 20 (.rd 21 (.rd 22 (.rd 23 (.rd 24 (.rd 25 (.rd 26 (.rd 27 (.rd 28 (.rd 29 (.rd 30 (.rd 31 (.rd 32 (.rd 33 (.rd 34 (.rd 35 (.rd 36 (.rd 37 (.rd 38 (.rd 39 (.rd 40 (.rd 41 .nil)))))))))))))))))))))))))))))))))))))))))) (by kernel_rfl) (by kernel_rfl) (by kernel_rfl) rfl (Fr.refl _ wy).drew ?_
          repeat (first
            | (refine wpT_skip rfl rfl ?_; simp only [List.getElem_toArray, List.getElem_cons_succ, List.getElem_cons_zero, Act.put, List.setIfInBounds_toArray, List.set_cons_zero, List.set_cons_succ])
            | (refine wpT_call rfl rfl ?_; simp only [List.getElem_toArray, List.getElem_cons_succ, List.getElem_cons_zero]; apply Exists.intro; refine ⟨fun X hX => ?_, ?_⟩
               · (obtain ⟨s0, s1, s2, s3, s4, s5⟩ := HX.out X hX; go_simp; exact stillUpon_value)
               simp only [Act.put, List.setIfInBounds_toArray, List.set_cons_zero, List.set_cons_succ]))
          refine wpT_nil ?_
          have FD := hid (FX.out.trans (Fr.refl No wy).drew (fun _ _ h => h))
          clear HX FX
          generalize wy.drew = wz at *
          have hkb : k ≤ 200000 := by have := HGN.out; omega
          go_wp2
          go_round
          case rel => exact ⟨k + 1, by omega, by omega, by go_num, FD⟩
          case measure => simp [intOf]; omega
        · have hkn : ng = k := by omega
          subst hkn
          clear hgk
          have FW := hid (F5.out.trans FR.out (fun _ _ h => h))
          have HFF := hid (HF5.out.fr FR.out)
          have HX : Hid (∀ X, Fr No wr X → X.cell? ⟨w.heap.size, 0, none⟩ = some (.slice P np pc) ∧ X.cell? ⟨w.heap.size, 1, none⟩ = some (.slice R nr rc) ∧ X.cell? ⟨w.heap.size, 2, none⟩ = some (.slice V nv vc) ∧ X.cell? ⟨w.heap.size, 3, none⟩ = some (.slice B nb bc) ∧ X.cell? ⟨qg, 0, none⟩ = some (.slice P2 np pc2) ∧ X.cell? ⟨qg, 1, none⟩ = some (.slice R2 nr rc2) ∧ X.cell? ⟨qg, 2, none⟩ = some (.slice V2 nv vc2) ∧ X.cell? ⟨qg, 3, none⟩ = some (.slice B2 ng bc2)) := hid fun X f => by
            have g := GF.out.fr f (fun x => x)
            have h := GG.out.fr f (fun x => x)
            exact ⟨g.cell 0, g.cell 1, g.cell 2, g.cell 3, h.cell 0, h.cell 1, h.cell 2, h.cell 3⟩
          go_wp2_with fail
          have FD := hid (Fr.refl No wr).drew
          refine wp_region_ort (Fr No wr) (.rd 0 (.eff 1 (.rd 2 (.rd 3 (.rd 5 (.eff 4 (.eff 6 (.rd 7 (.rd 8 (.eff 9 (.rd 10 (.rd 11 .nil)))))))))))) (by kernel_rfl) (by kernel_rfl) (by kernel_rfl) rfl FD.out ?_
          generalize wr.drew = wd at *
          repeat (first
            | (refine wpT_skip rfl rfl ?_; simp only [List.getElem_toArray, List.getElem_cons_succ, List.getElem_cons_zero, Act.put, List.setIfInBounds_toArray, List.set_cons_zero, List.set_cons_succ])
            | (refine wpT_call rfl rfl ?_; simp only [List.getElem_toArray, List.getElem_cons_succ, List.getElem_cons_zero]; apply Exists.intro; refine ⟨fun X hX => ?_, ?_⟩
               · (obtain ⟨s0, s1, s2, s3, s4, s5, s6, s7⟩ := HX.out X hX; go_simp; exact stillUpon_value)
               simp only [Act.put, List.setIfInBounds_toArray, List.set_cons_zero, List.set_cons_succ]))
          refine wpT_eff rfl rfl (fun K hK => ?_)
          simp only [List.getElem_toArray, List.getElem_cons_succ, List.getElem_cons_zero]
          go_simp
          have HFd := hid (HFF.out.fr FD.out)
          refine (beyond_any P R V B np nr nv nb pc rc vc bc x.blocks (· < w.heap.size) wd HFd.out.b HFd.out.lt eb hnb HTT.out).mono ?_
          rintro e w6 ⟨⟨v, rfl, hv⟩, f⟩
          have HG6 := hid ((HGF.out.fr FD.out).fr f)
          have F6 := hid (FD.out.trans f (fun _ _ h => h))
          have HV := hid hv
          clear f hv HFd FD
          refine hK _ _ (F6.out) ?_
          clear hK K
          cases v with
          | true =>
            repeat (first
              | (refine wpT_skip rfl rfl ?_; simp only [List.getElem_toArray, List.getElem_cons_succ, List.getElem_cons_zero, Act.put, List.setIfInBounds_toArray, List.set_cons_zero, List.set_cons_succ])
              | (refine wpT_call rfl rfl ?_; simp only [List.getElem_toArray, List.getElem_cons_succ, List.getElem_cons_zero]; apply Exists.intro; refine ⟨fun X hX => ?_, ?_⟩
                 · (obtain ⟨s0, s1, s2, s3, s4, s5, s6, s7⟩ := HX.out X hX; go_simp; exact stillUpon_value)
                 simp only [Act.put, List.setIfInBounds_toArray, List.set_cons_zero, List.set_cons_succ]))
            refine wpT_skipE rfl rfl F6.out ?_
            simp only [List.getElem_toArray, List.getElem_cons_succ, List.getElem_cons_zero, Act.put, List.setIfInBounds_toArray, List.set_cons_zero, List.set_cons_succ]
            repeat (first
              | (refine wpT_skip rfl rfl ?_; simp only [List.getElem_toArray, List.getElem_cons_succ, List.getElem_cons_zero, Act.put, List.setIfInBounds_toArray, List.set_cons_zero, List.set_cons_succ])
              | (refine wpT_call rfl rfl ?_; simp only [List.getElem_toArray, List.getElem_cons_succ, List.getElem_cons_zero]; apply Exists.intro; refine ⟨fun X hX => ?_, ?_⟩
                 · (obtain ⟨s0, s1, s2, s3, s4, s5, s6, s7⟩ := HX.out X hX; go_simp; exact stillUpon_value)
                 simp only [Act.put, List.setIfInBounds_toArray, List.set_cons_zero, List.set_cons_succ]))
            refine wpT_skipE rfl rfl F6.out ?_
            simp only [List.getElem_toArray, List.getElem_cons_succ, List.getElem_cons_zero, Act.put, List.setIfInBounds_toArray, List.set_cons_zero, List.set_cons_succ]
            repeat (first
              | (refine wpT_skip rfl rfl ?_; simp only [List.getElem_toArray, List.getElem_cons_succ, List.getElem_cons_zero, Act.put, List.setIfInBounds_toArray, List.set_cons_zero, List.set_cons_succ])
              | (refine wpT_call rfl rfl ?_; simp only [List.getElem_toArray, List.getElem_cons_succ, List.getElem_cons_zero]; apply Exists.intro; refine ⟨fun X hX => ?_, ?_⟩
                 · (obtain ⟨s0, s1, s2, s3, s4, s5, s6, s7⟩ := HX.out X hX; go_simp; exact stillUpon_value)
                 simp only [Act.put, List.setIfInBounds_toArray, List.set_cons_zero, List.set_cons_succ]))
            refine wpT_eff rfl rfl (fun K hK => ?_)
            simp only [List.getElem_toArray, List.getElem_cons_succ, List.getElem_cons_zero]
            go_simp
            refine (alive_any _).mono ?_
            rintro e w8 ⟨rfl, f⟩
            have F8 := hid (F6.out.trans f (fun _ _ h => h))
            clear f
            refine hK _ _ (F8.out) ?_
            clear hK K
            repeat (first
              | (refine wpT_skip rfl rfl ?_; simp only [List.getElem_toArray, List.getElem_cons_succ, List.getElem_cons_zero, Act.put, List.setIfInBounds_toArray, List.set_cons_zero, List.set_cons_succ])
              | (refine wpT_call rfl rfl ?_; simp only [List.getElem_toArray, List.getElem_cons_succ, List.getElem_cons_zero]; apply Exists.intro; refine ⟨fun X hX => ?_, ?_⟩
                 · (obtain ⟨s0, s1, s2, s3, s4, s5, s6, s7⟩ := HX.out X hX; go_simp; exact stillUpon_value)
                 simp only [Act.put, List.setIfInBounds_toArray, List.set_cons_zero, List.set_cons_succ]))
            refine wpT_nil ?_
            have F9 := hid (FW.out.trans F8.out (fun _ _ h => h))
            clear F6 F8 HX
            go_wp2
            go_ret
            exact ⟨rfl, F9.out⟩
          | false =>
            have hid2 : splitF (splitF x) = splitF x := by
              have h := HV.out rfl
              rw [← eb.out] at h
              show (⟨x.type, x.vals, splitB (splitB x.blocks)⟩ : Sf) = ⟨x.type, x.vals, splitB x.blocks⟩
              rw [splitB_id h]
            have HG2 : Hid ((splitB (splitF x).blocks).length = ng) := hid (by
              have h := congrArg (fun y => y.blocks.length) hid2
              exact h.trans HNG.out)
            have HI2 := hid hid2
            clear hid2
            repeat (first
              | (refine wpT_skip rfl rfl ?_; simp only [List.getElem_toArray, List.getElem_cons_succ, List.getElem_cons_zero, Act.put, List.setIfInBounds_toArray, List.set_cons_zero, List.set_cons_succ])
              | (refine wpT_call rfl rfl ?_; simp only [List.getElem_toArray, List.getElem_cons_succ, List.getElem_cons_zero]; apply Exists.intro; refine ⟨fun X hX => ?_, ?_⟩
                 · (obtain ⟨s0, s1, s2, s3, s4, s5, s6, s7⟩ := HX.out X hX; go_simp; exact stillUpon_value)
                 simp only [Act.put, List.setIfInBounds_toArray, List.set_cons_zero, List.set_cons_succ]))
            refine wpT_eff rfl rfl (fun K hK => ?_)
            simp only [List.getElem_toArray, List.getElem_cons_succ, List.getElem_cons_zero]
            go_simp
            refine (func_in P2 R2 V2 B2 np nr nv ng ng pc2 rc2 vc2 bc2 (splitF x) (· < qg) w6 HG6.out ep er ev HNG HG2 hl2).mono ?_
            rw [HI2.out]
            rintro e w7 ⟨P7, R7, V7, B7, pc7, rc7, vc7, bc7, rfl, h7, f⟩
            have H7 := hid h7
            have HG7 := hid (HG6.out.fr f)
            have F7 := hid (F6.out.trans f (fun _ _ h => h))
            clear f h7 HG6 F6
            refine hK _ _ (F7.out) ?_
            clear hK K
            repeat (first
              | (refine wpT_skip rfl rfl ?_; simp only [List.getElem_toArray, List.getElem_cons_succ, List.getElem_cons_zero, Act.put, List.setIfInBounds_toArray, List.set_cons_zero, List.set_cons_succ])
              | (refine wpT_call rfl rfl ?_; simp only [List.getElem_toArray, List.getElem_cons_succ, List.getElem_cons_zero]; apply Exists.intro; refine ⟨fun X hX => ?_, ?_⟩
                 · (obtain ⟨s0, s1, s2, s3, s4, s5, s6, s7⟩ := HX.out X hX; go_simp; exact stillUpon_value)
                 simp only [Act.put, List.setIfInBounds_toArray, List.set_cons_zero, List.set_cons_succ]))
            refine wpT_eff rfl rfl (fun K hK => ?_)
            simp only [List.getElem_toArray, List.getElem_cons_succ, List.getElem_cons_zero]
            go_simp
            refine (same_any P7 R7 V7 B7 P2 R2 V2 B2 np nr nv ng pc7 rc7 vc7 bc7 pc2 rc2 vc2 bc2 (splitF x) (· < w7.heap.size) (· < qg) w7 H7.out HG7.out ep er ev HNG hl2).mono ?_
            rintro e w8 ⟨rfl, f⟩
            have F8 := hid (F7.out.trans f (fun _ _ h => h))
            clear f F7 H7 HG7
            refine hK _ _ (F8.out) ?_
            clear hK K
            repeat (first
              | (refine wpT_skip rfl rfl ?_; simp only [List.getElem_toArray, List.getElem_cons_succ, List.getElem_cons_zero, Act.put, List.setIfInBounds_toArray, List.set_cons_zero, List.set_cons_succ])
              | (refine wpT_call rfl rfl ?_; simp only [List.getElem_toArray, List.getElem_cons_succ, List.getElem_cons_zero]; apply Exists.intro; refine ⟨fun X hX => ?_, ?_⟩
                 · (obtain ⟨s0, s1, s2, s3, s4, s5, s6, s7⟩ := HX.out X hX; go_simp; exact stillUpon_value)
                 simp only [Act.put, List.setIfInBounds_toArray, List.set_cons_zero, List.set_cons_succ]))
            refine wpT_eff rfl rfl (fun K hK => ?_)
            simp only [List.getElem_toArray, List.getElem_cons_succ, List.getElem_cons_zero]
            go_simp
            refine (alive_any _).mono ?_
            rintro e w9 ⟨rfl, f⟩
            have F9 := hid (F8.out.trans f (fun _ _ h => h))
            clear f
            refine hK _ _ (F9.out) ?_
            clear hK K
            repeat (first
              | (refine wpT_skip rfl rfl ?_; simp only [List.getElem_toArray, List.getElem_cons_succ, List.getElem_cons_zero, Act.put, List.setIfInBounds_toArray, List.set_cons_zero, List.set_cons_succ])
              | (refine wpT_call rfl rfl ?_; simp only [List.getElem_toArray, List.getElem_cons_succ, List.getElem_cons_zero]; apply Exists.intro; refine ⟨fun X hX => ?_, ?_⟩
                 · (obtain ⟨s0, s1, s2, s3, s4, s5, s6, s7⟩ := HX.out X hX; go_simp; exact stillUpon_value)
                 simp only [Act.put, List.setIfInBounds_toArray, List.set_cons_zero, List.set_cons_succ]))
            refine wpT_nil ?_
            have FZ := hid (FW.out.trans F9.out (fun _ _ h => h))
            clear F8 F9 HX
            go_wp2
            go_ret
            exact ⟨rfl, FZ.out⟩
    · have kn : ((nc : Int) == 0) = false := by simpa using hn0
      clear hn0
      go_wp2_with fail
      clear kg kn q0 q1 q2 q3 g0 g1 g2 g3
      go_loopw [5] (fun i wr => ∃ k : Nat, nb ≤ k ∧ k ≤ ng ∧ i = .int .i64 k ∧ Hid (Fr No w4 wr)) (fun i _ => ng - (intOf i).toNat)
      case atStart => exact ⟨nb, Nat.le_refl _, by have := HGN.out; omega, rfl, hid (Fr.refl No w4)⟩
      case round =>
        obtain ⟨k, hk0, hk, rfl, FR⟩ := hrel
        have GF := hid (G4.out.fr FR.out (fun x => x))
        have GG := hid (GV4.out.fr FR.out (fun x => x))
        have HGF := hid (HG4.out.fr FR.out)
        have q3 := GF.out.cell 3
        have g3 := GG.out.cell 3
        have hkb0 : ng ≤ 200000 := by have := HGN.out; omega
        by_cases hgk : k < ng
        · have hlk : k < (splitB x.blocks).length := by have := HNG.out; omega
          obtain ⟨e, he, e1, e2⟩ := split_new (bs := x.blocks) (i := k) (by have := eb.out; omega) hlk
          rw [eb.out] at e2
          have HB6 : tSb.els wr (· < qg) B2 (splitB x.blocks) := HGF.out.b
          obtain ⟨b, o, A0, c0, A1, c1, A2, c2, A3, c3, rfl, hb, y0, y1, y2, y3, y4, y5, y6, _, _, _, _, _, _, _, _, _, _, _, _, _, e3, _⟩ := Sb_at HB6 k hlk
          rw [he] at y0 y1 y2 y3 y4 y5 y6 e3
          replace y0 : wr.cell? ⟨b, o + k * 7, none⟩ = some (.slice A0 0 c0) := y0
          replace y1 : wr.cell? ⟨b, o + k * 7 + 1, none⟩ = some (.slice A1 0 c1) := y1
          replace y2 : wr.cell? ⟨b, o + k * 7 + 2, none⟩ = some (.int .i64 0) := y2
          replace y3 : wr.cell? ⟨b, o + k * 7 + 3, none⟩ = some (.int .i64 0) := y3
          replace y4 : wr.cell? ⟨b, o + k * 7 + 4, none⟩ = some (.slice A2 0 c2) := y4
          replace y5 : wr.cell? ⟨b, o + k * 7 + 5, none⟩ = some (.slice A3 1 c3) := y5
          replace y6 : wr.cell? ⟨b, o + k * 7 + 6, none⟩ = some (.int .i64 0) := y6
          replace e3 : tEd.els wr (· < qg) A3 [e] := e3
          obtain ⟨bb, oo, Aa, ca, rfl, hbe, z0, _⟩ := Ed_at e3 0 (by simp)
          replace z0 : wr.cell? ⟨bb, oo, none⟩ = some (.int .i64 e.to) := by simpa using z0
          have hbw : bb < wr.heap.size := Nat.lt_trans hbe GG.out.lt
          have FA := (Fr.refl No wr).alloc (.cells #[.slice A0 0 c0, .slice A1 0 c1, .int .i64 0, .int .i64 0, .slice A2 0 c2, .slice (some ⟨bb, oo, none⟩) 1 c3, .int .i64 0] 42)
          have GX := Blk.new wr 42 #[.slice A0 0 c0, .slice A1 0 c1, .int .i64 0, .int .i64 0, .slice A2 0 c2, .slice (some ⟨bb, oo, none⟩) 1 c3, .int .i64 0]
          have HX : Hid (∀ X, Fr No (wr.alloc (.cells #[.slice A0 0 c0, .slice A1 0 c1, .int .i64 0, .int .i64 0, .slice A2 0 c2, .slice (some ⟨bb, oo, none⟩) 1 c3, .int .i64 0] 42)) X → X.cell? ⟨wr.heap.size, 0, none⟩ = some (.slice A0 0 c0) ∧ X.cell? ⟨wr.heap.size, 1, none⟩ = some (.slice A1 0 c1) ∧ X.cell? ⟨wr.heap.size, 2, none⟩ = some (.int .i64 0) ∧ X.cell? ⟨wr.heap.size, 5, none⟩ = some (.slice (some ⟨bb, oo, none⟩) 1 c3) ∧ X.cell? ⟨bb, oo, none⟩ = some (.int .i64 e.to) ∧ X.cell? ⟨w.heap.size, 3, none⟩ = some (.slice B nb bc)) := hid fun X f => by
            have g := GX.fr f (fun x => x)
            have fa := FA.trans f (fun _ _ h => h)
            exact ⟨g.cell 0, g.cell 1, g.cell 2, g.cell 5, (fa.cell (p := ⟨bb, oo, none⟩) hbw (fun x => x)).trans z0, (GF.out.fr fa (fun x => x)).cell 3⟩
          have FX := hid (FR.out.trans FA (fun _ _ h => h))
          generalize e.to = et at *
          have kz1 : decide (et < 0) = false := decide_eq_false (by omega)
          have kz2 : decide (et < (nb : Int)) = true := decide_eq_true (by omega)
          have kz3 : decide ((nb : Int) ≤ et) = false := decide_eq_false (by omega)
          clear he e3 HB6 FA GX hbw z0
          go_wp2_with fail
          generalize wr.alloc (.cells #[.slice A0 0 c0, .slice A1 0 c1, .int .i64 0, .int .i64 0, .slice A2 0 c2, .slice (some ⟨bb, oo, none⟩) 1 c3, .int .i64 0] 42) = wy at *
          refine wp_region_ort (Fr No wy) (.rd 0 (.rd 1 (.rd 2 (.rd 3 (.rd 4 (.rd 5 (.rd 6 (.rd 7 (.rd 8 (.rd 9 (.rd 10 (.rd 11 (.rd 12 (.rd 13 (.rd 14 (.rd 15 (.rd 16 (.rd 17 (.rd 18 (.rd 19 (.rd 20 (.rd 21 (.rd 22 (.rd 23 (.rd 24 (.rd 25 (.rd 26 (.rd 27 (.rd 28 (.rd 29 (.rd 30 (.rd 31 (.rd 32 (.rd 33 (.rd 34 (.rd 35 (.rd 36 (.rd 37 (.rd 38 (.rd 39 (.rd 40 (.rd 41 .nil)))))))))))))))))))))))))))))))))))))))))) (by kernel_rfl) (by kernel_rfl) (by kernel_rfl) rfl (Fr.refl _ wy).drew ?_
          repeat (first
            | (refine wpT_skip rfl rfl ?_; simp only [List.getElem_toArray, List.getElem_cons_succ, List.getElem_cons_zero, Act.put, List.setIfInBounds_toArray, List.set_cons_zero, List.set_cons_succ])
            | (refine wpT_call rfl rfl ?_; simp only [List.getElem_toArray, List.getElem_cons_succ, List.getElem_cons_zero]; apply Exists.intro; refine ⟨fun X hX => ?_, ?_⟩
               · (obtain ⟨s0, s1, s2, s3, s4, s5⟩ := HX.out X hX; go_simp; exact stillUpon_value)
               simp only [Act.put, List.setIfInBounds_toArray, List.set_cons_zero, List.set_cons_succ]))
          refine wpT_nil ?_
          have FD := hid (FX.out.trans (Fr.refl No wy).drew (fun _ _ h => h))
          clear HX FX
          generalize wy.drew = wz at *
          have hkb : k ≤ 200000 := by have := HGN.out; omega
          go_wp2
          go_round
          case rel => exact ⟨k + 1, by omega, by omega, by go_num, FD⟩
          case measure => simp [intOf]; omega
        · have hkn : ng = k := by omega
          subst hkn
          clear hgk
          have FW := hid (F4.out.trans FR.out (fun _ _ h => h))
          have HFF := hid (HF4.out.fr FR.out)
          have HX : Hid (∀ X, Fr No wr X → X.cell? ⟨w.heap.size, 0, none⟩ = some (.slice P np pc) ∧ X.cell? ⟨w.heap.size, 1, none⟩ = some (.slice R nr rc) ∧ X.cell? ⟨w.heap.size, 2, none⟩ = some (.slice V nv vc) ∧ X.cell? ⟨w.heap.size, 3, none⟩ = some (.slice B nb bc) ∧ X.cell? ⟨qg, 0, none⟩ = some (.slice P2 np pc2) ∧ X.cell? ⟨qg, 1, none⟩ = some (.slice R2 nr rc2) ∧ X.cell? ⟨qg, 2, none⟩ = some (.slice V2 nv vc2) ∧ X.cell? ⟨qg, 3, none⟩ = some (.slice B2 ng bc2)) := hid fun X f => by
            have g := GF.out.fr f (fun x => x)
            have h := GG.out.fr f (fun x => x)
            exact ⟨g.cell 0, g.cell 1, g.cell 2, g.cell 3, h.cell 0, h.cell 1, h.cell 2, h.cell 3⟩
          go_wp2_with fail
          have FD := hid (Fr.refl No wr).drew
          refine wp_region_ort (Fr No wr) (.rd 0 (.eff 1 (.rd 2 (.rd 3 (.rd 5 (.eff 4 (.eff 6 (.rd 7 (.rd 8 (.eff 9 (.rd 10 (.rd 11 .nil)))))))))))) (by kernel_rfl) (by kernel_rfl) (by kernel_rfl) rfl FD.out ?_
          generalize wr.drew = wd at *
          repeat (first
            | (refine wpT_skip rfl rfl ?_; simp only [List.getElem_toArray, List.getElem_cons_succ, List.getElem_cons_zero, Act.put, List.setIfInBounds_toArray, List.set_cons_zero, List.set_cons_succ])
            | (refine wpT_call rfl rfl ?_; simp only [List.getElem_toArray, List.getElem_cons_succ, List.getElem_cons_zero]; apply Exists.intro; refine ⟨fun X hX => ?_, ?_⟩
               · (obtain ⟨s0, s1, s2, s3, s4, s5, s6, s7⟩ := HX.out X hX; go_simp; exact stillUpon_value)
               simp only [Act.put, List.setIfInBounds_toArray, List.set_cons_zero, List.set_cons_succ]))
          refine wpT_eff rfl rfl (fun K hK => ?_)
          simp only [List.getElem_toArray, List.getElem_cons_succ, List.getElem_cons_zero]
          go_simp
          have HFd := hid (HFF.out.fr FD.out)
          refine (beyond_any P R V B np nr nv nb pc rc vc bc x.blocks (· < w.heap.size) wd HFd.out.b HFd.out.lt eb hnb HTT.out).mono ?_
          rintro e w6 ⟨⟨v, rfl, hv⟩, f⟩
          have HG6 := hid ((HGF.out.fr FD.out).fr f)
          have F6 := hid (FD.out.trans f (fun _ _ h => h))
          have HV := hid hv
          clear f hv HFd FD
          refine hK _ _ (F6.out) ?_
          clear hK K
          cases v with
          | true =>
            repeat (first
              | (refine wpT_skip rfl rfl ?_; simp only [List.getElem_toArray, List.getElem_cons_succ, List.getElem_cons_zero, Act.put, List.setIfInBounds_toArray, List.set_cons_zero, List.set_cons_succ])
              | (refine wpT_call rfl rfl ?_; simp only [List.getElem_toArray, List.getElem_cons_succ, List.getElem_cons_zero]; apply Exists.intro; refine ⟨fun X hX => ?_, ?_⟩
                 · (obtain ⟨s0, s1, s2, s3, s4, s5, s6, s7⟩ := HX.out X hX; go_simp; exact stillUpon_value)
                 simp only [Act.put, List.setIfInBounds_toArray, List.set_cons_zero, List.set_cons_succ]))
            refine wpT_skipE rfl rfl F6.out ?_
            simp only [List.getElem_toArray, List.getElem_cons_succ, List.getElem_cons_zero, Act.put, List.setIfInBounds_toArray, List.set_cons_zero, List.set_cons_succ]
            repeat (first
              | (refine wpT_skip rfl rfl ?_; simp only [List.getElem_toArray, List.getElem_cons_succ, List.getElem_cons_zero, Act.put, List.setIfInBounds_toArray, List.set_cons_zero, List.set_cons_succ])
              | (refine wpT_call rfl rfl ?_; simp only [List.getElem_toArray, List.getElem_cons_succ, List.getElem_cons_zero]; apply Exists.intro; refine ⟨fun X hX => ?_, ?_⟩
                 · (obtain ⟨s0, s1, s2, s3, s4, s5, s6, s7⟩ := HX.out X hX; go_simp; exact stillUpon_value)
                 simp only [Act.put, List.setIfInBounds_toArray, List.set_cons_zero, List.set_cons_succ]))
            refine wpT_skipE rfl rfl F6.out ?_
            simp only [List.getElem_toArray, List.getElem_cons_succ, List.getElem_cons_zero, Act.put, List.setIfInBounds_toArray, List.set_cons_zero, List.set_cons_succ]
            repeat (first
              | (refine wpT_skip rfl rfl ?_; simp only [List.getElem_toArray, List.getElem_cons_succ, List.getElem_cons_zero, Act.put, List.setIfInBounds_toArray, List.set_cons_zero, List.set_cons_succ])
              | (refine wpT_call rfl rfl ?_; simp only [List.getElem_toArray, List.getElem_cons_succ, List.getElem_cons_zero]; apply Exists.intro; refine ⟨fun X hX => ?_, ?_⟩
                 · (obtain ⟨s0, s1, s2, s3, s4, s5, s6, s7⟩ := HX.out X hX; go_simp; exact stillUpon_value)
                 simp only [Act.put, List.setIfInBounds_toArray, List.set_cons_zero, List.set_cons_succ]))
            refine wpT_eff rfl rfl (fun K hK => ?_)
            simp only [List.getElem_toArray, List.getElem_cons_succ, List.getElem_cons_zero]
            go_simp
            refine (alive_any _).mono ?_
            rintro e w8 ⟨rfl, f⟩
            have F8 := hid (F6.out.trans f (fun _ _ h => h))
            clear f
            refine hK _ _ (F8.out) ?_
            clear hK K
            repeat (first
              | (refine wpT_skip rfl rfl ?_; simp only [List.getElem_toArray, List.getElem_cons_succ, List.getElem_cons_zero, Act.put, List.setIfInBounds_toArray, List.set_cons_zero, List.set_cons_succ])
              | (refine wpT_call rfl rfl ?_; simp only [List.getElem_toArray, List.getElem_cons_succ, List.getElem_cons_zero]; apply Exists.intro; refine ⟨fun X hX => ?_, ?_⟩
                 · (obtain ⟨s0, s1, s2, s3, s4, s5, s6, s7⟩ := HX.out X hX; go_simp; exact stillUpon_value)
                 simp only [Act.put, List.setIfInBounds_toArray, List.set_cons_zero, List.set_cons_succ]))
            refine wpT_nil ?_
            have F9 := hid (FW.out.trans F8.out (fun _ _ h => h))
            clear F6 F8 HX
            go_wp2
            go_ret
            exact ⟨rfl, F9.out⟩
          | false =>
            have hid2 : splitF (splitF x) = splitF x := by
              have h := HV.out rfl
              rw [← eb.out] at h
              show (⟨x.type, x.vals, splitB (splitB x.blocks)⟩ : Sf) = ⟨x.type, x.vals, splitB x.blocks⟩
              rw [splitB_id h]
            have HG2 : Hid ((splitB (splitF x).blocks).length = ng) := hid (by
              have h := congrArg (fun y => y.blocks.length) hid2
              exact h.trans HNG.out)
            have HI2 := hid hid2
            clear hid2
            repeat (first
              | (refine wpT_skip rfl rfl ?_; simp only [List.getElem_toArray, List.getElem_cons_succ, List.getElem_cons_zero, Act.put, List.setIfInBounds_toArray, List.set_cons_zero, List.set_cons_succ])
              | (refine wpT_call rfl rfl ?_; simp only [List.getElem_toArray, List.getElem_cons_succ, List.getElem_cons_zero]; apply Exists.intro; refine ⟨fun X hX => ?_, ?_⟩
                 · (obtain ⟨s0, s1, s2, s3, s4, s5, s6, s7⟩ := HX.out X hX; go_simp; exact stillUpon_value)
                 simp only [Act.put, List.setIfInBounds_toArray, List.set_cons_zero, List.set_cons_succ]))
            refine wpT_eff rfl rfl (fun K hK => ?_)
            simp only [List.getElem_toArray, List.getElem_cons_succ, List.getElem_cons_zero]
            go_simp
            refine (func_in P2 R2 V2 B2 np nr nv ng ng pc2 rc2 vc2 bc2 (splitF x) (· < qg) w6 HG6.out ep er ev HNG HG2 hl2).mono ?_
            rw [HI2.out]
            rintro e w7 ⟨P7, R7, V7, B7, pc7, rc7, vc7, bc7, rfl, h7, f⟩
            have H7 := hid h7
            have HG7 := hid (HG6.out.fr f)
            have F7 := hid (F6.out.trans f (fun _ _ h => h))
            clear f h7 HG6 F6
            refine hK _ _ (F7.out) ?_
            clear hK K
            repeat (first
              | (refine wpT_skip rfl rfl ?_; simp only [List.getElem_toArray, List.getElem_cons_succ, List.getElem_cons_zero, Act.put, List.setIfInBounds_toArray, List.set_cons_zero, List.set_cons_succ])
              | (refine wpT_call rfl rfl ?_; simp only [List.getElem_toArray, List.getElem_cons_succ, List.getElem_cons_zero]; apply Exists.intro; refine ⟨fun X hX => ?_, ?_⟩
                 · (obtain ⟨s0, s1, s2, s3, s4, s5, s6, s7⟩ := HX.out X hX; go_simp; exact stillUpon_value)
                 simp only [Act.put, List.setIfInBounds_toArray, List.set_cons_zero, List.set_cons_succ]))
            refine wpT_eff rfl rfl (fun K hK => ?_)
            simp only [List.getElem_toArray, List.getElem_cons_succ, List.getElem_cons_zero]
            go_simp
            refine (same_any P7 R7 V7 B7 P2 R2 V2 B2 np nr nv ng pc7 rc7 vc7 bc7 pc2 rc2 vc2 bc2 (splitF x) (· < w7.heap.size) (· < qg) w7 H7.out HG7.out ep er ev HNG hl2).mono ?_
            rintro e w8 ⟨rfl, f⟩
            have F8 := hid (F7.out.trans f (fun _ _ h => h))
            clear f F7 H7 HG7
            refine hK _ _ (F8.out) ?_
            clear hK K
            repeat (first
              | (refine wpT_skip rfl rfl ?_; simp only [List.getElem_toArray, List.getElem_cons_succ, List.getElem_cons_zero, Act.put, List.setIfInBounds_toArray, List.set_cons_zero, List.set_cons_succ])
              | (refine wpT_call rfl rfl ?_; simp only [List.getElem_toArray, List.getElem_cons_succ, List.getElem_cons_zero]; apply Exists.intro; refine ⟨fun X hX => ?_, ?_⟩
                 · (obtain ⟨s0, s1, s2, s3, s4, s5, s6, s7⟩ := HX.out X hX; go_simp; exact stillUpon_value)
                 simp only [Act.put, List.setIfInBounds_toArray, List.set_cons_zero, List.set_cons_succ]))
            refine wpT_eff rfl rfl (fun K hK => ?_)
            simp only [List.getElem_toArray, List.getElem_cons_succ, List.getElem_cons_zero]
            go_simp
            refine (alive_any _).mono ?_
            rintro e w9 ⟨rfl, f⟩
            have F9 := hid (F8.out.trans f (fun _ _ h => h))
            clear f
            refine hK _ _ (F9.out) ?_
            clear hK K
            repeat (first
              | (refine wpT_skip rfl rfl ?_; simp only [List.getElem_toArray, List.getElem_cons_succ, List.getElem_cons_zero, Act.put, List.setIfInBounds_toArray, List.set_cons_zero, List.set_cons_succ])
              | (refine wpT_call rfl rfl ?_; simp only [List.getElem_toArray, List.getElem_cons_succ, List.getElem_cons_zero]; apply Exists.intro; refine ⟨fun X hX => ?_, ?_⟩
                 · (obtain ⟨s0, s1, s2, s3, s4, s5, s6, s7⟩ := HX.out X hX; go_simp; exact stillUpon_value)
                 simp only [Act.put, List.setIfInBounds_toArray, List.set_cons_zero, List.set_cons_succ]))
            refine wpT_nil ?_
            have FZ := hid (FW.out.trans F9.out (fun _ _ h => h))
            clear F8 F9 HX
            go_wp2
            go_ret
            exact ⟨rfl, FZ.out⟩
theorem splitOnce_walk (w : World) (v0 : Value) (x0 : Sf) (y0 : tSf.rd w (· < w.heap.size) v0.cells.toList x0) (u0 : tSf.lw 140737488351232 x0) (hv0 : ∃ cs, v0 = .agg cs) :
    Calls Try.prog 4 #[v0] w fun e w' => e = .returned (.bool true) ∧ Below w.heap.size w w' :=
  form_walk y0 hv0 fun P R V B pc rc vc bc e h1 h2 h3 h4 => by
    subst e
    exact (once_t P R V B _ _ _ _ pc rc vc bc x0 w ⟨h1, h2, h3, h4, fun _ h => h⟩ rfl rfl rfl rfl u0).mono fun e w' ⟨a, b⟩ => ⟨a, b.below⟩
end Go.Proofs.Ytiafkakkbbclhaa
