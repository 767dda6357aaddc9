/- The walk of TablesRun. -/
import Derived.Test.YtndhbamfgihncaaTabRi
namespace Go.Proofs.Ytndhbamfgihncaa
open Go.RowKit

set_option maxHeartbeats 3200000 in
set_option maxRecDepth 100000 in
theorem run_tt (ep mnp mxp eq mnq mxq : Int) (hp hq : Bool) (l : List Act_) (LA : Option Addr) (n lc : Nat) (w : World) (HN : Hid (l.length = n)) (hn : n ≤ 40) (HE : Hid (tAct.els w w.heap.size LA l)) (HL60 : Hid (∀ a ∈ l, a.l.length ≤ 60)) (hfew : Hid (fewB l = true))
    (okp : Hid (tabB ep mnp mxp hp = true)) (okq : Hid (tabB eq mnq mxq hq = true)) :
    Calls Try.prog 6 #[.agg #[.int .i64 ep, .int .i64 mnp, .int .i64 mxp, .bool hp], .agg #[.int .i64 eq, .int .i64 mnq, .int .i64 mxq, .bool hq], .slice LA n lc] w fun e w' => e = .returned (.bool true) ∧ Fr No w w' := by
  have B1 := hid ((Blk.new w 37 #[.int .i64 ep, .int .i64 mnp, .int .i64 mxp, .bool hp]).alloc (.cells #[.int .i64 eq, .int .i64 mnq, .int .i64 mxq, .bool hq] 37))
  have B2 := hid (Blk.new1 w (.cells #[.int .i64 ep, .int .i64 mnp, .int .i64 mxp, .bool hp] 37) 37 #[.int .i64 eq, .int .i64 mnq, .int .i64 mxq, .bool hq])
  have F0 := hid (((Fr.refl No w).alloc (.cells #[.int .i64 ep, .int .i64 mnp, .int .i64 mxp, .bool hp] 37)).alloc (.cells #[.int .i64 eq, .int .i64 mnq, .int .i64 mxq, .bool hq] 37))
  go_enter Try.func6, Try.ntmps6
  go_wp2_with fail
  generalize (w.alloc (.cells #[.int .i64 ep, .int .i64 mnp, .int .i64 mxp, .bool hp] 37)).alloc (.cells #[.int .i64 eq, .int .i64 mnq, .int .i64 mxq, .bool hq] 37) = W at *
  have hW : w.heap.size + 1 < W.heap.size := B2.out.lt
  have HF := few_any LA l lc w.heap.size W (HE.out.fr (Nat.le_refl _) F0.out (fun _ _ x => x)) (by rw [HN.out]; omega)
  rw [HN.out, hfew.out] at HF
  refine HF.mono ?_
  rintro e0 w0 ⟨rfl, rfl⟩
  clear HF
  obtain ⟨s0, s1, s2, s3, s4, s5, s6, s7⟩ := E8.mk B1.out B2.out
  go_wp2_with fail
  refine wp_region_ord (E8 w ep mnp mxp eq mnq mxq hp hq) [] [(0, true), (2, true), (1, false), (3, false), (4, true), (5, true)] (by kernel_rfl) (by kernel_rfl) (by kernel_rfl) rfl (E8.mk B1.out B2.out) ?_
  clear s0 s1 s2 s3 s4 s5 s6 s7
  repeat (first
    | (refine wpO_skip rfl rfl ?_; simp only [List.getElem_toArray, List.getElem_cons_succ, List.getElem_cons_zero, Act.put, List.setIfInBounds_toArray, List.set_cons_zero, List.set_cons_succ])
    | (refine wpO_call rfl rfl ?_; simp only [List.getElem_toArray, List.getElem_cons_succ, List.getElem_cons_zero]; apply Exists.intro; refine ⟨fun X hX => ?_, ?_⟩
       · (obtain ⟨s0, s1, s2, s3, s4, s5, s6, s7⟩ := hX; go_simp; exact stillUpon_value)
       simp only [Act.put, List.setIfInBounds_toArray, List.set_cons_zero, List.set_cons_succ]))
  refine wpO_eff rfl rfl (fun K hK => ?_)
  simp only [List.getElem_toArray, List.getElem_cons_succ, List.getElem_cons_zero]
  go_simp
  refine (new_yes _ _ _ _ _ okp.out).mono ?_
  rintro e1 w1 ⟨p1, q1, rfl, t1, hp1, hq1, f1⟩
  have T1 := hid t1
  have F1 := hid f1
  have hp1' : W.heap.size ≤ p1 := hp1
  have hq1' : W.heap.size ≤ q1 := hq1
  clear t1 f1 hp1 hq1
  have B1' := hid (B1.out.drew.fr F1.out (fun x => x))
  have B2' := hid (B2.out.drew.fr F1.out (fun x => x))
  refine hK _ _ (fun _ => E8.mk B1'.out B2'.out) ?_
  clear hK K
  refine wpO_eff rfl rfl (fun K hK => ?_)
  simp only [List.getElem_toArray, List.getElem_cons_succ, List.getElem_cons_zero]
  go_simp
  refine (new_yes _ _ _ _ _ okq.out).mono ?_
  rintro e2 w2 ⟨p2, q2, rfl, u2, hp2, hq2, f2⟩
  have U2 := hid u2
  have T2 := hid (T1.out.fr f2 (fun x => x) (fun x => x))
  have F2 := hid f2
  have lp := T1.out.blk.lt
  have lq := T1.out.own.lt
  have B1'' := hid (B1'.out.fr f2 (fun x => x))
  have B2'' := hid (B2'.out.fr f2 (fun x => x))
  clear u2 f2
  refine hK _ _ (fun _ => E8.mk B1''.out B2''.out) ?_
  clear hK K
  repeat (first
    | (refine wpO_skip rfl rfl ?_; simp only [List.getElem_toArray, List.getElem_cons_succ, List.getElem_cons_zero, Act.put, List.setIfInBounds_toArray, List.set_cons_zero, List.set_cons_succ])
    | (refine wpO_call rfl rfl ?_; simp only [List.getElem_toArray, List.getElem_cons_succ, List.getElem_cons_zero]; apply Exists.intro; refine ⟨fun X hX => ?_, ?_⟩
       · (obtain ⟨s0, s1, s2, s3, s4, s5, s6, s7⟩ := hX; go_simp; exact stillUpon_value)
       simp only [Act.put, List.setIfInBounds_toArray, List.set_cons_zero, List.set_cons_succ]))
  refine wpO_nil ?_
  obtain ⟨s0, s1, s2, s3, s4, s5, s6, s7⟩ := E8.mk B1''.out B2''.out
  have FW := hid (((Fr.refl No W).drew.trans F1.out (fun _ _ h => h)).trans F2.out (fun _ _ h => h))
  clear B1' B2' F1 F2 T1
  go_wp2_with fail
  refine (rnew_yes ep mnp mxp hp _ (B0 := 0) okp.out).mono ?_
  rintro e3 w3 ⟨A3, c3, rfl, hc3, r3, f3, hA3⟩
  have NQ := hid (rnew_yes eq mnq mxq hq (w3.alloc (.cells #[.int .i64 ep, .int .i64 mnp, .int .i64 mxp, .bool hp, .slice A3 (List.replicate mnp.toNat (0 : Int)).length c3] 51)) (B0 := 0) okq.out)
  have EN1 : (List.replicate mnp.toNat (0 : Int)).length ≤ 1024 := T2.out.len
  have EN2 : (List.replicate mnq.toNat (0 : Int)).length ≤ 1024 := U2.out.len
  generalize mnp.toNat = cp at *
  generalize mnq.toNat = cq at *
  generalize List.replicate cp (0 : Int) = xs at *
  generalize List.replicate cq (0 : Int) = ys at *
  have T3 := hid ((T2.out.fr f3 (fun x => x) (fun x => x)).fr ((Fr.refl No w3).alloc (.cells #[.int .i64 ep, .int .i64 mnp, .int .i64 mxp, .bool hp, .slice A3 xs.length c3] 51)) (fun x => x) (fun x => x))
  have U3 := hid ((U2.out.fr f3 (fun x => x) (fun x => x)).fr ((Fr.refl No w3).alloc (.cells #[.int .i64 ep, .int .i64 mnp, .int .i64 mxp, .bool hp, .slice A3 xs.length c3] 51)) (fun x => x) (fun x => x))
  have D3 := hid ((B1''.out.fr f3 (fun x => x)).alloc (.cells #[.int .i64 ep, .int .i64 mnp, .int .i64 mxp, .bool hp, .slice A3 xs.length c3] 51))
  have D4 := hid ((B2''.out.fr f3 (fun x => x)).alloc (.cells #[.int .i64 ep, .int .i64 mnp, .int .i64 mxp, .bool hp, .slice A3 xs.length c3] 51))
  have GA := hid (Blk.new w3 51 #[.int .i64 ep, .int .i64 mnp, .int .i64 mxp, .bool hp, .slice A3 xs.length c3])
  have F3 := hid ((FW.out.trans f3 (fun _ _ h => h)).alloc (.cells #[.int .i64 ep, .int .i64 mnp, .int .i64 mxp, .bool hp, .slice A3 xs.length c3] 51))
  have R3 := hid ((r3.frNo ((Fr.refl No w3).alloc (.cells #[.int .i64 ep, .int .i64 mnp, .int .i64 mxp, .bool hp, .slice A3 xs.length c3] 51))))
  have HA3 := hid hA3
  have sz3 := f3.size
  have sz2 := FW.out.size
  have lp2 := U2.out.blk.lt
  have lq2 := U2.out.own.lt
  clear r3 hA3 s0 s1 s2 s3 s4 s5 s6 s7 B1'' B2'' T2 U2 FW f3
  obtain ⟨s0, s1, s2, s3, s4, s5, s6, s7⟩ := E8.mk D3.out D4.out
  go_wp2_with fail
  generalize w3.alloc (.cells #[.int .i64 ep, .int .i64 mnp, .int .i64 mxp, .bool hp, .slice A3 xs.length c3] 51) = W3 at *
  have sg : w3.heap.size < W3.heap.size := GA.out.lt
  refine NQ.out.mono ?_
  rintro e4 w4 ⟨A4, c4, rfl, hc4, r4, f4, hA4⟩
  have T4 := hid ((T3.out.fr f4 (fun x => x) (fun x => x)).fr ((Fr.refl No w4).alloc (.cells #[.int .i64 eq, .int .i64 mnq, .int .i64 mxq, .bool hq, .slice A4 ys.length c4] 51)) (fun x => x) (fun x => x))
  have U4 := hid ((U3.out.fr f4 (fun x => x) (fun x => x)).fr ((Fr.refl No w4).alloc (.cells #[.int .i64 eq, .int .i64 mnq, .int .i64 mxq, .bool hq, .slice A4 ys.length c4] 51)) (fun x => x) (fun x => x))
  have D5 := hid ((D3.out.fr f4 (fun x => x)).alloc (.cells #[.int .i64 eq, .int .i64 mnq, .int .i64 mxq, .bool hq, .slice A4 ys.length c4] 51))
  have D6 := hid ((D4.out.fr f4 (fun x => x)).alloc (.cells #[.int .i64 eq, .int .i64 mnq, .int .i64 mxq, .bool hq, .slice A4 ys.length c4] 51))
  have GA4 := hid ((GA.out.fr f4 (fun x => x)).alloc (.cells #[.int .i64 eq, .int .i64 mnq, .int .i64 mxq, .bool hq, .slice A4 ys.length c4] 51))
  have GB4 := hid (Blk.new w4 51 #[.int .i64 eq, .int .i64 mnq, .int .i64 mxq, .bool hq, .slice A4 ys.length c4])
  have F4 := hid ((F3.out.trans f4 (fun _ _ h => h)).alloc (.cells #[.int .i64 eq, .int .i64 mnq, .int .i64 mxq, .bool hq, .slice A4 ys.length c4] 51))
  have R4 := hid ((r4.frNo ((Fr.refl No w4).alloc (.cells #[.int .i64 eq, .int .i64 mnq, .int .i64 mxq, .bool hq, .slice A4 ys.length c4] 51))))
  have R3' := hid ((R3.out.frNo f4).frNo ((Fr.refl No w4).alloc (.cells #[.int .i64 eq, .int .i64 mnq, .int .i64 mxq, .bool hq, .slice A4 ys.length c4] 51)))
  have HA4 := hid hA4
  have sz4 := f4.size
  clear r4 hA4 s0 s1 s2 s3 s4 s5 s6 s7 D3 D4 T3 U3 GA F3 R3 f4 NQ
  go_wp2_with fail
  generalize w4.alloc (.cells #[.int .i64 eq, .int .i64 mnq, .int .i64 mxq, .bool hq, .slice A4 ys.length c4] 51) = W4 at *
  have sg4 : w4.heap.size < W4.heap.size := GB4.out.lt
  have TW : Hid (Two_ W p1 p2 w3.heap.size w4.heap.size ep mnp mxp eq mnq mxq hp hq xs ys q1 cp q2 cq A3 A4 c3 c4 W4) := by
    refine ⟨T4.out, U4.out, GA4.out, GB4.out, hc3, hc4, R3'.out.more (by omega), R4.out.more (by omega), ?_, ?_, by omega, by omega, by omega, by omega, by omega, by omega, by omega, by omega, by omega, F4.out, ?_, ?_⟩
    · intro b o hb hS
      rcases HA3.out with ⟨h1, _⟩ | ⟨q, h1, h2, h3⟩
      · rw [h1] at hb; cases hb
      · rw [h1] at hb; cases hb; rcases hS with h | h | h | h | h | h <;> omega
    · intro b o hb hS
      rcases HA4.out with ⟨h1, _⟩ | ⟨q, h1, h2, h3⟩
      · rw [h1] at hb; cases hb
      · rw [h1] at hb; cases hb; rcases hS with h | h | h | h | h | h <;> omega
    · intro b o hb
      rcases HA3.out with ⟨h1, _⟩ | ⟨q, h1, h2, h3⟩
      · rw [h1] at hb; cases hb
      · rw [h1] at hb; cases hb; omega
    · intro b o hb
      rcases HA4.out with ⟨h1, _⟩ | ⟨q, h1, h2, h3⟩
      · rw [h1] at hb; cases hb
      · rw [h1] at hb; cases hb; omega
  clear D5 D6 GA4 GB4 T4 U4 R4 R3' HA3 HA4 F4 hc3 hc4
  go_loopw [13] (RunRel W p1 p2 w3.heap.size w4.heap.size ep mnp mxp eq mnq mxq hp hq n) (fun i _ => n - (intOf i).toNat)
  case atStart => exact ⟨0, xs, ys, q1, cp, q2, cq, A3, A4, c3, c4, rfl, by omega, TW.out⟩
  case round =>
    obtain ⟨k, Xs, Ys, Q1, C1, Q2, C2, A, D, ca, cd, rfl, hk, hT⟩ := hrel
    have HT := hid hT
    clear hT TW
    by_cases hlt : k < n
    · have hlt' : Hid (k < l.length) := by rw [Hid, HN.out]; exact hlt
      obtain ⟨b, o, La, lca, rfl, hb, e0, e1, e2, e3, e4, e5, e6, e7, e8, e9, j0, j1, j2, j3, j4⟩ := act_at (HE.out.fr (Nat.le_refl _) (F0.out.trans HT.out.f (fun _ _ h => h)) (fun _ _ x => x)) k hlt'.out
      have j5 := HL60.out _ (List.getElem_mem hlt'.out)
      generalize l[k]'(hlt'.out) = act at *
      obtain ⟨kind, oth, to_, at_, nn, ref, ls⟩ := act
      simp only at e0 e1 e2 e3 e4 e5 e6 e7 e8 e9 j0 j1 j2 j3 j4 j5
      have i0 : (0 : Int) ≤ k := by omega
      have i1 : (k : Int) < n := by omega
      have g0 := hid e0
      have g1 := hid e1
      have g2 := hid e2
      have g3 := hid e3
      have g4 := hid e4
      have g5 := hid e5
      have g6 := hid e6
      have RL := hid e9
      have J1 := hid j1
      have J2 := hid j2
      have J3 := hid j3
      clear e0 e2 e3 e4 e5 e6 e9 j1 j2 j3 j4 e8
      go_upto_if 63 with (fail)
      go_cut [15] (fun _ wx => ∃ (xs ys : List Int) (q1 c1 q2 c2 : Nat) (A D : Option Addr) (ca cd : Nat), Two_ W p1 p2 w3.heap.size w4.heap.size ep mnp mxp eq mnq mxq hp hq xs ys q1 c1 q2 c2 A D ca cd wx)
      case first =>
        have HS := hid HT.out.symm
        cases oth
        · go_wp2_with fail
          have CL := hid (HT.out.cells (Nat.lt_of_lt_of_le hb F0.out.size) g0.out g1.out g2.out g3.out g4.out g5.out g6.out (P := p1) (Q := Q1) (.inl rfl) (.inl rfl))
          have hga := HT.out.ba.lt
          have DT := hid (fun (X : World) (hX : Fr No wr X) => (HT.out.drew hX).does La ls lca w.heap.size kind to_ at_ nn ref false (RL.out.frNo hX) F0.out.size e7 j5 j0 J1.out J2.out J3.out)
          refine wp_region_ort (Fr (Two p1 Q1) wr) (.rd 0 (.rd 1 (.rd 2 (.rd 3 (.rd 4 (.rd 5 (.rd 6 (.rd 7 (.alt 8 (.rd 9 (.rd 10 (.rd 11 (.eff 12 (.eff 13 (.rd 14 .nil)))))) 12 (.eff 8 (.rd 9 (.rd 10 (.rd 11 (.eff 13 (.rd 14 .nil))))))))))))))) (by kernel_rfl) (by kernel_rfl) (by kernel_rfl) rfl ((Fr.refl _ wr).drew) ?_
          repeat (first
            | (refine wpT_skip rfl rfl ?_; simp only [List.getElem_toArray, List.getElem_cons_succ, List.getElem_cons_zero, Act.put, List.setIfInBounds_toArray, List.set_cons_zero, List.set_cons_succ])
            | (refine wpT_call rfl rfl ?_; simp only [List.getElem_toArray, List.getElem_cons_succ, List.getElem_cons_zero]; apply Exists.intro; refine ⟨fun X hX => ?_, ?_⟩
               · (obtain ⟨s0, s1, s2, s3, s4, s5, s6, s7, s8, s9, s10, s11, s12, s13, s14, s15, s16⟩ := CL.out X hX; go_simp; exact stillUpon_value)
               simp only [Act.put, List.setIfInBounds_toArray, List.set_cons_zero, List.set_cons_succ]))
          refine wpT_alt ?_ ?_
          · skip
            refine wpT_eff rfl rfl (fun K hK => ?_)
            simp only [List.getElem_toArray, List.getElem_cons_succ, List.getElem_cons_zero]
            go_simp
            refine (DT.out _ ((Fr.refl No wr).drew)).mono ?_
            rintro e9 w5 ⟨zs, A', cA, q', c', rfl, hcA, rA, tA, hq', fA, hA'⟩
            have FA : Hid (Fr (Two p1 Q1) wr w5) := (Fr.refl _ wr).drew.trans fA (fun _ _ h => h)
            have NX := (HT.out.drew ((Fr.refl No wr).drew)).next hcA rA tA hq' fA hA' ((Fr.refl No w5).alloc (.cells #[.int .i64 ep, .int .i64 mnp, .int .i64 mxp, .bool hp, .slice A' zs.length cA] 51)) (fun _ x => x.elim) (fun _ _ _ x => x) (fun _ _ _ x => x)
            have NX := hid NX
            have GX := hid ((HT.out.ba.fr FA.out (fun x => (HT.out.ne.2.2.1.elim (by rcases x with x | x; exact x.symm; exact (HT.out.ne.2.2.2.2.2.2.2.2.1 x.symm).elim)))).alloc (.cells #[.int .i64 ep, .int .i64 mnp, .int .i64 mxp, .bool hp, .slice A' zs.length cA] 51))
            have hg5 := FA.out.size
            clear rA tA hq' fA hA' hcA
            refine hK _ _ (FA.out) ?_
            clear hK K
            repeat (first
              | (refine wpT_skip rfl rfl ?_; simp only [List.getElem_toArray, List.getElem_cons_succ, List.getElem_cons_zero, Act.put, List.setIfInBounds_toArray, List.set_cons_zero, List.set_cons_succ])
              | (refine wpT_call rfl rfl ?_; simp only [List.getElem_toArray, List.getElem_cons_succ, List.getElem_cons_zero]; apply Exists.intro; refine ⟨fun X hX => ?_, ?_⟩
                 · (obtain ⟨s0, s1, s2, s3, s4, s5, s6, s7, s8, s9, s10, s11, s12, s13, s14, s15, s16⟩ := CL.out X hX; go_simp; exact stillUpon_value)
                 simp only [Act.put, List.setIfInBounds_toArray, List.set_cons_zero, List.set_cons_succ]))
            refine wpT_eff rfl rfl (fun K hK => ?_)
            simp only [List.getElem_toArray, List.getElem_cons_succ, List.getElem_cons_zero]
            go_simp
            refine hK _ _ (FA.out.alloc _) ?_
            clear hK K
            refine wpT_eff rfl rfl (fun K hK => ?_)
            simp only [List.getElem_toArray, List.getElem_cons_succ, List.getElem_cons_zero]
            go_simp
            refine hK _ _ (FA.out.alloc _) ?_
            clear hK K
            repeat (first
              | (refine wpT_skip rfl rfl ?_; simp only [List.getElem_toArray, List.getElem_cons_succ, List.getElem_cons_zero, Act.put, List.setIfInBounds_toArray, List.set_cons_zero, List.set_cons_succ])
              | (refine wpT_call rfl rfl ?_; simp only [List.getElem_toArray, List.getElem_cons_succ, List.getElem_cons_zero]; apply Exists.intro; refine ⟨fun X hX => ?_, ?_⟩
                 · (obtain ⟨s0, s1, s2, s3, s4, s5, s6, s7, s8, s9, s10, s11, s12, s13, s14, s15, s16⟩ := CL.out X hX; go_simp; exact stillUpon_value)
                 simp only [Act.put, List.setIfInBounds_toArray, List.set_cons_zero, List.set_cons_succ]))
            refine wpT_nil ?_
            obtain ⟨y0, y1, y2, y3, y4⟩ := five GX.out
            obtain ⟨z0, z1, z2, z3, z4⟩ := fz GX.out
            go_wp2_with fail
            go_meet
            case rel => exact ⟨zs, Ys, q', c', Q2, C2, A', D, cA, cd, NX.out⟩
          · skip
            refine wpT_eff rfl rfl (fun K hK => ?_)
            simp only [List.getElem_toArray, List.getElem_cons_succ, List.getElem_cons_zero]
            go_simp
            refine hK _ _ (((Fr.refl _ wr).alloc _).drew) ?_
            clear hK K
            refine wpT_eff rfl rfl (fun K hK => ?_)
            simp only [List.getElem_toArray, List.getElem_cons_succ, List.getElem_cons_zero]
            go_simp
            refine (DT.out _ (((Fr.refl No wr).alloc (.cells #[.int .i64 0, .int .i64 0, .int .i64 0, .bool false, .slice none 0 0] 51)).drew)).mono ?_
            rintro e9 w5 ⟨zs, A', cA, q', c', rfl, hcA, rA, tA, hq', fA, hA'⟩
            have FA : Hid (Fr (Two p1 Q1) wr w5) := (((Fr.refl _ wr).alloc _).drew).trans fA (fun _ _ h => h)
            have NX := hid (HT.out.next2 (.cells #[.int .i64 0, .int .i64 0, .int .i64 0, .bool false, .slice none 0 0] 51) (.int .i64 ep) (.int .i64 mnp) (.int .i64 mxp) (.bool hp) (.slice A' zs.length cA) hcA rA tA hq' fA hA')
            have hp1 := HT.out.t.blk.lt
            have hq1 := HT.out.t.own.lt
            have BZ := hid (((Blk.new wr 51 #[.int .i64 0, .int .i64 0, .int .i64 0, .bool false, .slice none 0 0]).drew).fr fA (fun x => by rcases x with x | x <;> omega))
            have GZ := HT.out.ba.fr FA.out (fun x => (HT.out.ne.2.2.1.elim (by rcases x with x | x; exact x.symm; exact (HT.out.ne.2.2.2.2.2.2.2.2.1 x.symm).elim)))
            have GX := hid GZ
            clear rA tA hq' fA hA' hcA hp1 hq1 GZ
            have ne1 : wr.heap.size ≠ w3.heap.size := by omega
            have ne2 : w3.heap.size ≠ wr.heap.size := by omega
            refine hK _ _ (FA.out) ?_
            clear hK K
            repeat (first
              | (refine wpT_skip rfl rfl ?_; simp only [List.getElem_toArray, List.getElem_cons_succ, List.getElem_cons_zero, Act.put, List.setIfInBounds_toArray, List.set_cons_zero, List.set_cons_succ])
              | (refine wpT_call rfl rfl ?_; simp only [List.getElem_toArray, List.getElem_cons_succ, List.getElem_cons_zero]; apply Exists.intro; refine ⟨fun X hX => ?_, ?_⟩
                 · (obtain ⟨s0, s1, s2, s3, s4, s5, s6, s7, s8, s9, s10, s11, s12, s13, s14, s15, s16⟩ := CL.out X hX; go_simp; exact stillUpon_value)
                 simp only [Act.put, List.setIfInBounds_toArray, List.set_cons_zero, List.set_cons_succ]))
            obtain ⟨x0, x1, x2, x3, x4⟩ := five BZ.out
            obtain ⟨v0, v1, v2, v3, v4⟩ := fz BZ.out
            refine wpT_eff rfl rfl (fun K hK => ?_)
            simp only [List.getElem_toArray, List.getElem_cons_succ, List.getElem_cons_zero]
            go_simp
            refine hK _ _ (FA.out.five _ _ _ _ _ _ (fun h => absurd h (Nat.lt_irrefl _))) ?_
            clear hK K
            repeat (first
              | (refine wpT_skip rfl rfl ?_; simp only [List.getElem_toArray, List.getElem_cons_succ, List.getElem_cons_zero, Act.put, List.setIfInBounds_toArray, List.set_cons_zero, List.set_cons_succ])
              | (refine wpT_call rfl rfl ?_; simp only [List.getElem_toArray, List.getElem_cons_succ, List.getElem_cons_zero]; apply Exists.intro; refine ⟨fun X hX => ?_, ?_⟩
                 · (obtain ⟨s0, s1, s2, s3, s4, s5, s6, s7, s8, s9, s10, s11, s12, s13, s14, s15, s16⟩ := CL.out X hX; go_simp; exact stillUpon_value)
                 simp only [Act.put, List.setIfInBounds_toArray, List.set_cons_zero, List.set_cons_succ]))
            refine wpT_nil ?_
            obtain ⟨y0, y1, y2, y3, y4⟩ := five GX.out
            obtain ⟨z0, z1, z2, z3, z4⟩ := fz GX.out
            go_wp2_with fail
            go_meet
            case rel => exact ⟨zs, Ys, q', c', Q2, C2, A', D, cA, cd, NX.out⟩
        · go_wp2_with fail
          have CL := hid (HT.out.cells (Nat.lt_of_lt_of_le hb F0.out.size) g0.out g1.out g2.out g3.out g4.out g5.out g6.out (P := p2) (Q := Q2) (.inr rfl) (.inr rfl))
          have hga := HS.out.ba.lt
          have DT := hid (fun (X : World) (hX : Fr No wr X) => (HS.out.drew hX).does La ls lca w.heap.size kind to_ at_ nn ref true (RL.out.frNo hX) F0.out.size e7 j5 j0 J1.out J2.out J3.out)
          refine wp_region_ort (Fr (Two p2 Q2) wr) (.rd 0 (.rd 1 (.rd 2 (.rd 3 (.rd 4 (.rd 5 (.rd 6 (.rd 7 (.alt 8 (.rd 9 (.rd 10 (.rd 11 (.eff 12 (.eff 13 (.rd 14 .nil)))))) 12 (.eff 8 (.rd 9 (.rd 10 (.rd 11 (.eff 13 (.rd 14 .nil))))))))))))))) (by kernel_rfl) (by kernel_rfl) (by kernel_rfl) rfl ((Fr.refl _ wr).drew) ?_
          repeat (first
            | (refine wpT_skip rfl rfl ?_; simp only [List.getElem_toArray, List.getElem_cons_succ, List.getElem_cons_zero, Act.put, List.setIfInBounds_toArray, List.set_cons_zero, List.set_cons_succ])
            | (refine wpT_call rfl rfl ?_; simp only [List.getElem_toArray, List.getElem_cons_succ, List.getElem_cons_zero]; apply Exists.intro; refine ⟨fun X hX => ?_, ?_⟩
               · (obtain ⟨s0, s1, s2, s3, s4, s5, s6, s7, s8, s9, s10, s11, s12, s13, s14, s15, s16⟩ := CL.out X hX; go_simp; exact stillUpon_value)
               simp only [Act.put, List.setIfInBounds_toArray, List.set_cons_zero, List.set_cons_succ]))
          refine wpT_alt ?_ ?_
          · skip
            refine wpT_eff rfl rfl (fun K hK => ?_)
            simp only [List.getElem_toArray, List.getElem_cons_succ, List.getElem_cons_zero]
            go_simp
            refine (DT.out _ ((Fr.refl No wr).drew)).mono ?_
            rintro e9 w5 ⟨zs, A', cA, q', c', rfl, hcA, rA, tA, hq', fA, hA'⟩
            have FA : Hid (Fr (Two p2 Q2) wr w5) := (Fr.refl _ wr).drew.trans fA (fun _ _ h => h)
            have NX := (HS.out.drew ((Fr.refl No wr).drew)).next hcA rA tA hq' fA hA' ((Fr.refl No w5).alloc (.cells #[.int .i64 eq, .int .i64 mnq, .int .i64 mxq, .bool hq, .slice A' zs.length cA] 51)) (fun _ x => x.elim) (fun _ _ _ x => x) (fun _ _ _ x => x)
            have NX := hid NX
            have GX := hid ((HS.out.ba.fr FA.out (fun x => (HS.out.ne.2.2.1.elim (by rcases x with x | x; exact x.symm; exact (HS.out.ne.2.2.2.2.2.2.2.2.1 x.symm).elim)))).alloc (.cells #[.int .i64 eq, .int .i64 mnq, .int .i64 mxq, .bool hq, .slice A' zs.length cA] 51))
            have hg5 := FA.out.size
            clear rA tA hq' fA hA' hcA
            refine hK _ _ (FA.out) ?_
            clear hK K
            repeat (first
              | (refine wpT_skip rfl rfl ?_; simp only [List.getElem_toArray, List.getElem_cons_succ, List.getElem_cons_zero, Act.put, List.setIfInBounds_toArray, List.set_cons_zero, List.set_cons_succ])
              | (refine wpT_call rfl rfl ?_; simp only [List.getElem_toArray, List.getElem_cons_succ, List.getElem_cons_zero]; apply Exists.intro; refine ⟨fun X hX => ?_, ?_⟩
                 · (obtain ⟨s0, s1, s2, s3, s4, s5, s6, s7, s8, s9, s10, s11, s12, s13, s14, s15, s16⟩ := CL.out X hX; go_simp; exact stillUpon_value)
                 simp only [Act.put, List.setIfInBounds_toArray, List.set_cons_zero, List.set_cons_succ]))
            refine wpT_eff rfl rfl (fun K hK => ?_)
            simp only [List.getElem_toArray, List.getElem_cons_succ, List.getElem_cons_zero]
            go_simp
            refine hK _ _ (FA.out.alloc _) ?_
            clear hK K
            refine wpT_eff rfl rfl (fun K hK => ?_)
            simp only [List.getElem_toArray, List.getElem_cons_succ, List.getElem_cons_zero]
            go_simp
            refine hK _ _ (FA.out.alloc _) ?_
            clear hK K
            repeat (first
              | (refine wpT_skip rfl rfl ?_; simp only [List.getElem_toArray, List.getElem_cons_succ, List.getElem_cons_zero, Act.put, List.setIfInBounds_toArray, List.set_cons_zero, List.set_cons_succ])
              | (refine wpT_call rfl rfl ?_; simp only [List.getElem_toArray, List.getElem_cons_succ, List.getElem_cons_zero]; apply Exists.intro; refine ⟨fun X hX => ?_, ?_⟩
                 · (obtain ⟨s0, s1, s2, s3, s4, s5, s6, s7, s8, s9, s10, s11, s12, s13, s14, s15, s16⟩ := CL.out X hX; go_simp; exact stillUpon_value)
                 simp only [Act.put, List.setIfInBounds_toArray, List.set_cons_zero, List.set_cons_succ]))
            refine wpT_nil ?_
            obtain ⟨y0, y1, y2, y3, y4⟩ := five GX.out
            obtain ⟨z0, z1, z2, z3, z4⟩ := fz GX.out
            go_wp2_with fail
            go_meet
            case rel => exact ⟨Xs, zs, Q1, C1, q', c', A, A', ca, cA, NX.out.symm⟩
          · skip
            refine wpT_eff rfl rfl (fun K hK => ?_)
            simp only [List.getElem_toArray, List.getElem_cons_succ, List.getElem_cons_zero]
            go_simp
            refine hK _ _ (((Fr.refl _ wr).alloc _).drew) ?_
            clear hK K
            refine wpT_eff rfl rfl (fun K hK => ?_)
            simp only [List.getElem_toArray, List.getElem_cons_succ, List.getElem_cons_zero]
            go_simp
            refine (DT.out _ (((Fr.refl No wr).alloc (.cells #[.int .i64 0, .int .i64 0, .int .i64 0, .bool false, .slice none 0 0] 51)).drew)).mono ?_
            rintro e9 w5 ⟨zs, A', cA, q', c', rfl, hcA, rA, tA, hq', fA, hA'⟩
            have FA : Hid (Fr (Two p2 Q2) wr w5) := (((Fr.refl _ wr).alloc _).drew).trans fA (fun _ _ h => h)
            have NX := hid (HS.out.next2 (.cells #[.int .i64 0, .int .i64 0, .int .i64 0, .bool false, .slice none 0 0] 51) (.int .i64 eq) (.int .i64 mnq) (.int .i64 mxq) (.bool hq) (.slice A' zs.length cA) hcA rA tA hq' fA hA')
            have hp1 := HS.out.t.blk.lt
            have hq1 := HS.out.t.own.lt
            have BZ := hid (((Blk.new wr 51 #[.int .i64 0, .int .i64 0, .int .i64 0, .bool false, .slice none 0 0]).drew).fr fA (fun x => by rcases x with x | x <;> omega))
            have GZ := HS.out.ba.fr FA.out (fun x => (HS.out.ne.2.2.1.elim (by rcases x with x | x; exact x.symm; exact (HS.out.ne.2.2.2.2.2.2.2.2.1 x.symm).elim)))
            have GX := hid GZ
            clear rA tA hq' fA hA' hcA hp1 hq1 GZ
            have ne1 : wr.heap.size ≠ w4.heap.size := by omega
            have ne2 : w4.heap.size ≠ wr.heap.size := by omega
            refine hK _ _ (FA.out) ?_
            clear hK K
            repeat (first
              | (refine wpT_skip rfl rfl ?_; simp only [List.getElem_toArray, List.getElem_cons_succ, List.getElem_cons_zero, Act.put, List.setIfInBounds_toArray, List.set_cons_zero, List.set_cons_succ])
              | (refine wpT_call rfl rfl ?_; simp only [List.getElem_toArray, List.getElem_cons_succ, List.getElem_cons_zero]; apply Exists.intro; refine ⟨fun X hX => ?_, ?_⟩
                 · (obtain ⟨s0, s1, s2, s3, s4, s5, s6, s7, s8, s9, s10, s11, s12, s13, s14, s15, s16⟩ := CL.out X hX; go_simp; exact stillUpon_value)
                 simp only [Act.put, List.setIfInBounds_toArray, List.set_cons_zero, List.set_cons_succ]))
            obtain ⟨x0, x1, x2, x3, x4⟩ := five BZ.out
            obtain ⟨v0, v1, v2, v3, v4⟩ := fz BZ.out
            refine wpT_eff rfl rfl (fun K hK => ?_)
            simp only [List.getElem_toArray, List.getElem_cons_succ, List.getElem_cons_zero]
            go_simp
            refine hK _ _ (FA.out.five _ _ _ _ _ _ (fun h => absurd h (Nat.lt_irrefl _))) ?_
            clear hK K
            repeat (first
              | (refine wpT_skip rfl rfl ?_; simp only [List.getElem_toArray, List.getElem_cons_succ, List.getElem_cons_zero, Act.put, List.setIfInBounds_toArray, List.set_cons_zero, List.set_cons_succ])
              | (refine wpT_call rfl rfl ?_; simp only [List.getElem_toArray, List.getElem_cons_succ, List.getElem_cons_zero]; apply Exists.intro; refine ⟨fun X hX => ?_, ?_⟩
                 · (obtain ⟨s0, s1, s2, s3, s4, s5, s6, s7, s8, s9, s10, s11, s12, s13, s14, s15, s16⟩ := CL.out X hX; go_simp; exact stillUpon_value)
                 simp only [Act.put, List.setIfInBounds_toArray, List.set_cons_zero, List.set_cons_succ]))
            refine wpT_nil ?_
            obtain ⟨y0, y1, y2, y3, y4⟩ := five GX.out
            obtain ⟨z0, z1, z2, z3, z4⟩ := fz GX.out
            go_wp2_with fail
            go_meet
            case rel => exact ⟨Xs, zs, Q1, C1, q', c', A, A', ca, cA, NX.out.symm⟩
      case rest =>
        obtain ⟨xs, ys, q1, c1, q2, c2, A', D', ca', cd', hT2⟩ := hcut
        have H2 := hid hT2
        have SS : Hid (∀ X, Fr No wc X → X.cell? ⟨w3.heap.size, 4, none⟩ = some (.slice A' xs.length ca') ∧ X.cell? ⟨w4.heap.size, 4, none⟩ = some (.slice D' ys.length cd')) := fun X hX => ⟨(five (H2.out.ba.fr hX (fun x => x))).2.2.2.2, (five (H2.out.bb.fr hX (fun x => x))).2.2.2.2⟩
        have n1 := H2.out.t.len
        have n2 := H2.out.u.len
        clear hT2 g0 g1 g2 g3 g4 g5 g6 RL
        go_wp2_with fail
        refine wp_region_ord (fun X => X.cell? ⟨w3.heap.size, 4, none⟩ = some (.slice A' xs.length ca') ∧ X.cell? ⟨w4.heap.size, 4, none⟩ = some (.slice D' ys.length cd')) [] [(0, true), (2, true), (3, true), (1, false), (4, false), (5, true), (6, true), (7, true), (9, true), (10, true), (8, false), (11, false), (12, true), (13, true), (14, true), (15, true), (17, true), (18, true), (19, true), (16, false), (20, true), (21, true), (22, true), (23, true), (25, true), (26, true), (27, true), (24, false), (28, true), (29, true)] (by kernel_rfl) (by kernel_rfl) (by kernel_rfl) rfl (SS.out _ ((Fr.refl No wc).drew)) ?_
        repeat (first
          | (refine wpO_skip rfl rfl ?_; simp only [List.getElem_toArray, List.getElem_cons_succ, List.getElem_cons_zero, Act.put, List.setIfInBounds_toArray, List.set_cons_zero, List.set_cons_succ])
          | (refine wpO_call rfl rfl ?_; simp only [List.getElem_toArray, List.getElem_cons_succ, List.getElem_cons_zero]; apply Exists.intro; refine ⟨fun X hX => ?_, ?_⟩
             · (obtain ⟨s0, s1⟩ := hX; go_simp; exact stillUpon_value)
             simp only [Act.put, List.setIfInBounds_toArray, List.set_cons_zero, List.set_cons_succ]))
        refine wpO_eff rfl rfl (fun K hK => ?_)
        simp only [List.getElem_toArray, List.getElem_cons_succ, List.getElem_cons_zero]
        go_simp
        refine (all_any (H2.out.t.fr ((Fr.refl No wc).drew) (fun x => x) (fun x => x))).mono ?_
        rintro e6 w6 ⟨q6, c6, rfl, o6, hq6, f6⟩
        have O6 := hid o6
        have F6 := hid ((Fr.refl No wc).drew.trans f6 (fun _ _ h => h))
        clear o6 hq6 f6
        refine hK _ _ (fun _ => SS.out _ F6.out) ?_
        clear hK K
        refine wpO_eff rfl rfl (fun K hK => ?_)
        simp only [List.getElem_toArray, List.getElem_cons_succ, List.getElem_cons_zero]
        go_simp
        refine (same_at _ _ xs xs _ _ _ _ _ _ _ rfl rfl (O6.out.rd O6.out.lt) (H2.out.ra.frNo F6.out) (by omega) (by omega)).mono ?_
        rintro e7 w7 ⟨rfl, n7, rfl⟩
        simp only [decide_true]
        refine hK _ _ (fun _ => SS.out _ (F6.out.drewN n7)) ?_
        clear hK K
        repeat (first
          | (refine wpO_skip rfl rfl ?_; simp only [List.getElem_toArray, List.getElem_cons_succ, List.getElem_cons_zero, Act.put, List.setIfInBounds_toArray, List.set_cons_zero, List.set_cons_succ])
          | (refine wpO_call rfl rfl ?_; simp only [List.getElem_toArray, List.getElem_cons_succ, List.getElem_cons_zero]; apply Exists.intro; refine ⟨fun X hX => ?_, ?_⟩
             · (obtain ⟨s0, s1⟩ := hX; go_simp; exact stillUpon_value)
             simp only [Act.put, List.setIfInBounds_toArray, List.set_cons_zero, List.set_cons_succ]))
        refine wpO_eff rfl rfl (fun K hK => ?_)
        simp only [List.getElem_toArray, List.getElem_cons_succ, List.getElem_cons_zero]
        go_simp
        refine (all_any (H2.out.u.fr (F6.out.drewN n7) (fun x => x) (fun x => x))).mono ?_
        rintro e8 w8 ⟨q8, c8, rfl, o8, hq8, f8⟩
        have O8 := hid o8
        have F8 := hid ((F6.out.drewN n7).trans f8 (fun _ _ h => h))
        clear o8 hq8 f8
        refine hK _ _ (fun _ => SS.out _ F8.out) ?_
        clear hK K
        refine wpO_eff rfl rfl (fun K hK => ?_)
        simp only [List.getElem_toArray, List.getElem_cons_succ, List.getElem_cons_zero]
        go_simp
        refine (same_at _ _ ys ys _ _ _ _ _ _ _ rfl rfl (O8.out.rd O8.out.lt) (H2.out.rd.frNo F8.out) (by omega) (by omega)).mono ?_
        rintro e9 w9 ⟨rfl, n9, rfl⟩
        simp only [decide_true]
        refine hK _ _ (fun _ => SS.out _ (F8.out.drewN n9)) ?_
        clear hK K
        repeat (first
          | (refine wpO_skip rfl rfl ?_; simp only [List.getElem_toArray, List.getElem_cons_succ, List.getElem_cons_zero, Act.put, List.setIfInBounds_toArray, List.set_cons_zero, List.set_cons_succ])
          | (refine wpO_call rfl rfl ?_; simp only [List.getElem_toArray, List.getElem_cons_succ, List.getElem_cons_zero]; apply Exists.intro; refine ⟨fun X hX => ?_, ?_⟩
             · (obtain ⟨s0, s1⟩ := hX; go_simp; exact stillUpon_value)
             simp only [Act.put, List.setIfInBounds_toArray, List.set_cons_zero, List.set_cons_succ]))
        refine wpO_eff rfl rfl (fun K hK => ?_)
        simp only [List.getElem_toArray, List.getElem_cons_succ, List.getElem_cons_zero]
        go_simp
        refine (size_any (H2.out.t.fr (F8.out.drewN n9) (fun x => x) (fun x => x))).mono ?_
        rintro e10 w10 ⟨rfl, rfl⟩
        refine hK _ _ (fun _ => SS.out _ (F8.out.drewN n9)) ?_
        clear hK K
        repeat (first
          | (refine wpO_skip rfl rfl ?_; simp only [List.getElem_toArray, List.getElem_cons_succ, List.getElem_cons_zero, Act.put, List.setIfInBounds_toArray, List.set_cons_zero, List.set_cons_succ])
          | (refine wpO_call rfl rfl ?_; simp only [List.getElem_toArray, List.getElem_cons_succ, List.getElem_cons_zero]; apply Exists.intro; refine ⟨fun X hX => ?_, ?_⟩
             · (obtain ⟨s0, s1⟩ := hX; go_simp; exact stillUpon_value)
             simp only [Act.put, List.setIfInBounds_toArray, List.set_cons_zero, List.set_cons_succ]))
        refine wpO_eff rfl rfl (fun K hK => ?_)
        simp only [List.getElem_toArray, List.getElem_cons_succ, List.getElem_cons_zero]
        go_simp
        refine (size_any (H2.out.u.fr (F8.out.drewN n9) (fun x => x) (fun x => x))).mono ?_
        rintro e11 w11 ⟨rfl, rfl⟩
        refine hK _ _ (fun _ => SS.out _ (F8.out.drewN n9)) ?_
        clear hK K
        repeat (first
          | (refine wpO_skip rfl rfl ?_; simp only [List.getElem_toArray, List.getElem_cons_succ, List.getElem_cons_zero, Act.put, List.setIfInBounds_toArray, List.set_cons_zero, List.set_cons_succ])
          | (refine wpO_call rfl rfl ?_; simp only [List.getElem_toArray, List.getElem_cons_succ, List.getElem_cons_zero]; apply Exists.intro; refine ⟨fun X hX => ?_, ?_⟩
             · (obtain ⟨s0, s1⟩ := hX; go_simp; exact stillUpon_value)
             simp only [Act.put, List.setIfInBounds_toArray, List.set_cons_zero, List.set_cons_succ]))
        refine wpO_nil ?_
        go_wp2_with fail
        go_roundw
        case rel => exact ⟨k + 1, xs, ys, q1, c1, q2, c2, A', D', ca', cd', by go_num, by omega, H2.out.drew (F8.out.drewN n9)⟩
        case measure => simp [intOf]; omega
    · obtain rfl : k = n := by omega
      have B1r := hid (B1.out.fr HT.out.f (fun x => x))
      have B2r := hid (B2.out.fr HT.out.f (fun x => x))
      have EE : Hid (∀ X, Fr No wr X → E8 w ep mnp mxp eq mnq mxq hp hq X) := fun X hX => E8.mk (B1r.out.fr hX (fun x => x)) (B2r.out.fr hX (fun x => x))
      go_wp2_with fail
      refine wp_region_ord (E8 w ep mnp mxp eq mnq mxq hp hq) [] [(0, true), (2, true), (1, false), (3, true), (4, true), (5, true), (7, true), (6, false), (8, true), (9, true), (10, true), (11, false), (12, true), (13, true)] (by kernel_rfl) (by kernel_rfl) (by kernel_rfl) rfl (EE.out _ ((Fr.refl No wr).drew)) ?_
      repeat (first
        | (refine wpO_skip rfl rfl ?_; simp only [List.getElem_toArray, List.getElem_cons_succ, List.getElem_cons_zero, Act.put, List.setIfInBounds_toArray, List.set_cons_zero, List.set_cons_succ])
        | (refine wpO_call rfl rfl ?_; simp only [List.getElem_toArray, List.getElem_cons_succ, List.getElem_cons_zero]; apply Exists.intro; refine ⟨fun X hX => ?_, ?_⟩
           · (obtain ⟨s0, s1, s2, s3, s4, s5, s6, s7⟩ := hX; go_simp; exact stillUpon_value)
           simp only [Act.put, List.setIfInBounds_toArray, List.set_cons_zero, List.set_cons_succ]))
      refine wpO_eff rfl rfl (fun K hK => ?_)
      simp only [List.getElem_toArray, List.getElem_cons_succ, List.getElem_cons_zero]
      go_simp
      refine (type_any (HT.out.t.fr ((Fr.refl No wr).drew) (fun x => x) (fun x => x))).mono ?_
      rintro e6 w6 ⟨rfl, f6⟩
      have F6 := hid ((Fr.refl No wr).drew.trans f6 (fun _ _ h => h))
      clear f6
      refine hK _ _ (fun _ => EE.out _ F6.out) ?_
      clear hK K
      repeat (first
        | (refine wpO_skip rfl rfl ?_; simp only [List.getElem_toArray, List.getElem_cons_succ, List.getElem_cons_zero, Act.put, List.setIfInBounds_toArray, List.set_cons_zero, List.set_cons_succ])
        | (refine wpO_call rfl rfl ?_; simp only [List.getElem_toArray, List.getElem_cons_succ, List.getElem_cons_zero]; apply Exists.intro; refine ⟨fun X hX => ?_, ?_⟩
           · (obtain ⟨s0, s1, s2, s3, s4, s5, s6, s7⟩ := hX; go_simp; exact stillUpon_value)
           simp only [Act.put, List.setIfInBounds_toArray, List.set_cons_zero, List.set_cons_succ]))
      refine wpO_eff rfl rfl (fun K hK => ?_)
      simp only [List.getElem_toArray, List.getElem_cons_succ, List.getElem_cons_zero]
      go_simp
      refine (type_any (HT.out.u.fr F6.out (fun x => x) (fun x => x))).mono ?_
      rintro e7 w7 ⟨rfl, f7⟩
      have F7 := hid (F6.out.trans f7 (fun _ _ h => h))
      clear f7
      refine hK _ _ (fun _ => EE.out _ F7.out) ?_
      clear hK K
      repeat (first
        | (refine wpO_skip rfl rfl ?_; simp only [List.getElem_toArray, List.getElem_cons_succ, List.getElem_cons_zero, Act.put, List.setIfInBounds_toArray, List.set_cons_zero, List.set_cons_succ])
        | (refine wpO_call rfl rfl ?_; simp only [List.getElem_toArray, List.getElem_cons_succ, List.getElem_cons_zero]; apply Exists.intro; refine ⟨fun X hX => ?_, ?_⟩
           · (obtain ⟨s0, s1, s2, s3, s4, s5, s6, s7⟩ := hX; go_simp; exact stillUpon_value)
           simp only [Act.put, List.setIfInBounds_toArray, List.set_cons_zero, List.set_cons_succ]))
      refine wpO_eff rfl rfl (fun K hK => ?_)
      simp only [List.getElem_toArray, List.getElem_cons_succ, List.getElem_cons_zero]
      go_simp
      refine (alive_any _).mono ?_
      rintro e8 w8 ⟨rfl, f8⟩
      have F8 := hid (F7.out.trans f8 (fun _ _ h => h))
      clear f8
      refine hK _ _ (fun _ => EE.out _ F8.out) ?_
      clear hK K
      repeat (first
        | (refine wpO_skip rfl rfl ?_; simp only [List.getElem_toArray, List.getElem_cons_succ, List.getElem_cons_zero, Act.put, List.setIfInBounds_toArray, List.set_cons_zero, List.set_cons_succ])
        | (refine wpO_call rfl rfl ?_; simp only [List.getElem_toArray, List.getElem_cons_succ, List.getElem_cons_zero]; apply Exists.intro; refine ⟨fun X hX => ?_, ?_⟩
           · (obtain ⟨s0, s1, s2, s3, s4, s5, s6, s7⟩ := hX; go_simp; exact stillUpon_value)
           simp only [Act.put, List.setIfInBounds_toArray, List.set_cons_zero, List.set_cons_succ]))
      refine wpO_nil ?_
      go_wp2_with fail
      go_ret
      exact ⟨rfl, (F0.out.trans HT.out.f (fun _ _ h => h)).trans F8.out (fun _ _ h => h)⟩
end Go.Proofs.Ytndhbamfgihncaa
