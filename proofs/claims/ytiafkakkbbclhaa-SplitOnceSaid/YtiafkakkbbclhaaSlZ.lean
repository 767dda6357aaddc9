/- Chapter 46: the reference's turned. -/
import Derived.Test.YtiafkakkbbclhaaSlY
namespace Go.Proofs.Ytiafkakkbbclhaa
open Go.RowKit

/-- The list of places in memory. -/
def PrAt (w : World) (AL : Option Addr) (cr : List (Nat × Nat)) : Prop := ∀ k (hk : k < cr.length), ∃ g cs, AL = some ⟨g, 0, none⟩ ∧ Blk w g 50 cs ∧ cs[k * 2]? = some (.int .i64 (cr[k].1 : Int)) ∧ cs[k * 2 + 1]? = some (.int .i64 (cr[k].2 : Int))
theorem PrAt.fr {w w' : World} {AL : Option Addr} {cr : List (Nat × Nat)} {M : Nat → Prop} (h : PrAt w AL cr) (f : Fr M w w') (hM : ∀ k cs, M k → ¬ Blk w k 50 cs) : PrAt w' AL cr := fun k hk => by
  obtain ⟨g, cs, e, hb, z0, z1⟩ := h k hk
  exact ⟨g, cs, e, hb.fr f (fun hm => hM g cs hm hb), z0, z1⟩
def TurnTo (n : Nat) (cr : List (Nat × Nat)) (b : Nat) (es : List Ed) (S : Nat → Prop) (w : World) (e : Ending) (w' : World) : Prop :=
  ∃ (A : Option Addr) (c : Nat), e = .returned (.slice A es.length c) ∧ tEd.row w' w.heap.size S 44 (.slice A es.length c) (turnTo n cr b es cr.length) ∧ Fr No w w'
set_option maxRecDepth 100000 in
set_option maxHeartbeats 6400000 in
theorem turned_any (P R V B : Option Addr) (np nr nv nb pc rc vc bc : Nat) (bs : List Sb) (S : Nat → Prop) (w : World) (AL : Option Addr) (cL : Nat) (cr : List (Nat × Nat)) (b : Nat) (h : tSb.els w S B bs) (hS : ∀ k, S k → k < w.heap.size) (eb : Hid (bs.length = nb)) (hn : nb ≤ 100000) (ht : tot (tosOf bs) ≤ 100000) (hP : PrAt w AL cr) (hc : cr.length ≤ 100000) (hb : b < nb) :
    Calls Try.prog 28 #[.agg #[.slice P np pc, .slice R nr rc, .slice V nv vc, .slice B nb bc], .slice AL cr.length cL, .int .i64 b] w (TurnTo nb cr b (toOf bs b) S w) := by
  have F0 := hid ((Fr.refl No w).alloc (.cells #[.slice P np pc, .slice R nr rc, .slice V nv vc, .slice B nb bc] 27))
  have G := hid (Blk.new w 27 #[.slice P np pc, .slice R nr rc, .slice V nv vc, .slice B nb bc])
  have hlk : b < bs.length := by have := eb.out; omega
  obtain ⟨b0, o0, A0, c0, A1, c1, A2, c2, A3, c3, rfl, hbS, _, _, _, _, _, y5, _, _, _, _, _, _, _, _, _, _, _, _, _, _, he, _⟩ := Sb_at h b hlk
  replace y5 := (F0.out.cell (p := ⟨b0, o0 + b * 7 + 5, none⟩) (hS b0 hbS) (fun x => x)).trans y5
  have hbl := hid hS
  have HE := hid (he.fr F0.out (fun k hk => ⟨hS k hk, fun x => x⟩))
  have HPR := hid (hP.fr F0.out (fun _ _ h => h.elim))
  have htl := to_le ht b
  rw [toOf_el hlk] at htl ⊢
  generalize bs[b].end_.to = es at *
  obtain ⟨m, hm⟩ : ∃ m, es.length = m := ⟨_, rfl⟩
  have HM := hid hm
  obtain ⟨nc, hnc⟩ : ∃ n, cr.length = n := ⟨_, rfl⟩
  have HNC := hid hnc
  rw [hm] at y5 htl
  rw [hnc] at hc ⊢
  have y3 := G.out.cell 3
  have i0 : (0 : Int) ≤ b := by omega
  have i1 : (b : Int) < nb := by omega
  clear h hS he hP hm hnc
  go_enter Try.func28, Try.ntmps28
  go_wp2_with fail
  clear y3 y5
  generalize w.alloc (.cells #[.slice P np pc, .slice R nr rc, .slice V nv vc, .slice (some ⟨b0, o0, none⟩) nb bc] 27) = W at *
  have hWs := hid F0.out.size
  obtain ⟨T, hT⟩ : ∃ T, turnTo nb cr b es cr.length = T := ⟨_, rfl⟩
  have hTl : Hid (T.length = m) := hid (by rw [← hT, turnTo_len]; exact HM.out)
  have hTg : Hid (∀ j (hj : j < es.length) (hj2 : j < T.length), T[j] = redir nb cr b j es[j] cr.length) := hid fun j hj hj2 => by
    subst hT
    simp only [turnTo, List.getElem_mapIdx]
  have hTT := hid hT
  clear hT
  go_loopw [7, 9] (fun v i wr => ∃ (j : Nat) (A : Option Addr) (c : Nat), j ≤ m ∧ i = .int .i64 j ∧ v = .slice A j c ∧ Hid (tEd.row wr W.heap.size S 44 (.slice A j c) (T.take j)) ∧ Hid (Fr No W wr)) (fun _ i _ => m - (intOf i).toNat)
  case atStart => exact ⟨0, none, 0, by omega, rfl, rfl, hid (by rw [List.take_zero]; exact Ty.row.nil _ _ _ _), hid (Fr.refl No W)⟩
  case round =>
    obtain ⟨j, A, c, hj, rfl, rfl, HR, FR⟩ := hrel
    by_cases hgo : j < m
    · have hlj : j < es.length := by have := HM.out; omega
      have hlj2 : j < T.length := by have := hTl.out; omega
      obtain ⟨bb, oo, Aa, ca, rfl, hbb, z0, z1, hwf, hg1, hg2, ha⟩ := Ed_at HE.out j hlj
      have hbW := Nat.lt_of_lt_of_le (hbl.out bb hbb) hWs.out
      replace z0 := (FR.out.cell (p := ⟨bb, oo + j * 2, none⟩) hbW (fun x => x)).trans z0
      replace z1 := (FR.out.cell (p := ⟨bb, oo + j * 2 + 1, none⟩) hbW (fun x => x)).trans z1
      have hSW := hid (fun k (hk : S k) => Nat.lt_of_lt_of_le (hbl.out k hk) hWs.out)
      have htj := hTg.out j hlj hlj2
      have htk : T.take (j + 1) = T.take j ++ [redir nb cr b j es[j] cr.length] := by rw [List.take_succ_eq_append_getElem hlj2, htj]
      have HTK := hid htk
      have HRD0 := hid (Ed_mk (w := W) (S := S) (a := es[j]) hwf hg1 hg2 ha)
      clear htj htk hwf hg1 hg2 ha hlj2
      generalize es[j] = e0 at *
      have FB := (Fr.refl No wr).alloc (.cells #[.int .i64 e0.to, .slice Aa e0.args.length ca] 44)
      have FA := hid (FR.out.trans FB (fun _ _ h => h))
      have GE := hid (Blk.new wr 44 #[.int .i64 e0.to, .slice Aa e0.args.length ca])
      have HR1 := hid (HR.out.fr FB (fun k hk => ⟨Nat.lt_of_lt_of_le (hSW.out k hk) FR.out.size, fun x => x⟩) (fun _ _ h => h))
      have HRD1 := hid (TyOk.keep _ (wr.alloc (.cells #[.int .i64 e0.to, .slice Aa e0.args.length ca] 44)) _ _ _ HRD0.out (fun p hp => FA.out.cell (hSW.out _ hp) (fun x => x)))
      have hqw := hid FR.out.size
      have hown : Hid (∀ g, (Value.slice A j c).ownBlock = some g → g < wr.heap.size) := hid fun g hg => by obtain ⟨_, cs, hb⟩ := HR.out.own hg; exact hb.lt
      have j0 : (0 : Int) ≤ j := by omega
      have j1 : (j : Int) < m := by omega
      clear FB HR HRD0 hlj
      go_wp2_with fail
      clear z0 z1
      generalize wr.alloc (.cells #[.int .i64 e0.to, .slice Aa e0.args.length ca] 44) = W1 at *
      obtain ⟨qe, hqe⟩ : ∃ q, wr.heap.size = q := ⟨_, rfl⟩
      rw [hqe] at GE hqw hown ⊢
      clear hqe
      go_loopw [11] (fun i wr => ∃ (k : Nat) (Ae : Option Addr) (ce : Nat), k ≤ nc ∧ i = .int .i64 k ∧ Hid (Blk wr qe 44 #[.int .i64 (redir nb cr b j e0 k).to, .slice Ae (redir nb cr b j e0 k).args.length ce]) ∧ Hid (tEd.rd wr S [.int .i64 (redir nb cr b j e0 k).to, .slice Ae (redir nb cr b j e0 k).args.length ce] (redir nb cr b j e0 k)) ∧ Hid (Fr (One qe) W1 wr)) (fun i _ => nc - (intOf i).toNat)
      case atStart => exact ⟨0, Aa, ca, by omega, rfl, GE, HRD1, hid (Fr.refl _ W1)⟩
      case round =>
        clear HRD1
        obtain ⟨k, Ae, ce, hk, rfl, HQ, HRD, FQ⟩ := hrel
        by_cases hgk : k < nc
        · have hlk2 : k < cr.length := by have := HNC.out; omega
          have hnq : ∀ k cs, One qe k → ¬ Blk W1 k 50 cs := fun k cs h hb => by
            have h : k = qe := h
            subst h
            exact Blk.ne_ GE.out hb (by decide) rfl
          obtain ⟨g, cs, rfl, hbg, p0, p1⟩ := ((HPR.out.fr FA.out (fun _ _ h => h.elim)).fr FQ.out hnq) k hlk2
          have u0 := (hbg.cell (k * 2)).trans p0
          have u1 := (hbg.cell (k * 2 + 1)).trans p1
          have hrs : redir nb cr b j e0 (k + 1) = if cr[k] = (b, j) then ⟨((nb + k : Nat) : Int), []⟩ else redir nb cr b j e0 k := by rw [redir, getD_el _ hlk2]
          have HRS := hid hrs
          have y3 := ((G.out.fr FA.out (fun x => x)).fr FQ.out (fun h => by
            have h : w.heap.size = qe := h
            have h1 := G.out.lt
            have h2 := hqw.out
            omega)).cell 3
          have heq := fun X => run_eql_Pr (cr[k].1 : Int) (cr[k].2 : Int) (b : Int) (j : Int) X
          have k0 : (0 : Int) ≤ k := by omega
          have k1 : (k : Int) < nc := by omega
          by_cases hcr : cr[k] = (b, j)
          · rw [if_pos hcr] at HRS
            have e1 : cr[k].1 = b := by rw [hcr]
            have e2 : cr[k].2 = j := by rw [hcr]
            rw [e1, e2] at heq
            rw [e1] at u0
            rw [e2] at u1
            simp only [decide_true, Bool.and_self] at heq
            have zc0 := HQ.out.cell 0
            have zc1 := HQ.out.cell 1
            have zf0 := HQ.out.frozen 0
            have zf1 := HQ.out.frozen 1
            clear hcr e1 e2 hrs p0 p1 hbg hnq
            go_wp2_with fail
            have FS := ((Fr.refl (One qe) wr).setCell ⟨qe, 0, none⟩ (.int .i64 ((nb : Int) + k)) (fun _ => rfl)).setCell ⟨qe, 1, none⟩ (.slice none 0 0) (fun _ => rfl)
            have HQ2 : Hid (Blk ((wr.setCell ⟨qe, 0, none⟩ (.int .i64 ((nb : Int) + k))).setCell ⟨qe, 1, none⟩ (.slice none 0 0)) qe 44 #[.int .i64 ((nb : Int) + k), .slice none 0 0]) := hid (by simpa using (HQ.out.set_ 0 (.int .i64 ((nb : Int) + k))).set_ 1 (.slice none 0 0))
            have FQ2 := hid (FQ.out.trans FS (fun _ _ h => h))
            clear FS
            go_round
            case rel =>
              refine ⟨k + 1, none, 0, by omega, by go_num, ?_, ?_, FQ2⟩
              · rw [HRS.out]
                have h := HQ2.out
                rw [show ((nb : Int) + k) = ((nb + k : Nat) : Int) by omega] at h
                exact h
              · rw [HRS.out]
                exact Ed_mk (a := ⟨((nb + k : Nat) : Int), []⟩) (wf_bool64 ⟨by show _ ≤ ((nb + k : Nat) : Int); omega, by show ((nb + k : Nat) : Int) ≤ _; omega⟩) (Nat.le_refl _) (by decide) (.inl rfl)
            case measure => simp [intOf]; omega
          · rw [if_neg hcr] at HRS
            have hne : (decide ((cr[k].1 : Int) = (b : Int)) && decide ((cr[k].2 : Int) = (j : Int))) = false := by
              rw [Bool.and_eq_false_iff, decide_eq_false_iff_not, decide_eq_false_iff_not]
              by_cases h1 : cr[k].1 = b
              · right
                intro h2
                exact hcr (Prod.ext h1 (by omega))
              · left; omega
            rw [hne] at heq
            generalize cr[k].1 = p1' at *
            generalize cr[k].2 = p2' at *
            clear hcr hne hrs p0 p1 hbg hnq
            go_wp2_with fail
            go_round
            case rel => exact ⟨k + 1, Ae, ce, by omega, by go_num, by rw [HRS.out]; exact HQ, by rw [HRS.out]; exact HRD, FQ⟩
            case measure => simp [intOf]; omega
        · have hkn : nc = k := by omega
          subst hkn
          clear hgk
          rw [← HNC.out] at HQ HRD
          generalize redir nb cr b j e0 cr.length = e9 at *
          have zc0 := HQ.out.cell 0
          have zc1 := HQ.out.cell 1
          have hSQ : ∀ k, S k → k < W1.heap.size ∧ ¬ One qe k := fun k hk => ⟨Nat.lt_of_lt_of_le (hSW.out k hk) FA.out.size, fun h => by
            have h : k = qe := h
            have := hSW.out k hk
            have := hqw.out
            omega⟩
          have HR2 := HR1.out.fr FQ.out hSQ (fun g hg h => by
            have h : g = qe := h
            have := hown.out g hg
            omega)
          have FL := (Fr.refl No wr).alloc (.cells #[.int .i64 e9.to, .slice Ae e9.args.length ce] 44)
          have hSwr : ∀ k, S k → k < wr.heap.size := fun k hk => Nat.lt_of_lt_of_le (hSQ k hk).1 FQ.out.size
          have TR := hid (HR2.fr FL (fun k hk => ⟨hSwr k hk, fun x => x⟩) (fun _ _ h => h))
          have BL := hid (Blk.new wr 44 #[.int .i64 e9.to, .slice Ae e9.args.length ce])
          have HCS : Hid (Css tEd (wr.alloc (.cells #[.int .i64 e9.to, .slice Ae e9.args.length ce] 44)) S [[.int .i64 e9.to, .slice Ae e9.args.length ce]] [e9]) := hid (Css.one (TyOk.keep _ _ _ _ _ HRD.out (fun p hp => FL.cell (hSwr _ hp) (fun x => x))))
          have hnt : Hid (∀ k, S k → k < (wr.alloc (.cells #[.int .i64 e9.to, .slice Ae e9.args.length ce] 44)).heap.size ∧ ¬ some k = (Value.slice A j c).ownBlock) := hid fun k hk => ⟨Nat.lt_of_lt_of_le (hSwr k hk) FL.size, fun e => by
            have := (TR.out.own e.symm).1
            have := hSW.out k hk
            omega⟩
          have FQ1 := (FA.out.trans FQ.out (fun i hi h => by
            have h : i = qe := h
            have := hqw.out
            omega)).trans FL (fun _ _ h => h)
          have FX := hid FQ1
          have htl2 : Hid ((T.take j).length = j) := hid (by rw [List.length_take, hTl.out]; omega)
          have htl3 : Hid ((T.take (j + 1)).length = j + 1) := hid (by rw [List.length_take, hTl.out]; omega)
          clear HR2 FL hSQ hSwr FQ1
          go_wp2_with (at_builtin; refine wpList_appC (t := tEd) (base := W.heap.size) (S := S) (xs := T.take j) (ys := [e9]) (dss := [[.int .i64 e9.to, .slice Ae e9.args.length ce]]) (B2 := (wr.alloc (.cells #[.int .i64 e9.to, .slice Ae e9.args.length ce] 44)).heap.size) elEds rfl rfl rfl rfl TR.out HCS.out (by simpa using Rd.blk BL.out BL.out.lt 0 (xs := [.int .i64 e9.to, .slice Ae e9.args.length ce]) (fun i u h => by rw [Nat.zero_add]; simpa using h)) rfl (by rw [htl2.out]; omega) (by rw [htl2.out]; omega) hnt.out FX.out.size ?_; intro v8 wy hr fr1 hv; have FY := hid (own_frame TR.out FX.out fr1 (Nat.le_refl _)); rw [← HTK.out] at hr; obtain ⟨A8, c8, e8, _, _, _⟩ := hr.els (S' := fun _ => True) (fun _ _ => trivial) (fun _ _ => trivial); rw [htl3.out] at e8; subst e8; have RY := hid hr; clear hr fr1 hv)
          clear zc0 zc1
          go_round
          case rel => exact ⟨j + 1, A8, c8, by omega, by go_num, rfl, RY, FY⟩
          case measure => simp [intOf]; omega
    · have hkm : m = j := by omega
      subst hkm
      clear hgo
      have htk : T.take m = T := List.take_of_length_le (by rw [hTl.out]; exact Nat.le_refl _)
      rw [htk] at HR
      go_wp2
      go_ret
      refine ⟨A, c, ?_, ?_, F0.out.trans FR.out (fun _ _ h => h)⟩
      · rw [HM.out]
        first | done | rfl
      · rw [HM.out, hTT.out]
        exact HR.out.more hWs.out (fun _ h => h)
end Go.Proofs.Ytiafkakkbbclhaa
