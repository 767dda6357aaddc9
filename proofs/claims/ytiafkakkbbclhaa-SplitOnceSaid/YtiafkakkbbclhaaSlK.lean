/- Chapter 46: the reference's edges, Critical. -/
import Derived.Test.YtiafkakkbbclhaaSlJ
namespace Go.Proofs.Ytiafkakkbbclhaa
open Go.RowKit

theorem cntP_row {T : List (List Int)} {i : Nat} (t : Int) (hi : i < T.length) : cntP T i (T.getD i []).length t = cntP T (i + 1) 0 t := by
  unfold cntP
  rw [List.take_length, List.take_succ_eq_append_getElem hi, cntT_append, getD_el _ hi]
  simp [cntT]
theorem cntP_all (T : List (List Int)) (t : Int) : cntP T T.length 0 t = cntT T t := by
  unfold cntP
  rw [List.take_length]; simp
set_option maxRecDepth 100000 in
set_option maxHeartbeats 1600000 in
theorem redges_any (P R V B : Option Addr) (np nr nv nb pc rc vc bc : Nat) (bs : List Sb) (S : Nat → Prop) (w : World) (e : Int) (h : tSb.els w S B bs) (hS : ∀ k, S k → k < w.heap.size) (eb : Hid (bs.length = nb)) (hn : nb ≤ 100000) (ht : tot (tosOf bs) ≤ 100000) :
    Calls Try.prog 20 #[.agg #[.slice P np pc, .slice R nr rc, .slice V nv vc, .slice B nb bc], .int .i64 e] w fun r w' => r = .returned (.int .i64 (cntT (tosOf bs) e : Nat)) ∧ Fr No w w' := by
  have F0 := hid ((Fr.refl No w).alloc (.cells #[.slice P np pc, .slice R nr rc, .slice V nv vc, .slice B nb bc] 27))
  have G := hid (Blk.new w 27 #[.slice P np pc, .slice R nr rc, .slice V nv vc, .slice B nb bc])
  have hbl := hid (fun k (hk : S k) => Nat.lt_of_lt_of_le (hS k hk) F0.out.size)
  have HH := hid (h.fr F0.out (fun k hk => ⟨hS k hk, fun x => x⟩))
  generalize hTe : tosOf bs = T at *
  have HTe := hid hTe
  have hlT : T.length = nb := by rw [← hTe, tosOf_len]; exact eb.out
  clear h hS hTe
  go_enter Try.func20, Try.ntmps20
  go_wp2_with fail
  generalize w.alloc (.cells #[.slice P np pc, .slice R nr rc, .slice V nv vc, .slice B nb bc] 27) = W at *
  go_loopw [5, 6] (fun cn i wr => ∃ k : Nat, k ≤ nb ∧ i = .int .i64 k ∧ cn = .int .i64 (cntP T k 0 e : Nat) ∧ Hid (Fr No W wr)) (fun _ i _ => nb - (intOf i).toNat)
  case atStart => exact ⟨0, by omega, rfl, by simp [cntP, cntT], hid (Fr.refl No W)⟩
  case round =>
    obtain ⟨k, hk, rfl, rfl, FR⟩ := hrel
    have y3 := (G.out.fr FR.out (fun x => x)).cell 3
    by_cases hgo : k < nb
    · have hlk : k < bs.length := by have := eb.out; omega
      obtain ⟨b, o, A0, c0, A1, c1, A2, c2, A3, c3, rfl, hb, _, _, _, _, _, y5, _, _, _, _, _, _, _, _, _, _, _, _, _, _, he, _⟩ := Sb_at HH.out k hlk
      have hbb := hbl.out b hb
      replace y5 := (FR.out.cell (p := ⟨b, o + k * 7 + 5, none⟩) hbb (fun x => x)).trans y5
      have HE := hid he
      have htk : T.getD k [] = bs[k].end_.to.map (·.to) := by rw [← HTe.out, tosOf_getD, toOf_el hlk]
      obtain ⟨m, hm⟩ : ∃ m, bs[k].end_.to.length = m := ⟨_, rfl⟩
      have HM := hid hm
      have HT0 := tot_row T k
      rw [htk, List.length_map, hm] at HT0
      have hm5 : m ≤ 100000 := Nat.le_trans HT0 ht
      rw [hm] at y5
      have HTK := hid htk
      generalize bs[k].end_.to = es at *
      have i0 : (0 : Int) ≤ k := by omega
      have i1 : (k : Int) < nb := by omega
      have hrow := cntP_row e (by rw [hlT]; exact hgo : k < T.length)
      rw [htk, List.length_map, hm] at hrow
      have HROW := hid hrow
      clear he htk HT0 hm hrow
      go_wp2_with fail
      clear y3 y5
      go_loopw [5, 8] (fun cn i wr => ∃ j : Nat, j ≤ m ∧ i = .int .i64 j ∧ cn = .int .i64 (cntP T k j e : Nat) ∧ Hid (Fr No W wr)) (fun _ i _ => m - (intOf i).toNat)
      case atStart => exact ⟨0, by omega, rfl, rfl, FR⟩
      case round =>
        clear FR
        obtain ⟨j, hj, rfl, rfl, FR⟩ := hrel
        by_cases hgj : j < m
        · have hlj : j < es.length := by have := HM.out; omega
          obtain ⟨b', o', A', c', rfl, hb', z0, _⟩ := Ed_at HE.out j hlj
          have hbb' := hbl.out b' hb'
          replace z0 := (FR.out.cell (p := ⟨b', o' + j * 2, none⟩) hbb' (fun x => x)).trans z0
          have hcs := cntP_succ (T := T) (i := k) (k := j) e (by rw [HTK.out, List.length_map]; exact hlj)
          rw [HTK.out, to_getD, getD_el _ hlj] at hcs
          have HCS := hid hcs
          have hcb := cntP_le T k j e
          have hwc : IntKind.i64.wrap ((cntP T k j e : Int) + 1) = (cntP T k j e : Int) + 1 := by rw [IntKind.wrap_i64]; omega
          generalize es[j].to = u at *
          have j0 : (0 : Int) ≤ j := by omega
          have j1 : (j : Int) < m := by omega
          generalize cntP T k j e = cc at *
          clear hcs
          by_cases hue : u = e
          · subst hue
            rw [if_pos rfl] at HCS
            go_wp2_with fail
            go_round
            case rel => exact ⟨j + 1, by omega, by go_num, by rw [HCS.out]; rfl, FR⟩
            case measure => simp [intOf]; omega
          · rw [if_neg hue] at HCS
            have kb : (u == e) = false := by simpa using hue
            clear hue
            go_wp2_with fail
            go_round
            case rel => exact ⟨j + 1, by omega, by go_num, by rw [HCS.out]; rfl, FR⟩
            case measure => simp [intOf]; omega
        · have hjm : m = j := by omega
          subst hjm
          clear hgj
          rw [HROW.out]
          go_wp2_with fail
          go_round
          case rel => exact ⟨k + 1, by omega, by go_num, rfl, FR⟩
          case measure => simp [intOf]; omega
    · have hkn : nb = k := by omega
      subst hkn
      clear hgo
      go_wp2
      go_ret
      refine ⟨?_, F0.out.trans FR.out (fun _ _ h => h)⟩
      have := cntP_all T e
      rw [hlT] at this
      rw [this]
      first | done | rfl
set_option maxRecDepth 100000 in
set_option maxHeartbeats 6400000 in
theorem rcrit_any (P R V B : Option Addr) (np nr nv nb pc rc vc bc : Nat) (bs : List Sb) (S : Nat → Prop) (w : World) (h : tSb.els w S B bs) (hS : ∀ k, S k → k < w.heap.size) (eb : Hid (bs.length = nb)) (hn : nb ≤ 100000) (ht : tot (tosOf bs) ≤ 100000) :
    Calls Try.prog 10 #[.agg #[.slice P np pc, .slice R nr rc, .slice V nv vc, .slice B nb bc]] w (CritTo (tosOf bs) w) := by
  have F0 := hid ((Fr.refl No w).alloc (.cells #[.slice P np pc, .slice R nr rc, .slice V nv vc, .slice B nb bc] 27))
  have G := hid (Blk.new w 27 #[.slice P np pc, .slice R nr rc, .slice V nv vc, .slice B nb bc])
  have hbl := hid (fun k (hk : S k) => Nat.lt_of_lt_of_le (hS k hk) F0.out.size)
  have HH := hid (h.fr F0.out (fun k hk => ⟨hS k hk, fun x => x⟩))
  generalize hTe : tosOf bs = T at *
  have HTe := hid hTe
  have hlT : T.length = nb := by rw [← hTe, tosOf_len]; exact eb.out
  have hsz := hid F0.out.size
  clear h hS hTe
  go_enter Try.func10, Try.ntmps10
  go_wp2_with fail
  generalize w.alloc (.cells #[.slice P np pc, .slice R nr rc, .slice V nv vc, .slice B nb bc] 27) = W at *
  go_loopw [3, 4] (fun v i wr => ∃ (k : Nat) (A : Option Addr) (c : Nat), k ≤ nb ∧ i = .int .i64 k ∧ v = .slice A (critR T k).length c ∧ Hid (tPr.row wr W.heap.size Emp 50 (.slice A (critR T k).length c) (critR T k)) ∧ Hid (Fr No W wr)) (fun _ i _ => nb - (intOf i).toNat)
  case atStart => exact ⟨0, none, 0, by omega, rfl, rfl, hid (Ty.row.nil _ _ _ _), hid (Fr.refl No W)⟩
  case round =>
    obtain ⟨k, A, c, hk, rfl, rfl, HR, FR⟩ := hrel
    have y3 := (G.out.fr FR.out (fun x => x)).cell 3
    by_cases hgo : k < nb
    · have hlk : k < bs.length := by have := eb.out; omega
      obtain ⟨b, o, A0, c0, A1, c1, A2, c2, A3, c3, rfl, hb, _, _, _, _, _, y5, _, _, _, _, _, _, _, _, _, _, _, _, _, _, he, _⟩ := Sb_at HH.out k hlk
      have hbb := hbl.out b hb
      replace y5 := (FR.out.cell (p := ⟨b, o + k * 7 + 5, none⟩) hbb (fun x => x)).trans y5
      have HE := hid he
      have htk : T.getD k [] = bs[k].end_.to.map (·.to) := by rw [← HTe.out, tosOf_getD, toOf_el hlk]
      obtain ⟨m, hm⟩ : ∃ m, bs[k].end_.to.length = m := ⟨_, rfl⟩
      have HM := hid hm
      have HT0 := tot_row T k
      rw [htk, List.length_map, hm] at HT0
      have hm5 : m ≤ 100000 := Nat.le_trans HT0 ht
      rw [hm] at y5
      have HTK := hid htk
      generalize bs[k].end_.to = es at *
      have i0 : (0 : Int) ≤ k := by omega
      have i1 : (k : Int) < nb := by omega
      have HREAL := hid (fun (u : Int) (Au : Option Addr) (n2 cu : Nat) X => real_any P R V (some ⟨b, o, none⟩) np nr nv nb pc rc vc bc u Au n2 cu X)
      have HOUTS := hid (fun X (f : Fr No W X) => outs_any P R V (some ⟨b, o, none⟩) np nr nv nb pc rc vc bc bs S X k (HH.out.fr f (fun k hk => ⟨hbl.out k hk, fun x => x⟩)) (fun k hk => Nat.lt_of_lt_of_le (hbl.out k hk) f.size) eb hn (by rw [HTe.out]; exact ht) hgo)
      have HEDG := hid (fun (u : Int) X (f : Fr No W X) => redges_any P R V (some ⟨b, o, none⟩) np nr nv nb pc rc vc bc bs S X u (HH.out.fr f (fun k hk => ⟨hbl.out k hk, fun x => x⟩)) (fun k hk => Nat.lt_of_lt_of_le (hbl.out k hk) f.size) eb hn (by rw [HTe.out]; exact ht))
      rw [HTe.out] at HOUTS HEDG
      have hctot : (critR T k).length ≤ 100000 := Nat.le_trans (critR_tot T k) ht
      have HS := hid (fun j => rowD_succ T k j)
      have hrl : ∀ j, (rowD T k j).length ≤ j := fun j => by
        unfold rowD; split
        · exact rowC_len ..
        · simp
      have HRL := hid hrl
      have HNX : Hid (critR T (k + 1) = critR T k ++ rowD T k m) := hid (by show critR T k ++ rowD T k (T.getD k []).length = _; rw [htk, List.length_map, hm])
      have hol : outsR nb (T.getD k []) ≤ 100000 := by
        rw [htk]
        have := outsR_le nb (es.map (·.to)) m
        rw [List.take_of_length_le (by rw [List.length_map, hm]; exact Nat.le_refl _)] at this
        omega
      clear he htk HT0 hm hrl
      go_wp2_with fail
      clear y3 y5
      go_loopw [3, 6] (fun v i wr => ∃ (j : Nat) (A : Option Addr) (c : Nat), j ≤ m ∧ i = .int .i64 j ∧ v = .slice A (critR T k ++ rowD T k j).length c ∧ Hid (tPr.row wr W.heap.size Emp 50 (.slice A (critR T k ++ rowD T k j).length c) (critR T k ++ rowD T k j)) ∧ Hid (Fr No W wr)) (fun _ i _ => m - (intOf i).toNat)
      case atStart =>
        have h0 : critR T k ++ rowD T k 0 = critR T k := by
          have : rowD T k 0 = [] := by unfold rowD rowC; split <;> simp
          rw [this, List.append_nil]
        exact ⟨0, A, c, by omega, rfl, by rw [h0], by rw [h0]; exact HR, FR⟩
      case round =>
        clear HR FR
        obtain ⟨j, A, c, hj, rfl, rfl, HR, FR⟩ := hrel
        by_cases hgj : j < m
        · have hlj : j < es.length := by have := HM.out; omega
          obtain ⟨b', o', A', c', rfl, hb', z0, z1, hwf, _⟩ := Ed_at HE.out j hlj
          have hbb' := hbl.out b' hb'
          have hsj := HS.out j
          have hrlj := HRL.out j
          have hpk : pk T (T.getD k []) j = (isReal nb es[j].to && decide (2 ≤ cntT T es[j].to)) := by unfold pk; rw [HTK.out, to_getD, getD_el _ hlj, hlT]
          rw [hpk, hlT] at hsj
          have hsj2 : critR T k ++ rowD T k (j + 1) = (critR T k ++ rowD T k j) ++ if 2 ≤ outsR nb (T.getD k []) ∧ (isReal nb es[j].to && decide (2 ≤ cntT T es[j].to)) = true then [(k, j)] else [] := by rw [hsj, List.append_assoc]
          have HSJ := hid hsj2
          have hrl2 : (critR T k ++ rowD T k j).length ≤ 200000 := by rw [List.length_append]; omega
          generalize critR T k ++ rowD T k j = rl at *
          have HXR : Hid (∀ X, Fr No wr X → X.cell? ⟨w.heap.size, 0, none⟩ = some (.slice P np pc) ∧ X.cell? ⟨w.heap.size, 1, none⟩ = some (.slice R nr rc) ∧ X.cell? ⟨w.heap.size, 2, none⟩ = some (.slice V nv vc) ∧ X.cell? ⟨w.heap.size, 3, none⟩ = some (.slice (some ⟨b, o, none⟩) nb bc) ∧ X.cell? ⟨b', o' + j * 2, none⟩ = some (.int .i64 es[j].to) ∧ X.cell? ⟨b', o' + j * 2 + 1, none⟩ = some (.slice A' es[j].args.length c')) := hid fun X f => by
            have g := FR.out.trans f (fun _ _ h => h)
            have gg := G.out.fr g (fun x => x)
            exact ⟨gg.cell 0, gg.cell 1, gg.cell 2, gg.cell 3, (g.cell (p := ⟨b', o' + j * 2, none⟩) hbb' (fun x => x)).trans z0, (g.cell (p := ⟨b', o' + j * 2 + 1, none⟩) hbb' (fun x => x)).trans z1⟩
          have HEU := hid (HEDG.out es[j].to)
          have hcle := cntT_le T es[j].to
          have HRU := hid (HREAL.out es[j].to)
          generalize es[j].to = e at *
          generalize es[j].args.length = n2 at *
          generalize outsR nb (T.getD k []) = oc at *
          generalize cntT T e = cc at *
          have j0 : (0 : Int) ≤ j := by omega
          have j1 : (j : Int) < m := by omega
          clear z0 z1 hpk hsj hsj2 hwf
          go_wp2_with fail
          refine wp_region_ort (Fr No wr) (.rd 0 (.rd 1 (.rd 2 (.rd 3 (.rd 4 (.eff 5 (.rd 6 (.rd 7 (.rd 8 (.eff 9 (.rd 10 (.rd 11 (.rd 12 (.rd 13 (.rd 14 (.rd 15 (.rd 16 (.rd 17 (.rd 18 (.eff 19 (.rd 20 (.rd 21 .nil)))))))))))))))))))))) (by kernel_rfl) (by kernel_rfl) (by kernel_rfl) rfl (Fr.refl _ wr).drew ?_
          repeat (first
            | (refine wpT_skip rfl rfl ?_; simp only [List.getElem_toArray, List.getElem_cons_succ, List.getElem_cons_zero, Act.put, List.setIfInBounds_toArray, List.set_cons_zero, List.set_cons_succ])
            | (refine wpT_call rfl rfl ?_; simp only [List.getElem_toArray, List.getElem_cons_succ, List.getElem_cons_zero]; apply Exists.intro; refine ⟨fun X hX => ?_, ?_⟩
               · (obtain ⟨s0, s1, s2, s3, s4, s5⟩ := HXR.out X hX; go_simp; exact stillUpon_value)
               simp only [Act.put, List.setIfInBounds_toArray, List.set_cons_zero, List.set_cons_succ]))
          refine wpT_eff rfl rfl (fun K hK => ?_)
          simp only [List.getElem_toArray, List.getElem_cons_succ, List.getElem_cons_zero]
          go_simp
          refine (HRU.out A' n2 c' _).mono ?_
          rintro r w5 ⟨rfl, f⟩
          have F5 := hid ((Fr.refl No wr).drew.trans f (fun _ _ h => h))
          clear f
          refine hK _ _ (F5.out) ?_
          clear hK K
          cases hre : isReal nb e with
          | false =>
            rw [hre] at HSJ
            simp only [Bool.false_and, Bool.false_eq_true, and_false, if_false, List.append_nil] at HSJ
            clear hre
            repeat (first
              | (refine wpT_skip rfl rfl ?_; simp only [List.getElem_toArray, List.getElem_cons_succ, List.getElem_cons_zero, Act.put, List.setIfInBounds_toArray, List.set_cons_zero, List.set_cons_succ])
              | (refine wpT_call rfl rfl ?_; simp only [List.getElem_toArray, List.getElem_cons_succ, List.getElem_cons_zero]; apply Exists.intro; refine ⟨fun X hX => ?_, ?_⟩
                 · (obtain ⟨s0, s1, s2, s3, s4, s5⟩ := HXR.out X hX; go_simp; exact stillUpon_value)
                 simp only [Act.put, List.setIfInBounds_toArray, List.set_cons_zero, List.set_cons_succ]))
            refine wpT_skipE rfl rfl F5.out ?_
            simp only [List.getElem_toArray, List.getElem_cons_succ, List.getElem_cons_zero, Act.put, List.setIfInBounds_toArray, List.set_cons_zero, List.set_cons_succ]
            repeat (first
              | (refine wpT_skip rfl rfl ?_; simp only [List.getElem_toArray, List.getElem_cons_succ, List.getElem_cons_zero, Act.put, List.setIfInBounds_toArray, List.set_cons_zero, List.set_cons_succ])
              | (refine wpT_call rfl rfl ?_; simp only [List.getElem_toArray, List.getElem_cons_succ, List.getElem_cons_zero]; apply Exists.intro; refine ⟨fun X hX => ?_, ?_⟩
                 · (obtain ⟨s0, s1, s2, s3, s4, s5⟩ := HXR.out X hX; go_simp; exact stillUpon_value)
                 simp only [Act.put, List.setIfInBounds_toArray, List.set_cons_zero, List.set_cons_succ]))
            refine wpT_skipE rfl rfl F5.out ?_
            simp only [List.getElem_toArray, List.getElem_cons_succ, List.getElem_cons_zero, Act.put, List.setIfInBounds_toArray, List.set_cons_zero, List.set_cons_succ]
            repeat (first
              | (refine wpT_skip rfl rfl ?_; simp only [List.getElem_toArray, List.getElem_cons_succ, List.getElem_cons_zero, Act.put, List.setIfInBounds_toArray, List.set_cons_zero, List.set_cons_succ])
              | (refine wpT_call rfl rfl ?_; simp only [List.getElem_toArray, List.getElem_cons_succ, List.getElem_cons_zero]; apply Exists.intro; refine ⟨fun X hX => ?_, ?_⟩
                 · (obtain ⟨s0, s1, s2, s3, s4, s5⟩ := HXR.out X hX; go_simp; exact stillUpon_value)
                 simp only [Act.put, List.setIfInBounds_toArray, List.set_cons_zero, List.set_cons_succ]))
            refine wpT_nil ?_
            have FX := hid (FR.out.trans F5.out (fun _ _ h => h))
            have HRX := hid (HR.out.fr F5.out (fun _ h => h.elim) (fun _ _ h => h))
            clear HXR F5
            go_wp2_with fail
            go_round
            case rel => exact ⟨j + 1, A, c, by omega, by go_num, by rw [HSJ.out], by rw [HSJ.out]; exact HRX, FX⟩
            case measure => simp [intOf]; omega
          | true =>
            rw [hre] at HSJ
            simp only [Bool.true_and] at HSJ
            clear hre
            repeat (first
              | (refine wpT_skip rfl rfl ?_; simp only [List.getElem_toArray, List.getElem_cons_succ, List.getElem_cons_zero, Act.put, List.setIfInBounds_toArray, List.set_cons_zero, List.set_cons_succ])
              | (refine wpT_call rfl rfl ?_; simp only [List.getElem_toArray, List.getElem_cons_succ, List.getElem_cons_zero]; apply Exists.intro; refine ⟨fun X hX => ?_, ?_⟩
                 · (obtain ⟨s0, s1, s2, s3, s4, s5⟩ := HXR.out X hX; go_simp; exact stillUpon_value)
                 simp only [Act.put, List.setIfInBounds_toArray, List.set_cons_zero, List.set_cons_succ]))
            refine wpT_eff rfl rfl (fun K hK => ?_)
            simp only [List.getElem_toArray, List.getElem_cons_succ, List.getElem_cons_zero]
            go_simp
            refine (HOUTS.out _ (FR.out.trans F5.out (fun _ _ h => h))).mono ?_
            rintro r w6 ⟨rfl, f⟩
            have F6 := hid (F5.out.trans f (fun _ _ h => h))
            clear f F5
            refine hK _ _ (F6.out) ?_
            clear hK K
            by_cases hoc : 2 ≤ oc
            · have do_ : decide ((2 : Int) ≤ oc) = true := decide_eq_true (by omega)
              simp only [hoc, true_and] at HSJ
              clear hoc
              repeat (first
                | (refine wpT_skip rfl rfl ?_; simp only [List.getElem_toArray, List.getElem_cons_succ, List.getElem_cons_zero, Act.put, List.setIfInBounds_toArray, List.set_cons_zero, List.set_cons_succ])
                | (refine wpT_call rfl rfl ?_; simp only [List.getElem_toArray, List.getElem_cons_succ, List.getElem_cons_zero]; apply Exists.intro; refine ⟨fun X hX => ?_, ?_⟩
                   · (obtain ⟨s0, s1, s2, s3, s4, s5⟩ := HXR.out X hX; go_simp; exact stillUpon_value)
                   simp only [Act.put, List.setIfInBounds_toArray, List.set_cons_zero, List.set_cons_succ]))
              refine wpT_eff rfl rfl (fun K hK => ?_)
              simp only [List.getElem_toArray, List.getElem_cons_succ, List.getElem_cons_zero]
              go_simp
              refine (HEU.out _ (FR.out.trans F6.out (fun _ _ h => h))).mono ?_
              rintro r w7 ⟨rfl, f⟩
              have F7 := hid (F6.out.trans f (fun _ _ h => h))
              clear f F6
              refine hK _ _ (F7.out) ?_
              clear hK K
              have FX := hid (FR.out.trans F7.out (fun _ _ h => h))
              have HRX := hid (HR.out.fr F7.out (fun _ h => h.elim) (fun _ _ h => h))
              by_cases hcc : 2 ≤ cc
              · have dc : decide ((2 : Int) ≤ cc) = true := decide_eq_true (by omega)
                simp only [hcc, decide_true, if_true] at HSJ
                clear hcc
                repeat (first
                  | (refine wpT_skip rfl rfl ?_; simp only [List.getElem_toArray, List.getElem_cons_succ, List.getElem_cons_zero, Act.put, List.setIfInBounds_toArray, List.set_cons_zero, List.set_cons_succ])
                  | (refine wpT_call rfl rfl ?_; simp only [List.getElem_toArray, List.getElem_cons_succ, List.getElem_cons_zero]; apply Exists.intro; refine ⟨fun X hX => ?_, ?_⟩
                     · (obtain ⟨s0, s1, s2, s3, s4, s5⟩ := HXR.out X hX; go_simp; exact stillUpon_value)
                     simp only [Act.put, List.setIfInBounds_toArray, List.set_cons_zero, List.set_cons_succ]))
                refine wpT_nil ?_
                have FL := (Fr.refl No w7).alloc (.cells #[.int .i64 k, .int .i64 j] 50)
                have FRL := hid (FX.out.trans FL (fun _ _ h => h))
                have RL := hid (HRX.out.fr FL (fun _ h => h.elim) (fun _ _ h => h))
                have BL := hid (Blk.new w7 50 #[.int .i64 k, .int .i64 j])
                clear FL HXR F7
                go_wp2_with (at_builtin; refine wpList_appC (t := tPr) (base := W.heap.size) (S := Emp) (xs := rl) (ys := [(k, j)]) (dss := [[.int .i64 k, .int .i64 j]]) (B2 := (w7.alloc (.cells #[.int .i64 k, .int .i64 j] 50)).heap.size) elPrs rfl rfl rfl rfl RL.out (Css.one (tPr_rd (by omega) (by omega))) (by simpa using Rd.blk BL.out BL.out.lt 0 (xs := [.int .i64 k, .int .i64 j]) (fun i u h => by rw [Nat.zero_add]; simpa using h)) rfl (by omega) (by omega) (fun _ h => h.elim) FRL.out.size ?_; intro v8 wy hr fr1 hv; have FY := hid (own_frame RL.out FRL.out fr1 (Nat.le_refl _)); have RY := hid hr; clear hr fr1 hv)
                obtain ⟨A8, c8, e8, _, _, _⟩ := RY.out.els (S' := fun _ => True) (fun _ _ => trivial) (fun _ _ => trivial)
                subst e8
                rw [← HSJ.out] at RY ⊢
                clear RL BL FRL HRX FX
                go_wp2_with fail
                go_round
                case rel => exact ⟨j + 1, A8, c8, by omega, by go_num, rfl, RY, FY⟩
                case measure => simp [intOf]; omega
              · have dc : decide ((2 : Int) ≤ cc) = false := decide_eq_false (by omega)
                simp only [hcc, decide_false, Bool.false_eq_true, if_false, List.append_nil] at HSJ
                clear hcc
                repeat (first
                  | (refine wpT_skip rfl rfl ?_; simp only [List.getElem_toArray, List.getElem_cons_succ, List.getElem_cons_zero, Act.put, List.setIfInBounds_toArray, List.set_cons_zero, List.set_cons_succ])
                  | (refine wpT_call rfl rfl ?_; simp only [List.getElem_toArray, List.getElem_cons_succ, List.getElem_cons_zero]; apply Exists.intro; refine ⟨fun X hX => ?_, ?_⟩
                     · (obtain ⟨s0, s1, s2, s3, s4, s5⟩ := HXR.out X hX; go_simp; exact stillUpon_value)
                     simp only [Act.put, List.setIfInBounds_toArray, List.set_cons_zero, List.set_cons_succ]))
                refine wpT_nil ?_
                clear HXR F7
                go_wp2_with fail
                go_round
                case rel => exact ⟨j + 1, A, c, by omega, by go_num, by rw [HSJ.out], by rw [HSJ.out]; exact HRX, FX⟩
                case measure => simp [intOf]; omega
            · have do_ : decide ((2 : Int) ≤ oc) = false := decide_eq_false (by omega)
              simp only [hoc, false_and, if_false, List.append_nil] at HSJ
              clear hoc
              repeat (first
                | (refine wpT_skip rfl rfl ?_; simp only [List.getElem_toArray, List.getElem_cons_succ, List.getElem_cons_zero, Act.put, List.setIfInBounds_toArray, List.set_cons_zero, List.set_cons_succ])
                | (refine wpT_call rfl rfl ?_; simp only [List.getElem_toArray, List.getElem_cons_succ, List.getElem_cons_zero]; apply Exists.intro; refine ⟨fun X hX => ?_, ?_⟩
                   · (obtain ⟨s0, s1, s2, s3, s4, s5⟩ := HXR.out X hX; go_simp; exact stillUpon_value)
                   simp only [Act.put, List.setIfInBounds_toArray, List.set_cons_zero, List.set_cons_succ]))
              refine wpT_skipE rfl rfl F6.out ?_
              simp only [List.getElem_toArray, List.getElem_cons_succ, List.getElem_cons_zero, Act.put, List.setIfInBounds_toArray, List.set_cons_zero, List.set_cons_succ]
              repeat (first
                | (refine wpT_skip rfl rfl ?_; simp only [List.getElem_toArray, List.getElem_cons_succ, List.getElem_cons_zero, Act.put, List.setIfInBounds_toArray, List.set_cons_zero, List.set_cons_succ])
                | (refine wpT_call rfl rfl ?_; simp only [List.getElem_toArray, List.getElem_cons_succ, List.getElem_cons_zero]; apply Exists.intro; refine ⟨fun X hX => ?_, ?_⟩
                   · (obtain ⟨s0, s1, s2, s3, s4, s5⟩ := HXR.out X hX; go_simp; exact stillUpon_value)
                   simp only [Act.put, List.setIfInBounds_toArray, List.set_cons_zero, List.set_cons_succ]))
              refine wpT_nil ?_
              have FX := hid (FR.out.trans F6.out (fun _ _ h => h))
              have HRX := hid (HR.out.fr F6.out (fun _ h => h.elim) (fun _ _ h => h))
              clear HXR F6
              go_wp2_with fail
              go_round
              case rel => exact ⟨j + 1, A, c, by omega, by go_num, by rw [HSJ.out], by rw [HSJ.out]; exact HRX, FX⟩
              case measure => simp [intOf]; omega
        · have hjm : m = j := by omega
          subst hjm
          clear hgj
          rw [← HNX.out] at HR ⊢
          go_wp2_with fail
          go_round
          case rel => exact ⟨k + 1, A, c, by omega, by go_num, rfl, HR, FR⟩
          case measure => simp [intOf]; omega
    · have hkn : nb = k := by omega
      subst hkn
      clear hgo
      go_wp2
      go_ret
      refine ⟨A, c, ?_, ?_, F0.out.trans FR.out (fun _ _ h => h)⟩
      · unfold crit
        rw [hlT]
        first | done | rfl
      · unfold crit
        rw [hlT]
        exact HR.out.more hsz.out (fun _ h => h)
end Go.Proofs.Ytiafkakkbbclhaa
