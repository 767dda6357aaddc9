/- Chapter 46: Critical. -/
import Derived.Test.YtiafkakkbbclhaaSlH
namespace Go.Proofs.Ytiafkakkbbclhaa
open Go.RowKit

/-- The place of an edge: a block and an edge of it. -/
def tPr : Ty (Nat × Nat) := (tI.pair tI).iso fun p => ((p.1 : Int), (p.2 : Int))
instance : TyOk tPr := by unfold tPr; infer_instance
instance : TyMore tPr := by unfold tPr; infer_instance
instance : TyOne tPr := by unfold tPr; infer_instance
instance : TyFlat tPr := by unfold tPr; infer_instance
theorem tPr_rd {w : World} {S : Nat → Prop} {a b : Nat} (h1 : a ≤ 1000000) (h2 : b ≤ 1000000) : tPr.rd w S [.int .i64 a, .int .i64 b] (a, b) :=
  ⟨[.int .i64 a], [.int .i64 b], rfl, ⟨rfl, wf_bool64 (by simp only; omega)⟩, ⟨rfl, wf_bool64 (by simp only; omega)⟩⟩
theorem elPrs : ElemOk Try.prog 31 50 2 16 (.agg #[.int .i64 0, .int .i64 0]) := ElemOk.mk' Try.underlying31 (by kernel_rfl) rfl (by decide)
def CritTo (T : List (List Int)) (w : World) (e : Ending) (w' : World) : Prop :=
  ∃ (A : Option Addr) (c : Nat), e = .returned (.slice A (crit T).length c) ∧ tPr.row w' w.heap.size Emp 50 (.slice A (crit T).length c) (crit T) ∧ Fr No w w'
theorem rowC_len (T : List (List Int)) (b : Nat) (l : List Int) (k : Nat) : (rowC T b l k).length ≤ k := by
  unfold rowC
  rw [List.length_map]
  exact Nat.le_trans (List.length_filter_le ..) (by simp)
theorem outsR_succ {n : Nat} {l : List Int} {k : Nat} (hk : k < l.length) : outsR n (l.take (k + 1)) = outsR n (l.take k) + if isReal n l[k] = true then 1 else 0 := by
  unfold outsR
  rw [List.take_succ_eq_append_getElem hk, List.countP_append]
  simp [List.countP_cons]
theorem outsR_le (n : Nat) (l : List Int) (k : Nat) : outsR n (l.take k) ≤ k := by
  unfold outsR
  have := List.countP_le_length (p := isReal n) (l := l.take k)
  rw [List.length_take] at this
  omega
theorem critR_tot (T : List (List Int)) (b : Nat) : (critR T b).length ≤ tot T := Nat.le_trans (critR_len T b) (by unfold tot; rw [List.map_take]; exact sum_take_le _ _)
set_option maxRecDepth 100000 in
set_option maxHeartbeats 6400000 in
theorem crit_any (P R V B : Option Addr) (np nr nv nb pc rc vc bc : Nat) (bs : List Sb) (S : Nat → Prop) (w : World) (h : tSb.els w S B bs) (hS : ∀ k, S k → k < w.heap.size) (eb : Hid (bs.length = nb)) (hn : nb ≤ 100000) (ht : tot (tosOf bs) ≤ 100000) :
    Calls Try.prog 9 #[.agg #[.slice P np pc, .slice R nr rc, .slice V nv vc, .slice B nb bc]] w (CritTo (tosOf bs) w) := by
  have F0 := hid ((Fr.refl No w).alloc (.cells #[.slice P np pc, .slice R nr rc, .slice V nv vc, .slice B nb bc] 27))
  have G := hid (Blk.new w 27 #[.slice P np pc, .slice R nr rc, .slice V nv vc, .slice B nb bc])
  have HH := hid h
  have hbl := hid hS
  have HTO := hid (to_any P R V B np nr nv nb pc rc vc bc bs S (w.alloc (.cells #[.slice P np pc, .slice R nr rc, .slice V nv vc, .slice B nb bc] 27)) (h.fr F0.out (fun k hk => ⟨hS k hk, fun x => x⟩)) (fun k hk => Nat.lt_of_lt_of_le (hS k hk) F0.out.size) eb hn ht)
  clear h hS
  generalize hTe : tosOf bs = T at *
  have HTe := hid hTe
  clear hTe
  go_enter Try.func9, Try.ntmps9
  go_wp2_with fail
  refine HTO.out.mono ?_
  clear HTO
  rintro e w1 ⟨q, rfl, hq, hown, f⟩
  have hlT : T.length = nb := by rw [← HTe.out, tosOf_len]; exact eb.out
  rw [hlT] at hown ⊢
  have HQ := hid (hown.fr ((Fr.refl No w1).alloc (.cells #[.slice (some ⟨q, 0, none⟩) nb nb] 35)) (fun x => x))
  have HV := hid (Blk.new w1 35 #[.slice (some ⟨q, 0, none⟩) nb nb])
  have F1 := hid ((F0.out.trans f (fun _ _ h => h)).alloc (.cells #[.slice (some ⟨q, 0, none⟩) nb nb] 35))
  have y3 := ((G.out.fr f (fun x => x)).alloc (.cells #[.slice (some ⟨q, 0, none⟩) nb nb] 35)).cell 3
  have hqm := hid (show w.heap.size ≤ w1.heap.size from Nat.le_trans F0.out.size f.size)
  clear f hown G hq
  go_wp2_with fail
  generalize w1.alloc (.cells #[.slice (some ⟨q, 0, none⟩) nb nb] 35) = W at *
  generalize w1.heap.size = qm at *
  clear y3
  go_loopw [4, 16] (fun v i wr => ∃ (k : Nat) (A : Option Addr) (c : Nat), k ≤ nb ∧ i = .int .i64 k ∧ v = .slice A (critR T k).length c ∧ Hid (tPr.row wr w.heap.size Emp 50 (.slice A (critR T k).length c) (critR T k)) ∧ Hid (Own wr q 3 nb (vi (cl T nb nb 0))) ∧ Hid (Blk wr qm 35 #[.slice (some ⟨q, 0, none⟩) nb nb]) ∧ Hid (Fr No w wr)) (fun _ i _ => nb - (intOf i).toNat)
  case atStart => exact ⟨0, none, 0, by omega, rfl, rfl, hid (Ty.row.nil _ _ _ _), HQ, HV, F1⟩
  case round =>
    clear HQ HV F1 F0
    obtain ⟨k, A, c, hk, rfl, rfl, HR, HQ, HV, FR⟩ := hrel
    by_cases hgo : k < nb
    · have hlk : k < bs.length := by have := eb.out; omega
      obtain ⟨b, o, A0, c0, A1, c1, A2, c2, A3, c3, rfl, hb, y0, y1, y2, y3, y4, y5, y6, _, _, _, _, _, _, _, _, _, _, _, _, _, he, _⟩ := Sb_at HH.out k hlk
      have hbb := hbl.out b hb
      replace y0 := (FR.out.cell (p := ⟨b, o + k * 7, none⟩) hbb (fun x => x)).trans y0
      replace y1 := (FR.out.cell (p := ⟨b, o + k * 7 + 1, none⟩) hbb (fun x => x)).trans y1
      replace y2 := (FR.out.cell (p := ⟨b, o + k * 7 + 2, none⟩) hbb (fun x => x)).trans y2
      replace y3 := (FR.out.cell (p := ⟨b, o + k * 7 + 3, none⟩) hbb (fun x => x)).trans y3
      replace y4 := (FR.out.cell (p := ⟨b, o + k * 7 + 4, none⟩) hbb (fun x => x)).trans y4
      replace y5 := (FR.out.cell (p := ⟨b, o + k * 7 + 5, none⟩) hbb (fun x => x)).trans y5
      replace y6 := (FR.out.cell (p := ⟨b, o + k * 7 + 6, none⟩) hbb (fun x => x)).trans y6
      have hto : Hid (T.getD k [] = bs[k].end_.to.map (·.to)) := hid (by rw [← HTe.out, tosOf_getD, toOf_el hlk])
      obtain ⟨m, hm⟩ : ∃ m, bs[k].end_.to.length = m := ⟨_, rfl⟩
      have HM := hid hm
      have HT0 := hid (tot_row T k)
      rw [hto.out, List.length_map, hm] at HT0
      have hm5 : m ≤ 100000 := Nat.le_trans HT0.out ht
      rw [hm] at y5
      have FB := (Fr.refl No wr).alloc (.cells #[.slice A0 bs[k].params.length c0, .slice A1 bs[k].ins.length c1, .int .i64 bs[k].end_.kind, .int .i64 bs[k].end_.cond, .slice A2 bs[k].end_.args.length c2, .slice A3 m c3, .int .i64 bs[k].end_.trap] 42)
      have FA := hid (FR.out.trans FB (fun _ _ h => h))
      have HQA := hid (HQ.out.fr FB (fun x => x))
      have HVA := hid (HV.out.fr FB (fun x => x))
      have HRA := hid (HR.out.fr FB (fun _ h => h.elim) (fun _ _ h => h))
      have HBV := hid (Blk.new wr 42 #[.slice A0 bs[k].params.length c0, .slice A1 bs[k].ins.length c1, .int .i64 bs[k].end_.kind, .int .i64 bs[k].end_.cond, .slice A2 bs[k].end_.args.length c2, .slice A3 m c3, .int .i64 bs[k].end_.trap])
      have HE := hid (he.fr FR.out (fun k hk => ⟨hbl.out k hk, fun x => x⟩))
      have HE := hid (HE.out.fr FB (fun k hk => ⟨Nat.lt_of_lt_of_le (hbl.out k hk) FR.out.size, fun x => x⟩))
      have i0 : (0 : Int) ≤ k := by omega
      have i1 : (k : Int) < nb := by omega
      clear he FB
      go_wp2_with fail
      have hbz : Hid (w.heap.size ≤ wr.heap.size) := hid FR.out.size
      generalize wr.alloc (.cells #[.slice A0 bs[k].params.length c0, .slice A1 bs[k].ins.length c1, .int .i64 bs[k].end_.kind, .int .i64 bs[k].end_.cond, .slice A2 bs[k].end_.args.length c2, .slice A3 m c3, .int .i64 bs[k].end_.trap] 42) = W1 at *
      obtain ⟨qb, hqb⟩ : ∃ qb, wr.heap.size = qb := ⟨_, rfl⟩
      rw [hqb] at HBV ⊢
      clear hqb hbz
      generalize bs[k].end_.to = es at *
      clear y0 y1 y2 y3 y4 y5 y6 HQ FR HV HR
      have hl1 : T.length = nb := hlT
      have htk := hid hto.out
      have hW1 : Hid (w.heap.size ≤ W1.heap.size) := hid FA.out.size
      go_loopw [7, 9, 26] (fun v cn i wr => ∃ (j : Nat) (A7 : Option Addr) (c7 : Nat), j ≤ m ∧ i = .int .i64 j ∧ cn = .int .i64 (outsR nb ((es.map (·.to)).take j) : Nat) ∧ v = .slice A7 (rowC T k (es.map (·.to)) j).length c7 ∧ Hid (tPr.row wr W1.heap.size Emp 50 (.slice A7 (rowC T k (es.map (·.to)) j).length c7) (rowC T k (es.map (·.to)) j)) ∧ Hid (Fr No W1 wr)) (fun _ _ i _ => m - (intOf i).toNat)
      case atStart => exact ⟨0, none, 0, by omega, rfl, rfl, rfl, hid (Ty.row.nil _ _ _ _), hid (Fr.refl No W1)⟩
      case round =>
        obtain ⟨j, A7, c7, hj, rfl, rfl, rfl, HR7, FR⟩ := hrel
        by_cases hgj : j < m
        · have hlj : j < es.length := by have := HM.out; omega
          have hbb1 := fun k (hk : S k) => Nat.lt_of_lt_of_le (hbl.out k hk) hW1.out
          have ybv := (HBV.out.fr FR.out (fun x => x)).cell 5
          have yvm := (HVA.out.fr FR.out (fun x => x)).cell 0
          have hes := HE.out.fr FR.out (fun k hk => ⟨hbb1 k hk, fun x => x⟩)
          have HEG := hid (edge_any j m nb q qb qm c3 A3 es S wr ybv yvm hes (fun k hk => Nat.lt_of_lt_of_le (hbb1 k hk) FR.out.size) HM (by omega) hlj hm5)
          have hlt : j < (es.map (·.to)).length := by rw [List.length_map]; exact hlj
          have hget : (es.map (·.to))[j] = es[j].to := List.getElem_map ..
          have HOU := hid (outsR_succ (n := nb) hlt)
          have hole := outsR_le nb (es.map (·.to)) j
          have hrle := rowC_len T k (es.map (·.to)) j
          have HRC := hid (rowC_succ T k (es.map (·.to)) j)
          have hpk : Hid (pk T (es.map (·.to)) j = (isReal nb es[j].to && decide (2 ≤ cntT T es[j].to))) := hid (by unfold pk; rw [to_getD, getD_el _ hlj, hl1])
          rw [hget] at HOU
          obtain ⟨b', o', A', c', hA3, hb', z0, _, hwf, _⟩ := Ed_at hes j hlj
          have hb5 := Nat.lt_of_lt_of_le (hbb1 b' hb') FR.out.size
          subst hA3
          generalize es[j].to = e at *
          generalize outsR nb ((es.map (·.to)).take j) = oc at *
          generalize rowC T k (es.map (·.to)) j = rw0 at *
          have j0 : (0 : Int) ≤ j := by omega
          have j1 : (j : Int) < m := by omega
          clear hget hlt hbb1
          go_wp2_with fail
          refine HEG.out.mono ?_
          clear HEG
          rintro e1 w5 ⟨rfl, f⟩
          have FR5 := hid (FR.out.trans f (fun _ _ h => h))
          have HR75 := hid (HR7.out.fr f (fun _ h => h.elim) (fun _ _ h => h))
          cases hre : isReal nb e with
          | false =>
            rw [hre] at HOU hpk
            simp only [Bool.false_eq_true, if_false, Bool.false_and] at HOU hpk
            rw [hpk.out] at HRC
            simp only [Bool.false_eq_true, if_false, List.append_nil] at HRC
            clear f ybv yvm hes z0 hre
            go_wp2_with fail
            go_round
            case rel => exact ⟨j + 1, A7, c7, by omega, by go_num, by rw [HOU.out]; rfl, by rw [HRC.out], by rw [HRC.out]; exact HR75, FR5⟩
            case measure => simp [intOf]; omega
          | true =>
            obtain ⟨hr0, hr1⟩ := isReal_iff.1 hre
            obtain ⟨t, rfl⟩ : ∃ t : Nat, e = t := ⟨e.toNat, by omega⟩
            have htn : t < nb := by omega
            rw [hre] at HOU hpk
            simp only [if_true, Bool.true_and] at HOU hpk
            have hclv : Hid ((vi (cl T nb nb 0))[t]'(by rw [vi_len, cl_len]; exact htn) = .int .i64 (cntT T (t : Int) : Nat)) := hid (by
              simp only [vi, List.getElem_map]
              rw [cl_get _ _ _ _ _ htn]
              have : cntP T nb 0 (t : Int) = cntT T (t : Int) := by unfold cntP; rw [← hl1, List.take_length]; simp
              rw [this])
            have hcle := cntT_le T (t : Int)
            have HXR : Hid (∀ X, Fr No w5 X → X.cell? ⟨qm, 0, none⟩ = some (.slice (some ⟨q, 0, none⟩) nb nb) ∧ X.cell? ⟨qb, 5, none⟩ = some (.slice (some ⟨b', o', none⟩) m c3) ∧ X.cell? ⟨b', o' + j * 2, none⟩ = some (.int .i64 t) ∧ X.cell? ⟨q, t, none⟩ = some (.int .i64 (cntT T (t : Int) : Nat))) := hid fun X g => by
              have g1 := FR5.out.trans g (fun _ _ h => h)
              have g2 := f.trans g (fun _ _ h => h)
              refine ⟨(HVA.out.fr g1 (fun x => x)).cell 0, (HBV.out.fr g1 (fun x => x)).cell 5, (g2.cell (p := ⟨b', o' + j * 2, none⟩) hb5 (fun x => x)).trans z0, ?_⟩
              have := (HQA.out.fr g1 (fun x => x)).cell t (by rw [vi_len, cl_len]; exact htn)
              rw [this, hclv.out]
            clear hclv ybv yvm hes z0 f hre
            generalize cntT T (t : Int) = cc at *
            have hcw : IntKind.i64.wrap ((oc : Int) + 1) = oc + 1 := by rw [IntKind.wrap_i64]; omega
            have t0 : (0 : Int) ≤ t := by omega
            have t1 : (t : Int) < nb := by omega
            by_cases hcc : 2 ≤ cc
            · have dc : decide ((1 : Int) < cc) = true := decide_eq_true (by omega)
              rw [decide_eq_true hcc] at hpk
              rw [hpk.out] at HRC
              simp only [if_true] at HRC
              clear hcc
              go_wp2_with fail
              refine wp_region_ort (Fr No w5) (.rd 0 (.rd 1 (.rd 2 (.rd 3 (.rd 4 (.rd 5 (.rd 6 (.rd 7 (.rd 8 (.rd 9 (.rd 10 .nil))))))))))) (by kernel_rfl) (by kernel_rfl) (by kernel_rfl) rfl (Fr.refl _ w5).drew ?_
              repeat (first
                | (refine wpT_skip rfl rfl ?_; simp only [List.getElem_toArray, List.getElem_cons_succ, List.getElem_cons_zero, Act.put, List.setIfInBounds_toArray, List.set_cons_zero, List.set_cons_succ])
                | (refine wpT_call rfl rfl ?_; simp only [List.getElem_toArray, List.getElem_cons_succ, List.getElem_cons_zero]; apply Exists.intro; refine ⟨fun X hX => ?_, ?_⟩
                   · (obtain ⟨s0, s1, s2, s3⟩ := HXR.out X hX; go_simp; exact stillUpon_value)
                   simp only [Act.put, List.setIfInBounds_toArray, List.set_cons_zero, List.set_cons_succ]))
              refine wpT_nil ?_
              have FD := (Fr.refl No w5).drew
              have FRD := hid (FR5.out.trans FD (fun _ _ h => h))
              have HRD := hid (HR75.out.fr FD (fun _ h => h.elim) (fun _ _ h => h))
              generalize w5.drew = wz at *
              have FL := (Fr.refl No wz).alloc (.cells #[.int .i64 k, .int .i64 j] 50)
              have FRL := hid (FRD.out.trans FL (fun _ _ h => h))
              have RL := hid (HRD.out.fr FL (fun _ h => h.elim) (fun _ _ h => h))
              have BL := hid (Blk.new wz 50 #[.int .i64 k, .int .i64 j])
              clear FD FL HXR
              go_wp2_with (at_builtin; refine wpList_appC (t := tPr) (base := W1.heap.size) (S := Emp) (xs := rw0) (ys := [(k, j)]) (dss := [[.int .i64 k, .int .i64 j]]) (B2 := (wz.alloc (.cells #[.int .i64 k, .int .i64 j] 50)).heap.size) elPrs rfl rfl rfl rfl RL.out (Css.one (tPr_rd (by omega) (by omega))) (by simpa using Rd.blk BL.out BL.out.lt 0 (xs := [.int .i64 k, .int .i64 j]) (fun i u h => by rw [Nat.zero_add]; simpa using h)) rfl (by omega) (by omega) (fun _ h => h.elim) FRL.out.size ?_; intro v8 wy hr fr1 hv; have FY := hid (own_frame RL.out FRL.out fr1 (Nat.le_refl _)); have RY := hid hr; clear hr fr1 hv)
              obtain ⟨A8, c8, e8, _, _, _⟩ := RY.out.els (S' := fun _ => True) (fun _ _ => trivial) (fun _ _ => trivial)
              subst e8
              clear RL BL FRL HRD FRD
              go_wp2_with fail
              go_round
              case rel => exact ⟨j + 1, A8, c8, by omega, by go_num, by rw [HOU.out]; rfl, by rw [HRC.out], by rw [HRC.out]; exact RY, FY⟩
              case measure => simp [intOf]; omega
            · have dc : decide ((1 : Int) < cc) = false := decide_eq_false (by omega)
              rw [decide_eq_false hcc] at hpk
              rw [hpk.out] at HRC
              simp only [Bool.false_eq_true, if_false, List.append_nil] at HRC
              clear hcc
              go_wp2_with fail
              refine wp_region_ort (Fr No w5) (.rd 0 (.rd 1 (.rd 2 (.rd 3 (.rd 4 (.rd 5 (.rd 6 (.rd 7 (.rd 8 (.rd 9 (.rd 10 .nil))))))))))) (by kernel_rfl) (by kernel_rfl) (by kernel_rfl) rfl (Fr.refl _ w5).drew ?_
              repeat (first
                | (refine wpT_skip rfl rfl ?_; simp only [List.getElem_toArray, List.getElem_cons_succ, List.getElem_cons_zero, Act.put, List.setIfInBounds_toArray, List.set_cons_zero, List.set_cons_succ])
                | (refine wpT_call rfl rfl ?_; simp only [List.getElem_toArray, List.getElem_cons_succ, List.getElem_cons_zero]; apply Exists.intro; refine ⟨fun X hX => ?_, ?_⟩
                   · (obtain ⟨s0, s1, s2, s3⟩ := HXR.out X hX; go_simp; exact stillUpon_value)
                   simp only [Act.put, List.setIfInBounds_toArray, List.set_cons_zero, List.set_cons_succ]))
              refine wpT_nil ?_
              have FD := (Fr.refl No w5).drew
              have FRD := hid (FR5.out.trans FD (fun _ _ h => h))
              have HRD := hid (HR75.out.fr FD (fun _ h => h.elim) (fun _ _ h => h))
              generalize w5.drew = wz at *
              clear FD HXR
              go_wp2_with fail
              go_round
              case rel => exact ⟨j + 1, A7, c7, by omega, by go_num, by rw [HOU.out]; rfl, by rw [HRC.out], by rw [HRC.out]; exact HRD, FRD⟩
              case measure => simp [intOf]; omega
        · have hjm : m = j := by omega
          subst hjm
          clear hgj
          have hD : Hid (critR T (k + 1) = critR T k ++ if 2 ≤ outsR nb ((es.map (·.to)).take m) then rowC T k (es.map (·.to)) m else []) := hid (by
            show critR T k ++ rowD T k (T.getD k []).length = _
            unfold rowD
            rw [htk.out, hl1, List.length_map, HM.out, List.take_of_length_le (by rw [List.length_map, HM.out]; exact Nat.le_refl _)])
          have hrle := rowC_len T k (es.map (·.to)) m
          have hcle : (critR T k).length ≤ 100000 := Nat.le_trans (critR_tot T k) ht
          have HR4 := hid (HRA.out.fr FR.out (fun _ h => h.elim) (fun _ _ h => h))
          have HQ4 := hid (HQA.out.fr FR.out (fun x => x))
          have HV4 := hid (HVA.out.fr FR.out (fun x => x))
          have FW := hid (FA.out.trans FR.out (fun _ _ h => h))
          have hole := outsR_le nb (es.map (·.to)) m
          clear HRA HQA HVA FA
          generalize outsR nb ((es.map (·.to)).take m) = oc at *
          generalize rowC T k (es.map (·.to)) m = rw0 at *
          by_cases h2 : 2 ≤ oc
          · have dc : decide ((1 : Int) < oc) = true := decide_eq_true (by omega)
            rw [if_pos h2] at hD
            obtain ⟨css, hcs, hrd⟩ := HR7.out.rd
            have HCS := hid hcs
            have HRD := hid hrd
            clear h2 hcs hrd
            go_wp2_with (at_builtin; refine wpList_appC (t := tPr) (base := w.heap.size) (S := Emp) (xs := critR T k) (ys := rw0) (dss := css) (B2 := wr.heap.size) elPrs rfl rfl rfl rfl HR4.out HCS.out HRD.out rfl (by omega) (by omega) (fun _ h => h.elim) FW.out.size ?_; intro v8 wy hr fr1 hv; have FY := hid (own_frame HR4.out FW.out fr1 (Nat.le_refl _)); have RY := hid hr; have FR1 := hid fr1; clear hr fr1 hv)
            have hq1 : ¬ some q = (Value.slice A (critR T k).length c).ownBlock := fun e => by
              obtain ⟨_, cs, hb⟩ := HR4.out.own e.symm
              obtain ⟨cs', hb', _⟩ := HQ4.out.cur
              exact Blk.ne_ hb hb' (by decide) rfl
            have hq2 : ¬ some qm = (Value.slice A (critR T k).length c).ownBlock := fun e => by
              obtain ⟨_, cs, hb⟩ := HR4.out.own e.symm
              exact Blk.ne_ hb HV4.out (by decide) rfl
            have HQ5 := hid (HQ4.out.fr FR1.out hq1)
            have HV5 := hid (HV4.out.fr FR1.out hq2)
            obtain ⟨A8, c8, e8, _, _, _⟩ := RY.out.els (S' := fun _ => True) (fun _ _ => trivial) (fun _ _ => trivial)
            subst e8
            rw [← hD.out] at RY ⊢
            clear FR1 hq1 hq2 HQ4 HV4
            go_wp2_with fail
            go_round
            case rel => exact ⟨k + 1, A8, c8, by omega, by go_num, rfl, RY, HQ5, HV5, FY⟩
            case measure => simp [intOf]; omega
          · have dc : decide ((1 : Int) < oc) = false := decide_eq_false (by omega)
            rw [if_neg h2, List.append_nil] at hD
            clear h2
            go_wp2_with fail
            go_round
            case rel => exact ⟨k + 1, A, c, by omega, by go_num, by rw [hD.out], by rw [hD.out]; exact HR4, HQ4, HV4, FW⟩
            case measure => simp [intOf]; omega
    · have hkn : nb = k := by omega
      subst hkn
      clear hgo
      go_wp2
      go_ret
      refine ⟨A, c, ?_, ?_, FR.out⟩
      · unfold crit
        rw [hlT]
        first | done | rfl
      · unfold crit
        rw [hlT]
        exact HR.out
end Go.Proofs.Ytiafkakkbbclhaa
