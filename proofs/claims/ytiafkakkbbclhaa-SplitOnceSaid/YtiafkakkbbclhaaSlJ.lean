/- Chapter 46: the reference's Critical. -/
import Derived.Test.YtiafkakkbbclhaaSlI
namespace Go.Proofs.Ytiafkakkbbclhaa
open Go.RowKit

set_option maxHeartbeats 1600000 in
theorem real_any (P R V B : Option Addr) (np nr nv nb pc rc vc bc : Nat) (e : Int) (A : Option Addr) (n c : Nat) (w : World) :
    Calls Try.prog 18 #[.agg #[.slice P np pc, .slice R nr rc, .slice V nv vc, .slice B nb bc], .agg #[.int .i64 e, .slice A n c]] w fun r w' => r = .returned (.bool (isReal nb e)) ∧ Fr No w w' := by
  have F0 := hid (((Fr.refl No w).alloc (.cells #[.slice P np pc, .slice R nr rc, .slice V nv vc, .slice B nb bc] 27)).alloc (.cells #[.int .i64 e, .slice A n c] 44))
  by_cases he0 : 0 ≤ e
  · have d0 : decide ((0 : Int) ≤ e) = true := decide_eq_true he0
    by_cases he1 : e < nb
    · have d1 : decide (e < (nb : Int)) = true := decide_eq_true he1
      rw [isReal_yes he0 he1]
      clear he0 he1
      go_enter Try.func18, Try.ntmps18
      go_wp2
      go_ret
      exact ⟨rfl, F0.out⟩
    · have d1 : decide (e < (nb : Int)) = false := decide_eq_false he1
      rw [isReal_no1 he1]
      clear he0 he1
      go_enter Try.func18, Try.ntmps18
      go_wp2
      go_ret
      exact ⟨rfl, F0.out⟩
  · have d0 : decide ((0 : Int) ≤ e) = false := decide_eq_false he0
    rw [isReal_no0 he0]
    clear he0
    go_enter Try.func18, Try.ntmps18
    go_wp2
    go_ret
    exact ⟨rfl, F0.out⟩
set_option maxRecDepth 100000 in
set_option maxHeartbeats 1600000 in
theorem outs_any (P R V B : Option Addr) (np nr nv nb pc rc vc bc : Nat) (bs : List Sb) (S : Nat → Prop) (w : World) (k : Nat) (h : tSb.els w S B bs) (hS : ∀ k, S k → k < w.heap.size) (eb : Hid (bs.length = nb)) (hn : nb ≤ 100000) (ht : tot (tosOf bs) ≤ 100000) (hk : k < nb) :
    Calls Try.prog 19 #[.agg #[.slice P np pc, .slice R nr rc, .slice V nv vc, .slice B nb bc], .int .i64 k] w fun r w' => r = .returned (.int .i64 (outsR nb ((tosOf bs).getD k []) : Nat)) ∧ Fr No w w' := by
  have F0 := hid ((Fr.refl No w).alloc (.cells #[.slice P np pc, .slice R nr rc, .slice V nv vc, .slice B nb bc] 27))
  have G := hid (Blk.new w 27 #[.slice P np pc, .slice R nr rc, .slice V nv vc, .slice B nb bc])
  have hlk : k < bs.length := by have := eb.out; omega
  obtain ⟨b, o, A0, c0, A1, c1, A2, c2, A3, c3, rfl, hb, _, _, _, _, _, y5, _, _, _, _, _, _, _, _, _, _, _, _, _, _, he, _⟩ := Sb_at h k hlk
  have hbb := hS b hb
  replace y5 := (F0.out.cell (p := ⟨b, o + k * 7 + 5, none⟩) hbb (fun x => x)).trans y5
  have hbl := hid (fun k (hk : S k) => Nat.lt_of_lt_of_le (hS k hk) F0.out.size)
  have HE := hid (he.fr F0.out (fun k hk => ⟨hS k hk, fun x => x⟩))
  have htk : (tosOf bs).getD k [] = bs[k].end_.to.map (·.to) := by rw [tosOf_getD, toOf_el hlk]
  obtain ⟨m, hm⟩ : ∃ m, bs[k].end_.to.length = m := ⟨_, rfl⟩
  have HM := hid hm
  have HT0 := tot_row (tosOf bs) k
  rw [htk, List.length_map, hm] at HT0
  have hm5 : m ≤ 100000 := Nat.le_trans HT0 ht
  rw [hm] at y5
  rw [htk]
  generalize bs[k].end_.to = es at *
  have i0 : (0 : Int) ≤ k := by omega
  have i1 : (k : Int) < nb := by omega
  clear h hS he htk HT0 hm
  have y3 := G.out.cell 3
  go_enter Try.func19, Try.ntmps19
  go_wp2_with fail
  clear y3 y5
  generalize w.alloc (.cells #[.slice P np pc, .slice R nr rc, .slice V nv vc, .slice (some ⟨b, o, none⟩) nb bc] 27) = W at *
  go_loopw [5, 7] (fun cn i wr => ∃ j : Nat, j ≤ m ∧ i = .int .i64 j ∧ cn = .int .i64 (outsR nb ((es.map (·.to)).take j) : Nat) ∧ Hid (Fr No W wr)) (fun _ i _ => m - (intOf i).toNat)
  case atStart => exact ⟨0, by omega, rfl, rfl, hid (Fr.refl No W)⟩
  case round =>
    obtain ⟨j, hj, rfl, rfl, FR⟩ := hrel
    by_cases hgj : j < m
    · have hlj : j < es.length := by have := HM.out; omega
      obtain ⟨b', o', A', c', rfl, hb', z0, z1, _⟩ := Ed_at HE.out j hlj
      have hbb' := hbl.out b' hb'
      have hlt : j < (es.map (·.to)).length := by rw [List.length_map]; exact hlj
      have HOU := hid (outsR_succ (n := nb) hlt)
      rw [show (es.map (·.to))[j] = es[j].to from List.getElem_map ..] at HOU
      have hole := outsR_le nb (es.map (·.to)) j
      have HXR : Hid (∀ X, Fr No wr X → X.cell? ⟨w.heap.size, 0, none⟩ = some (.slice P np pc) ∧ X.cell? ⟨w.heap.size, 1, none⟩ = some (.slice R nr rc) ∧ X.cell? ⟨w.heap.size, 2, none⟩ = some (.slice V nv vc) ∧ X.cell? ⟨w.heap.size, 3, none⟩ = some (.slice (some ⟨b, o, none⟩) nb bc) ∧ X.cell? ⟨b', o' + j * 2, none⟩ = some (.int .i64 es[j].to) ∧ X.cell? ⟨b', o' + j * 2 + 1, none⟩ = some (.slice A' es[j].args.length c')) := hid fun X f => by
        have g := FR.out.trans f (fun _ _ h => h)
        have gg := G.out.fr g (fun x => x)
        exact ⟨gg.cell 0, gg.cell 1, gg.cell 2, gg.cell 3, (g.cell (p := ⟨b', o' + j * 2, none⟩) hbb' (fun x => x)).trans z0, (g.cell (p := ⟨b', o' + j * 2 + 1, none⟩) hbb' (fun x => x)).trans z1⟩
      have hwc : IntKind.i64.wrap ((outsR nb ((es.map (·.to)).take j) : Int) + 1) = (outsR nb ((es.map (·.to)).take j) : Int) + 1 := by rw [IntKind.wrap_i64]; omega
      generalize es[j].to = e at *
      generalize es[j].args.length = n2 at *
      generalize outsR nb ((es.map (·.to)).take j) = oc at *
      have j0 : (0 : Int) ≤ j := by omega
      have j1 : (j : Int) < m := by omega
      clear z0 z1 hlt
      go_wp2_with fail
      refine wp_region_ort (Fr No wr) (.rd 0 (.rd 1 (.rd 2 (.rd 3 (.rd 4 (.eff 5 .nil)))))) (by kernel_rfl) (by kernel_rfl) (by kernel_rfl) rfl (Fr.refl _ wr).drew ?_
      repeat (first
        | (refine wpT_skip rfl rfl ?_; simp only [List.getElem_toArray, List.getElem_cons_succ, List.getElem_cons_zero, Act.put, List.setIfInBounds_toArray, List.set_cons_zero, List.set_cons_succ])
        | (refine wpT_call rfl rfl ?_; simp only [List.getElem_toArray, List.getElem_cons_succ, List.getElem_cons_zero]; apply Exists.intro; refine ⟨fun X hX => ?_, ?_⟩
           · (obtain ⟨s0, s1, s2, s3, s4, s5⟩ := HXR.out X hX; go_simp; exact stillUpon_value)
           simp only [Act.put, List.setIfInBounds_toArray, List.set_cons_zero, List.set_cons_succ]))
      refine wpT_eff rfl rfl (fun K hK => ?_)
      simp only [List.getElem_toArray, List.getElem_cons_succ, List.getElem_cons_zero]
      go_simp
      refine (real_any P R V (some ⟨b, o, none⟩) np nr nv nb pc rc vc bc e A' n2 c' _).mono ?_
      rintro r w5 ⟨rfl, f⟩
      have F5 := hid ((Fr.refl No wr).drew.trans f (fun _ _ h => h))
      clear f
      refine hK _ _ (F5.out) ?_
      clear hK K
      refine wpT_nil ?_
      have FX := hid (FR.out.trans F5.out (fun _ _ h => h))
      clear HXR F5
      cases hre : isReal nb e with
      | false =>
        rw [hre] at HOU
        simp only [Bool.false_eq_true, if_false] at HOU
        clear hre
        go_wp2_with fail
        go_round
        case rel => exact ⟨j + 1, by omega, by go_num, by rw [HOU.out]; rfl, FX⟩
        case measure => simp [intOf]; omega
      | true =>
        rw [hre] at HOU
        simp only [if_true] at HOU
        clear hre
        go_wp2_with fail
        go_round
        case rel => exact ⟨j + 1, by omega, by go_num, by rw [HOU.out]; rfl, FX⟩
        case measure => simp [intOf]; omega
    · have hjm : m = j := by omega
      subst hjm
      clear hgj
      go_wp2
      go_ret
      refine ⟨?_, F0.out.trans FR.out (fun _ _ h => h)⟩
      rw [List.take_of_length_le (by rw [List.length_map, HM.out]; exact Nat.le_refl _)]
      first | done | rfl
end Go.Proofs.Ytiafkakkbbclhaa
