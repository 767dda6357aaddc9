/- Chapter 46: the laws' pairs and beyond. -/
import Derived.Test.YtiafkakkbbclhaaSmA
namespace Go.Proofs.Ytiafkakkbbclhaa
open Go.RowKit

set_option maxRecDepth 100000 in
set_option maxHeartbeats 1600000 in
theorem pairs_any (A A' : Option Addr) (c c' n : Nat) (l : List (Nat × Nat)) (w : World) (h : PrAt w A l) (h' : PrAt w A' l) (hn : Hid (l.length = n)) (hl : n ≤ 100000) :
    Calls Try.prog 8 #[.slice A n c, .slice A' n c'] w (YesTo w) := by
  have H := hid h
  have H' := hid h'
  clear h h'
  go_enter Try.func8, Try.ntmps8
  go_wp2_with fail
  go_loopw [5] (fun i wr => ∃ k : Nat, k ≤ n ∧ i = .int .i64 k ∧ Hid (Fr No w wr)) (fun i _ => n - (intOf i).toNat)
  case atStart => exact ⟨0, by omega, rfl, hid (Fr.refl No w)⟩
  case round =>
    obtain ⟨k, hk, rfl, FR⟩ := hrel
    by_cases hgo : k < n
    · have hlk : k < l.length := by have := hn.out; omega
      obtain ⟨g, cs, rfl, hb, p0, p1⟩ := (H.out.fr FR.out (fun _ _ h => h.elim)) k hlk
      obtain ⟨g', cs', rfl, hb', p0', p1'⟩ := (H'.out.fr FR.out (fun _ _ h => h.elim)) k hlk
      have u0 := (hb.cell (k * 2)).trans p0
      have u1 := (hb.cell (k * 2 + 1)).trans p1
      have v0 := (hb'.cell (k * 2)).trans p0'
      have v1 := (hb'.cell (k * 2 + 1)).trans p1'
      have HX : Hid (∀ X, Fr No wr X → X.cell? ⟨g, k * 2, none⟩ = some (.int .i64 (l[k].1 : Int)) ∧ X.cell? ⟨g, k * 2 + 1, none⟩ = some (.int .i64 (l[k].2 : Int)) ∧ X.cell? ⟨g', k * 2, none⟩ = some (.int .i64 (l[k].1 : Int)) ∧ X.cell? ⟨g', k * 2 + 1, none⟩ = some (.int .i64 (l[k].2 : Int)) ∧ (Op.equalIn 10000 50 (.agg #[.int .i64 (l[k].1 : Int), .int .i64 (l[k].2 : Int)]) (.agg #[.int .i64 (l[k].1 : Int), .int .i64 (l[k].2 : Int)])).run Try.prog X = .ok true X) := hid fun X f =>
        ⟨((hb.fr f (fun x => x)).cell (k * 2)).trans p0, ((hb.fr f (fun x => x)).cell (k * 2 + 1)).trans p1, ((hb'.fr f (fun x => x)).cell (k * 2)).trans p0', ((hb'.fr f (fun x => x)).cell (k * 2 + 1)).trans p1', by have h := eq_Pr (l[k].1 : Int) (l[k].2 : Int) (l[k].1 : Int) (l[k].2 : Int) X; simp only [decide_true, Bool.and_self] at h; exact h⟩
      generalize l[k].1 = x1 at *
      generalize l[k].2 = x2 at *
      have i0 : (0 : Int) ≤ k := by omega
      have i1 : (k : Int) < n := by omega
      clear p0 p1 p0' p1' hb hb' hlk u0 u1 v0 v1
      go_wp2_with fail
      refine wp_region_ort (Fr No wr) (.rd 0 (.rd 1 (.rd 2 (.rd 3 (.rd 4 (.rd 5 (.rd 6 (.rd 7 (.rd 8 .nil))))))))) (by kernel_rfl) (by kernel_rfl) (by kernel_rfl) rfl (Fr.refl _ wr).drew ?_
      repeat (first
        | (refine wpT_skip rfl rfl ?_; simp only [List.getElem_toArray, List.getElem_cons_succ, List.getElem_cons_zero, Act.put, List.setIfInBounds_toArray, List.set_cons_zero, List.set_cons_succ])
        | (refine wpT_call rfl rfl ?_; simp only [List.getElem_toArray, List.getElem_cons_succ, List.getElem_cons_zero]; apply Exists.intro; refine ⟨fun X hX => ?_, ?_⟩
           · (obtain ⟨s0, s1, s2, s3, s4⟩ := HX.out X hX; go_simp; exact stillUpon_value)
           simp only [Act.put, List.setIfInBounds_toArray, List.set_cons_zero, List.set_cons_succ]))
      refine wpT_nil ?_
      have FD := hid (FR.out.trans (Fr.refl No wr).drew (fun _ _ h => h))
      clear HX
      generalize wr.drew = wz at *
      go_wp2
      go_round
      case rel => exact ⟨k + 1, by omega, by go_num, FD⟩
      case measure => simp [intOf]; omega
    · have hkn : n = k := by omega
      subst hkn
      clear hgo
      go_wp2
      go_ret
      exact ⟨rfl, FR.out⟩
/-- No edge of the blocks before the k-th leads to n or further. -/
def Within (bs : List Sb) (n k : Nat) : Prop := ∀ i, i < k → ∀ e ∈ toOf bs i, e.to < n
def BeyTo (bs : List Sb) (nb : Nat) (w : World) (e : Ending) (w' : World) : Prop := (∃ v, e = .returned (.bool v) ∧ (v = false → Within bs nb nb)) ∧ Fr No w w'
set_option maxRecDepth 100000 in
set_option maxHeartbeats 1600000 in
theorem beyond_any (P R V B : Option Addr) (np nr nv nb pc rc vc bc : Nat) (bs : List Sb) (S : Nat → Prop) (w : World) (h : tSb.els w S B bs) (hS : ∀ k, S k → k < w.heap.size) (eb : Hid (bs.length = nb)) (hn : nb ≤ 100000) (ht : tot (tosOf bs) ≤ 100000) :
    Calls Try.prog 14 #[.agg #[.slice P np pc, .slice R nr rc, .slice V nv vc, .slice B nb bc]] w (BeyTo bs nb w) := by
  have F0 := hid ((Fr.refl No w).alloc (.cells #[.slice P np pc, .slice R nr rc, .slice V nv vc, .slice B nb bc] 27))
  have G := hid (Blk.new w 27 #[.slice P np pc, .slice R nr rc, .slice V nv vc, .slice B nb bc])
  have hbl := hid (fun k (hk : S k) => Nat.lt_of_lt_of_le (hS k hk) F0.out.size)
  have HH := hid (h.fr F0.out (fun k hk => ⟨hS k hk, fun x => x⟩))
  have HTT := hid ht
  clear h hS ht
  go_enter Try.func14, Try.ntmps14
  go_wp2_with fail
  generalize w.alloc (.cells #[.slice P np pc, .slice R nr rc, .slice V nv vc, .slice B nb bc] 27) = W at *
  go_loopw [3] (fun i wr => ∃ k : Nat, k ≤ nb ∧ i = .int .i64 k ∧ Hid (Within bs nb k) ∧ Hid (Fr No W wr)) (fun i _ => nb - (intOf i).toNat)
  case atStart => exact ⟨0, by omega, rfl, hid (fun i hi => by omega), hid (Fr.refl No W)⟩
  case round =>
    obtain ⟨k, hk, rfl, HWI, FR⟩ := hrel
    have y3 := (G.out.fr FR.out (fun x => x)).cell 3
    by_cases hgo : k < nb
    · have hlk : k < bs.length := by have := eb.out; omega
      obtain ⟨b, o, A0, c0, A1, c1, A2, c2, A3, c3, rfl, hb, _, _, _, _, _, y5, _, _, _, _, _, _, _, _, _, _, _, _, _, _, he, _⟩ := Sb_at HH.out k hlk
      have hbb := hbl.out b hb
      replace y5 := (FR.out.cell (p := ⟨b, o + k * 7 + 5, none⟩) hbb (fun x => x)).trans y5
      have HE := hid he
      have hto := hid (toOf_el hlk)
      have hm5 := to_le HTT.out k
      rw [hto.out] at hm5
      obtain ⟨m, hm⟩ : ∃ m, bs[k].end_.to.length = m := ⟨_, rfl⟩
      have HM := hid hm
      rw [hm] at y5 hm5
      generalize bs[k].end_.to = es at *
      have i0 : (0 : Int) ≤ k := by omega
      have i1 : (k : Int) < nb := by omega
      clear he hm
      go_wp2_with fail
      clear y3 y5
      go_loopw [5] (fun i wr => ∃ j : Nat, j ≤ m ∧ i = .int .i64 j ∧ Hid (∀ q (hq : q < es.length), q < j → es[q].to < nb) ∧ Hid (Fr No W wr)) (fun i _ => m - (intOf i).toNat)
      case atStart => exact ⟨0, by omega, rfl, hid (fun q _ hq => by omega), FR⟩
      case round =>
        clear FR
        obtain ⟨j, hj, rfl, HWJ, FR⟩ := hrel
        have y3 := (G.out.fr FR.out (fun x => x)).cell 3
        by_cases hgj : j < m
        · have hlj : j < es.length := by have := HM.out; omega
          obtain ⟨b', o', A', c', rfl, hb', z0, _⟩ := Ed_at HE.out j hlj
          have hbb' := hbl.out b' hb'
          replace z0 := (FR.out.cell (p := ⟨b', o' + j * 2, none⟩) hbb' (fun x => x)).trans z0
          have j0 : (0 : Int) ≤ j := by omega
          have j1 : (j : Int) < m := by omega
          have HWK : Hid (es[j].to < nb → ∀ q (hq : q < es.length), q < j + 1 → es[q].to < nb) := hid fun h q hq hlt => by
            by_cases hqj : q = j
            · subst hqj; exact h
            · exact HWJ.out q hq (by omega)
          have HX : Hid (∀ X, Fr No wr X → X.cell? ⟨b', o' + j * 2, none⟩ = some (.int .i64 es[j].to) ∧ X.cell? ⟨w.heap.size, 3, none⟩ = some (.slice (some ⟨b, o, none⟩) nb bc)) := hid fun X f => by
            have g := FR.out.trans f (fun _ _ h => h)
            exact ⟨(f.cell (p := ⟨b', o' + j * 2, none⟩) (Nat.lt_of_lt_of_le hbb' FR.out.size) (fun x => x)).trans z0, (G.out.fr g (fun x => x)).cell 3⟩
          generalize es[j].to = u at *
          clear z0 y3
          go_wp2_with fail
          refine wp_region_ort (Fr No wr) (.rd 0 (.rd 1 (.rd 2 (.rd 3 (.rd 4 (.rd 5 (.rd 6 (.rd 7 (.rd 8 .nil))))))))) (by kernel_rfl) (by kernel_rfl) (by kernel_rfl) rfl (Fr.refl _ wr).drew ?_
          repeat (first
            | (refine wpT_skip rfl rfl ?_; simp only [List.getElem_toArray, List.getElem_cons_succ, List.getElem_cons_zero, Act.put, List.setIfInBounds_toArray, List.set_cons_zero, List.set_cons_succ])
            | (refine wpT_call rfl rfl ?_; simp only [List.getElem_toArray, List.getElem_cons_succ, List.getElem_cons_zero]; apply Exists.intro; refine ⟨fun X hX => ?_, ?_⟩
               · (obtain ⟨s0, s1⟩ := HX.out X hX; go_simp; exact stillUpon_value)
               simp only [Act.put, List.setIfInBounds_toArray, List.set_cons_zero, List.set_cons_succ]))
          refine wpT_nil ?_
          have FD := hid (FR.out.trans (Fr.refl No wr).drew (fun _ _ h => h))
          clear HX FR
          generalize wr.drew = wz at *
          by_cases hue : u < nb
          · go_wp2_with fail
            go_round
            case rel => exact ⟨j + 1, by omega, by go_num, hid (HWK.out hue), FD⟩
            case measure => simp [intOf]; omega
          · go_wp2
            go_ret
            exact ⟨⟨true, rfl, fun h => by cases h⟩, F0.out.trans FD.out (fun _ _ h => h)⟩
        · have hjm : m = j := by omega
          subst hjm
          clear hgj
          go_wp2_with fail
          go_round
          case rel => exact ⟨k + 1, by omega, by go_num, hid (fun i hi e he => by
            by_cases hik : i = k
            · subst hik
              rw [hto.out] at he
              obtain ⟨q, hq, rfl⟩ := List.getElem_of_mem he
              exact HWJ.out q hq (by have := HM.out; omega)
            · exact HWI.out i (by omega) e he), FR⟩
          case measure => simp [intOf]; omega
    · have hkn : nb = k := by omega
      subst hkn
      clear hgo
      go_wp2
      go_ret
      exact ⟨⟨false, rfl, fun _ => HWI.out⟩, F0.out.trans FR.out (fun _ _ h => h)⟩
end Go.Proofs.Ytiafkakkbbclhaa
