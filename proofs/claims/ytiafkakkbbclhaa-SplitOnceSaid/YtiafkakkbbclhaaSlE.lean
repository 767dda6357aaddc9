/- Chapter 46: few; Clone. -/
import Derived.Test.YtiafkakkbbclhaaSlD
import Derived.Test.YtiafkakkbbclhaaRowS
import Derived.Test.YtiafkakkbbclhaaOrf
import Derived.Test.YtiafkakkbbclhaaRow
import Derived.Deep.DeepCutAuto
namespace Go.Proofs.Ytiafkakkbbclhaa
open Go.RowKit

abbrev tI : Ty Int := Ty.int .i64
def Emp : Nat → Prop := fun _ => False
def lenF (b : Sb) : Nat := b.ins.length + b.end_.to.length
def sumF (l : List Sb) : Nat := (l.map lenF).sum
theorem sumF_succ {l : List Sb} {k : Nat} (h : k < l.length) : sumF (l.take (k + 1)) = sumF (l.take k) + (l[k].ins.length + l[k].end_.to.length) := by
  unfold sumF
  rw [List.take_succ_eq_append_getElem h, List.map_append, List.sum_append]
  simp [lenF]
structure Small (x : Sf) : Prop where
  nb : x.blocks.length ≤ 80
  sum : sumF x.blocks ≤ 1500
  vals : x.vals.length ≤ 2000
def FewT (x : Sf) (w : World) (e : Ending) (w' : World) : Prop := (∃ b, e = .returned (.bool b) ∧ (b = true → Small x)) ∧ Fr No w w'
set_option maxRecDepth 100000 in
set_option maxHeartbeats 1600000 in
theorem few_any (P R V B : Option Addr) (np nr nv nb pc rc vc bc : Nat) (x : Sf) (S : Nat → Prop) (w : World) (h : tSb.els w S B x.blocks) (hS : ∀ k, S k → k < w.heap.size) (hl : ∀ b ∈ x.blocks, b.ins.length ≤ 140737488351232 ∧ b.end_.to.length ≤ 140737488351232) (eb : Hid (x.blocks.length = nb)) (ev : Hid (x.vals.length = nv)) :
    Calls Try.prog 6 #[.agg #[.slice P np pc, .slice R nr rc, .slice V nv vc, .slice B nb bc]] w (FewT x w) := by
  have F := hid ((Fr.refl No w).alloc (.cells #[.slice P np pc, .slice R nr rc, .slice V nv vc, .slice B nb bc] 27))
  have G := hid (Blk.new w 27 #[.slice P np pc, .slice R nr rc, .slice V nv vc, .slice B nb bc])
  have HL := hid hl
  have HH := hid (h.fr F.out (fun k hk => ⟨hS k hk, fun x => x⟩))
  have hbl := hid (fun b (hb : S b) => Nat.lt_of_lt_of_le (hS b hb) F.out.size)
  clear h hS hl
  have HX : Hid (∀ X, Fr No (w.alloc (.cells #[.slice P np pc, .slice R nr rc, .slice V nv vc, .slice B nb bc] 27)) X → X.cell? ⟨w.heap.size, 3, none⟩ = some (.slice B nb bc) ∧ X.cell? ⟨w.heap.size, 2, none⟩ = some (.slice V nv vc)) := hid fun X f => by
    have g := G.out.fr f (fun x => x)
    exact ⟨g.cell 3, g.cell 2⟩
  go_enter Try.func6, Try.ntmps6
  go_wp2
  generalize w.alloc (.cells #[.slice P np pc, .slice R nr rc, .slice V nv vc, .slice B nb bc] 27) = W at *
  go_loopw [3, 4] (fun n i wr => ∃ k : Nat, k ≤ nb ∧ n = .int .i64 (sumF (x.blocks.take k) : Nat) ∧ i = .int .i64 k ∧ sumF (x.blocks.take k) ≤ 281474976704004 ∧ Hid (Fr No W wr)) (fun _ i _ => nb - (intOf i).toNat)
  case atStart => exact ⟨0, by omega, rfl, rfl, by simp [sumF], hid (Fr.refl No W)⟩
  case round =>
    obtain ⟨k, hk, rfl, rfl, hs, FR⟩ := hrel
    obtain ⟨x3, x2⟩ := HX.out wr FR.out
    by_cases hgo : k < nb ∧ k < 100 ∧ sumF (x.blocks.take k) ≤ 1500
    · obtain ⟨g0, g1, g2⟩ := hgo
      have hlk : k < x.blocks.length := by have := eb.out; omega
      have hsu := sumF_succ hlk
      obtain ⟨hl1, hl2⟩ := HL.out _ (List.getElem_mem hlk)
      obtain ⟨b, o, A0, c0, A1, c1, A2, c2, A3, c3, rfl, hb, _, y1, _, _, _, y5, _⟩ := Sb_at HH.out k hlk
      have hbb := hbl.out b hb
      have HC : Hid (∀ X, Fr No wr X → X.cell? ⟨w.heap.size, 3, none⟩ = some (.slice (some ⟨b, o, none⟩) nb bc) ∧ X.cell? ⟨b, o + k * 7 + 1, none⟩ = some (.slice A1 x.blocks[k].ins.length c1) ∧ X.cell? ⟨b, o + k * 7 + 5, none⟩ = some (.slice A3 x.blocks[k].end_.to.length c3)) := hid fun X f => by
        have f' := FR.out.trans f (fun _ _ h => h)
        exact ⟨(HX.out X f').1, (f'.cell (p := ⟨b, o + k * 7 + 1, none⟩) hbb (fun x => x)).trans y1, (f'.cell (p := ⟨b, o + k * 7 + 5, none⟩) hbb (fun x => x)).trans y5⟩
      generalize x.blocks[k].ins.length = n1 at *
      generalize x.blocks[k].end_.to.length = n2 at *
      generalize sumF (x.blocks.take k) = s at *
      have i0 : (0 : Int) ≤ k := by omega
      have i1 : (k : Int) < nb := by omega
      clear y1 y5 x2
      have d1 : decide ((k : Int) < nb) = true := decide_eq_true (by omega)
      have d2 : decide ((k : Int) < 100) = true := decide_eq_true (by omega)
      have d3 : decide ((s : Int) ≤ 1500) = true := decide_eq_true (by omega)
      have hw1 : IntKind.i64.wrap ((s : Int) + n1) = s + n1 := by rw [IntKind.wrap_i64]; omega
      have hw2 : IntKind.i64.wrap ((s : Int) + n1 + n2) = s + n1 + n2 := by rw [IntKind.wrap_i64]; omega
      go_wp2_with fail
      refine wp_region_ort (Fr No wr) (.rd 0 (.rd 1 (.rd 2 (.rd 3 (.rd 4 (.rd 5 (.rd 6 (.rd 7 (.rd 8 (.rd 9 (.rd 10 (.rd 11 (.rd 12 (.rd 13 (.rd 14 (.rd 15 (.rd 16 (.rd 17 (.rd 18 .nil))))))))))))))))))) (by kernel_rfl) (by kernel_rfl) (by kernel_rfl) rfl (Fr.refl _ wr).drew ?_
      repeat (first
        | (refine wpT_skip rfl rfl ?_; simp only [List.getElem_toArray, List.getElem_cons_succ, List.getElem_cons_zero, Act.put, List.setIfInBounds_toArray, List.set_cons_zero, List.set_cons_succ])
        | (refine wpT_call rfl rfl ?_; simp only [List.getElem_toArray, List.getElem_cons_succ, List.getElem_cons_zero]; apply Exists.intro; refine ⟨fun X hX => ?_, ?_⟩
           · (obtain ⟨s0, s1, s2⟩ := HC.out X hX; go_simp; exact stillUpon_value)
           simp only [Act.put, List.setIfInBounds_toArray, List.set_cons_zero, List.set_cons_succ]))
      refine wpT_nil ?_
      have FD := hid (FR.out.trans (Fr.refl No wr).drew (fun _ _ h => h))
      clear x3 HC
      generalize wr.drew = wz at *
      go_wp2
      go_round
      case rel => exact ⟨k + 1, by omega, by rw [hsu]; congr 1; omega, by go_num, by rw [hsu]; omega, FD⟩
      case measure => simp [intOf]; omega
    · generalize hse : sumF (x.blocks.take k) = s at *
      have HS := hid hse
      clear hse
      by_cases g0 : k < nb
      · have d1 : decide ((k : Int) < nb) = true := decide_eq_true (by omega)
        by_cases g1 : k < 100
        · have d2 : decide ((k : Int) < 100) = true := decide_eq_true (by omega)
          have d3 : decide ((s : Int) ≤ 1500) = false := decide_eq_false (by omega)
          clear hgo
          by_cases h80 : nb ≤ 80
          · have d4 : decide ((nb : Int) ≤ 80) = true := decide_eq_true (by omega)
            go_wp2
            go_ret
            exact ⟨⟨false, rfl, fun h => by cases h⟩, F.out.trans FR.out (fun _ _ h => h)⟩
          · have d4 : decide ((nb : Int) ≤ 80) = false := decide_eq_false (by omega)
            go_wp2
            go_ret
            exact ⟨⟨false, rfl, fun h => by cases h⟩, F.out.trans FR.out (fun _ _ h => h)⟩
        · have d2 : decide ((k : Int) < 100) = false := decide_eq_false (by omega)
          have d4 : decide ((nb : Int) ≤ 80) = false := decide_eq_false (by omega)
          clear hgo
          go_wp2
          go_ret
          exact ⟨⟨false, rfl, fun h => by cases h⟩, F.out.trans FR.out (fun _ _ h => h)⟩
      · have hkn : k = nb := by omega
        subst hkn
        have htk : x.blocks.take k = x.blocks := List.take_of_length_le (by rw [eb.out]; exact Nat.le_refl _)
        rw [htk] at HS
        have d1 : decide ((k : Int) < k) = false := decide_eq_false (by omega)
        clear hgo
        by_cases h80 : k ≤ 80
        · have d4 : decide ((k : Int) ≤ 80) = true := decide_eq_true (by omega)
          by_cases h15 : s ≤ 1500
          · have d5 : decide ((s : Int) ≤ 1500) = true := decide_eq_true (by omega)
            go_wp2
            go_ret
            exact ⟨⟨_, rfl, fun h => ⟨by rw [eb.out]; exact h80, by rw [HS.out]; exact h15, by rw [ev.out]; have := of_decide_eq_true h; omega⟩⟩, F.out.trans FR.out (fun _ _ h => h)⟩
          · have d5 : decide ((s : Int) ≤ 1500) = false := decide_eq_false (by omega)
            go_wp2
            go_ret
            exact ⟨⟨false, rfl, fun h => by cases h⟩, F.out.trans FR.out (fun _ _ h => h)⟩
        · have d4 : decide ((k : Int) ≤ 80) = false := decide_eq_false (by omega)
          go_wp2
          go_ret
          exact ⟨⟨false, rfl, fun h => by cases h⟩, F.out.trans FR.out (fun _ _ h => h)⟩
end Go.Proofs.Ytiafkakkbbclhaa
