/- Chapter 46: the reference's Same answers true of equal forms. -/
import Derived.Test.YtiafkakkbbclhaaSlN
namespace Go.Proofs.Ytiafkakkbbclhaa
open Go.RowKit

def YesTo (w : World) (e : Ending) (w' : World) : Prop := e = .returned (.bool true) ∧ Fr No w w'
set_option maxRecDepth 100000 in
set_option maxHeartbeats 1600000 in
theorem ints_any (A A' : Option Addr) (c c' n : Nat) (l : List Int) (S S' : Nat → Prop) (w : World) (h : tI.els w S A l) (h' : tI.els w S' A' l) (hS : ∀ k, S k → k < w.heap.size) (hS' : ∀ k, S' k → k < w.heap.size) (hn : Hid (l.length = n)) (hl : n ≤ 140737488355328) :
    Calls Try.prog 23 #[.slice A n c, .slice A' n c'] w (YesTo w) := by
  have H := hid h
  have H' := hid h'
  have HS := hid hS
  have HS' := hid hS'
  clear h h' hS hS'
  go_enter Try.func23, Try.ntmps23
  go_wp2_with fail
  go_loopw [5] (fun i wr => ∃ k : Nat, k ≤ n ∧ i = .int .i64 k ∧ Hid (Fr No w wr)) (fun i _ => n - (intOf i).toNat)
  case atStart => exact ⟨0, by omega, rfl, hid (Fr.refl No w)⟩
  case round =>
    obtain ⟨k, hk, rfl, FR⟩ := hrel
    by_cases hgo : k < n
    · have hlk : k < l.length := by have := hn.out; omega
      obtain ⟨b, o, rfl, hb, y, _⟩ := ints_at H.out k hlk
      obtain ⟨b', o', rfl, hb', y', _⟩ := ints_at H'.out k hlk
      have HX : Hid (∀ X, Fr No wr X → X.cell? ⟨b, o + k, none⟩ = some (.int .i64 l[k]) ∧ X.cell? ⟨b', o' + k, none⟩ = some (.int .i64 l[k])) := hid fun X f => by
        have g := FR.out.trans f (fun _ _ h => h)
        exact ⟨(g.cell (p := ⟨b, o + k, none⟩) (HS.out b hb) (fun x => x)).trans y, (g.cell (p := ⟨b', o' + k, none⟩) (HS'.out b' hb') (fun x => x)).trans y'⟩
      generalize l[k] = v at *
      have i0 : (0 : Int) ≤ k := by omega
      have i1 : (k : Int) < n := by omega
      clear y y' hlk
      go_wp2_with fail
      refine wp_region_ort (Fr No wr) (.rd 0 (.rd 1 (.rd 2 (.rd 3 (.rd 4 (.rd 5 (.rd 6 (.rd 7 (.rd 8 .nil))))))))) (by kernel_rfl) (by kernel_rfl) (by kernel_rfl) rfl (Fr.refl _ wr).drew ?_
      repeat (first
        | (refine wpT_skip rfl rfl ?_; simp only [List.getElem_toArray, List.getElem_cons_succ, List.getElem_cons_zero, Act.put, List.setIfInBounds_toArray, List.set_cons_zero, List.set_cons_succ])
        | (refine wpT_call rfl rfl ?_; simp only [List.getElem_toArray, List.getElem_cons_succ, List.getElem_cons_zero]; apply Exists.intro; refine ⟨fun X hX => ?_, ?_⟩
           · (obtain ⟨s0, s1⟩ := HX.out X hX; go_simp; exact stillUpon_value)
           simp only [Act.put, List.setIfInBounds_toArray, List.set_cons_zero, List.set_cons_succ]))
      refine wpT_nil ?_
      have FD := hid (FR.out.trans (Fr.refl No wr).drew (fun _ _ h => h))
      clear HX
      generalize wr.drew = wz at *
      go_wp2
      go_round
      case rel => exact ⟨k + 1, by omega, by go_num, FD⟩
      case measure => simp [intOf]; omega
    · have hkn : n = k := by omega
      subst hkn
      clear hgo
      go_wp2
      go_ret
      exact ⟨rfl, FR.out⟩
set_option maxRecDepth 100000 in
set_option maxHeartbeats 1600000 in
theorem vals_any (A A' : Option Addr) (c c' n : Nat) (l : List Int) (S S' : Nat → Prop) (w : World) (h : tI.els w S A l) (h' : tI.els w S' A' l) (hS : ∀ k, S k → k < w.heap.size) (hS' : ∀ k, S' k → k < w.heap.size) (hn : Hid (l.length = n)) (hl : n ≤ 140737488355328) :
    Calls Try.prog 22 #[.slice A n c, .slice A' n c'] w (YesTo w) := by
  have H := hid h
  have H' := hid h'
  have HS := hid hS
  have HS' := hid hS'
  clear h h' hS hS'
  go_enter Try.func22, Try.ntmps22
  go_wp2_with fail
  go_loopw [5] (fun i wr => ∃ k : Nat, k ≤ n ∧ i = .int .i64 k ∧ Hid (Fr No w wr)) (fun i _ => n - (intOf i).toNat)
  case atStart => exact ⟨0, by omega, rfl, hid (Fr.refl No w)⟩
  case round =>
    obtain ⟨k, hk, rfl, FR⟩ := hrel
    by_cases hgo : k < n
    · have hlk : k < l.length := by have := hn.out; omega
      obtain ⟨b, o, rfl, hb, y, _⟩ := ints_at H.out k hlk
      obtain ⟨b', o', rfl, hb', y', _⟩ := ints_at H'.out k hlk
      have HX : Hid (∀ X, Fr No wr X → X.cell? ⟨b, o + k, none⟩ = some (.int .i64 l[k]) ∧ X.cell? ⟨b', o' + k, none⟩ = some (.int .i64 l[k])) := hid fun X f => by
        have g := FR.out.trans f (fun _ _ h => h)
        exact ⟨(g.cell (p := ⟨b, o + k, none⟩) (HS.out b hb) (fun x => x)).trans y, (g.cell (p := ⟨b', o' + k, none⟩) (HS'.out b' hb') (fun x => x)).trans y'⟩
      generalize l[k] = v at *
      have i0 : (0 : Int) ≤ k := by omega
      have i1 : (k : Int) < n := by omega
      clear y y' hlk
      go_wp2_with fail
      refine wp_region_ort (Fr No wr) (.rd 0 (.rd 1 (.rd 2 (.rd 3 (.rd 4 (.rd 5 (.rd 6 (.rd 7 (.rd 8 .nil))))))))) (by kernel_rfl) (by kernel_rfl) (by kernel_rfl) rfl (Fr.refl _ wr).drew ?_
      repeat (first
        | (refine wpT_skip rfl rfl ?_; simp only [List.getElem_toArray, List.getElem_cons_succ, List.getElem_cons_zero, Act.put, List.setIfInBounds_toArray, List.set_cons_zero, List.set_cons_succ])
        | (refine wpT_call rfl rfl ?_; simp only [List.getElem_toArray, List.getElem_cons_succ, List.getElem_cons_zero]; apply Exists.intro; refine ⟨fun X hX => ?_, ?_⟩
           · (obtain ⟨s0, s1⟩ := HX.out X hX; go_simp; exact stillUpon_value)
           simp only [Act.put, List.setIfInBounds_toArray, List.set_cons_zero, List.set_cons_succ]))
      refine wpT_nil ?_
      have FD := hid (FR.out.trans (Fr.refl No wr).drew (fun _ _ h => h))
      clear HX
      generalize wr.drew = wz at *
      go_wp2
      go_round
      case rel => exact ⟨k + 1, by omega, by go_num, FD⟩
      case measure => simp [intOf]; omega
    · have hkn : n = k := by omega
      subst hkn
      clear hgo
      go_wp2
      go_ret
      exact ⟨rfl, FR.out⟩
set_option maxRecDepth 100000 in
set_option maxHeartbeats 3200000 in
theorem samei_any (A A' : Option Addr) (c c' n : Nat) (l : List Si) (S S' : Nat → Prop) (w : World) (h : tSi.els w S A l) (h' : tSi.els w S' A' l) (hS : ∀ k, S k → k < w.heap.size) (hS' : ∀ k, S' k → k < w.heap.size) (hn : Hid (l.length = n)) (hl : n ≤ 100000) (hia : ∀ i ∈ l, i.args.length * 8 ≤ 140737488351232 ∧ i.outs.length * 8 ≤ 140737488351232) :
    Calls Try.prog 24 #[.slice A n c, .slice A' n c'] w (YesTo w) := by
  have H := hid h
  have H' := hid h'
  have HS := hid hS
  have HS' := hid hS'
  have HIA := hid hia
  clear h h' hS hS' hia
  go_enter Try.func24, Try.ntmps24
  go_wp2_with fail
  go_loopw [5] (fun i wr => ∃ k : Nat, k ≤ n ∧ i = .int .i64 k ∧ Hid (Fr No w wr)) (fun i _ => n - (intOf i).toNat)
  case atStart => exact ⟨0, by omega, rfl, hid (Fr.refl No w)⟩
  case round =>
    obtain ⟨k, hk, rfl, FR⟩ := hrel
    by_cases hgo : k < n
    · have hlk : k < l.length := by have := hn.out; omega
      obtain ⟨b, o, Aa, ca, Ao, co, rfl, hb, y0, y1, y2, y3, y4, y5, y6, _, _, _, _, _, _, _, ea, _, _, eo⟩ := Si_at H.out k hlk
      obtain ⟨b', o', Aa', ca', Ao', co', rfl, hb', z0, z1, z2, z3, z4, z5, z6, _, _, _, _, _, _, _, ea', _, _, eo'⟩ := Si_at H'.out k hlk
      obtain ⟨hga, hgo2⟩ := HIA.out _ (List.getElem_mem hlk)
      have hb1 := HS.out b hb
      have hb2 := HS'.out b' hb'
      generalize l[k] = x at *
      obtain ⟨na, hna⟩ : ∃ n, x.args.length = n := ⟨_, rfl⟩
      obtain ⟨no, hno⟩ : ∃ n, x.outs.length = n := ⟨_, rfl⟩
      rw [hna] at y5 z5 hga
      rw [hno] at y6 z6 hgo2
      have HX : Hid (∀ X, Fr No wr X → X.cell? ⟨b, o + k * 7, none⟩ = some (.int .i64 x.kind) ∧ X.cell? ⟨b, o + k * 7 + 1, none⟩ = some (.int .i64 x.op) ∧ X.cell? ⟨b, o + k * 7 + 2, none⟩ = some (.int .i64 x.a) ∧ X.cell? ⟨b, o + k * 7 + 3, none⟩ = some (.int .i64 x.b) ∧ X.cell? ⟨b, o + k * 7 + 4, none⟩ = some (.int .u64 x.n) ∧ X.cell? ⟨b, o + k * 7 + 5, none⟩ = some (.slice Aa na ca) ∧ X.cell? ⟨b, o + k * 7 + 6, none⟩ = some (.slice Ao no co) ∧ X.cell? ⟨b', o' + k * 7, none⟩ = some (.int .i64 x.kind) ∧ X.cell? ⟨b', o' + k * 7 + 1, none⟩ = some (.int .i64 x.op) ∧ X.cell? ⟨b', o' + k * 7 + 2, none⟩ = some (.int .i64 x.a) ∧ X.cell? ⟨b', o' + k * 7 + 3, none⟩ = some (.int .i64 x.b) ∧ X.cell? ⟨b', o' + k * 7 + 4, none⟩ = some (.int .u64 x.n) ∧ X.cell? ⟨b', o' + k * 7 + 5, none⟩ = some (.slice Aa' na ca') ∧ X.cell? ⟨b', o' + k * 7 + 6, none⟩ = some (.slice Ao' no co')) := hid fun X f => by
        have g := FR.out.trans f (fun _ _ h => h)
        exact ⟨(g.cell (p := ⟨b, o + k * 7, none⟩) hb1 (fun x => x)).trans y0, (g.cell (p := ⟨b, o + k * 7 + 1, none⟩) hb1 (fun x => x)).trans y1, (g.cell (p := ⟨b, o + k * 7 + 2, none⟩) hb1 (fun x => x)).trans y2, (g.cell (p := ⟨b, o + k * 7 + 3, none⟩) hb1 (fun x => x)).trans y3, (g.cell (p := ⟨b, o + k * 7 + 4, none⟩) hb1 (fun x => x)).trans y4, (g.cell (p := ⟨b, o + k * 7 + 5, none⟩) hb1 (fun x => x)).trans y5, (g.cell (p := ⟨b, o + k * 7 + 6, none⟩) hb1 (fun x => x)).trans y6, (g.cell (p := ⟨b', o' + k * 7, none⟩) hb2 (fun x => x)).trans z0, (g.cell (p := ⟨b', o' + k * 7 + 1, none⟩) hb2 (fun x => x)).trans z1, (g.cell (p := ⟨b', o' + k * 7 + 2, none⟩) hb2 (fun x => x)).trans z2, (g.cell (p := ⟨b', o' + k * 7 + 3, none⟩) hb2 (fun x => x)).trans z3, (g.cell (p := ⟨b', o' + k * 7 + 4, none⟩) hb2 (fun x => x)).trans z4, (g.cell (p := ⟨b', o' + k * 7 + 5, none⟩) hb2 (fun x => x)).trans z5, (g.cell (p := ⟨b', o' + k * 7 + 6, none⟩) hb2 (fun x => x)).trans z6⟩
      have HI1 := hid (fun X (f : Fr No w X) => ints_any Aa Aa' ca ca' na x.args S S' X (ea.fr f (fun k hk => ⟨HS.out k hk, fun x => x⟩)) (ea'.fr f (fun k hk => ⟨HS'.out k hk, fun x => x⟩)) (fun k hk => Nat.lt_of_lt_of_le (HS.out k hk) f.size) (fun k hk => Nat.lt_of_lt_of_le (HS'.out k hk) f.size) hna (by omega))
      have HI2 := hid (fun X (f : Fr No w X) => ints_any Ao Ao' co co' no x.outs S S' X (eo.fr f (fun k hk => ⟨HS.out k hk, fun x => x⟩)) (eo'.fr f (fun k hk => ⟨HS'.out k hk, fun x => x⟩)) (fun k hk => Nat.lt_of_lt_of_le (HS.out k hk) f.size) (fun k hk => Nat.lt_of_lt_of_le (HS'.out k hk) f.size) hno (by omega))
      have i0 : (0 : Int) ≤ k := by omega
      have i1 : (k : Int) < n := by omega
      clear y0 y1 y2 y3 y4 y5 y6 z0 z1 z2 z3 z4 z5 z6 ea eo ea' eo'
      go_upto_region 6 with fail
      go_cut [6, 7] (fun v6 v7 wx => ∃ (q6 q7 : Nat), v6 = .pointer (some ⟨q6, 0, none⟩) ∧ v7 = .pointer (some ⟨q7, 0, none⟩) ∧ Hid (Blk wx q6 48 #[.int .i64 x.kind, .int .i64 x.op, .int .i64 x.a, .int .i64 x.b, .int .u64 x.n, .slice Aa na ca, .slice Ao no co]) ∧ Hid (Blk wx q7 48 #[.int .i64 x.kind, .int .i64 x.op, .int .i64 x.a, .int .i64 x.b, .int .u64 x.n, .slice Aa' na ca', .slice Ao' no co']) ∧ Hid (Fr No wr wx))
      case first =>
        refine wp_region_ort (Fr No wr) (.rd 0 (.rd 1 (.rd 2 (.rd 3 (.rd 4 (.rd 5 (.rd 6 (.rd 7 (.alt 8 (.eff 9 (.eff 10 (.eff 11 .nil))) 9 (.eff 8 (.eff 10 (.eff 11 .nil)))))))))))) (by kernel_rfl) (by kernel_rfl) (by kernel_rfl) rfl (Fr.refl _ wr).drew ?_
        repeat (first
          | (refine wpT_skip rfl rfl ?_; simp only [List.getElem_toArray, List.getElem_cons_succ, List.getElem_cons_zero, Act.put, List.setIfInBounds_toArray, List.set_cons_zero, List.set_cons_succ])
          | (refine wpT_call rfl rfl ?_; simp only [List.getElem_toArray, List.getElem_cons_succ, List.getElem_cons_zero]; apply Exists.intro; refine ⟨fun X hX => ?_, ?_⟩
             · (obtain ⟨s0, s1, s2, s3, s4, s5, s6, s7, s8, s9, s10, s11, s12, s13⟩ := HX.out X hX; go_simp; exact stillUpon_value)
             simp only [Act.put, List.setIfInBounds_toArray, List.set_cons_zero, List.set_cons_succ]))
        refine wpT_alt ?_ ?_
        · skip
          refine wpT_eff rfl rfl (fun K hK => ?_)
          simp only [List.getElem_toArray, List.getElem_cons_succ, List.getElem_cons_zero]
          go_simp
          have Bq6 := hid ((Blk.new wr 48 #[.int .i64 0, .int .i64 0, .int .i64 0, .int .i64 0, .int .u64 0, .slice none 0 0, .slice none 0 0]).drew)
          have F1 := hid (((Fr.refl No wr).alloc (.cells #[.int .i64 0, .int .i64 0, .int .i64 0, .int .i64 0, .int .u64 0, .slice none 0 0, .slice none 0 0] 48)).drew)
          obtain ⟨q6, hq6⟩ : ∃ q, wr.heap.size = q := ⟨_, rfl⟩
          rw [hq6] at Bq6 ⊢
          have hq0b : Hid (wr.heap.size ≤ q6) := hid (Nat.le_of_eq hq6)
          clear hq6
          generalize (wr.alloc (.cells #[.int .i64 0, .int .i64 0, .int .i64 0, .int .i64 0, .int .u64 0, .slice none 0 0, .slice none 0 0] 48)).drew = Y1 at *
          refine hK _ _ (F1.out) ?_
          clear hK K
          repeat (first
            | (refine wpT_skip rfl rfl ?_; simp only [List.getElem_toArray, List.getElem_cons_succ, List.getElem_cons_zero, Act.put, List.setIfInBounds_toArray, List.set_cons_zero, List.set_cons_succ])
            | (refine wpT_call rfl rfl ?_; simp only [List.getElem_toArray, List.getElem_cons_succ, List.getElem_cons_zero]; apply Exists.intro; refine ⟨fun X hX => ?_, ?_⟩
               · (obtain ⟨s0, s1, s2, s3, s4, s5, s6, s7, s8, s9, s10, s11, s12, s13⟩ := HX.out X hX; go_simp; exact stillUpon_value)
               simp only [Act.put, List.setIfInBounds_toArray, List.set_cons_zero, List.set_cons_succ]))
          refine wpT_eff rfl rfl (fun K hK => ?_)
          simp only [List.getElem_toArray, List.getElem_cons_succ, List.getElem_cons_zero]
          go_simp
          have F2 := hid (F1.out.alloc (.cells #[.int .i64 0, .int .i64 0, .int .i64 0, .int .i64 0, .int .u64 0, .slice none 0 0, .slice none 0 0] 48))
          have hq := hid Bq6.out.lt
          have Bq6 := hid (Bq6.out.alloc (.cells #[.int .i64 0, .int .i64 0, .int .i64 0, .int .i64 0, .int .u64 0, .slice none 0 0, .slice none 0 0] 48))
          have Bq7 := hid (Blk.new Y1 48 #[.int .i64 0, .int .i64 0, .int .i64 0, .int .i64 0, .int .u64 0, .slice none 0 0, .slice none 0 0])
          obtain ⟨q7, hq7⟩ : ∃ q, Y1.heap.size = q := ⟨_, rfl⟩
          rw [hq7] at Bq7 hq ⊢
          have hq1b : Hid (wr.heap.size ≤ q7) := hid (by have h1 := F1.out.size; omega)
          clear hq7
          generalize Y1.alloc (.cells #[.int .i64 0, .int .i64 0, .int .i64 0, .int .i64 0, .int .u64 0, .slice none 0 0, .slice none 0 0] 48) = Y at *
          refine hK _ _ (F2.out) ?_
          clear hK K
          repeat (first
            | (refine wpT_skip rfl rfl ?_; simp only [List.getElem_toArray, List.getElem_cons_succ, List.getElem_cons_zero, Act.put, List.setIfInBounds_toArray, List.set_cons_zero, List.set_cons_succ])
            | (refine wpT_call rfl rfl ?_; simp only [List.getElem_toArray, List.getElem_cons_succ, List.getElem_cons_zero]; apply Exists.intro; refine ⟨fun X hX => ?_, ?_⟩
               · (obtain ⟨s0, s1, s2, s3, s4, s5, s6, s7, s8, s9, s10, s11, s12, s13⟩ := HX.out X hX; go_simp; exact stillUpon_value)
               simp only [Act.put, List.setIfInBounds_toArray, List.set_cons_zero, List.set_cons_succ]))
          have z0 := Bq6.out.cell 0
          have z1 := Bq6.out.cell 1
          have z2 := Bq6.out.cell 2
          have z3 := Bq6.out.cell 3
          have z4 := Bq6.out.cell 4
          have z5 := Bq6.out.cell 5
          have z6 := Bq6.out.cell 6
          have zq0 := Bq6.out.frozen 0
          have zq1 := Bq6.out.frozen 1
          have zq2 := Bq6.out.frozen 2
          have zq3 := Bq6.out.frozen 3
          have zq4 := Bq6.out.frozen 4
          have zq5 := Bq6.out.frozen 5
          have zq6 := Bq6.out.frozen 6
          refine wpT_eff rfl rfl (fun K hK => ?_)
          simp only [List.getElem_toArray, List.getElem_cons_succ, List.getElem_cons_zero]
          go_simp
          clear z0 zq0 z1 zq1 z2 zq2 z3 zq3 z4 zq4 z5 zq5 z6 zq6
          have FS6 := ((((((((Fr.refl (One q6) Y).setCell ⟨q6, 0, none⟩ (.int .i64 x.kind) (fun _ => rfl)).setCell ⟨q6, 1, none⟩ (.int .i64 x.op) (fun _ => rfl)).setCell ⟨q6, 2, none⟩ (.int .i64 x.a) (fun _ => rfl)).setCell ⟨q6, 3, none⟩ (.int .i64 x.b) (fun _ => rfl)).setCell ⟨q6, 4, none⟩ (.int .u64 x.n) (fun _ => rfl)).setCell ⟨q6, 5, none⟩ (.slice Aa na ca) (fun _ => rfl)).setCell ⟨q6, 6, none⟩ (.slice Ao no co) (fun _ => rfl))
          have C6 : Hid (Blk (((((((Y.setCell ⟨q6, 0, none⟩ (.int .i64 x.kind)).setCell ⟨q6, 1, none⟩ (.int .i64 x.op)).setCell ⟨q6, 2, none⟩ (.int .i64 x.a)).setCell ⟨q6, 3, none⟩ (.int .i64 x.b)).setCell ⟨q6, 4, none⟩ (.int .u64 x.n)).setCell ⟨q6, 5, none⟩ (.slice Aa na ca)).setCell ⟨q6, 6, none⟩ (.slice Ao no co)) q6 48 #[.int .i64 x.kind, .int .i64 x.op, .int .i64 x.a, .int .i64 x.b, .int .u64 x.n, .slice Aa na ca, .slice Ao no co]) := hid (by simpa using (((((((Bq6.out.set_ 0 (.int .i64 x.kind)).set_ 1 (.int .i64 x.op)).set_ 2 (.int .i64 x.a)).set_ 3 (.int .i64 x.b)).set_ 4 (.int .u64 x.n)).set_ 5 (.slice Aa na ca)).set_ 6 (.slice Ao no co)))
          have C7 := hid (Bq7.out.fr FS6 (fun h => by have h : q7 = q6 := h; have := hq.out; omega))
          have F3 := hid (F2.out.trans FS6 (fun i hi h => by have h : i = q6 := h; have h1 := hq0b.out; have h2 := hq1b.out; omega))
          clear FS6
          generalize (((((((Y.setCell ⟨q6, 0, none⟩ (.int .i64 x.kind)).setCell ⟨q6, 1, none⟩ (.int .i64 x.op)).setCell ⟨q6, 2, none⟩ (.int .i64 x.a)).setCell ⟨q6, 3, none⟩ (.int .i64 x.b)).setCell ⟨q6, 4, none⟩ (.int .u64 x.n)).setCell ⟨q6, 5, none⟩ (.slice Aa na ca)).setCell ⟨q6, 6, none⟩ (.slice Ao no co)) = Y2 at *
          refine hK _ _ (F3.out) ?_
          clear hK K
          repeat (first
            | (refine wpT_skip rfl rfl ?_; simp only [List.getElem_toArray, List.getElem_cons_succ, List.getElem_cons_zero, Act.put, List.setIfInBounds_toArray, List.set_cons_zero, List.set_cons_succ])
            | (refine wpT_call rfl rfl ?_; simp only [List.getElem_toArray, List.getElem_cons_succ, List.getElem_cons_zero]; apply Exists.intro; refine ⟨fun X hX => ?_, ?_⟩
               · (obtain ⟨s0, s1, s2, s3, s4, s5, s6, s7, s8, s9, s10, s11, s12, s13⟩ := HX.out X hX; go_simp; exact stillUpon_value)
               simp only [Act.put, List.setIfInBounds_toArray, List.set_cons_zero, List.set_cons_succ]))
          have z0 := C7.out.cell 0
          have z1 := C7.out.cell 1
          have z2 := C7.out.cell 2
          have z3 := C7.out.cell 3
          have z4 := C7.out.cell 4
          have z5 := C7.out.cell 5
          have z6 := C7.out.cell 6
          have zq0 := C7.out.frozen 0
          have zq1 := C7.out.frozen 1
          have zq2 := C7.out.frozen 2
          have zq3 := C7.out.frozen 3
          have zq4 := C7.out.frozen 4
          have zq5 := C7.out.frozen 5
          have zq6 := C7.out.frozen 6
          refine wpT_eff rfl rfl (fun K hK => ?_)
          simp only [List.getElem_toArray, List.getElem_cons_succ, List.getElem_cons_zero]
          go_simp
          clear z0 zq0 z1 zq1 z2 zq2 z3 zq3 z4 zq4 z5 zq5 z6 zq6
          have FS7 := ((((((((Fr.refl (One q7) Y2).setCell ⟨q7, 0, none⟩ (.int .i64 x.kind) (fun _ => rfl)).setCell ⟨q7, 1, none⟩ (.int .i64 x.op) (fun _ => rfl)).setCell ⟨q7, 2, none⟩ (.int .i64 x.a) (fun _ => rfl)).setCell ⟨q7, 3, none⟩ (.int .i64 x.b) (fun _ => rfl)).setCell ⟨q7, 4, none⟩ (.int .u64 x.n) (fun _ => rfl)).setCell ⟨q7, 5, none⟩ (.slice Aa' na ca') (fun _ => rfl)).setCell ⟨q7, 6, none⟩ (.slice Ao' no co') (fun _ => rfl))
          have D7 : Hid (Blk (((((((Y2.setCell ⟨q7, 0, none⟩ (.int .i64 x.kind)).setCell ⟨q7, 1, none⟩ (.int .i64 x.op)).setCell ⟨q7, 2, none⟩ (.int .i64 x.a)).setCell ⟨q7, 3, none⟩ (.int .i64 x.b)).setCell ⟨q7, 4, none⟩ (.int .u64 x.n)).setCell ⟨q7, 5, none⟩ (.slice Aa' na ca')).setCell ⟨q7, 6, none⟩ (.slice Ao' no co')) q7 48 #[.int .i64 x.kind, .int .i64 x.op, .int .i64 x.a, .int .i64 x.b, .int .u64 x.n, .slice Aa' na ca', .slice Ao' no co']) := hid (by simpa using (((((((C7.out.set_ 0 (.int .i64 x.kind)).set_ 1 (.int .i64 x.op)).set_ 2 (.int .i64 x.a)).set_ 3 (.int .i64 x.b)).set_ 4 (.int .u64 x.n)).set_ 5 (.slice Aa' na ca')).set_ 6 (.slice Ao' no co')))
          have D6 := hid (C6.out.fr FS7 (fun h => by have h : q6 = q7 := h; have := hq.out; omega))
          have F4 := hid (F3.out.trans FS7 (fun i hi h => by have h : i = q7 := h; have h1 := hq0b.out; have h2 := hq1b.out; omega))
          clear FS7
          generalize (((((((Y2.setCell ⟨q7, 0, none⟩ (.int .i64 x.kind)).setCell ⟨q7, 1, none⟩ (.int .i64 x.op)).setCell ⟨q7, 2, none⟩ (.int .i64 x.a)).setCell ⟨q7, 3, none⟩ (.int .i64 x.b)).setCell ⟨q7, 4, none⟩ (.int .u64 x.n)).setCell ⟨q7, 5, none⟩ (.slice Aa' na ca')).setCell ⟨q7, 6, none⟩ (.slice Ao' no co')) = Y3 at *
          refine hK _ _ (F4.out) ?_
          clear hK K
          repeat (first
            | (refine wpT_skip rfl rfl ?_; simp only [List.getElem_toArray, List.getElem_cons_succ, List.getElem_cons_zero, Act.put, List.setIfInBounds_toArray, List.set_cons_zero, List.set_cons_succ])
            | (refine wpT_call rfl rfl ?_; simp only [List.getElem_toArray, List.getElem_cons_succ, List.getElem_cons_zero]; apply Exists.intro; refine ⟨fun X hX => ?_, ?_⟩
               · (obtain ⟨s0, s1, s2, s3, s4, s5, s6, s7, s8, s9, s10, s11, s12, s13⟩ := HX.out X hX; go_simp; exact stillUpon_value)
               simp only [Act.put, List.setIfInBounds_toArray, List.set_cons_zero, List.set_cons_succ]))
          refine wpT_nil ?_
          go_wp2_with fail
          go_meet
          case rel => exact ⟨q6, q7, rfl, rfl, D6, D7, F4⟩
        · skip
          refine wpT_eff rfl rfl (fun K hK => ?_)
          simp only [List.getElem_toArray, List.getElem_cons_succ, List.getElem_cons_zero]
          go_simp
          have Bq7 := hid ((Blk.new wr 48 #[.int .i64 0, .int .i64 0, .int .i64 0, .int .i64 0, .int .u64 0, .slice none 0 0, .slice none 0 0]).drew)
          have F1 := hid (((Fr.refl No wr).alloc (.cells #[.int .i64 0, .int .i64 0, .int .i64 0, .int .i64 0, .int .u64 0, .slice none 0 0, .slice none 0 0] 48)).drew)
          obtain ⟨q7, hq7⟩ : ∃ q, wr.heap.size = q := ⟨_, rfl⟩
          rw [hq7] at Bq7 ⊢
          have hq0b : Hid (wr.heap.size ≤ q7) := hid (Nat.le_of_eq hq7)
          clear hq7
          generalize (wr.alloc (.cells #[.int .i64 0, .int .i64 0, .int .i64 0, .int .i64 0, .int .u64 0, .slice none 0 0, .slice none 0 0] 48)).drew = Y1 at *
          refine hK _ _ (F1.out) ?_
          clear hK K
          repeat (first
            | (refine wpT_skip rfl rfl ?_; simp only [List.getElem_toArray, List.getElem_cons_succ, List.getElem_cons_zero, Act.put, List.setIfInBounds_toArray, List.set_cons_zero, List.set_cons_succ])
            | (refine wpT_call rfl rfl ?_; simp only [List.getElem_toArray, List.getElem_cons_succ, List.getElem_cons_zero]; apply Exists.intro; refine ⟨fun X hX => ?_, ?_⟩
               · (obtain ⟨s0, s1, s2, s3, s4, s5, s6, s7, s8, s9, s10, s11, s12, s13⟩ := HX.out X hX; go_simp; exact stillUpon_value)
               simp only [Act.put, List.setIfInBounds_toArray, List.set_cons_zero, List.set_cons_succ]))
          refine wpT_eff rfl rfl (fun K hK => ?_)
          simp only [List.getElem_toArray, List.getElem_cons_succ, List.getElem_cons_zero]
          go_simp
          have F2 := hid (F1.out.alloc (.cells #[.int .i64 0, .int .i64 0, .int .i64 0, .int .i64 0, .int .u64 0, .slice none 0 0, .slice none 0 0] 48))
          have hq := hid Bq7.out.lt
          have Bq7 := hid (Bq7.out.alloc (.cells #[.int .i64 0, .int .i64 0, .int .i64 0, .int .i64 0, .int .u64 0, .slice none 0 0, .slice none 0 0] 48))
          have Bq6 := hid (Blk.new Y1 48 #[.int .i64 0, .int .i64 0, .int .i64 0, .int .i64 0, .int .u64 0, .slice none 0 0, .slice none 0 0])
          obtain ⟨q6, hq6⟩ : ∃ q, Y1.heap.size = q := ⟨_, rfl⟩
          rw [hq6] at Bq6 hq ⊢
          have hq1b : Hid (wr.heap.size ≤ q6) := hid (by have h1 := F1.out.size; omega)
          clear hq6
          generalize Y1.alloc (.cells #[.int .i64 0, .int .i64 0, .int .i64 0, .int .i64 0, .int .u64 0, .slice none 0 0, .slice none 0 0] 48) = Y at *
          refine hK _ _ (F2.out) ?_
          clear hK K
          repeat (first
            | (refine wpT_skip rfl rfl ?_; simp only [List.getElem_toArray, List.getElem_cons_succ, List.getElem_cons_zero, Act.put, List.setIfInBounds_toArray, List.set_cons_zero, List.set_cons_succ])
            | (refine wpT_call rfl rfl ?_; simp only [List.getElem_toArray, List.getElem_cons_succ, List.getElem_cons_zero]; apply Exists.intro; refine ⟨fun X hX => ?_, ?_⟩
               · (obtain ⟨s0, s1, s2, s3, s4, s5, s6, s7, s8, s9, s10, s11, s12, s13⟩ := HX.out X hX; go_simp; exact stillUpon_value)
               simp only [Act.put, List.setIfInBounds_toArray, List.set_cons_zero, List.set_cons_succ]))
          have z0 := Bq6.out.cell 0
          have z1 := Bq6.out.cell 1
          have z2 := Bq6.out.cell 2
          have z3 := Bq6.out.cell 3
          have z4 := Bq6.out.cell 4
          have z5 := Bq6.out.cell 5
          have z6 := Bq6.out.cell 6
          have zq0 := Bq6.out.frozen 0
          have zq1 := Bq6.out.frozen 1
          have zq2 := Bq6.out.frozen 2
          have zq3 := Bq6.out.frozen 3
          have zq4 := Bq6.out.frozen 4
          have zq5 := Bq6.out.frozen 5
          have zq6 := Bq6.out.frozen 6
          refine wpT_eff rfl rfl (fun K hK => ?_)
          simp only [List.getElem_toArray, List.getElem_cons_succ, List.getElem_cons_zero]
          go_simp
          clear z0 zq0 z1 zq1 z2 zq2 z3 zq3 z4 zq4 z5 zq5 z6 zq6
          have FS6 := ((((((((Fr.refl (One q6) Y).setCell ⟨q6, 0, none⟩ (.int .i64 x.kind) (fun _ => rfl)).setCell ⟨q6, 1, none⟩ (.int .i64 x.op) (fun _ => rfl)).setCell ⟨q6, 2, none⟩ (.int .i64 x.a) (fun _ => rfl)).setCell ⟨q6, 3, none⟩ (.int .i64 x.b) (fun _ => rfl)).setCell ⟨q6, 4, none⟩ (.int .u64 x.n) (fun _ => rfl)).setCell ⟨q6, 5, none⟩ (.slice Aa na ca) (fun _ => rfl)).setCell ⟨q6, 6, none⟩ (.slice Ao no co) (fun _ => rfl))
          have C6 : Hid (Blk (((((((Y.setCell ⟨q6, 0, none⟩ (.int .i64 x.kind)).setCell ⟨q6, 1, none⟩ (.int .i64 x.op)).setCell ⟨q6, 2, none⟩ (.int .i64 x.a)).setCell ⟨q6, 3, none⟩ (.int .i64 x.b)).setCell ⟨q6, 4, none⟩ (.int .u64 x.n)).setCell ⟨q6, 5, none⟩ (.slice Aa na ca)).setCell ⟨q6, 6, none⟩ (.slice Ao no co)) q6 48 #[.int .i64 x.kind, .int .i64 x.op, .int .i64 x.a, .int .i64 x.b, .int .u64 x.n, .slice Aa na ca, .slice Ao no co]) := hid (by simpa using (((((((Bq6.out.set_ 0 (.int .i64 x.kind)).set_ 1 (.int .i64 x.op)).set_ 2 (.int .i64 x.a)).set_ 3 (.int .i64 x.b)).set_ 4 (.int .u64 x.n)).set_ 5 (.slice Aa na ca)).set_ 6 (.slice Ao no co)))
          have C7 := hid (Bq7.out.fr FS6 (fun h => by have h : q7 = q6 := h; have := hq.out; omega))
          have F3 := hid (F2.out.trans FS6 (fun i hi h => by have h : i = q6 := h; have h1 := hq0b.out; have h2 := hq1b.out; omega))
          clear FS6
          generalize (((((((Y.setCell ⟨q6, 0, none⟩ (.int .i64 x.kind)).setCell ⟨q6, 1, none⟩ (.int .i64 x.op)).setCell ⟨q6, 2, none⟩ (.int .i64 x.a)).setCell ⟨q6, 3, none⟩ (.int .i64 x.b)).setCell ⟨q6, 4, none⟩ (.int .u64 x.n)).setCell ⟨q6, 5, none⟩ (.slice Aa na ca)).setCell ⟨q6, 6, none⟩ (.slice Ao no co)) = Y2 at *
          refine hK _ _ (F3.out) ?_
          clear hK K
          repeat (first
            | (refine wpT_skip rfl rfl ?_; simp only [List.getElem_toArray, List.getElem_cons_succ, List.getElem_cons_zero, Act.put, List.setIfInBounds_toArray, List.set_cons_zero, List.set_cons_succ])
            | (refine wpT_call rfl rfl ?_; simp only [List.getElem_toArray, List.getElem_cons_succ, List.getElem_cons_zero]; apply Exists.intro; refine ⟨fun X hX => ?_, ?_⟩
               · (obtain ⟨s0, s1, s2, s3, s4, s5, s6, s7, s8, s9, s10, s11, s12, s13⟩ := HX.out X hX; go_simp; exact stillUpon_value)
               simp only [Act.put, List.setIfInBounds_toArray, List.set_cons_zero, List.set_cons_succ]))
          have z0 := C7.out.cell 0
          have z1 := C7.out.cell 1
          have z2 := C7.out.cell 2
          have z3 := C7.out.cell 3
          have z4 := C7.out.cell 4
          have z5 := C7.out.cell 5
          have z6 := C7.out.cell 6
          have zq0 := C7.out.frozen 0
          have zq1 := C7.out.frozen 1
          have zq2 := C7.out.frozen 2
          have zq3 := C7.out.frozen 3
          have zq4 := C7.out.frozen 4
          have zq5 := C7.out.frozen 5
          have zq6 := C7.out.frozen 6
          refine wpT_eff rfl rfl (fun K hK => ?_)
          simp only [List.getElem_toArray, List.getElem_cons_succ, List.getElem_cons_zero]
          go_simp
          clear z0 zq0 z1 zq1 z2 zq2 z3 zq3 z4 zq4 z5 zq5 z6 zq6
          have FS7 := ((((((((Fr.refl (One q7) Y2).setCell ⟨q7, 0, none⟩ (.int .i64 x.kind) (fun _ => rfl)).setCell ⟨q7, 1, none⟩ (.int .i64 x.op) (fun _ => rfl)).setCell ⟨q7, 2, none⟩ (.int .i64 x.a) (fun _ => rfl)).setCell ⟨q7, 3, none⟩ (.int .i64 x.b) (fun _ => rfl)).setCell ⟨q7, 4, none⟩ (.int .u64 x.n) (fun _ => rfl)).setCell ⟨q7, 5, none⟩ (.slice Aa' na ca') (fun _ => rfl)).setCell ⟨q7, 6, none⟩ (.slice Ao' no co') (fun _ => rfl))
          have D7 : Hid (Blk (((((((Y2.setCell ⟨q7, 0, none⟩ (.int .i64 x.kind)).setCell ⟨q7, 1, none⟩ (.int .i64 x.op)).setCell ⟨q7, 2, none⟩ (.int .i64 x.a)).setCell ⟨q7, 3, none⟩ (.int .i64 x.b)).setCell ⟨q7, 4, none⟩ (.int .u64 x.n)).setCell ⟨q7, 5, none⟩ (.slice Aa' na ca')).setCell ⟨q7, 6, none⟩ (.slice Ao' no co')) q7 48 #[.int .i64 x.kind, .int .i64 x.op, .int .i64 x.a, .int .i64 x.b, .int .u64 x.n, .slice Aa' na ca', .slice Ao' no co']) := hid (by simpa using (((((((C7.out.set_ 0 (.int .i64 x.kind)).set_ 1 (.int .i64 x.op)).set_ 2 (.int .i64 x.a)).set_ 3 (.int .i64 x.b)).set_ 4 (.int .u64 x.n)).set_ 5 (.slice Aa' na ca')).set_ 6 (.slice Ao' no co')))
          have D6 := hid (C6.out.fr FS7 (fun h => by have h : q6 = q7 := h; have := hq.out; omega))
          have F4 := hid (F3.out.trans FS7 (fun i hi h => by have h : i = q7 := h; have h1 := hq0b.out; have h2 := hq1b.out; omega))
          clear FS7
          generalize (((((((Y2.setCell ⟨q7, 0, none⟩ (.int .i64 x.kind)).setCell ⟨q7, 1, none⟩ (.int .i64 x.op)).setCell ⟨q7, 2, none⟩ (.int .i64 x.a)).setCell ⟨q7, 3, none⟩ (.int .i64 x.b)).setCell ⟨q7, 4, none⟩ (.int .u64 x.n)).setCell ⟨q7, 5, none⟩ (.slice Aa' na ca')).setCell ⟨q7, 6, none⟩ (.slice Ao' no co')) = Y3 at *
          refine hK _ _ (F4.out) ?_
          clear hK K
          repeat (first
            | (refine wpT_skip rfl rfl ?_; simp only [List.getElem_toArray, List.getElem_cons_succ, List.getElem_cons_zero, Act.put, List.setIfInBounds_toArray, List.set_cons_zero, List.set_cons_succ])
            | (refine wpT_call rfl rfl ?_; simp only [List.getElem_toArray, List.getElem_cons_succ, List.getElem_cons_zero]; apply Exists.intro; refine ⟨fun X hX => ?_, ?_⟩
               · (obtain ⟨s0, s1, s2, s3, s4, s5, s6, s7, s8, s9, s10, s11, s12, s13⟩ := HX.out X hX; go_simp; exact stillUpon_value)
               simp only [Act.put, List.setIfInBounds_toArray, List.set_cons_zero, List.set_cons_succ]))
          refine wpT_nil ?_
          go_wp2_with fail
          go_meet
          case rel => exact ⟨q6, q7, rfl, rfl, D6, D7, F4⟩
      case rest =>
        obtain ⟨q6, q7, rfl, rfl, D6, D7, F4⟩ := hcut
        have FX := hid (FR.out.trans F4.out (fun _ _ h => h))
        clear HX
        have u0 := D6.out.cell 0
        have v0 := D7.out.cell 0
        have u1 := D6.out.cell 1
        have v1 := D7.out.cell 1
        have u2 := D6.out.cell 2
        have v2 := D7.out.cell 2
        have u3 := D6.out.cell 3
        have v3 := D7.out.cell 3
        have u4 := D6.out.cell 4
        have v4 := D7.out.cell 4
        have u5 := D6.out.cell 5
        have v5 := D7.out.cell 5
        go_wp2_with fail
        refine (HI1.out _ FX.out).mono ?_
        rintro e w5 ⟨rfl, f⟩
        have F5 := hid (FX.out.trans f (fun _ _ h => h))
        have E6 := hid (D6.out.fr f (fun x => x))
        have E7 := hid (D7.out.fr f (fun x => x))
        clear f u0 v0 u1 v1 u2 v2 u3 v3 u4 v4 u5 v5
        have u6 := E6.out.cell 6
        have v6 := E7.out.cell 6
        go_wp2_with fail
        refine (HI2.out _ F5.out).mono ?_
        rintro e w6 ⟨rfl, f⟩
        have F6 := hid (F5.out.trans f (fun _ _ h => h))
        clear f u6 v6
        go_wp2_with fail
        go_round
        case rel => exact ⟨k + 1, by omega, by go_num, F6⟩
        case measure => simp [intOf]; omega
    · have hkn : n = k := by omega
      subst hkn
      clear hgo
      go_wp2
      go_ret
      exact ⟨rfl, FR.out⟩
end Go.Proofs.Ytiafkakkbbclhaa
