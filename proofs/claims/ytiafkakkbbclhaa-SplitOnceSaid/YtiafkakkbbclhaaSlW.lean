/- Chapter 46: the reference's Same answers true of equal forms. -/
import Derived.Test.YtiafkakkbbclhaaSlV
namespace Go.Proofs.Ytiafkakkbbclhaa
open Go.RowKit

set_option maxRecDepth 100000 in
set_option maxHeartbeats 3200000 in
theorem samee_any (Aa At Aa' At' : Option Addr) (ca ct ca' ct' na nt : Nat) (en : En) (S S' : Nat → Prop) (w : World) (h1 : tI.els w S Aa en.args) (h2 : tEd.els w S At en.to) (h3 : tI.els w S' Aa' en.args) (h4 : tEd.els w S' At' en.to) (hS : ∀ k, S k → k < w.heap.size) (hS' : ∀ k, S' k → k < w.heap.size)
    (hna : Hid (en.args.length = na)) (hnt : Hid (en.to.length = nt)) (la : na * 8 ≤ 140737488351232) (lt : nt ≤ 100000) (le : ∀ e ∈ en.to, e.args.length * 8 ≤ 140737488351232) :
    Calls Try.prog 25 #[.agg #[.int .i64 en.kind, .int .i64 en.cond, .slice Aa na ca, .slice At nt ct, .int .i64 en.trap], .agg #[.int .i64 en.kind, .int .i64 en.cond, .slice Aa' na ca', .slice At' nt ct', .int .i64 en.trap]] w (YesTo w) := by
  have F0 := hid (((Fr.refl No w).alloc (.cells #[.int .i64 en.kind, .int .i64 en.cond, .slice Aa na ca, .slice At nt ct, .int .i64 en.trap] 40)).alloc (.cells #[.int .i64 en.kind, .int .i64 en.cond, .slice Aa' na ca', .slice At' nt ct', .int .i64 en.trap] 40))
  have G1 := hid ((Blk.new w 40 #[.int .i64 en.kind, .int .i64 en.cond, .slice Aa na ca, .slice At nt ct, .int .i64 en.trap]).alloc (.cells #[.int .i64 en.kind, .int .i64 en.cond, .slice Aa' na ca', .slice At' nt ct', .int .i64 en.trap] 40))
  have G2 := hid (Blk.new1 w (.cells #[.int .i64 en.kind, .int .i64 en.cond, .slice Aa na ca, .slice At nt ct, .int .i64 en.trap] 40) 40 #[.int .i64 en.kind, .int .i64 en.cond, .slice Aa' na ca', .slice At' nt ct', .int .i64 en.trap])
  have H2 := hid h2
  have H4 := hid h4
  have HS := hid hS
  have HS' := hid hS'
  have HLE := hid le
  have HI := hid (fun X (f : Fr No w X) => ints_any Aa Aa' ca ca' na en.args S S' X (h1.fr f (fun k hk => ⟨hS k hk, fun x => x⟩)) (h3.fr f (fun k hk => ⟨hS' k hk, fun x => x⟩)) (fun k hk => Nat.lt_of_lt_of_le (hS k hk) f.size) (fun k hk => Nat.lt_of_lt_of_le (hS' k hk) f.size) hna (by omega))
  clear h1 h2 h3 h4 hS hS' le
  have y0 := G1.out.cell 0
  have z0 := G2.out.cell 0
  have y1 := G1.out.cell 1
  have z1 := G2.out.cell 1
  have y2 := G1.out.cell 2
  have z2 := G2.out.cell 2
  have y3 := G1.out.cell 3
  have z3 := G2.out.cell 3
  have y4 := G1.out.cell 4
  have z4 := G2.out.cell 4
  go_enter Try.func25, Try.ntmps25
  go_wp2_with fail
  generalize (w.alloc (.cells #[.int .i64 en.kind, .int .i64 en.cond, .slice Aa na ca, .slice At nt ct, .int .i64 en.trap] 40)).alloc (.cells #[.int .i64 en.kind, .int .i64 en.cond, .slice Aa' na ca', .slice At' nt ct', .int .i64 en.trap] 40) = W at *
  refine (HI.out _ F0.out).mono ?_
  clear HI y0 z0 y1 z1 y2 z2 y3 z3 y4 z4
  rintro e w1 ⟨rfl, f⟩
  have F1 := hid (F0.out.trans f (fun _ _ h => h))
  have B1 := hid (G1.out.fr f (fun x => x))
  have B2 := hid (G2.out.fr f (fun x => x))
  have y3 := B1.out.cell 3
  have z3 := B2.out.cell 3
  clear f G1 G2 F0
  go_wp2_with fail
  clear y3 z3
  go_loopw [5] (fun i wr => ∃ k : Nat, k ≤ nt ∧ i = .int .i64 k ∧ Hid (Fr No w1 wr)) (fun i _ => nt - (intOf i).toNat)
  case atStart => exact ⟨0, by omega, rfl, hid (Fr.refl No w1)⟩
  case round =>
    obtain ⟨k, hk, rfl, FR⟩ := hrel
    have y3 := (B1.out.fr FR.out (fun x => x)).cell 3
    have z3 := (B2.out.fr FR.out (fun x => x)).cell 3
    by_cases hgo : k < nt
    · have hlk : k < en.to.length := by have := hnt.out; omega
      obtain ⟨b, o, A5, c5, rfl, hb, u0, u1, _, _, _, ea⟩ := Ed_at H2.out k hlk
      obtain ⟨b', o', A6, c6, rfl, hb', v0, v1, _, _, _, ea'⟩ := Ed_at H4.out k hlk
      have hga := HLE.out _ (List.getElem_mem hlk)
      have hb1 := HS.out b hb
      have hb2 := HS'.out b' hb'
      have HX : Hid (∀ X, Fr No wr X → X.cell? ⟨w.heap.size, 3, none⟩ = some (.slice (some ⟨b, o, none⟩) nt ct) ∧ X.cell? ⟨w.heap.size + 1, 3, none⟩ = some (.slice (some ⟨b', o', none⟩) nt ct') ∧ X.cell? ⟨b, o + k * 2, none⟩ = some (.int .i64 en.to[k].to) ∧ X.cell? ⟨b, o + k * 2 + 1, none⟩ = some (.slice A5 en.to[k].args.length c5) ∧ X.cell? ⟨b', o' + k * 2, none⟩ = some (.int .i64 en.to[k].to) ∧ X.cell? ⟨b', o' + k * 2 + 1, none⟩ = some (.slice A6 en.to[k].args.length c6)) := hid fun X f => by
        have g1 := FR.out.trans f (fun _ _ h => h)
        have g := F1.out.trans g1 (fun _ _ h => h)
        exact ⟨(B1.out.fr g1 (fun x => x)).cell 3, (B2.out.fr g1 (fun x => x)).cell 3, (g.cell (p := ⟨b, o + k * 2, none⟩) hb1 (fun x => x)).trans u0, (g.cell (p := ⟨b, o + k * 2 + 1, none⟩) hb1 (fun x => x)).trans u1, (g.cell (p := ⟨b', o' + k * 2, none⟩) hb2 (fun x => x)).trans v0, (g.cell (p := ⟨b', o' + k * 2 + 1, none⟩) hb2 (fun x => x)).trans v1⟩
      generalize en.to[k].to = t at *
      generalize hee : en.to[k].args = ea0 at *
      obtain ⟨nn, hnn⟩ : ∃ n, ea0.length = n := ⟨_, rfl⟩
      rw [hnn] at HX hga
      have HI := hid (fun X (f : Fr No w X) => ints_any A5 A6 c5 c6 nn ea0 S S' X (ea.fr f (fun k hk => ⟨HS.out k hk, fun x => x⟩)) (ea'.fr f (fun k hk => ⟨HS'.out k hk, fun x => x⟩)) (fun k hk => Nat.lt_of_lt_of_le (HS.out k hk) f.size) (fun k hk => Nat.lt_of_lt_of_le (HS'.out k hk) f.size) hnn (by omega))
      have i0 : (0 : Int) ≤ k := by omega
      have i1 : (k : Int) < nt := by omega
      clear u0 u1 v0 v1 ea ea' hee hlk
      go_wp2_with fail
      clear y3 z3
      refine wp_region_ort (Fr No wr) (.rd 0 (.rd 1 (.rd 2 (.rd 3 (.rd 4 (.rd 5 (.rd 6 (.rd 7 (.rd 8 (.rd 9 (.rd 10 (.rd 11 (.rd 12 (.rd 13 (.rd 14 (.rd 15 (.rd 16 (.rd 17 (.rd 18 (.rd 19 (.rd 20 (.rd 21 (.rd 22 (.rd 23 (.rd 24 (.rd 25 (.eff 26 (.rd 27 (.rd 28 .nil))))))))))))))))))))))))))))) (by kernel_rfl) (by kernel_rfl) (by kernel_rfl) rfl (Fr.refl _ wr).drew ?_
      repeat (first
        | (refine wpT_skip rfl rfl ?_; simp only [List.getElem_toArray, List.getElem_cons_succ, List.getElem_cons_zero, Act.put, List.setIfInBounds_toArray, List.set_cons_zero, List.set_cons_succ])
        | (refine wpT_call rfl rfl ?_; simp only [List.getElem_toArray, List.getElem_cons_succ, List.getElem_cons_zero]; apply Exists.intro; refine ⟨fun X hX => ?_, ?_⟩
           · (obtain ⟨s0, s1, s2, s3, s4, s5⟩ := HX.out X hX; go_simp; exact stillUpon_value)
           simp only [Act.put, List.setIfInBounds_toArray, List.set_cons_zero, List.set_cons_succ]))
      refine wpT_eff rfl rfl (fun K hK => ?_)
      simp only [List.getElem_toArray, List.getElem_cons_succ, List.getElem_cons_zero]
      go_simp
      refine (HI.out _ (F1.out.trans (FR.out.trans (Fr.refl No wr).drew (fun _ _ h => h)) (fun _ _ h => h))).mono ?_
      rintro e w5 ⟨rfl, f⟩
      have F5 := hid ((Fr.refl No wr).drew.trans f (fun _ _ h => h))
      clear f HI
      refine hK _ _ (F5.out) ?_
      clear hK K
      repeat (first
        | (refine wpT_skip rfl rfl ?_; simp only [List.getElem_toArray, List.getElem_cons_succ, List.getElem_cons_zero, Act.put, List.setIfInBounds_toArray, List.set_cons_zero, List.set_cons_succ])
        | (refine wpT_call rfl rfl ?_; simp only [List.getElem_toArray, List.getElem_cons_succ, List.getElem_cons_zero]; apply Exists.intro; refine ⟨fun X hX => ?_, ?_⟩
           · (obtain ⟨s0, s1, s2, s3, s4, s5⟩ := HX.out X hX; go_simp; exact stillUpon_value)
           simp only [Act.put, List.setIfInBounds_toArray, List.set_cons_zero, List.set_cons_succ]))
      refine wpT_nil ?_
      have FX := hid (FR.out.trans F5.out (fun _ _ h => h))
      clear HX F5
      go_wp2_with fail
      go_round
      case rel => exact ⟨k + 1, by omega, by go_num, FX⟩
      case measure => simp [intOf]; omega
    · have hkn : nt = k := by omega
      subst hkn
      clear hgo
      go_wp2
      go_ret
      exact ⟨rfl, F1.out.trans FR.out (fun _ _ h => h)⟩
set_option maxHeartbeats 1600000 in
theorem samefn_any (P R P' R' : Option Addr) (np nr pc rc pc' rc' : Nat) (x : Fn) (S S' : Nat → Prop) (w : World) (h1 : tI.els w S P x.params) (h2 : tI.els w S R x.results) (h3 : tI.els w S' P' x.params) (h4 : tI.els w S' R' x.results) (hS : ∀ k, S k → k < w.heap.size) (hS' : ∀ k, S' k → k < w.heap.size)
    (hnp : Hid (x.params.length = np)) (hnr : Hid (x.results.length = nr)) (lp : np * 8 ≤ 140737488351232) (lr : nr * 8 ≤ 140737488351232) :
    Calls Try.prog 21 #[.agg #[.slice P np pc, .slice R nr rc], .agg #[.slice P' np pc', .slice R' nr rc']] w (YesTo w) := by
  have F0 := hid (((Fr.refl No w).alloc (.cells #[.slice P np pc, .slice R nr rc] 24)).alloc (.cells #[.slice P' np pc', .slice R' nr rc'] 24))
  have G1 := hid ((Blk.new w 24 #[.slice P np pc, .slice R nr rc]).alloc (.cells #[.slice P' np pc', .slice R' nr rc'] 24))
  have G2 := hid (Blk.new1 w (.cells #[.slice P np pc, .slice R nr rc] 24) 24 #[.slice P' np pc', .slice R' nr rc'])
  have HI1 := hid (fun X (f : Fr No w X) => vals_any P P' pc pc' np x.params S S' X (h1.fr f (fun k hk => ⟨hS k hk, fun x => x⟩)) (h3.fr f (fun k hk => ⟨hS' k hk, fun x => x⟩)) (fun k hk => Nat.lt_of_lt_of_le (hS k hk) f.size) (fun k hk => Nat.lt_of_lt_of_le (hS' k hk) f.size) hnp (by omega))
  have HI2 := hid (fun X (f : Fr No w X) => vals_any R R' rc rc' nr x.results S S' X (h2.fr f (fun k hk => ⟨hS k hk, fun x => x⟩)) (h4.fr f (fun k hk => ⟨hS' k hk, fun x => x⟩)) (fun k hk => Nat.lt_of_lt_of_le (hS k hk) f.size) (fun k hk => Nat.lt_of_lt_of_le (hS' k hk) f.size) hnr (by omega))
  have y0 := G1.out.cell 0
  have z0 := G2.out.cell 0
  clear h1 h2 h3 h4 hS hS'
  go_enter Try.func21, Try.ntmps21
  go_wp2_with fail
  generalize (w.alloc (.cells #[.slice P np pc, .slice R nr rc] 24)).alloc (.cells #[.slice P' np pc', .slice R' nr rc'] 24) = W at *
  refine (HI1.out _ F0.out).mono ?_
  clear HI1 y0 z0
  rintro e w1 ⟨rfl, f⟩
  have F1 := hid (F0.out.trans f (fun _ _ h => h))
  have y1 := (G1.out.fr f (fun x => x)).cell 1
  have z1 := (G2.out.fr f (fun x => x)).cell 1
  clear f
  go_wp2_with fail
  refine (HI2.out _ F1.out).mono ?_
  rintro e w2 ⟨rfl, f⟩
  have F2 := hid (F1.out.trans f (fun _ _ h => h))
  clear f y1 z1
  go_wp2
  go_ret
  exact ⟨rfl, F2.out⟩
end Go.Proofs.Ytiafkakkbbclhaa
