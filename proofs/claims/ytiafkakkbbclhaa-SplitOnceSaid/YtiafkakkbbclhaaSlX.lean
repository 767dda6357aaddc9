/- Chapter 46: the reference's Same answers true of equal forms. -/
import Derived.Test.YtiafkakkbbclhaaSlW
namespace Go.Proofs.Ytiafkakkbbclhaa
open Go.RowKit

/-- A form as it lies in memory. -/
structure FIn (w : World) (S : Nat → Prop) (x : Sf) (P R V B : Option Addr) : Prop where
  p : tI.els w S P x.type.params
  r : tI.els w S R x.type.results
  v : tI.els w S V x.vals
  b : tSb.els w S B x.blocks
  lt : ∀ k, S k → k < w.heap.size
theorem FIn.fr {w w' : World} {S : Nat → Prop} {x : Sf} {P R V B : Option Addr} (h : FIn w S x P R V B) (f : Fr No w w') : FIn w' S x P R V B :=
  ⟨h.p.fr f (fun k hk => ⟨h.lt k hk, fun x => x⟩), h.r.fr f (fun k hk => ⟨h.lt k hk, fun x => x⟩), h.v.fr f (fun k hk => ⟨h.lt k hk, fun x => x⟩), h.b.fr f (fun k hk => ⟨h.lt k hk, fun x => x⟩), fun k hk => Nat.lt_of_lt_of_le (h.lt k hk) f.size⟩
set_option maxRecDepth 100000 in
set_option maxHeartbeats 6400000 in
theorem same_any (P R V B P' R' V' B' : Option Addr) (np nr nv nb pc rc vc bc pc' rc' vc' bc' : Nat) (x : Sf) (S S' : Nat → Prop) (w : World) (h : FIn w S x P R V B) (h' : FIn w S' x P' R' V' B') (ep : Hid (x.type.params.length = np)) (er : Hid (x.type.results.length = nr)) (ev : Hid (x.vals.length = nv)) (eb : Hid (x.blocks.length = nb)) (hl : Hid (FL x)) :
    Calls Try.prog 11 #[.agg #[.slice P np pc, .slice R nr rc, .slice V nv vc, .slice B nb bc], .agg #[.slice P' np pc', .slice R' nr rc', .slice V' nv vc', .slice B' nb bc']] w (YesTo w) := by
  have F0 := hid (((Fr.refl No w).alloc (.cells #[.slice P np pc, .slice R nr rc, .slice V nv vc, .slice B nb bc] 27)).alloc (.cells #[.slice P' np pc', .slice R' nr rc', .slice V' nv vc', .slice B' nb bc'] 27))
  have G1 := hid ((Blk.new w 27 #[.slice P np pc, .slice R nr rc, .slice V nv vc, .slice B nb bc]).alloc (.cells #[.slice P' np pc', .slice R' nr rc', .slice V' nv vc', .slice B' nb bc'] 27))
  have G2 := hid (Blk.new1 w (.cells #[.slice P np pc, .slice R nr rc, .slice V nv vc, .slice B nb bc] 27) 27 #[.slice P' np pc', .slice R' nr rc', .slice V' nv vc', .slice B' nb bc'])
  have hlp := hl.out.p
  have hlr := hl.out.r
  have hlv := hl.out.v
  have hln := hl.out.nb
  rw [ep.out] at hlp
  rw [er.out] at hlr
  rw [ev.out] at hlv
  rw [eb.out] at hln
  have HF := hid (fun X (f : Fr No w X) => samefn_any P R P' R' np nr pc rc pc' rc' x.type S S' X (h.fr f).p (h.fr f).r (h'.fr f).p (h'.fr f).r (h.fr f).lt (h'.fr f).lt ep er hlp hlr)
  have HVV := hid (fun X (f : Fr No w X) => vals_any V V' vc vc' nv x.vals S S' X (h.fr f).v (h'.fr f).v (h.fr f).lt (h'.fr f).lt ev (by omega))
  have HH := hid h
  have HH' := hid h'
  have y0 := G1.out.cell 0
  have y1 := G1.out.cell 1
  have z0 := G2.out.cell 0
  have z1 := G2.out.cell 1
  clear h h'
  go_enter Try.func11, Try.ntmps11
  go_wp2_with fail
  generalize (w.alloc (.cells #[.slice P np pc, .slice R nr rc, .slice V nv vc, .slice B nb bc] 27)).alloc (.cells #[.slice P' np pc', .slice R' nr rc', .slice V' nv vc', .slice B' nb bc'] 27) = W at *
  refine (HF.out _ F0.out).mono ?_
  clear HF y0 y1 z0 z1
  rintro e w1 ⟨rfl, f⟩
  have F1 := hid (F0.out.trans f (fun _ _ h => h))
  have B1 := hid (G1.out.fr f (fun x => x))
  have B2 := hid (G2.out.fr f (fun x => x))
  have y2 := B1.out.cell 2
  have z2 := B2.out.cell 2
  clear f G1 G2 F0
  go_wp2_with fail
  refine (HVV.out _ F1.out).mono ?_
  clear HVV y2 z2
  rintro e w2 ⟨rfl, f⟩
  have F2 := hid (F1.out.trans f (fun _ _ h => h))
  replace B1 := hid (B1.out.fr f (fun x => x))
  replace B2 := hid (B2.out.fr f (fun x => x))
  have y3 := B1.out.cell 3
  have z3 := B2.out.cell 3
  clear f F1
  go_wp2_with fail
  clear y3 z3
  go_loopw [5] (fun i wr => ∃ k : Nat, k ≤ nb ∧ i = .int .i64 k ∧ Hid (Fr No w2 wr)) (fun i _ => nb - (intOf i).toNat)
  case atStart => exact ⟨0, by omega, rfl, hid (Fr.refl No w2)⟩
  case round =>
    obtain ⟨k, hk, rfl, FR⟩ := hrel
    have y3 := (B1.out.fr FR.out (fun x => x)).cell 3
    have z3 := (B2.out.fr FR.out (fun x => x)).cell 3
    by_cases hgo : k < nb
    · have hlk : k < x.blocks.length := by have := eb.out; omega
      obtain ⟨b, o, A0, c0, A1, c1, A2, c2, A3, c3, rfl, hb, u0, u1, u2, u3, u4, u5, u6, _, _, e0, _, _, e1, _, _, _, _, e2, _, _, e3, _⟩ := Sb_at HH.out.b k hlk
      obtain ⟨b', o', A0', c0', A1', c1', A2', c2', A3', c3', rfl, hb', v0, v1, v2, v3, v4, v5, v6, _, _, d0, _, _, d1, _, _, _, _, d2, _, _, d3, _⟩ := Sb_at HH'.out.b k hlk
      have hb1 := HH.out.lt b hb
      have hb2 := HH'.out.lt b' hb'
      have hmem := List.getElem_mem hlk
      have hbp := hl.out.bp _ hmem
      have hbi := hl.out.bi _ hmem
      have hba := hl.out.ba _ hmem
      have hia := hl.out.ia _ hmem
      have hea := hl.out.ea _ hmem
      have htl := to_le hl.out.t k
      rw [toOf_el hlk] at htl
      generalize x.blocks[k] = bk at *
      obtain ⟨mp, hmp⟩ : ∃ n, bk.params.length = n := ⟨_, rfl⟩
      obtain ⟨mi, hmi⟩ : ∃ n, bk.ins.length = n := ⟨_, rfl⟩
      obtain ⟨ma, hma⟩ : ∃ n, bk.end_.args.length = n := ⟨_, rfl⟩
      obtain ⟨mt, hmt⟩ : ∃ n, bk.end_.to.length = n := ⟨_, rfl⟩
      rw [hmp] at u0 v0 hbp
      rw [hmi] at u1 v1 hbi
      rw [hma] at u4 v4 hba
      rw [hmt] at u5 v5 htl
      have hSX := fun X (f : Fr No w X) k (hk : S k) => Nat.lt_of_lt_of_le (HH.out.lt k hk) f.size
      have hSX' := fun X (f : Fr No w X) k (hk : S' k) => Nat.lt_of_lt_of_le (HH'.out.lt k hk) f.size
      have HI1 := hid (fun X (f : Fr No w X) => ints_any A0 A0' c0 c0' mp bk.params S S' X (e0.fr f (fun k hk => ⟨HH.out.lt k hk, fun x => x⟩)) (d0.fr f (fun k hk => ⟨HH'.out.lt k hk, fun x => x⟩)) (hSX X f) (hSX' X f) hmp (by omega))
      have HI2 := hid (fun X (f : Fr No w X) => samei_any A1 A1' c1 c1' mi bk.ins S S' X (e1.fr f (fun k hk => ⟨HH.out.lt k hk, fun x => x⟩)) (d1.fr f (fun k hk => ⟨HH'.out.lt k hk, fun x => x⟩)) (hSX X f) (hSX' X f) hmi hbi hia)
      have HI3 := hid (fun X (f : Fr No w X) => samee_any A2 A3 A2' A3' c2 c3 c2' c3' ma mt bk.end_ S S' X (e2.fr f (fun k hk => ⟨HH.out.lt k hk, fun x => x⟩)) (e3.fr f (fun k hk => ⟨HH.out.lt k hk, fun x => x⟩)) (d2.fr f (fun k hk => ⟨HH'.out.lt k hk, fun x => x⟩)) (d3.fr f (fun k hk => ⟨HH'.out.lt k hk, fun x => x⟩)) (hSX X f) (hSX' X f) hma hmt hba htl hea)
      have HX : Hid (∀ X, Fr No wr X → X.cell? ⟨w.heap.size, 3, none⟩ = some (.slice (some ⟨b, o, none⟩) nb bc) ∧ X.cell? ⟨w.heap.size + 1, 3, none⟩ = some (.slice (some ⟨b', o', none⟩) nb bc') ∧ X.cell? ⟨b, o + k * 7, none⟩ = some (.slice A0 mp c0) ∧ X.cell? ⟨b, o + k * 7 + 1, none⟩ = some (.slice A1 mi c1) ∧ X.cell? ⟨b, o + k * 7 + 2, none⟩ = some (.int .i64 bk.end_.kind) ∧ X.cell? ⟨b, o + k * 7 + 3, none⟩ = some (.int .i64 bk.end_.cond) ∧ X.cell? ⟨b, o + k * 7 + 4, none⟩ = some (.slice A2 ma c2) ∧ X.cell? ⟨b, o + k * 7 + 5, none⟩ = some (.slice A3 mt c3) ∧ X.cell? ⟨b, o + k * 7 + 6, none⟩ = some (.int .i64 bk.end_.trap) ∧ X.cell? ⟨b', o' + k * 7, none⟩ = some (.slice A0' mp c0') ∧ X.cell? ⟨b', o' + k * 7 + 1, none⟩ = some (.slice A1' mi c1') ∧ X.cell? ⟨b', o' + k * 7 + 2, none⟩ = some (.int .i64 bk.end_.kind) ∧ X.cell? ⟨b', o' + k * 7 + 3, none⟩ = some (.int .i64 bk.end_.cond) ∧ X.cell? ⟨b', o' + k * 7 + 4, none⟩ = some (.slice A2' ma c2') ∧ X.cell? ⟨b', o' + k * 7 + 5, none⟩ = some (.slice A3' mt c3') ∧ X.cell? ⟨b', o' + k * 7 + 6, none⟩ = some (.int .i64 bk.end_.trap)) := hid fun X f => by
        have g1 := FR.out.trans f (fun _ _ h => h)
        have g := F2.out.trans g1 (fun _ _ h => h)
        exact ⟨(B1.out.fr g1 (fun x => x)).cell 3, (B2.out.fr g1 (fun x => x)).cell 3, (g.cell (p := ⟨b, o + k * 7, none⟩) hb1 (fun x => x)).trans u0, (g.cell (p := ⟨b, o + k * 7 + 1, none⟩) hb1 (fun x => x)).trans u1, (g.cell (p := ⟨b, o + k * 7 + 2, none⟩) hb1 (fun x => x)).trans u2, (g.cell (p := ⟨b, o + k * 7 + 3, none⟩) hb1 (fun x => x)).trans u3, (g.cell (p := ⟨b, o + k * 7 + 4, none⟩) hb1 (fun x => x)).trans u4, (g.cell (p := ⟨b, o + k * 7 + 5, none⟩) hb1 (fun x => x)).trans u5, (g.cell (p := ⟨b, o + k * 7 + 6, none⟩) hb1 (fun x => x)).trans u6, (g.cell (p := ⟨b', o' + k * 7, none⟩) hb2 (fun x => x)).trans v0, (g.cell (p := ⟨b', o' + k * 7 + 1, none⟩) hb2 (fun x => x)).trans v1, (g.cell (p := ⟨b', o' + k * 7 + 2, none⟩) hb2 (fun x => x)).trans v2, (g.cell (p := ⟨b', o' + k * 7 + 3, none⟩) hb2 (fun x => x)).trans v3, (g.cell (p := ⟨b', o' + k * 7 + 4, none⟩) hb2 (fun x => x)).trans v4, (g.cell (p := ⟨b', o' + k * 7 + 5, none⟩) hb2 (fun x => x)).trans v5, (g.cell (p := ⟨b', o' + k * 7 + 6, none⟩) hb2 (fun x => x)).trans v6⟩
      have i0 : (0 : Int) ≤ k := by omega
      have i1 : (k : Int) < nb := by omega
      clear u0 u1 u2 u3 u4 u5 u6 v0 v1 v2 v3 v4 v5 v6 e0 e1 e2 e3 d0 d1 d2 d3 hSX hSX' hmem
      go_upto_region 6 with fail
      clear y3 z3
      go_cut [6, 7] (fun v6 v7 wx => ∃ (q6 q7 : Nat), v6 = .pointer (some ⟨q6, 0, none⟩) ∧ v7 = .pointer (some ⟨q7, 0, none⟩) ∧ Hid (Blk wx q6 42 #[.slice A0 mp c0, .slice A1 mi c1, .int .i64 bk.end_.kind, .int .i64 bk.end_.cond, .slice A2 ma c2, .slice A3 mt c3, .int .i64 bk.end_.trap]) ∧ Hid (Blk wx q7 42 #[.slice A0' mp c0', .slice A1' mi c1', .int .i64 bk.end_.kind, .int .i64 bk.end_.cond, .slice A2' ma c2', .slice A3' mt c3', .int .i64 bk.end_.trap]) ∧ Hid (Fr No wr wx))
      case first =>
        refine wp_region_ort (Fr No wr) (.rd 0 (.rd 1 (.rd 2 (.rd 3 (.rd 4 (.rd 5 (.rd 6 (.rd 7 (.rd 8 (.rd 9 (.alt 10 (.eff 11 (.eff 12 (.eff 13 .nil))) 11 (.eff 10 (.eff 12 (.eff 13 .nil)))))))))))))) (by kernel_rfl) (by kernel_rfl) (by kernel_rfl) rfl (Fr.refl _ wr).drew ?_
        repeat (first
          | (refine wpT_skip rfl rfl ?_; simp only [List.getElem_toArray, List.getElem_cons_succ, List.getElem_cons_zero, Act.put, List.setIfInBounds_toArray, List.set_cons_zero, List.set_cons_succ])
          | (refine wpT_call rfl rfl ?_; simp only [List.getElem_toArray, List.getElem_cons_succ, List.getElem_cons_zero]; apply Exists.intro; refine ⟨fun X hX => ?_, ?_⟩
             · (obtain ⟨s0, s1, s2, s3, s4, s5, s6, s7, s8, s9, s10, s11, s12, s13, s14, s15⟩ := HX.out X hX; go_simp; exact stillUpon_value)
             simp only [Act.put, List.setIfInBounds_toArray, List.set_cons_zero, List.set_cons_succ]))
        refine wpT_alt ?_ ?_
        · skip
          refine wpT_eff rfl rfl (fun K hK => ?_)
          simp only [List.getElem_toArray, List.getElem_cons_succ, List.getElem_cons_zero]
          go_simp
          have Bq6 := hid ((Blk.new wr 42 #[.slice none 0 0, .slice none 0 0, .int .i64 0, .int .i64 0, .slice none 0 0, .slice none 0 0, .int .i64 0]).drew)
          have F1 := hid (((Fr.refl No wr).alloc (.cells #[.slice none 0 0, .slice none 0 0, .int .i64 0, .int .i64 0, .slice none 0 0, .slice none 0 0, .int .i64 0] 42)).drew)
          obtain ⟨q6, hq6⟩ : ∃ q, wr.heap.size = q := ⟨_, rfl⟩
          rw [hq6] at Bq6 ⊢
          have hq0b : Hid (wr.heap.size ≤ q6) := hid (Nat.le_of_eq hq6)
          clear hq6
          generalize (wr.alloc (.cells #[.slice none 0 0, .slice none 0 0, .int .i64 0, .int .i64 0, .slice none 0 0, .slice none 0 0, .int .i64 0] 42)).drew = Y1 at *
          refine hK _ _ (F1.out) ?_
          clear hK K
          repeat (first
            | (refine wpT_skip rfl rfl ?_; simp only [List.getElem_toArray, List.getElem_cons_succ, List.getElem_cons_zero, Act.put, List.setIfInBounds_toArray, List.set_cons_zero, List.set_cons_succ])
            | (refine wpT_call rfl rfl ?_; simp only [List.getElem_toArray, List.getElem_cons_succ, List.getElem_cons_zero]; apply Exists.intro; refine ⟨fun X hX => ?_, ?_⟩
               · (obtain ⟨s0, s1, s2, s3, s4, s5, s6, s7, s8, s9, s10, s11, s12, s13, s14, s15⟩ := HX.out X hX; go_simp; exact stillUpon_value)
               simp only [Act.put, List.setIfInBounds_toArray, List.set_cons_zero, List.set_cons_succ]))
          refine wpT_eff rfl rfl (fun K hK => ?_)
          simp only [List.getElem_toArray, List.getElem_cons_succ, List.getElem_cons_zero]
          go_simp
          have F2 := hid (F1.out.alloc (.cells #[.slice none 0 0, .slice none 0 0, .int .i64 0, .int .i64 0, .slice none 0 0, .slice none 0 0, .int .i64 0] 42))
          have hq := hid Bq6.out.lt
          have Bq6 := hid (Bq6.out.alloc (.cells #[.slice none 0 0, .slice none 0 0, .int .i64 0, .int .i64 0, .slice none 0 0, .slice none 0 0, .int .i64 0] 42))
          have Bq7 := hid (Blk.new Y1 42 #[.slice none 0 0, .slice none 0 0, .int .i64 0, .int .i64 0, .slice none 0 0, .slice none 0 0, .int .i64 0])
          obtain ⟨q7, hq7⟩ : ∃ q, Y1.heap.size = q := ⟨_, rfl⟩
          rw [hq7] at Bq7 hq ⊢
          have hq1b : Hid (wr.heap.size ≤ q7) := hid (by have h1 := F1.out.size; omega)
          clear hq7
          generalize Y1.alloc (.cells #[.slice none 0 0, .slice none 0 0, .int .i64 0, .int .i64 0, .slice none 0 0, .slice none 0 0, .int .i64 0] 42) = Y at *
          refine hK _ _ (F2.out) ?_
          clear hK K
          repeat (first
            | (refine wpT_skip rfl rfl ?_; simp only [List.getElem_toArray, List.getElem_cons_succ, List.getElem_cons_zero, Act.put, List.setIfInBounds_toArray, List.set_cons_zero, List.set_cons_succ])
            | (refine wpT_call rfl rfl ?_; simp only [List.getElem_toArray, List.getElem_cons_succ, List.getElem_cons_zero]; apply Exists.intro; refine ⟨fun X hX => ?_, ?_⟩
               · (obtain ⟨s0, s1, s2, s3, s4, s5, s6, s7, s8, s9, s10, s11, s12, s13, s14, s15⟩ := HX.out X hX; go_simp; exact stillUpon_value)
               simp only [Act.put, List.setIfInBounds_toArray, List.set_cons_zero, List.set_cons_succ]))
          have z0 := Bq6.out.cell 0
          have z1 := Bq6.out.cell 1
          have z2 := Bq6.out.cell 2
          have z3 := Bq6.out.cell 3
          have z4 := Bq6.out.cell 4
          have z5 := Bq6.out.cell 5
          have z6 := Bq6.out.cell 6
          have zq0 := Bq6.out.frozen 0
          have zq1 := Bq6.out.frozen 1
          have zq2 := Bq6.out.frozen 2
          have zq3 := Bq6.out.frozen 3
          have zq4 := Bq6.out.frozen 4
          have zq5 := Bq6.out.frozen 5
          have zq6 := Bq6.out.frozen 6
          refine wpT_eff rfl rfl (fun K hK => ?_)
          simp only [List.getElem_toArray, List.getElem_cons_succ, List.getElem_cons_zero]
          go_simp
          clear z0 zq0 z1 zq1 z2 zq2 z3 zq3 z4 zq4 z5 zq5 z6 zq6
          have FS6 := ((((((((Fr.refl (One q6) Y).setCell ⟨q6, 0, none⟩ (.slice A0 mp c0) (fun _ => rfl)).setCell ⟨q6, 1, none⟩ (.slice A1 mi c1) (fun _ => rfl)).setCell ⟨q6, 2, none⟩ (.int .i64 bk.end_.kind) (fun _ => rfl)).setCell ⟨q6, 3, none⟩ (.int .i64 bk.end_.cond) (fun _ => rfl)).setCell ⟨q6, 4, none⟩ (.slice A2 ma c2) (fun _ => rfl)).setCell ⟨q6, 5, none⟩ (.slice A3 mt c3) (fun _ => rfl)).setCell ⟨q6, 6, none⟩ (.int .i64 bk.end_.trap) (fun _ => rfl))
          have C6 : Hid (Blk (((((((Y.setCell ⟨q6, 0, none⟩ (.slice A0 mp c0)).setCell ⟨q6, 1, none⟩ (.slice A1 mi c1)).setCell ⟨q6, 2, none⟩ (.int .i64 bk.end_.kind)).setCell ⟨q6, 3, none⟩ (.int .i64 bk.end_.cond)).setCell ⟨q6, 4, none⟩ (.slice A2 ma c2)).setCell ⟨q6, 5, none⟩ (.slice A3 mt c3)).setCell ⟨q6, 6, none⟩ (.int .i64 bk.end_.trap)) q6 42 #[.slice A0 mp c0, .slice A1 mi c1, .int .i64 bk.end_.kind, .int .i64 bk.end_.cond, .slice A2 ma c2, .slice A3 mt c3, .int .i64 bk.end_.trap]) := hid (by simpa using (((((((Bq6.out.set_ 0 (.slice A0 mp c0)).set_ 1 (.slice A1 mi c1)).set_ 2 (.int .i64 bk.end_.kind)).set_ 3 (.int .i64 bk.end_.cond)).set_ 4 (.slice A2 ma c2)).set_ 5 (.slice A3 mt c3)).set_ 6 (.int .i64 bk.end_.trap)))
          have C7 := hid (Bq7.out.fr FS6 (fun h => by have h : q7 = q6 := h; have := hq.out; omega))
          have F3 := hid (F2.out.trans FS6 (fun i hi h => by have h : i = q6 := h; have h1 := hq0b.out; have h2 := hq1b.out; omega))
          clear FS6
          generalize (((((((Y.setCell ⟨q6, 0, none⟩ (.slice A0 mp c0)).setCell ⟨q6, 1, none⟩ (.slice A1 mi c1)).setCell ⟨q6, 2, none⟩ (.int .i64 bk.end_.kind)).setCell ⟨q6, 3, none⟩ (.int .i64 bk.end_.cond)).setCell ⟨q6, 4, none⟩ (.slice A2 ma c2)).setCell ⟨q6, 5, none⟩ (.slice A3 mt c3)).setCell ⟨q6, 6, none⟩ (.int .i64 bk.end_.trap)) = Y2 at *
          refine hK _ _ (F3.out) ?_
          clear hK K
          repeat (first
            | (refine wpT_skip rfl rfl ?_; simp only [List.getElem_toArray, List.getElem_cons_succ, List.getElem_cons_zero, Act.put, List.setIfInBounds_toArray, List.set_cons_zero, List.set_cons_succ])
            | (refine wpT_call rfl rfl ?_; simp only [List.getElem_toArray, List.getElem_cons_succ, List.getElem_cons_zero]; apply Exists.intro; refine ⟨fun X hX => ?_, ?_⟩
               · (obtain ⟨s0, s1, s2, s3, s4, s5, s6, s7, s8, s9, s10, s11, s12, s13, s14, s15⟩ := HX.out X hX; go_simp; exact stillUpon_value)
               simp only [Act.put, List.setIfInBounds_toArray, List.set_cons_zero, List.set_cons_succ]))
          have z0 := C7.out.cell 0
          have z1 := C7.out.cell 1
          have z2 := C7.out.cell 2
          have z3 := C7.out.cell 3
          have z4 := C7.out.cell 4
          have z5 := C7.out.cell 5
          have z6 := C7.out.cell 6
          have zq0 := C7.out.frozen 0
          have zq1 := C7.out.frozen 1
          have zq2 := C7.out.frozen 2
          have zq3 := C7.out.frozen 3
          have zq4 := C7.out.frozen 4
          have zq5 := C7.out.frozen 5
          have zq6 := C7.out.frozen 6
          refine wpT_eff rfl rfl (fun K hK => ?_)
          simp only [List.getElem_toArray, List.getElem_cons_succ, List.getElem_cons_zero]
          go_simp
          clear z0 zq0 z1 zq1 z2 zq2 z3 zq3 z4 zq4 z5 zq5 z6 zq6
          have FS7 := ((((((((Fr.refl (One q7) Y2).setCell ⟨q7, 0, none⟩ (.slice A0' mp c0') (fun _ => rfl)).setCell ⟨q7, 1, none⟩ (.slice A1' mi c1') (fun _ => rfl)).setCell ⟨q7, 2, none⟩ (.int .i64 bk.end_.kind) (fun _ => rfl)).setCell ⟨q7, 3, none⟩ (.int .i64 bk.end_.cond) (fun _ => rfl)).setCell ⟨q7, 4, none⟩ (.slice A2' ma c2') (fun _ => rfl)).setCell ⟨q7, 5, none⟩ (.slice A3' mt c3') (fun _ => rfl)).setCell ⟨q7, 6, none⟩ (.int .i64 bk.end_.trap) (fun _ => rfl))
          have D7 : Hid (Blk (((((((Y2.setCell ⟨q7, 0, none⟩ (.slice A0' mp c0')).setCell ⟨q7, 1, none⟩ (.slice A1' mi c1')).setCell ⟨q7, 2, none⟩ (.int .i64 bk.end_.kind)).setCell ⟨q7, 3, none⟩ (.int .i64 bk.end_.cond)).setCell ⟨q7, 4, none⟩ (.slice A2' ma c2')).setCell ⟨q7, 5, none⟩ (.slice A3' mt c3')).setCell ⟨q7, 6, none⟩ (.int .i64 bk.end_.trap)) q7 42 #[.slice A0' mp c0', .slice A1' mi c1', .int .i64 bk.end_.kind, .int .i64 bk.end_.cond, .slice A2' ma c2', .slice A3' mt c3', .int .i64 bk.end_.trap]) := hid (by simpa using (((((((C7.out.set_ 0 (.slice A0' mp c0')).set_ 1 (.slice A1' mi c1')).set_ 2 (.int .i64 bk.end_.kind)).set_ 3 (.int .i64 bk.end_.cond)).set_ 4 (.slice A2' ma c2')).set_ 5 (.slice A3' mt c3')).set_ 6 (.int .i64 bk.end_.trap)))
          have D6 := hid (C6.out.fr FS7 (fun h => by have h : q6 = q7 := h; have := hq.out; omega))
          have F4 := hid (F3.out.trans FS7 (fun i hi h => by have h : i = q7 := h; have h1 := hq0b.out; have h2 := hq1b.out; omega))
          clear FS7
          generalize (((((((Y2.setCell ⟨q7, 0, none⟩ (.slice A0' mp c0')).setCell ⟨q7, 1, none⟩ (.slice A1' mi c1')).setCell ⟨q7, 2, none⟩ (.int .i64 bk.end_.kind)).setCell ⟨q7, 3, none⟩ (.int .i64 bk.end_.cond)).setCell ⟨q7, 4, none⟩ (.slice A2' ma c2')).setCell ⟨q7, 5, none⟩ (.slice A3' mt c3')).setCell ⟨q7, 6, none⟩ (.int .i64 bk.end_.trap)) = Y3 at *
          refine hK _ _ (F4.out) ?_
          clear hK K
          repeat (first
            | (refine wpT_skip rfl rfl ?_; simp only [List.getElem_toArray, List.getElem_cons_succ, List.getElem_cons_zero, Act.put, List.setIfInBounds_toArray, List.set_cons_zero, List.set_cons_succ])
            | (refine wpT_call rfl rfl ?_; simp only [List.getElem_toArray, List.getElem_cons_succ, List.getElem_cons_zero]; apply Exists.intro; refine ⟨fun X hX => ?_, ?_⟩
               · (obtain ⟨s0, s1, s2, s3, s4, s5, s6, s7, s8, s9, s10, s11, s12, s13, s14, s15⟩ := HX.out X hX; go_simp; exact stillUpon_value)
               simp only [Act.put, List.setIfInBounds_toArray, List.set_cons_zero, List.set_cons_succ]))
          refine wpT_nil ?_
          go_wp2_with fail
          go_meet
          case rel => exact ⟨q6, q7, rfl, rfl, D6, D7, F4⟩
        · skip
          refine wpT_eff rfl rfl (fun K hK => ?_)
          simp only [List.getElem_toArray, List.getElem_cons_succ, List.getElem_cons_zero]
          go_simp
          have Bq7 := hid ((Blk.new wr 42 #[.slice none 0 0, .slice none 0 0, .int .i64 0, .int .i64 0, .slice none 0 0, .slice none 0 0, .int .i64 0]).drew)
          have F1 := hid (((Fr.refl No wr).alloc (.cells #[.slice none 0 0, .slice none 0 0, .int .i64 0, .int .i64 0, .slice none 0 0, .slice none 0 0, .int .i64 0] 42)).drew)
          obtain ⟨q7, hq7⟩ : ∃ q, wr.heap.size = q := ⟨_, rfl⟩
          rw [hq7] at Bq7 ⊢
          have hq0b : Hid (wr.heap.size ≤ q7) := hid (Nat.le_of_eq hq7)
          clear hq7
          generalize (wr.alloc (.cells #[.slice none 0 0, .slice none 0 0, .int .i64 0, .int .i64 0, .slice none 0 0, .slice none 0 0, .int .i64 0] 42)).drew = Y1 at *
          refine hK _ _ (F1.out) ?_
          clear hK K
          repeat (first
            | (refine wpT_skip rfl rfl ?_; simp only [List.getElem_toArray, List.getElem_cons_succ, List.getElem_cons_zero, Act.put, List.setIfInBounds_toArray, List.set_cons_zero, List.set_cons_succ])
            | (refine wpT_call rfl rfl ?_; simp only [List.getElem_toArray, List.getElem_cons_succ, List.getElem_cons_zero]; apply Exists.intro; refine ⟨fun X hX => ?_, ?_⟩
               · (obtain ⟨s0, s1, s2, s3, s4, s5, s6, s7, s8, s9, s10, s11, s12, s13, s14, s15⟩ := HX.out X hX; go_simp; exact stillUpon_value)
               simp only [Act.put, List.setIfInBounds_toArray, List.set_cons_zero, List.set_cons_succ]))
          refine wpT_eff rfl rfl (fun K hK => ?_)
          simp only [List.getElem_toArray, List.getElem_cons_succ, List.getElem_cons_zero]
          go_simp
          have F2 := hid (F1.out.alloc (.cells #[.slice none 0 0, .slice none 0 0, .int .i64 0, .int .i64 0, .slice none 0 0, .slice none 0 0, .int .i64 0] 42))
          have hq := hid Bq7.out.lt
          have Bq7 := hid (Bq7.out.alloc (.cells #[.slice none 0 0, .slice none 0 0, .int .i64 0, .int .i64 0, .slice none 0 0, .slice none 0 0, .int .i64 0] 42))
          have Bq6 := hid (Blk.new Y1 42 #[.slice none 0 0, .slice none 0 0, .int .i64 0, .int .i64 0, .slice none 0 0, .slice none 0 0, .int .i64 0])
          obtain ⟨q6, hq6⟩ : ∃ q, Y1.heap.size = q := ⟨_, rfl⟩
          rw [hq6] at Bq6 hq ⊢
          have hq1b : Hid (wr.heap.size ≤ q6) := hid (by have h1 := F1.out.size; omega)
          clear hq6
          generalize Y1.alloc (.cells #[.slice none 0 0, .slice none 0 0, .int .i64 0, .int .i64 0, .slice none 0 0, .slice none 0 0, .int .i64 0] 42) = Y at *
          refine hK _ _ (F2.out) ?_
          clear hK K
          repeat (first
            | (refine wpT_skip rfl rfl ?_; simp only [List.getElem_toArray, List.getElem_cons_succ, List.getElem_cons_zero, Act.put, List.setIfInBounds_toArray, List.set_cons_zero, List.set_cons_succ])
            | (refine wpT_call rfl rfl ?_; simp only [List.getElem_toArray, List.getElem_cons_succ, List.getElem_cons_zero]; apply Exists.intro; refine ⟨fun X hX => ?_, ?_⟩
               · (obtain ⟨s0, s1, s2, s3, s4, s5, s6, s7, s8, s9, s10, s11, s12, s13, s14, s15⟩ := HX.out X hX; go_simp; exact stillUpon_value)
               simp only [Act.put, List.setIfInBounds_toArray, List.set_cons_zero, List.set_cons_succ]))
          have z0 := Bq6.out.cell 0
          have z1 := Bq6.out.cell 1
          have z2 := Bq6.out.cell 2
          have z3 := Bq6.out.cell 3
          have z4 := Bq6.out.cell 4
          have z5 := Bq6.out.cell 5
          have z6 := Bq6.out.cell 6
          have zq0 := Bq6.out.frozen 0
          have zq1 := Bq6.out.frozen 1
          have zq2 := Bq6.out.frozen 2
          have zq3 := Bq6.out.frozen 3
          have zq4 := Bq6.out.frozen 4
          have zq5 := Bq6.out.frozen 5
          have zq6 := Bq6.out.frozen 6
          refine wpT_eff rfl rfl (fun K hK => ?_)
          simp only [List.getElem_toArray, List.getElem_cons_succ, List.getElem_cons_zero]
          go_simp
          clear z0 zq0 z1 zq1 z2 zq2 z3 zq3 z4 zq4 z5 zq5 z6 zq6
          have FS6 := ((((((((Fr.refl (One q6) Y).setCell ⟨q6, 0, none⟩ (.slice A0 mp c0) (fun _ => rfl)).setCell ⟨q6, 1, none⟩ (.slice A1 mi c1) (fun _ => rfl)).setCell ⟨q6, 2, none⟩ (.int .i64 bk.end_.kind) (fun _ => rfl)).setCell ⟨q6, 3, none⟩ (.int .i64 bk.end_.cond) (fun _ => rfl)).setCell ⟨q6, 4, none⟩ (.slice A2 ma c2) (fun _ => rfl)).setCell ⟨q6, 5, none⟩ (.slice A3 mt c3) (fun _ => rfl)).setCell ⟨q6, 6, none⟩ (.int .i64 bk.end_.trap) (fun _ => rfl))
          have C6 : Hid (Blk (((((((Y.setCell ⟨q6, 0, none⟩ (.slice A0 mp c0)).setCell ⟨q6, 1, none⟩ (.slice A1 mi c1)).setCell ⟨q6, 2, none⟩ (.int .i64 bk.end_.kind)).setCell ⟨q6, 3, none⟩ (.int .i64 bk.end_.cond)).setCell ⟨q6, 4, none⟩ (.slice A2 ma c2)).setCell ⟨q6, 5, none⟩ (.slice A3 mt c3)).setCell ⟨q6, 6, none⟩ (.int .i64 bk.end_.trap)) q6 42 #[.slice A0 mp c0, .slice A1 mi c1, .int .i64 bk.end_.kind, .int .i64 bk.end_.cond, .slice A2 ma c2, .slice A3 mt c3, .int .i64 bk.end_.trap]) := hid (by simpa using (((((((Bq6.out.set_ 0 (.slice A0 mp c0)).set_ 1 (.slice A1 mi c1)).set_ 2 (.int .i64 bk.end_.kind)).set_ 3 (.int .i64 bk.end_.cond)).set_ 4 (.slice A2 ma c2)).set_ 5 (.slice A3 mt c3)).set_ 6 (.int .i64 bk.end_.trap)))
          have C7 := hid (Bq7.out.fr FS6 (fun h => by have h : q7 = q6 := h; have := hq.out; omega))
          have F3 := hid (F2.out.trans FS6 (fun i hi h => by have h : i = q6 := h; have h1 := hq0b.out; have h2 := hq1b.out; omega))
          clear FS6
          generalize (((((((Y.setCell ⟨q6, 0, none⟩ (.slice A0 mp c0)).setCell ⟨q6, 1, none⟩ (.slice A1 mi c1)).setCell ⟨q6, 2, none⟩ (.int .i64 bk.end_.kind)).setCell ⟨q6, 3, none⟩ (.int .i64 bk.end_.cond)).setCell ⟨q6, 4, none⟩ (.slice A2 ma c2)).setCell ⟨q6, 5, none⟩ (.slice A3 mt c3)).setCell ⟨q6, 6, none⟩ (.int .i64 bk.end_.trap)) = Y2 at *
          refine hK _ _ (F3.out) ?_
          clear hK K
          repeat (first
            | (refine wpT_skip rfl rfl ?_; simp only [List.getElem_toArray, List.getElem_cons_succ, List.getElem_cons_zero, Act.put, List.setIfInBounds_toArray, List.set_cons_zero, List.set_cons_succ])
            | (refine wpT_call rfl rfl ?_; simp only [List.getElem_toArray, List.getElem_cons_succ, List.getElem_cons_zero]; apply Exists.intro; refine ⟨fun X hX => ?_, ?_⟩
               · (obtain ⟨s0, s1, s2, s3, s4, s5, s6, s7, s8, s9, s10, s11, s12, s13, s14, s15⟩ := HX.out X hX; go_simp; exact stillUpon_value)
               simp only [Act.put, List.setIfInBounds_toArray, List.set_cons_zero, List.set_cons_succ]))
          have z0 := C7.out.cell 0
          have z1 := C7.out.cell 1
          have z2 := C7.out.cell 2
          have z3 := C7.out.cell 3
          have z4 := C7.out.cell 4
          have z5 := C7.out.cell 5
          have z6 := C7.out.cell 6
          have zq0 := C7.out.frozen 0
          have zq1 := C7.out.frozen 1
          have zq2 := C7.out.frozen 2
          have zq3 := C7.out.frozen 3
          have zq4 := C7.out.frozen 4
          have zq5 := C7.out.frozen 5
          have zq6 := C7.out.frozen 6
          refine wpT_eff rfl rfl (fun K hK => ?_)
          simp only [List.getElem_toArray, List.getElem_cons_succ, List.getElem_cons_zero]
          go_simp
          clear z0 zq0 z1 zq1 z2 zq2 z3 zq3 z4 zq4 z5 zq5 z6 zq6
          have FS7 := ((((((((Fr.refl (One q7) Y2).setCell ⟨q7, 0, none⟩ (.slice A0' mp c0') (fun _ => rfl)).setCell ⟨q7, 1, none⟩ (.slice A1' mi c1') (fun _ => rfl)).setCell ⟨q7, 2, none⟩ (.int .i64 bk.end_.kind) (fun _ => rfl)).setCell ⟨q7, 3, none⟩ (.int .i64 bk.end_.cond) (fun _ => rfl)).setCell ⟨q7, 4, none⟩ (.slice A2' ma c2') (fun _ => rfl)).setCell ⟨q7, 5, none⟩ (.slice A3' mt c3') (fun _ => rfl)).setCell ⟨q7, 6, none⟩ (.int .i64 bk.end_.trap) (fun _ => rfl))
          have D7 : Hid (Blk (((((((Y2.setCell ⟨q7, 0, none⟩ (.slice A0' mp c0')).setCell ⟨q7, 1, none⟩ (.slice A1' mi c1')).setCell ⟨q7, 2, none⟩ (.int .i64 bk.end_.kind)).setCell ⟨q7, 3, none⟩ (.int .i64 bk.end_.cond)).setCell ⟨q7, 4, none⟩ (.slice A2' ma c2')).setCell ⟨q7, 5, none⟩ (.slice A3' mt c3')).setCell ⟨q7, 6, none⟩ (.int .i64 bk.end_.trap)) q7 42 #[.slice A0' mp c0', .slice A1' mi c1', .int .i64 bk.end_.kind, .int .i64 bk.end_.cond, .slice A2' ma c2', .slice A3' mt c3', .int .i64 bk.end_.trap]) := hid (by simpa using (((((((C7.out.set_ 0 (.slice A0' mp c0')).set_ 1 (.slice A1' mi c1')).set_ 2 (.int .i64 bk.end_.kind)).set_ 3 (.int .i64 bk.end_.cond)).set_ 4 (.slice A2' ma c2')).set_ 5 (.slice A3' mt c3')).set_ 6 (.int .i64 bk.end_.trap)))
          have D6 := hid (C6.out.fr FS7 (fun h => by have h : q6 = q7 := h; have := hq.out; omega))
          have F4 := hid (F3.out.trans FS7 (fun i hi h => by have h : i = q7 := h; have h1 := hq0b.out; have h2 := hq1b.out; omega))
          clear FS7
          generalize (((((((Y2.setCell ⟨q7, 0, none⟩ (.slice A0' mp c0')).setCell ⟨q7, 1, none⟩ (.slice A1' mi c1')).setCell ⟨q7, 2, none⟩ (.int .i64 bk.end_.kind)).setCell ⟨q7, 3, none⟩ (.int .i64 bk.end_.cond)).setCell ⟨q7, 4, none⟩ (.slice A2' ma c2')).setCell ⟨q7, 5, none⟩ (.slice A3' mt c3')).setCell ⟨q7, 6, none⟩ (.int .i64 bk.end_.trap)) = Y3 at *
          refine hK _ _ (F4.out) ?_
          clear hK K
          repeat (first
            | (refine wpT_skip rfl rfl ?_; simp only [List.getElem_toArray, List.getElem_cons_succ, List.getElem_cons_zero, Act.put, List.setIfInBounds_toArray, List.set_cons_zero, List.set_cons_succ])
            | (refine wpT_call rfl rfl ?_; simp only [List.getElem_toArray, List.getElem_cons_succ, List.getElem_cons_zero]; apply Exists.intro; refine ⟨fun X hX => ?_, ?_⟩
               · (obtain ⟨s0, s1, s2, s3, s4, s5, s6, s7, s8, s9, s10, s11, s12, s13, s14, s15⟩ := HX.out X hX; go_simp; exact stillUpon_value)
               simp only [Act.put, List.setIfInBounds_toArray, List.set_cons_zero, List.set_cons_succ]))
          refine wpT_nil ?_
          go_wp2_with fail
          go_meet
          case rel => exact ⟨q6, q7, rfl, rfl, D6, D7, F4⟩
      case rest =>
        obtain ⟨q6, q7, rfl, rfl, D6, D7, F4⟩ := hcut
        have FX := hid ((F2.out.trans FR.out (fun _ _ h => h)).trans F4.out (fun _ _ h => h))
        have FQ := hid (FR.out.trans F4.out (fun _ _ h => h))
        clear HX F4
        have u0 := D6.out.cell 0
        have v0 := D7.out.cell 0
        go_wp2_with fail
        refine (HI1.out _ FX.out).mono ?_
        rintro e w5 ⟨rfl, f⟩
        have F5 := hid (FX.out.trans f (fun _ _ h => h))
        have FQ5 := hid (FQ.out.trans f (fun _ _ h => h))
        have E6 := hid (D6.out.fr f (fun x => x))
        have E7 := hid (D7.out.fr f (fun x => x))
        clear f u0 v0
        have u1 := E6.out.cell 1
        have v1 := E7.out.cell 1
        go_wp2_with fail
        refine (HI2.out _ F5.out).mono ?_
        rintro e w6 ⟨rfl, f⟩
        have F6 := hid (F5.out.trans f (fun _ _ h => h))
        have FQ6 := hid (FQ5.out.trans f (fun _ _ h => h))
        have J6 := hid (E6.out.fr f (fun x => x))
        have J7 := hid (E7.out.fr f (fun x => x))
        clear f u1 v1
        have u2 := J6.out.cell 2
        have v2 := J7.out.cell 2
        have u3 := J6.out.cell 3
        have v3 := J7.out.cell 3
        have u4 := J6.out.cell 4
        have v4 := J7.out.cell 4
        have u5 := J6.out.cell 5
        have v5 := J7.out.cell 5
        have u6 := J6.out.cell 6
        have v6 := J7.out.cell 6
        go_wp2_with fail
        refine (HI3.out _ F6.out).mono ?_
        rintro e w7 ⟨rfl, f⟩
        have FQ7 := hid (FQ6.out.trans f (fun _ _ h => h))
        clear f u2 v2 u3 v3 u4 v4 u5 v5 u6 v6
        go_wp2_with fail
        go_round
        case rel => exact ⟨k + 1, by omega, by go_num, FQ7⟩
        case measure => simp [intOf]; omega
    · have hkn : nb = k := by omega
      subst hkn
      clear hgo
      go_wp2
      go_ret
      exact ⟨rfl, F2.out.trans FR.out (fun _ _ h => h)⟩
end Go.Proofs.Ytiafkakkbbclhaa
