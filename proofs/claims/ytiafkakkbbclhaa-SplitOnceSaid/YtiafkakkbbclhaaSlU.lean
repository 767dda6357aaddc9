/- Chapter 46: the law SplitOwn. -/
import Derived.Test.YtiafkakkbbclhaaSlT
namespace Go.Proofs.Ytiafkakkbbclhaa
open Go.RowKit

theorem tot_sumF (bs : List Sb) : tot (tosOf bs) ≤ sumF bs := by
  induction bs with
  | nil => simp [tot, tosOf, sumF]
  | cons b bs ih =>
    simp only [tot, tosOf, sumF, lenF, List.map_cons, List.sum_cons, List.length_map] at *
    omega
theorem mem_sumF {bs : List Sb} {b : Sb} (h : b ∈ bs) : lenF b ≤ sumF bs := le_sum (List.mem_map_of_mem h)
theorem fl_of {x : Sf} (u : tSf.lw 140737488351232 x) (s : Small x) : FL x := by
  obtain ⟨⟨⟨_, u1, _⟩, _, u2, _⟩, ⟨_, u3, _⟩, _, _, u4⟩ := u
  have hs := s.sum
  refine ⟨u1, u2, u3, Nat.le_trans s.nb (by decide), Nat.le_trans (tot_sumF _) (Nat.le_trans hs (by decide)), fun b hb => ?_, fun b hb => ?_, fun b hb => ?_, fun b hb i hi => ?_, fun b hb e he => ?_⟩
  · exact (u4 b hb).1.2.1
  · have := mem_sumF hb
    unfold lenF at this
    omega
  · exact (u4 b hb).2.2.2.2.1.2.1
  · have h := ((u4 b hb).2.1.2.2 i hi).2.2.2.2.2
    exact ⟨h.1.2.1, h.2.2.1⟩
  · exact ((u4 b hb).2.2.2.2.2.1.2.2 e he).2.2.1
theorem few_le {x : Sf} (u : tSf.lw 140737488351232 x) : ∀ b ∈ x.blocks, b.ins.length ≤ 140737488351232 ∧ b.end_.to.length ≤ 140737488351232 := fun b hb =>
  ⟨(u.2.2.2.2 b hb).2.1.1, (u.2.2.2.2 b hb).2.2.2.2.2.1.1⟩
theorem Cb.elsB {base : Nat} {w : World} {A : Option Addr} {n c : Nat} {bs : List Sb} {rs : List Rw} (h : Cb base w (.slice A n c) bs rs) : tSr.els w (fun k => base ≤ k ∧ ∃ t cs, Blk w k t cs) A (srs bs rs) :=
  Ty.row.els' h.row (fun k hk => by
    obtain ⟨h1, ⟨cs, hb⟩ | ⟨cs, hb⟩⟩ := hk
    · exact ⟨h1, _, cs, hb⟩
    · exact ⟨h1, _, cs, hb⟩) (fun g hg => by obtain ⟨h0, cs, hb⟩ := h.row.own hg; exact ⟨h0, _, cs, hb⟩)
theorem splitB_len (bs : List Sb) : (splitB bs).length = bs.length + (crit (tosOf bs)).length := Sp_len _ _ _
theorem splitB_ins {bs : List Sb} {i : Nat} (hi : i < bs.length) (h : i < (splitB bs).length) : (splitB bs)[i].ins = bs[i].ins := by
  have e : (splitB bs).getD i bD = withTo (bs.getD i bD) (turnTo bs.length (crit (tosOf bs)) i (toOf bs i) (crit (tosOf bs)).length) := by
    unfold splitB
    rw [Sp_all (crOk_crit (tosOf bs)).b, refB, getD_app, if_pos (by rw [refA_len]; exact hi), refA_getD _ _ _ _ hi]
  rw [getD_el _ h, getD_el _ hi] at e
  rw [e]; rfl
set_option maxRecDepth 100000 in
set_option maxHeartbeats 6400000 in
theorem sown_t (P R V B : Option Addr) (np nr nv nb pc rc vc bc : Nat) (x : Sf) (w : World) (hp : tI.els w (· < w.heap.size) P x.type.params) (hr : tI.els w (· < w.heap.size) R x.type.results) (hv : tI.els w (· < w.heap.size) V x.vals) (h : tSb.els w (· < w.heap.size) B x.blocks)
    (ep : Hid (x.type.params.length = np)) (er : Hid (x.type.results.length = nr)) (ev : Hid (x.vals.length = nv)) (eb : Hid (x.blocks.length = nb)) (u : tSf.lw 140737488351232 x) :
    Calls Try.prog 5 #[.agg #[.slice P np pc, .slice R nr rc, .slice V nv vc, .slice B nb bc]] w fun e w' => e = .returned (.bool true) ∧ Fr No w w' := by
  have F0 := hid ((Fr.refl No w).alloc (.cells #[.slice P np pc, .slice R nr rc, .slice V nv vc, .slice B nb bc] 27))
  have G0 := hid (Blk.new w 27 #[.slice P np pc, .slice R nr rc, .slice V nv vc, .slice B nb bc])
  have HFEW := hid (few_any P R V B np nr nv nb pc rc vc bc x (· < w.heap.size) (w.alloc (.cells #[.slice P np pc, .slice R nr rc, .slice V nv vc, .slice B nb bc] 27)) (h.fr F0.out (fun k hk => ⟨hk, fun x => x⟩)) (fun k hk => Nat.lt_of_lt_of_le hk F0.out.size) (few_le u) eb ev)
  have HFL := hid (fun s : Small x => fl_of u s)
  have HP := hid hp
  have HR := hid hr
  have HV := hid hv
  have HB := hid h
  clear hp hr hv h u
  go_enter Try.func5, Try.ntmps5
  go_wp2_with fail
  refine HFEW.out.mono ?_
  clear HFEW
  rintro e w1 ⟨⟨r, rfl, hs⟩, f⟩
  have F1 := hid (F0.out.trans f (fun _ _ h => h))
  have G1 := hid (G0.out.fr f (fun x => x))
  have HS := hid hs
  clear f hs F0 G0
  have q0 := G1.out.cell 0
  have q1 := G1.out.cell 1
  have q2 := G1.out.cell 2
  have q3 := G1.out.cell 3
  cases r with
  | false =>
    go_wp2_with fail
    refine (alive_any _).mono ?_
    rintro e w2 ⟨rfl, f⟩
    have F2 := hid (F1.out.trans f (fun _ _ h => h))
    clear f q0 q1 q2 q3
    go_wp2
    go_ret
    exact ⟨rfl, F2.out⟩
  | true =>
    have hl := hid (HFL.out (HS.out rfl))
    clear HFL HS
    by_cases hb0 : nb = 0
    · subst hb0
      go_wp2_with fail
      refine (alive_any _).mono ?_
      rintro e w2 ⟨rfl, f⟩
      have F2 := hid (F1.out.trans f (fun _ _ h => h))
      clear f q0 q1 q2 q3
      go_wp2
      go_ret
      exact ⟨rfl, F2.out⟩
    · have hlb : 0 < x.blocks.length := by have := eb.out; omega
      have HB1 := HB.out.fr F1.out (fun k hk => ⟨hk, fun x => x⟩)
      obtain ⟨b, o, A0, c0, A1, c1, A2, c2, A3, c3, rfl, hb, _, y1, _, _, _, _, _, _, _, _, _, _, e1, _⟩ := Sb_at HB1 0 hlb
      have kb0 : ((nb : Int) == 0) = false := by simpa using hb0
      have i1 : (0 : Int) < nb := by omega
      by_cases hi0 : x.blocks[0].ins.length = 0
      · rw [hi0] at y1
        have y1' : w1.cell? ⟨b, o + 1, none⟩ = some (.slice A1 0 c1) := by simpa using y1
        clear y1 e1 hb0
        go_wp2_with fail
        refine (alive_any _).mono ?_
        rintro e w2 ⟨rfl, f⟩
        have F2 := hid (F1.out.trans f (fun _ _ h => h))
        clear f q0 q1 q2 q3
        go_wp2
        go_ret
        exact ⟨rfl, F2.out⟩
      · have hli : 0 < x.blocks[0].ins.length := by omega
        obtain ⟨bi, oi, Aa, ca, Ao, co, rfl, hbi, _, _, _, _, _, _, y6, _, _, _, _, _, _, _, _, _, _, eo⟩ := Si_at e1 0 hli
        obtain ⟨ni, hni⟩ : ∃ n, x.blocks[0].ins.length = n := ⟨_, rfl⟩
        obtain ⟨no, hno⟩ : ∃ n, (x.blocks[0].ins[0]).outs.length = n := ⟨_, rfl⟩
        rw [hni] at y1
        rw [hno] at y6
        have y1' : w1.cell? ⟨b, o + 1, none⟩ = some (.slice (some ⟨bi, oi, none⟩) ni c1) := by simpa using y1
        have y6' : w1.cell? ⟨bi, oi + 6, none⟩ = some (.slice Ao no co) := by simpa using y6
        have kb1 : ((ni : Int) == 0) = false := by rw [hni] at hi0; simpa using hi0
        have i2 : (0 : Int) < ni := by omega
        clear y1 y6
        by_cases ho0 : no = 0
        · subst ho0
          clear hb0 hi0
          go_wp2_with fail
          refine (alive_any _).mono ?_
          rintro e w2 ⟨rfl, f⟩
          have F2 := hid (F1.out.trans f (fun _ _ h => h))
          clear f q0 q1 q2 q3
          go_wp2
          go_ret
          exact ⟨rfl, F2.out⟩
        · have hlo : 0 < (x.blocks[0].ins[0]).outs.length := by omega
          obtain ⟨bo, oo, rfl, hbo, yo, hwf⟩ := ints_at eo 0 hlo
          have yo' : w1.cell? ⟨bo, oo, none⟩ = some (.int .i64 (x.blocks[0].ins[0]).outs[0]) := by simpa using yo
          have kb2 : ((no : Int) == 0) = false := by simpa using ho0
          have i3 : (0 : Int) < no := by omega
          obtain ⟨ov, hov⟩ : ∃ v, (x.blocks[0].ins[0]).outs[0] = v := ⟨_, rfl⟩
          rw [hov] at yo'
          have hfn := hid (func_any P R V (some ⟨b, o, none⟩) np nr nv nb pc rc vc bc x (· < w.heap.size) w1 (HP.out.fr F1.out (fun k hk => ⟨hk, fun x => x⟩)) (HR.out.fr F1.out (fun k hk => ⟨hk, fun x => x⟩)) (HV.out.fr F1.out (fun k hk => ⟨hk, fun x => x⟩)) HB1 (fun k hk => Nat.lt_of_lt_of_le hk F1.out.size) ep er ev eb hl)
          have hwq : Hid (w.heap.size < w1.heap.size) := hid G1.out.lt
          clear yo hb0 hi0 ho0
          go_wp2_with fail
          refine hfn.out.mono ?_
          clear hfn
          rintro e w2 ⟨AP, cP, AR, cR, AV, cV, AB, cB, rs, rfl, _, _, _, hcb, f⟩
          have hsl : 0 < (splitB x.blocks).length := by rw [splitB_len]; omega
          have hins := splitB_ins hlb hsl
          have hsr : 0 < (srs (splitB x.blocks) rs).length := by rw [srs_len hcb.len]; exact hsl
          have hget := srs_get hcb.len 0 hsl
          obtain ⟨gb, go, _, _, G1A, d1, _, _, rfl, hgb, _, v1, _, _, _, _, _, _, _, _, _, _, ge1, _⟩ := Sr_at hcb.elsB 0 hsr
          rw [hget] at v1 ge1
          have hi5 : (srOf (splitB x.blocks)[0] (rs.getD 0 rD)).ins = x.blocks[0].ins := hins
          rw [hi5] at v1 ge1
          obtain ⟨gi, oi2, _, _, G2A, d2, rfl, hgi, _, _, _, _, _, _, v6, _, _, _, _, _, _, _, _, _, _, geo⟩ := Si_at ge1 0 hli
          obtain ⟨bo2, oo2, rfl, hbo2, vo, _⟩ := ints_at geo 0 hlo
          rw [hni] at v1
          rw [hno] at v6
          rw [hov] at vo
          have v1' : w2.cell? ⟨gb, go + 1, none⟩ = some (.slice (some ⟨gi, oi2, none⟩) ni d1) := by simpa using v1
          have v6' : w2.cell? ⟨gi, oi2 + 6, none⟩ = some (.slice (some ⟨bo2, oo2, none⟩) no d2) := by simpa using v6
          have vo' : w2.cell? ⟨bo2, oo2, none⟩ = some (.int .i64 ov) := by simpa using vo
          obtain ⟨hbase, tt, bcs, hblk⟩ := hbo2
          have hfz := hblk.frozen oo2
          have hlt2 := hblk.lt
          have hgb2 : gb < w2.heap.size := by obtain ⟨_, _, _, hb⟩ := hgb; exact hb.lt
          have hgi2 : gi < w2.heap.size := by obtain ⟨_, _, _, hb⟩ := hgi; exact hb.lt
          obtain ⟨ng, hng⟩ : ∃ n, (splitB x.blocks).length = n := ⟨_, rfl⟩
          rw [hng] at hsl hcb ⊢
          have kg0 : ((ng : Int) == 0) = false := by simp; omega
          have i4 : (0 : Int) < ng := by omega
          have FA := (Fr.refl No w2).alloc (.cells #[.slice AP x.type.params.length cP, .slice AR x.type.results.length cR, .slice AV x.vals.length cV, .slice (some ⟨gb, go, none⟩) ng cB] 27)
          have GV := Blk.new w2 27 #[.slice AP x.type.params.length cP, .slice AR x.type.results.length cR, .slice AV x.vals.length cV, .slice (some ⟨gb, go, none⟩) ng cB]
          have F13 := f.trans FA (fun _ _ h => h)
          have f3 := (G1.out.fr F13 (fun x => x)).cell 3
          have f1 := (F13.cell (p := ⟨b, o + 1, none⟩) (by have h1 : b < w.heap.size := hb; have := hwq.out; show b < _; omega) (fun x => x)).trans y1'
          have f6 := (F13.cell (p := ⟨bi, oi + 6, none⟩) (by have h1 : bi < w.heap.size := hbi; have := hwq.out; show bi < _; omega) (fun x => x)).trans y6'
          have fo := (F13.cell (p := ⟨bo, oo, none⟩) (by have h1 : bo < w.heap.size := hbo; have := hwq.out; show bo < _; omega) (fun x => x)).trans yo'
          have g1 := (FA.cell (p := ⟨gb, go + 1, none⟩) hgb2 (fun x => x)).trans v1'
          have g6 := (FA.cell (p := ⟨gi, oi2 + 6, none⟩) hgi2 (fun x => x)).trans v6'
          have go_ := (FA.cell (p := ⟨bo2, oo2, none⟩) hlt2 (fun x => x)).trans vo'
          have gf := (FA.frozen (p := ⟨bo2, oo2, none⟩) hlt2 (fun x => x)).trans hfz
          have g3 := GV.cell 3
          have FW := hid (F1.out.trans F13 (fun _ _ h => h))
          have hqg : Hid (bo2 < w2.heap.size) := hid hlt2
          have hbs : Hid (w1.heap.size ≤ bo2) := hid hbase
          have hlts := Nat.lt_of_lt_of_le hlt2 FA.size
          have hbl3 : Hid (b < w.heap.size ∧ bi < w.heap.size ∧ bo < w.heap.size) := hid ⟨hb, hbi, hbo⟩
          clear v1 v6 vo v1' v6' vo' hins hi5 f hgb hgi hblk hfz FA GV F13 y1' y6' yo' q0 q1 q2 q3 e1 eo ge1 geo HB1 hwf hng hbase
          go_upto_region 5 with fail
          generalize w2.alloc (.cells #[.slice AP x.type.params.length cP, .slice AR x.type.results.length cR, .slice AV x.vals.length cV, .slice (some ⟨gb, go, none⟩) ng cB] 27) = W3 at *
          go_upto_region 8 with fail
          have FS := (Fr.refl (One bo2) W3).setCell ⟨bo2, oo2, none⟩ (.int .i64 (wrap64 (ov + 1))) (fun _ => rfl)
          have hfar : ∀ (p : Addr) (v : Value), W3.cell? p = some v → p.block ≠ bo2 → (W3.setCell ⟨bo2, oo2, none⟩ (.int .i64 (wrap64 (ov + 1)))).cell? p = some v := fun p v hp hne => by
            rw [World.cell?_setCell_other _ _ _ _ (fun e => hne (by rw [← e]))]; exact hp
          have hval : ∀ (p : Addr) (A : Option Addr) (n c : Nat), W3.cell? p = some (.slice A n c) → (W3.setCell ⟨bo2, oo2, none⟩ (.int .i64 (wrap64 (ov + 1)))).cell? p = some (.slice A n c) := fun p A n c hp => by
            rw [World.cell?_setCell_other _ _ _ _ (fun e => by subst e; rw [go_] at hp; cases hp)]; exact hp
          have hb3 := hbl3.out
          have hw1 := hwq.out
          have hb4 := hbs.out
          have hq4 := hqg.out
          have f3' := hfar _ _ f3 (by show w.heap.size ≠ bo2; omega)
          have f1' := hfar _ _ f1 (by show b ≠ bo2; omega)
          have f6' := hfar _ _ f6 (by show bi ≠ bo2; omega)
          have fo' := hfar _ _ fo (by show bo ≠ bo2; omega)
          have g3' := hfar _ _ g3 (by show w2.heap.size ≠ bo2; omega)
          have g1' := hval _ _ _ _ g1
          have g6' := hval _ _ _ _ g6
          have go' : (W3.setCell ⟨bo2, oo2, none⟩ (.int .i64 (wrap64 (ov + 1)))).cell? ⟨bo2, oo2, none⟩ = some (.int .i64 (wrap64 (ov + 1))) := World.cell?_setCell_same _ _ _ go_
          have gf' : (W3.setCell ⟨bo2, oo2, none⟩ (.int .i64 (wrap64 (ov + 1)))).frozen? ⟨bo2, oo2, none⟩ = false := (World.frozen?_setCell _ _ _ _).trans gf
          have hlt4 := Nat.lt_of_lt_of_le hlts FS.size
          have FX := hid (FW.out.trans FS (fun i hi h => by
            have h : i = bo2 := h
            omega))
          clear hfar hval f3 f1 f6 fo g3 g1 g6 go_ gf FS FW
          generalize W3.setCell ⟨bo2, oo2, none⟩ (.int .i64 (wrap64 (ov + 1))) = W4 at *
          go_wp2_with fail
          have FY := hid (FX.out.setCell ⟨bo2, oo2, none⟩ (.int .i64 ov) (fun h => by
            have h : bo2 < w.heap.size := h
            omega))
          clear f3' f1' f6' fo' g3' g1' g6' go' gf'
          refine (alive_any _).mono ?_
          rintro e w6 ⟨rfl, f⟩
          have FZ := hid (FY.out.trans f (fun _ _ h => h))
          clear f
          go_wp2
          go_ret
          exact ⟨rfl, FZ.out⟩
theorem form_walk {C : Prop} {w : World} {v0 : Value} {x0 : Sf} (y0 : tSf.rd w (· < w.heap.size) v0.cells.toList x0) (hv0 : ∃ cs, v0 = .agg cs)
    (k : ∀ (P R V B : Option Addr) (pc rc vc bc : Nat), v0 = .agg #[.slice P x0.type.params.length pc, .slice R x0.type.results.length rc, .slice V x0.vals.length vc, .slice B x0.blocks.length bc] → tI.els w (· < w.heap.size) P x0.type.params → tI.els w (· < w.heap.size) R x0.type.results → tI.els w (· < w.heap.size) V x0.vals → tSb.els w (· < w.heap.size) B x0.blocks → C) : C := by
  obtain ⟨cs, rfl⟩ := hv0
  obtain ⟨P, pc, R, rc, V, vc, B, bc, hcs, _, _, h1, _, _, h2, _, _, h3, _, _, h4⟩ := Sf_cells y0
  have hcs' : cs = #[.slice P x0.type.params.length pc, .slice R x0.type.results.length rc, .slice V x0.vals.length vc, .slice B x0.blocks.length bc] := by
    have : cs.toList = _ := hcs
    rw [← Array.toArray_toList (xs := cs), this]
  exact k P R V B pc rc vc bc (by rw [hcs']) h1 h2 h3 h4
theorem splitOwn_walk (w : World) (v0 : Value) (x0 : Sf) (y0 : tSf.rd w (· < w.heap.size) v0.cells.toList x0) (u0 : tSf.lw 140737488351232 x0) (hv0 : ∃ cs, v0 = .agg cs) :
    Calls Try.prog 5 #[v0] w fun e w' => e = .returned (.bool true) ∧ Below w.heap.size w w' :=
  form_walk y0 hv0 fun P R V B pc rc vc bc e h1 h2 h3 h4 => by
    subst e
    exact (sown_t P R V B _ _ _ _ pc rc vc bc x0 w h1 h2 h3 h4 rfl rfl rfl rfl u0).mono fun e w' ⟨a, b⟩ => ⟨a, b.below⟩
end Go.Proofs.Ytiafkakkbbclhaa
