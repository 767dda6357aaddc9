/- Chapter 46: the reference's Func. -/
import Derived.Test.YtiafkakkbbclhaaSlZ
import Derived.Test.YtiafkakkbbclhaaSlX
namespace Go.Proofs.Ytiafkakkbbclhaa
open Go.RowKit

def Sx (S : Nat → Prop) (base : Nat) (w : World) : Nat → Prop := fun k => S k ∨ (base ≤ k ∧ ∃ cs, Blk w k 44 cs)
theorem Sx.fr {S : Nat → Prop} {base : Nat} {w w' : World} {M : Nat → Prop} (f : Fr M w w') (hM : ∀ k cs, M k → ¬ Blk w k 44 cs) : ∀ k, Sx S base w k → Sx S base w' k := fun k h => by
  rcases h with h | ⟨h1, cs, hb⟩
  · exact .inl h
  · exact .inr ⟨h1, cs, hb.fr f (fun hm => hM k cs hm hb)⟩
theorem rowSx_fr {α : Type} {t : Ty α} [TyOk t] [TyMore t] {S : Nat → Prop} {base base2 : Nat} {w w' : World} {M : Nat → Prop} {e : TypeId} {v : Value} {l : List α} (h : t.row w base2 (Sx S base w) e v l) (f : Fr M w w') (hM : ∀ k cs, M k → ¬ Blk w k 44 cs) (hS : ∀ k, S k → k < w.heap.size ∧ ¬ M k) (hv : ∀ k, v.ownBlock = some k → ¬ M k) : t.row w' base2 (Sx S base w') e v l :=
  (h.fr f (fun k hk => by
    rcases hk with hk | ⟨_, cs, hb⟩
    · exact hS k hk
    · exact ⟨hb.lt, fun hm => hM k cs hm hb⟩) hv).more (Nat.le_refl _) (Sx.fr f hM)
theorem rowSx_frNo {α : Type} {t : Ty α} [TyOk t] [TyMore t] {S : Nat → Prop} {base base2 : Nat} {w w' : World} {e : TypeId} {v : Value} {l : List α} (h : t.row w base2 (Sx S base w) e v l) (f : Fr No w w') (hS : ∀ k, S k → k < w.heap.size) : t.row w' base2 (Sx S base w') e v l := rowSx_fr h f (fun _ _ h => h.elim) (fun k hk => ⟨hS k hk, fun x => x⟩) (fun _ _ h => h)
def RFuncTo (x : Sf) (P R V : Option Addr) (np nr nv pc rc vc : Nat) (w : World) (e : Ending) (w' : World) : Prop :=
  ∃ (A : Option Addr) (c : Nat), e = .returned (.agg #[.slice P np pc, .slice R nr rc, .slice V nv vc, .slice A (refB x.blocks (crit (tosOf x.blocks))).length c]) ∧ tSb.els w' (fun k => k < w'.heap.size) A (refB x.blocks (crit (tosOf x.blocks))) ∧ Fr No w w'
theorem refJ_len (bs : List Sb) (cr : List (Nat × Nat)) : (refJ bs cr).length = cr.length := by simp [refJ]
set_option maxRecDepth 100000 in
set_option maxHeartbeats 12800000 in
theorem rfunc_any (P R V B : Option Addr) (np nr nv nb pc rc vc bc : Nat) (x : Sf) (S : Nat → Prop) (w : World) (h : tSb.els w S B x.blocks) (hS : ∀ k, S k → k < w.heap.size) (eb : Hid (x.blocks.length = nb)) (hl : Hid (FL x)) :
    Calls Try.prog 13 #[.agg #[.slice P np pc, .slice R nr rc, .slice V nv vc, .slice B nb bc]] w (RFuncTo x P R V np nr nv pc rc vc w) := by
  have F0 := hid (((Fr.refl No w).alloc (.cells #[.slice P np pc, .slice R nr rc, .slice V nv vc, .slice B nb bc] 27)).alloc (.cells #[.slice none 0 0, .slice none 0 0, .slice none 0 0, .slice none 0 0] 27))
  have G := hid ((Blk.new w 27 #[.slice P np pc, .slice R nr rc, .slice V nv vc, .slice B nb bc]).alloc (.cells #[.slice none 0 0, .slice none 0 0, .slice none 0 0, .slice none 0 0] 27))
  have GR := hid (Blk.new1 w (.cells #[.slice P np pc, .slice R nr rc, .slice V nv vc, .slice B nb bc] 27) 27 #[.slice none 0 0, .slice none 0 0, .slice none 0 0, .slice none 0 0])
  have hSW := hid (fun k (hk : S k) => Nat.lt_of_lt_of_le (hS k hk) F0.out.size)
  have HB := hid (h.fr F0.out (fun k hk => ⟨hS k hk, fun x => x⟩))
  have hnb : nb ≤ 100000 := by have := hl.out.nb; rw [eb.out] at this; exact this
  have hS0 := hid hS
  clear h hS
  have y0 := G.out.cell 0
  have y1 := G.out.cell 1
  have y2 := G.out.cell 2
  have y3 := G.out.cell 3
  go_enter Try.func13, Try.ntmps13
  go_wp2_with fail
  generalize (w.alloc (.cells #[.slice P np pc, .slice R nr rc, .slice V nv vc, .slice B nb bc] 27)).alloc (.cells #[.slice none 0 0, .slice none 0 0, .slice none 0 0, .slice none 0 0] 27) = W at *
  refine (rcrit_any P R V B np nr nv nb pc rc vc bc x.blocks S W HB.out hSW.out eb hnb hl.out.t).mono ?_
  clear y0 y1 y2 y3
  rintro e w1 ⟨AL, cL, rfl, hrow, f⟩
  have hcl : (crit (tosOf x.blocks)).length ≤ 100000 := Nat.le_trans (critR_tot _ _) hl.out.t
  have HOK := hid (crOk_crit (tosOf x.blocks)).b
  have F1 := hid f
  have HG := hid (G.out.fr f (fun x => x))
  have HPR : Hid (PrAt w1 AL (crit (tosOf x.blocks))) := hid fun k hk => pr_at hrow k hk
  clear hrow f
  generalize hcr : crit (tosOf x.blocks) = cr at *
  have HCR := hid hcr
  clear hcr
  obtain ⟨nc, hnc⟩ : ∃ n, cr.length = n := ⟨_, rfl⟩
  have HNC := hid hnc
  rw [hnc] at hcl ⊢
  clear hnc
  have hS1 := hid (fun k (hk : S k) => Nat.lt_of_lt_of_le (hSW.out k hk) F1.out.size)
  have HB1 := hid (HB.out.fr F1.out (fun k hk => ⟨hSW.out k hk, fun x => x⟩))
  have hAl := hid (refA_len x.blocks cr cr.length)
  go_wp2_with fail
  go_loopw [4, 5] (fun v i wr => ∃ (k : Nat) (A : Option Addr) (c : Nat), k ≤ nb ∧ i = .int .i64 k ∧ v = .slice A k c ∧ Hid (tSb.row wr w1.heap.size (Sx S w1.heap.size wr) 42 (.slice A k c) ((refA x.blocks cr cr.length).take k)) ∧ Hid (Fr No w1 wr)) (fun _ i _ => nb - (intOf i).toNat)
  case atStart => exact ⟨0, none, 0, by omega, rfl, rfl, hid (by rw [List.take_zero]; exact Ty.row.nil _ _ _ _), hid (Fr.refl No w1)⟩
  case round =>
    obtain ⟨k, A, c, hk, rfl, rfl, HR, FR⟩ := hrel
    have hb4 := HG.out.fr FR.out (fun x => x)
    have q0 := hb4.cell 0
    have q1 := hb4.cell 1
    have q2 := hb4.cell 2
    have q3 := hb4.cell 3
    by_cases hgo : k < nb
    · have hlk : k < x.blocks.length := by have := eb.out; omega
      obtain ⟨b, o, A0, c0, A1, c1, A2, c2, A3, c3, rfl, hb, u0, u1, u2, u3, u4, u5, u6, g0, g1, e0, g2, g3, e1, wk, wc_, g4, g5, e2, _, _, _, wt⟩ := Sb_at HB1.out k hlk
      have hbb := hS1.out b hb
      replace u0 := (FR.out.cell (p := ⟨b, o + k * 7, none⟩) hbb (fun x => x)).trans u0
      replace u1 := (FR.out.cell (p := ⟨b, o + k * 7 + 1, none⟩) hbb (fun x => x)).trans u1
      replace u2 := (FR.out.cell (p := ⟨b, o + k * 7 + 2, none⟩) hbb (fun x => x)).trans u2
      replace u3 := (FR.out.cell (p := ⟨b, o + k * 7 + 3, none⟩) hbb (fun x => x)).trans u3
      replace u4 := (FR.out.cell (p := ⟨b, o + k * 7 + 4, none⟩) hbb (fun x => x)).trans u4
      replace u5 := (FR.out.cell (p := ⟨b, o + k * 7 + 5, none⟩) hbb (fun x => x)).trans u5
      replace u6 := (FR.out.cell (p := ⟨b, o + k * 7 + 6, none⟩) hbb (fun x => x)).trans u6
      have htk : (refA x.blocks cr cr.length).take (k + 1) = (refA x.blocks cr cr.length).take k ++ [withTo x.blocks[k] (turnTo nb cr k x.blocks[k].end_.to cr.length)] := by
        rw [List.take_succ_eq_append_getElem (by rw [refA_len]; exact hlk)]
        simp only [refA, List.getElem_mapIdx, eb.out]
      have HTK := hid htk
      have hTR := hid (fun X (f : Fr No w1 X) => turned_any P R V (some ⟨b, o, none⟩) np nr nv nb pc rc vc bc x.blocks S X AL cL cr k (HB1.out.fr f (fun k hk => ⟨hS1.out k hk, fun x => x⟩)) (fun k hk => Nat.lt_of_lt_of_le (hS1.out k hk) f.size) eb hnb hl.out.t (HPR.out.fr f (fun _ _ h => h.elim)) (by rw [HNC.out]; exact hcl) hgo)
      rw [toOf_el hlk] at hTR
      unfold TurnTo at hTR
      generalize hTn : turnTo nb cr k x.blocks[k].end_.to cr.length = tn at *
      have htnl : tn.length = x.blocks[k].end_.to.length := by rw [← hTn, turnTo_len]
      clear hTn htk
      generalize x.blocks[k] = bk at *
      obtain ⟨mt, hmt⟩ : ∃ n, bk.end_.to.length = n := ⟨_, rfl⟩
      rw [hmt] at u5 hTR htnl
      rw [HNC.out] at hTR
      have HTN := hid htnl
      have HRD := hid (And.intro g0 (And.intro g1 (And.intro e0 (And.intro g2 (And.intro g3 (And.intro e1 (And.intro wk (And.intro wc_ (And.intro g4 (And.intro g5 (And.intro e2 wt)))))))))))
      have FB := (Fr.refl No wr).alloc (.cells #[.slice A0 bk.params.length c0, .slice A1 bk.ins.length c1, .int .i64 bk.end_.kind, .int .i64 bk.end_.cond, .slice A2 bk.end_.args.length c2, .slice A3 mt c3, .int .i64 bk.end_.trap] 42)
      have FA := hid (FR.out.trans FB (fun _ _ h => h))
      have HQ := hid (Blk.new wr 42 #[.slice A0 bk.params.length c0, .slice A1 bk.ins.length c1, .int .i64 bk.end_.kind, .int .i64 bk.end_.cond, .slice A2 bk.end_.args.length c2, .slice A3 mt c3, .int .i64 bk.end_.trap])
      have HR1 := hid (rowSx_frNo HR.out FB (fun k hk => Nat.lt_of_lt_of_le (hS1.out k hk) FR.out.size))
      have hown : Hid (∀ g, (Value.slice A k c).ownBlock = some g → g < wr.heap.size) := hid fun g hg => by obtain ⟨_, cs, hb⟩ := HR.out.own hg; exact hb.lt
      have hqw := hid FR.out.size
      have hb5 := HG.out.fr FA.out (fun x => x)
      have r0 := hb5.cell 0
      have r1 := hb5.cell 1
      have r2 := hb5.cell 2
      have r3 := hb5.cell 3
      have i0 : (0 : Int) ≤ k := by omega
      have i1 : (k : Int) < nb := by omega
      clear FB hb4 hb5 g0 g1 e0 g2 g3 e1 wk wc_ g4 g5 e2 wt HR htnl hlk
      go_wp2_with fail
      clear u0 u1 u2 u3 u4 u5 u6 q0 q1 q2 q3
      generalize wr.alloc (.cells #[.slice A0 bk.params.length c0, .slice A1 bk.ins.length c1, .int .i64 bk.end_.kind, .int .i64 bk.end_.cond, .slice A2 bk.end_.args.length c2, .slice A3 mt c3, .int .i64 bk.end_.trap] 42) = W1 at *
      obtain ⟨qx, hqx⟩ : ∃ q, wr.heap.size = q := ⟨_, rfl⟩
      rw [hqx] at HQ hqw hown ⊢
      clear hqx
      refine (hTR.out _ FA.out).mono ?_
      clear hTR r0 r1 r2 r3
      rintro e w5 ⟨AT, cT, rfl, hrow, f⟩
      have F5 := hid (FA.out.trans f (fun _ _ h => h))
      have HQ5 := hid (HQ.out.fr f (fun x => x))
      have HR5 := hid (rowSx_frNo HR1.out f (fun k hk => Nat.lt_of_lt_of_le (hS1.out k hk) FA.out.size))
      have HTR := hid hrow
      have z5 := HQ5.out.cell 5
      have zq5 := HQ5.out.frozen 5
      have hfA := hid FA.out.size
      clear hrow f HQ HR1
      go_upto_region 8 with fail
      clear z5 zq5
      have FS := (Fr.refl (One qx) w5).setCell ⟨qx, 5, none⟩ (.slice AT mt cT) (fun _ => rfl)
      have HQZ : Hid (Blk (w5.setCell ⟨qx, 5, none⟩ (.slice AT mt cT)) qx 42 #[.slice A0 bk.params.length c0, .slice A1 bk.ins.length c1, .int .i64 bk.end_.kind, .int .i64 bk.end_.cond, .slice A2 bk.end_.args.length c2, .slice AT mt cT, .int .i64 bk.end_.trap]) := hid (by simpa using HQ5.out.set_ 5 (.slice AT mt cT))
      have hSx : ∀ k, S k → k < w5.heap.size ∧ ¬ One qx k := fun k hk => ⟨Nat.lt_of_lt_of_le (hS1.out k hk) F5.out.size, fun h => by
        have h : k = qx := h
        have := hS1.out k hk
        have := hqw.out
        omega⟩
      have hty : ∀ k cs, One qx k → ¬ Blk w5 k 44 cs := fun k cs h hb => by
        have h : k = qx := h
        subst h
        exact Blk.ne_ HQ5.out hb (by decide) rfl
      have HRZ := hid (rowSx_fr HR5.out FS hty hSx (fun g hg h => by
        have h : g = qx := h
        have := hown.out g hg
        omega))
      have HTZ := hid (HTR.out.fr FS hSx (fun g hg h => by
        obtain ⟨_, cs, hb⟩ := HTR.out.own hg
        exact hty g cs h hb))
      have FZ := hid (F5.out.trans FS (fun i hi h => by
        have h : i = qx := h
        have := hqw.out
        omega))
      clear FS hSx hty HQ5 HR5 HTR F5 FA
      generalize w5.setCell ⟨qx, 5, none⟩ (.slice AT mt cT) = Z at *
      have FL := (Fr.refl No Z).alloc (.cells #[.slice A0 bk.params.length c0, .slice A1 bk.ins.length c1, .int .i64 bk.end_.kind, .int .i64 bk.end_.cond, .slice A2 bk.end_.args.length c2, .slice AT mt cT, .int .i64 bk.end_.trap] 42)
      have BL := hid (Blk.new Z 42 #[.slice A0 bk.params.length c0, .slice A1 bk.ins.length c1, .int .i64 bk.end_.kind, .int .i64 bk.end_.cond, .slice A2 bk.end_.args.length c2, .slice AT mt cT, .int .i64 bk.end_.trap])
      have FT := hid (FZ.out.trans FL (fun _ _ h => h))
      have hSZ : ∀ k, S k → k < Z.heap.size := fun k hk => Nat.lt_of_lt_of_le (hS1.out k hk) FZ.out.size
      have TR := hid (rowSx_frNo HRZ.out FL hSZ)
      have TT := hid (HTZ.out.fr FL (fun k hk => ⟨hSZ k hk, fun x => x⟩) (fun _ _ h => h))
      have s0 := HQZ.out.cell 0
      have s1 := HQZ.out.cell 1
      have s2 := HQZ.out.cell 2
      have s3 := HQZ.out.cell 3
      have s4 := HQZ.out.cell 4
      have s5 := HQZ.out.cell 5
      have s6 := HQZ.out.cell 6
      have HCS : Hid (Css tSb (Z.alloc (.cells #[.slice A0 bk.params.length c0, .slice A1 bk.ins.length c1, .int .i64 bk.end_.kind, .int .i64 bk.end_.cond, .slice A2 bk.end_.args.length c2, .slice AT mt cT, .int .i64 bk.end_.trap] 42)) (Sx S w1.heap.size (Z.alloc (.cells #[.slice A0 bk.params.length c0, .slice A1 bk.ins.length c1, .int .i64 bk.end_.kind, .int .i64 bk.end_.cond, .slice A2 bk.end_.args.length c2, .slice AT mt cT, .int .i64 bk.end_.trap] 42))) [[.slice A0 bk.params.length c0, .slice A1 bk.ins.length c1, .int .i64 bk.end_.kind, .int .i64 bk.end_.cond, .slice A2 bk.end_.args.length c2, .slice AT mt cT, .int .i64 bk.end_.trap]] [withTo bk tn]) := hid (Css.one (by
        obtain ⟨g0, g1, e0, g2, g3, e1, wk, wc_, g4, g5, e2, wt⟩ := HRD.out
        have hm : ∀ k, S k → Sx S w1.heap.size (Z.alloc (.cells #[.slice A0 bk.params.length c0, .slice A1 bk.ins.length c1, .int .i64 bk.end_.kind, .int .i64 bk.end_.cond, .slice A2 bk.end_.args.length c2, .slice AT mt cT, .int .i64 bk.end_.trap] 42)) k := fun _ h => .inl h
        have hf : ∀ k, S k → k < w1.heap.size ∧ ¬ No k := fun k hk => ⟨hS1.out k hk, fun x => x⟩
        obtain ⟨A', c', ee, t1, t2, t3⟩ := TT.out.els (S' := Sx S w1.heap.size (Z.alloc (.cells #[.slice A0 bk.params.length c0, .slice A1 bk.ins.length c1, .int .i64 bk.end_.kind, .int .i64 bk.end_.cond, .slice A2 bk.end_.args.length c2, .slice AT mt cT, .int .i64 bk.end_.trap] 42))) hm (fun g hg => by
          obtain ⟨h0, cs, hb⟩ := TT.out.own hg
          exact .inr ⟨Nat.le_trans hfA.out h0, cs, hb⟩)
        injection ee with e4 _ e5
        subst e4 e5
        have h := Sb_mk (a := withTo bk tn) g0 g1 ((e0.fr FT.out hf).more hm) g2 g3 ((e1.fr FT.out hf).more hm) wk wc_ g4 g5 ((e2.fr FT.out hf).more hm) t1 t2 t3 wt
        simp only [withTo] at h
        rw [HTN.out] at h
        exact h))
      have hnt : Hid (∀ k2, Sx S w1.heap.size (Z.alloc (.cells #[.slice A0 bk.params.length c0, .slice A1 bk.ins.length c1, .int .i64 bk.end_.kind, .int .i64 bk.end_.cond, .slice A2 bk.end_.args.length c2, .slice AT mt cT, .int .i64 bk.end_.trap] 42)) k2 → k2 < (Z.alloc (.cells #[.slice A0 bk.params.length c0, .slice A1 bk.ins.length c1, .int .i64 bk.end_.kind, .int .i64 bk.end_.cond, .slice A2 bk.end_.args.length c2, .slice AT mt cT, .int .i64 bk.end_.trap] 42)).heap.size ∧ ¬ some k2 = (Value.slice A k c).ownBlock) := hid fun k2 hk2 => by
        rcases hk2 with hk2 | ⟨_, cs, hb⟩
        · refine ⟨Nat.lt_of_lt_of_le (hSZ k2 hk2) FL.size, fun e => ?_⟩
          have := (TR.out.own e.symm).1
          have := hS1.out k2 hk2
          omega
        · refine ⟨hb.lt, fun e => ?_⟩
          obtain ⟨_, cs', hb'⟩ := TR.out.own e.symm
          exact Blk.ne_ hb hb' (by decide) rfl
      have htl : Hid (((refA x.blocks cr cr.length).take k).length = k) := hid (by rw [List.length_take, refA_len, eb.out]; omega)
      have htl1 : Hid (((refA x.blocks cr cr.length).take (k + 1)).length = k + 1) := hid (by rw [List.length_take, refA_len, eb.out]; omega)
      clear FL hSZ HRZ HTZ FZ TT
      go_wp2_with (at_builtin; refine wpList_appC (t := tSb) (base := w1.heap.size) (S := Sx S w1.heap.size (Z.alloc (.cells #[.slice A0 bk.params.length c0, .slice A1 bk.ins.length c1, .int .i64 bk.end_.kind, .int .i64 bk.end_.cond, .slice A2 bk.end_.args.length c2, .slice AT mt cT, .int .i64 bk.end_.trap] 42))) (xs := (refA x.blocks cr cr.length).take k) (ys := [withTo bk tn]) (dss := [[.slice A0 bk.params.length c0, .slice A1 bk.ins.length c1, .int .i64 bk.end_.kind, .int .i64 bk.end_.cond, .slice A2 bk.end_.args.length c2, .slice AT mt cT, .int .i64 bk.end_.trap]]) (B2 := (Z.alloc (.cells #[.slice A0 bk.params.length c0, .slice A1 bk.ins.length c1, .int .i64 bk.end_.kind, .int .i64 bk.end_.cond, .slice A2 bk.end_.args.length c2, .slice AT mt cT, .int .i64 bk.end_.trap] 42)).heap.size) elBks rfl rfl rfl rfl TR.out HCS.out (by simpa using Rd.blk BL.out BL.out.lt 0 (xs := [.slice A0 bk.params.length c0, .slice A1 bk.ins.length c1, .int .i64 bk.end_.kind, .int .i64 bk.end_.cond, .slice A2 bk.end_.args.length c2, .slice AT mt cT, .int .i64 bk.end_.trap]) (fun i u h => by rw [Nat.zero_add]; simpa using h)) rfl (by rw [htl.out]; omega) (by rw [htl.out]; omega) hnt.out FT.out.size ?_; intro v8 wy hr fr1 hv; have FY := hid (own_frame TR.out FT.out fr1 (Nat.le_refl _)); have FR1 := hid fr1; rw [← HTK.out] at hr; obtain ⟨A8, c8, e8, _, _, _⟩ := hr.els (S' := fun _ => True) (fun _ _ => trivial) (fun _ _ => trivial); rw [htl1.out] at e8; subst e8; have RY := hid hr; clear hr fr1 hv)
      clear s0 s1 s2 s3 s4 s5 s6
      have RZ := hid (RY.out.more (S' := Sx S w1.heap.size wy) (Nat.le_refl _) (Sx.fr FR1.out (fun g cs hm hb => by
        obtain ⟨_, cs', hb'⟩ := TR.out.own hm.symm
        exact Blk.ne_ hb hb' (by decide) rfl)))
      clear FR1 RY
      go_round
      case rel => exact ⟨k + 1, A8, c8, by omega, by go_num, rfl, RZ, FY⟩
      case measure => simp [intOf]; omega
    · have hkn : nb = k := by omega
      subst hkn
      clear hgo q0 q1 q2
      have htk : (refA x.blocks cr cr.length).take nb = refA x.blocks cr cr.length := List.take_of_length_le (by rw [refA_len, eb.out]; exact Nat.le_refl _)
      rw [htk] at HR
      go_wp2_with fail
      clear q3
      have hJl := hid (refJ_len x.blocks cr)
      go_loopw [4, 7] (fun v i wr => ∃ (j : Nat) (A : Option Addr) (c : Nat), j ≤ nc ∧ i = .int .i64 j ∧ v = .slice A (nb + j) c ∧ Hid (tSb.row wr w1.heap.size (Sx S w1.heap.size wr) 42 (.slice A (nb + j) c) (refA x.blocks cr cr.length ++ (refJ x.blocks cr).take j)) ∧ Hid (Fr No w1 wr)) (fun _ i _ => nc - (intOf i).toNat)
      case atStart => exact ⟨0, A, c, by omega, rfl, rfl, hid (by rw [List.take_zero, List.append_nil]; exact HR.out), FR⟩
      case round =>
        clear HR FR
        obtain ⟨j, A, c, hj, rfl, rfl, HR, FR⟩ := hrel
        by_cases hgj : j < nc
        · have hlj : j < cr.length := by have := HNC.out; omega
          obtain ⟨gL, csL, rfl, hbL, l0, l1⟩ := HPR.out j hlj
          obtain ⟨h1, h2⟩ := HOK.out.at_ _ (List.getElem_mem hlj)
          obtain ⟨b, o, A0, c0, A1, c1, A2, c2, A3, c3, rfl, hb, _, _, _, _, _, u5, _, _, _, _, _, _, _, _, _, _, _, _, _, _, e3, _⟩ := Sb_at HB1.out _ h1
          have hto := toOf_el h1
          have htl := to_le hl.out.t cr[j].1
          have hjt : (refJ x.blocks cr).take (j + 1) = (refJ x.blocks cr).take j ++ [jmp ((toOf x.blocks cr[j].1).getD cr[j].2 eD)] := by
            rw [List.take_succ_eq_append_getElem (by rw [refJ_len]; exact hlj)]
            simp only [refJ, List.getElem_map]
          rw [hto] at h2 htl hjt
          have hbb := hS1.out b hb
          have HE3 := hid e3
          generalize x.blocks[cr[j].1].end_.to = es at *
          rw [getD_el eD h2] at hjt
          have HJT := hid hjt
          obtain ⟨bb, oo, Aa, ca, rfl, hbe, w0, w1', hwf, hg1, hg2, ha⟩ := Ed_at HE3.out _ h2
          have hbe2 := hS1.out bb hbe
          have HRD := hid (Ed_mk (w := w1) (S := S) (a := es[cr[j].2]) hwf hg1 hg2 ha)
          obtain ⟨mt, hmt⟩ : ∃ n, es.length = n := ⟨_, rfl⟩
          rw [hmt] at u5 htl
          have hp2 : cr[j].2 < mt := by omega
          have hp1 : cr[j].1 < nb := by have := eb.out; omega
          have HX : Hid (∀ X, Fr No wr X → X.cell? ⟨w.heap.size, 3, none⟩ = some (.slice (some ⟨b, o, none⟩) nb bc) ∧ X.cell? ⟨gL, j * 2, none⟩ = some (.int .i64 (cr[j].1 : Int)) ∧ X.cell? ⟨gL, j * 2 + 1, none⟩ = some (.int .i64 (cr[j].2 : Int)) ∧ X.cell? ⟨b, o + cr[j].1 * 7 + 5, none⟩ = some (.slice (some ⟨bb, oo, none⟩) mt c3) ∧ X.cell? ⟨bb, oo + cr[j].2 * 2, none⟩ = some (.int .i64 es[cr[j].2].to) ∧ X.cell? ⟨bb, oo + cr[j].2 * 2 + 1, none⟩ = some (.slice Aa es[cr[j].2].args.length ca)) := hid fun X f => by
            have g := FR.out.trans f (fun _ _ h => h)
            exact ⟨(HG.out.fr g (fun x => x)).cell 3, ((hbL.fr g (fun x => x)).cell (j * 2)).trans l0, ((hbL.fr g (fun x => x)).cell (j * 2 + 1)).trans l1, (g.cell (p := ⟨b, o + cr[j].1 * 7 + 5, none⟩) hbb (fun x => x)).trans u5, (g.cell (p := ⟨bb, oo + cr[j].2 * 2, none⟩) hbe2 (fun x => x)).trans w0, (g.cell (p := ⟨bb, oo + cr[j].2 * 2 + 1, none⟩) hbe2 (fun x => x)).trans w1'⟩
          have hown : Hid (∀ g, (Value.slice A (nb + j) c).ownBlock = some g → g < wr.heap.size) := hid fun g hg => by obtain ⟨_, cs, hb⟩ := HR.out.own hg; exact hb.lt
          generalize hes : es[cr[j].2] = e0 at *
          generalize cr[j].1 = p1 at *
          generalize cr[j].2 = p2 at *
          have j0 : (0 : Int) ≤ j := by omega
          have j1 : (j : Int) < nc := by omega
          have p10 : (0 : Int) ≤ p1 := by omega
          have p11 : (p1 : Int) < nb := by omega
          have p20 : (0 : Int) ≤ p2 := by omega
          have p21 : (p2 : Int) < mt := by omega
          have hqw := hid FR.out.size
          clear l0 l1 u5 w0 w1' hwf hg1 hg2 ha hbL e3 hto hjt
          go_wp2_with fail
          refine wp_region_ort (Fr No wr) (.rd 0 (.rd 1 (.rd 2 (.rd 3 (.rd 4 (.rd 5 (.rd 6 (.rd 7 (.rd 8 (.rd 9 (.rd 10 (.rd 11 (.rd 12 (.rd 13 (.rd 14 (.rd 15 (.rd 16 (.rd 17 (.eff 18 (.eff 19 .nil)))))))))))))))))))) (by kernel_rfl) (by kernel_rfl) (by kernel_rfl) rfl (Fr.refl _ wr).drew ?_
          repeat (first
            | (refine wpT_skip rfl rfl ?_; simp only [List.getElem_toArray, List.getElem_cons_succ, List.getElem_cons_zero, Act.put, List.setIfInBounds_toArray, List.set_cons_zero, List.set_cons_succ])
            | (refine wpT_call rfl rfl ?_; simp only [List.getElem_toArray, List.getElem_cons_succ, List.getElem_cons_zero]; apply Exists.intro; refine ⟨fun X hX => ?_, ?_⟩
               · (obtain ⟨s0, s1, s2, s3, s4, s5⟩ := HX.out X hX; go_simp; exact stillUpon_value)
               simp only [Act.put, List.setIfInBounds_toArray, List.set_cons_zero, List.set_cons_succ]))
          refine wpT_eff rfl rfl (fun K hK => ?_)
          simp only [List.getElem_toArray, List.getElem_cons_succ, List.getElem_cons_zero]
          go_simp
          have F1' := hid (((Fr.refl No wr).alloc (.cells #[.int .i64 0, .slice none 0 0] 44)).drew)
          have HQ := hid ((Blk.new wr 44 #[.int .i64 0, .slice none 0 0]).drew)
          obtain ⟨qe, hqe⟩ : ∃ q, wr.heap.size = q := ⟨_, rfl⟩
          rw [hqe] at HQ hqw hown ⊢
          generalize (wr.alloc (.cells #[.int .i64 0, .slice none 0 0] 44)).drew = Y1 at *
          refine hK _ _ (F1'.out) ?_
          clear hK K
          have z0 := HQ.out.cell 0
          have z1 := HQ.out.cell 1
          have zq0 := HQ.out.frozen 0
          have zq1 := HQ.out.frozen 1
          refine wpT_eff rfl rfl (fun K hK => ?_)
          simp only [List.getElem_toArray, List.getElem_cons_succ, List.getElem_cons_zero]
          go_simp
          clear z0 z1 zq0 zq1
          have FS := ((Fr.refl (One qe) Y1).setCell ⟨qe, 0, none⟩ (.int .i64 e0.to) (fun _ => rfl)).setCell ⟨qe, 1, none⟩ (.slice Aa e0.args.length ca) (fun _ => rfl)
          have HQ2 : Hid (Blk ((Y1.setCell ⟨qe, 0, none⟩ (.int .i64 e0.to)).setCell ⟨qe, 1, none⟩ (.slice Aa e0.args.length ca)) qe 44 #[.int .i64 e0.to, .slice Aa e0.args.length ca]) := hid (by simpa using (HQ.out.set_ 0 (.int .i64 e0.to)).set_ 1 (.slice Aa e0.args.length ca))
          have F2 := hid (F1'.out.trans FS (fun i hi h => by
            have h : i = qe := h
            omega))
          clear FS HQ F1'
          generalize (Y1.setCell ⟨qe, 0, none⟩ (.int .i64 e0.to)).setCell ⟨qe, 1, none⟩ (.slice Aa e0.args.length ca) = Z at *
          refine hK _ _ (F2.out) ?_
          clear hK K
          refine wpT_nil ?_
          have FZ := hid (FR.out.trans F2.out (fun _ _ h => h))
          have HRZ := hid (rowSx_frNo HR.out F2.out (fun k hk => Nat.lt_of_lt_of_le (hS1.out k hk) FR.out.size))
          have s0 := HQ2.out.cell 0
          have s1 := HQ2.out.cell 1
          have FL := ((Fr.refl No Z).alloc (.cells #[.int .i64 e0.to, .slice Aa e0.args.length ca] 44)).alloc (.cells #[.slice none 0 0, .slice none 0 0, .int .i64 0, .int .i64 0, .slice none 0 0, .slice (some ⟨Z.heap.size, 0, none⟩) 1 1, .int .i64 0] 42)
          have BE := hid ((Blk.new Z 44 #[.int .i64 e0.to, .slice Aa e0.args.length ca]).alloc (.cells #[.slice none 0 0, .slice none 0 0, .int .i64 0, .int .i64 0, .slice none 0 0, .slice (some ⟨Z.heap.size, 0, none⟩) 1 1, .int .i64 0] 42))
          have BL := hid (Blk.new1 Z (.cells #[.int .i64 e0.to, .slice Aa e0.args.length ca] 44) 42 #[.slice none 0 0, .slice none 0 0, .int .i64 0, .int .i64 0, .slice none 0 0, .slice (some ⟨Z.heap.size, 0, none⟩) 1 1, .int .i64 0])
          have FT := hid (FZ.out.trans FL (fun _ _ h => h))
          have hSZ : ∀ k, S k → k < Z.heap.size := fun k hk => Nat.lt_of_lt_of_le (hS1.out k hk) FZ.out.size
          have TR := hid (rowSx_frNo HRZ.out FL hSZ)
          have hzs := hid FZ.out.size
          clear HX HR F2 FR FL HRZ
          go_upto_region 13 with fail
          obtain ⟨Z2, hZ2⟩ : ∃ Z2, (Z.alloc (.cells #[.int .i64 e0.to, .slice Aa e0.args.length ca] 44)).alloc (.cells #[.slice none 0 0, .slice none 0 0, .int .i64 0, .int .i64 0, .slice none 0 0, .slice (some ⟨Z.heap.size, 0, none⟩) 1 1, .int .i64 0] 42) = Z2 := ⟨_, rfl⟩
          have hS2 : ∀ k, S k → k < Z2.heap.size := fun k hk => by have := hSZ k hk; rw [← hZ2]; simp; omega
          have HCS : Hid (Css tSb Z2 (Sx S w1.heap.size Z2) [[.slice none 0 0, .slice none 0 0, .int .i64 0, .int .i64 0, .slice none 0 0, .slice (some ⟨Z.heap.size, 0, none⟩) 1 1, .int .i64 0]] [jmp e0]) := hid (Css.one (by
            have BE' := BE.out
            rw [hZ2] at BE'
            have FT' := FT.out
            rw [hZ2] at FT'
            have hrd : tEd.rd Z2 (Sx S w1.heap.size Z2) [.int .i64 e0.to, .slice Aa e0.args.length ca] e0 := TyMore.more _ _ _ _ _ (TyOk.keep _ Z2 _ _ _ HRD.out (fun p hp => FT'.cell (hS1.out _ hp) (fun x => x))) (fun _ h => .inl h)
            have hels := blk_els (t := tEd) (S := Sx S w1.heap.size Z2) (css := [[.int .i64 e0.to, .slice Aa e0.args.length ca]]) (xs := [e0]) (by simpa using BE') (.inr ⟨hzs.out, _, BE'⟩) (Css.one hrd)
            exact Sb_mk (a := jmp e0) (Nat.le_refl _) (by decide) (.inl rfl) (Nat.le_refl _) (by decide) (.inl rfl) (show (Lit.int .i64 0).wf = true by decide) (show (Lit.int .i64 0).wf = true by decide) (Nat.le_refl _) (by decide) (.inl rfl) (Nat.le_refl _) (show (1 : Nat) ≤ maxLen by decide) hels (show (Lit.int .i64 0).wf = true by decide)))
          have hnt : Hid (∀ k2, Sx S w1.heap.size Z2 k2 → k2 < Z2.heap.size ∧ ¬ some k2 = (Value.slice A (nb + j) c).ownBlock) := hid fun k2 hk2 => by
            have TR' := TR.out
            rw [hZ2] at TR'
            rcases hk2 with hk2 | ⟨_, cs, hb⟩
            · refine ⟨hS2 k2 hk2, fun e => ?_⟩
              have := (TR'.own e.symm).1
              have := hS1.out k2 hk2
              omega
            · refine ⟨hb.lt, fun e => ?_⟩
              obtain ⟨_, cs', hb'⟩ := TR'.own e.symm
              exact Blk.ne_ hb hb' (by decide) rfl
          have htl0 : Hid ((refA x.blocks cr cr.length ++ (refJ x.blocks cr).take j).length = nb + j) := hid (by rw [List.length_append, List.length_take, refA_len, refJ_len, eb.out]; omega)
          have htl1 : Hid ((refA x.blocks cr cr.length ++ (refJ x.blocks cr).take (j + 1)).length = nb + (j + 1)) := hid (by rw [List.length_append, List.length_take, refA_len, refJ_len, eb.out]; omega)
          rw [hZ2] at TR FT BL
          have HTK : Hid (refA x.blocks cr cr.length ++ (refJ x.blocks cr).take (j + 1) = (refA x.blocks cr cr.length ++ (refJ x.blocks cr).take j) ++ [jmp e0]) := hid (by rw [HJT.out, List.append_assoc])
          have hzz := hid hZ2
          clear hZ2 hSZ hS2 BE
          go_wp2_with (at_builtin; rw [hzz.out]; refine wpList_appC (t := tSb) (base := w1.heap.size) (S := Sx S w1.heap.size Z2) (xs := refA x.blocks cr cr.length ++ (refJ x.blocks cr).take j) (ys := [jmp e0]) (dss := [[.slice none 0 0, .slice none 0 0, .int .i64 0, .int .i64 0, .slice none 0 0, .slice (some ⟨Z.heap.size, 0, none⟩) 1 1, .int .i64 0]]) (B2 := Z2.heap.size) elBks rfl rfl rfl rfl TR.out HCS.out (by simpa using Rd.blk BL.out BL.out.lt 0 (xs := [.slice none 0 0, .slice none 0 0, .int .i64 0, .int .i64 0, .slice none 0 0, .slice (some ⟨Z.heap.size, 0, none⟩) 1 1, .int .i64 0]) (fun i u h => by rw [Nat.zero_add]; simpa using h)) rfl (by rw [htl0.out]; omega) (by rw [htl0.out]; omega) hnt.out FT.out.size ?_; intro v8 wy hr fr1 hv; have FY := hid (own_frame TR.out FT.out fr1 (Nat.le_refl _)); have FR1 := hid fr1; rw [← HTK.out] at hr; obtain ⟨A8, c8, e8, _, _, _⟩ := hr.els (S' := fun _ => True) (fun _ _ => trivial) (fun _ _ => trivial); rw [htl1.out] at e8; subst e8; have RY := hid hr; clear hr fr1 hv)
          clear s0 s1
          have RZ := hid (RY.out.more (S' := Sx S w1.heap.size wy) (Nat.le_refl _) (Sx.fr FR1.out (fun g cs hm hb => by
            obtain ⟨_, cs', hb'⟩ := TR.out.own hm.symm
            exact Blk.ne_ hb hb' (by decide) rfl)))
          clear FR1 RY
          go_round
          case rel => exact ⟨j + 1, A8, c8, by omega, by go_num, rfl, RZ, FY⟩
          case measure => simp [intOf]; omega
        · have hkn : nc = j := by omega
          subst hkn
          clear hgj
          have htk : (refJ x.blocks cr).take nc = refJ x.blocks cr := List.take_of_length_le (by rw [refJ_len, HNC.out]; exact Nat.le_refl _)
          rw [htk] at HR
          have F0w := hid ((F0.out.trans F1.out (fun _ _ h => h)).trans FR.out (fun _ _ h => h))
          have hG := hid (HG.out.fr FR.out (fun x => x))
          have hR := hid ((GR.out.fr F1.out (fun x => x)).fr FR.out (fun x => x))
          have o0 := hG.out.cell 0
          have o1 := hG.out.cell 1
          have o2 := hG.out.cell 2
          have o3 := hG.out.cell 3
          have oq := hG.out.frozen 3
          have hl1 := hG.out.lt
          go_upto_region 15 with fail
          clear o0 o1 o2 o3 oq
          have FS1 := (Fr.refl (One w.heap.size) wr).setCell ⟨w.heap.size, 3, none⟩ (.slice A (nb + nc) c) (fun _ => rfl)
          have hG2 : Hid (Blk (wr.setCell ⟨w.heap.size, 3, none⟩ (.slice A (nb + nc) c)) w.heap.size 27 #[.slice P np pc, .slice R nr rc, .slice V nv vc, .slice A (nb + nc) c]) := hid (by simpa using hG.out.set_ 3 (.slice A (nb + nc) c))
          have hR2 := hid (hR.out.fr FS1 (fun h => by have h : w.heap.size + 1 = w.heap.size := h; omega))
          have HELS := hid (Ty.row.els' (S' := fun k => k < wr.heap.size ∧ k ≠ w.heap.size ∧ k ≠ w.heap.size + 1) HR.out (fun k hk => by
            rcases hk with hk | ⟨_, cs, hb⟩
            · have h1 := hS0.out k hk
              have h2 := hS1.out k hk
              have h3 := FR.out.size
              exact ⟨by omega, by omega, by omega⟩
            · exact ⟨hb.lt, fun e => by subst e; exact Blk.ne_ hG.out hb (by decide) rfl, fun e => by subst e; exact Blk.ne_ hR.out hb (by decide) rfl⟩) (fun g hg => by
            obtain ⟨_, cs, hb⟩ := HR.out.own hg
            exact ⟨hb.lt, fun e => by subst e; exact Blk.ne_ hG.out hb (by decide) rfl, fun e => by subst e; exact Blk.ne_ hR.out hb (by decide) rfl⟩))
          have HEL := hid (HELS.fr FS1 (fun k hk => ⟨hk.1, fun h => hk.2.1 h⟩))
          have F1w := hid (F0w.out.trans FS1 (fun i hi h => by
            have h : i = w.heap.size := h
            omega))
          have hsz1 := hid FS1.size
          clear FS1 hG hR HELS F0w
          generalize wr.setCell ⟨w.heap.size, 3, none⟩ (.slice A (nb + nc) c) = wz at *
          have o0 := hG2.out.cell 0
          have o1 := hG2.out.cell 1
          have o2 := hG2.out.cell 2
          have o3 := hG2.out.cell 3
          have z0 := hR2.out.cell 0
          have z1 := hR2.out.cell 1
          have z2 := hR2.out.cell 2
          have z3 := hR2.out.cell 3
          have zq0 := hR2.out.frozen 0
          have zq1 := hR2.out.frozen 1
          have zq2 := hR2.out.frozen 2
          have zq3 := hR2.out.frozen 3
          have hlt := hR2.out.lt
          go_wp2_with fail
          clear o0 o1 o2 o3 z0 z1 z2 z3 zq0 zq1 zq2 zq3
          have FS := hid (((((Fr.refl (One (w.heap.size + 1)) wz).setCell ⟨w.heap.size + 1, 0, none⟩ (.slice P np pc) (fun _ => rfl)).setCell ⟨w.heap.size + 1, 1, none⟩ (.slice R nr rc) (fun _ => rfl)).setCell ⟨w.heap.size + 1, 2, none⟩ (.slice V nv vc) (fun _ => rfl)).setCell ⟨w.heap.size + 1, 3, none⟩ (.slice A (nb + nc) c) (fun _ => rfl))
          have HGZ : Hid (Blk _ (w.heap.size + 1) 27 #[.slice P np pc, .slice R nr rc, .slice V nv vc, .slice A (nb + nc) c]) := hid (by simpa using (((hR2.out.set_ 0 (.slice P np pc)).set_ 1 (.slice R nr rc)).set_ 2 (.slice V nv vc)).set_ 3 (.slice A (nb + nc) c))
          have g0 := HGZ.out.cell 0
          have g1 := HGZ.out.cell 1
          have g2 := HGZ.out.cell 2
          have g3 := HGZ.out.cell 3
          have hrl : (refB x.blocks (crit (tosOf x.blocks))).length = nb + nc := by rw [HCR.out, refB, List.length_append, refA_len, refJ_len, eb.out, HNC.out]
          have hFin : RFuncTo x P R V np nr nv pc rc vc w (.returned (.agg #[.slice P np pc, .slice R nr rc, .slice V nv vc, .slice A (nb + nc) c])) ((((wz.setCell ⟨w.heap.size + 1, 0, none⟩ (.slice P np pc)).setCell ⟨w.heap.size + 1, 1, none⟩ (.slice R nr rc)).setCell ⟨w.heap.size + 1, 2, none⟩ (.slice V nv vc)).setCell ⟨w.heap.size + 1, 3, none⟩ (.slice A (nb + nc) c)) := by
            refine ⟨A, c, by rw [hrl], ?_, F1w.out.trans FS.out (fun i hi h => by
              have h : i = w.heap.size + 1 := h
              omega)⟩
            rw [HCR.out, refB]
            exact (HEL.out.fr FS.out (fun k hk => ⟨Nat.lt_of_lt_of_le hk.1 hsz1.out, fun h => hk.2.2 h⟩)).more (fun k hk => Nat.lt_of_lt_of_le hk.1 (Nat.le_trans hsz1.out FS.out.size))
          generalize (((wz.setCell ⟨w.heap.size + 1, 0, none⟩ (.slice P np pc)).setCell ⟨w.heap.size + 1, 1, none⟩ (.slice R nr rc)).setCell ⟨w.heap.size + 1, 2, none⟩ (.slice V nv vc)).setCell ⟨w.heap.size + 1, 3, none⟩ (.slice A (nb + nc) c) = Zf at *
          exact bodyPost_ret (v := .agg #[.slice P np pc, .slice R nr rc, .slice V nv vc, .slice A (nb + nc) c]) (by simp [results, Try.results13, go_sem, g0, g1, g2, g3]) rfl hFin
end Go.Proofs.Ytiafkakkbbclhaa
