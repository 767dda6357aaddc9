/- For every input SplitRight returns true, part 4: what the proof rests on. Condition: the arguments are of bulk at most 1048576. -/
import Derived.Test.YtiafkakkbbclhaaGreatR3
set_option maxRecDepth 100000
set_option maxHeartbeats 12800000
set_option linter.unusedVariables false
set_option linter.unusedSimpArgs false
set_option linter.unusedSectionVars false
namespace Go.Proofs.YtiafkakkbbclhaaGreat
open Go.RowKit
structure Co (base : Nat) (W wx : World) (x : Sf) (qo np nr nv : Nat) (AP : Option Addr) (cP : Nat) (AR : Option Addr) (cR : Nat) (AV : Option Addr) (cV : Nat) (v : Value) : Prop where
  p : tI.row wx base Emp 59 (.slice AP np cP) x.type.params
  r : tI.row wx base Emp 59 (.slice AR nr cR) x.type.results
  vv : tI.row wx base Emp 59 (.slice AV nv cV) x.vals
  o : Blk wx qo 39 #[.slice AP np cP, .slice AR nr cR, .slice AV nv cV, v]
  q : W.heap.size ≤ qo
  f : Fr No W wx
theorem Co.fr {base : Nat} {W wx w' : World} {x : Sf} {qo np nr nv : Nat} {AP AR AV : Option Addr} {cP cR cV : Nat} {v : Value} {M : Nat → Prop} (h : Co base W wx x qo np nr nv AP cP AR cR AV cV v) (f : Fr M wx w') (hM : ∀ k, M k → W.heap.size ≤ k ∧ k ≠ qo ∧ ∀ cs, ¬ Blk wx k 59 cs) : Co base W w' x qo np nr nv AP cP AR cR AV cV v := by
  have hne : ∀ (u : Value) (l : List Int), tI.row wx base Emp 59 u l → ∀ k, u.ownBlock = some k → ¬ M k := fun u l hr k hk hm => by
    obtain ⟨_, cs, hb⟩ := hr.own hk
    exact (hM k hm).2.2 cs hb
  exact ⟨h.p.fr f (fun _ h => h.elim) (hne _ _ h.p), h.r.fr f (fun _ h => h.elim) (hne _ _ h.r), h.vv.fr f (fun _ h => h.elim) (hne _ _ h.vv), h.o.fr f (fun hm => (hM qo hm).2.1 rfl), h.q, h.f.trans f (fun i hi hm => absurd hi (Nat.not_lt.2 (hM i hm).1))⟩
theorem Co.frNo {base : Nat} {W wx w' : World} {x : Sf} {qo np nr nv : Nat} {AP AR AV : Option Addr} {cP cR cV : Nat} {v : Value} (h : Co base W wx x qo np nr nv AP cP AR cR AV cV v) (f : Fr No wx w') : Co base W w' x qo np nr nv AP cP AR cR AV cV v := h.fr f (fun _ h => h.elim)
theorem Co.set {base : Nat} {W wx : World} {x : Sf} {qo np nr nv : Nat} {AP AR AV : Option Addr} {cP cR cV : Nat} {v : Value} (h : Co base W wx x qo np nr nv AP cP AR cR AV cV v) (v' : Value) : Co base W (wx.setCell ⟨qo, 3, none⟩ v') x qo np nr nv AP cP AR cR AV cV v' := by
  have FS := (Fr.refl (One qo) wx).setCell ⟨qo, 3, none⟩ v' (fun _ => rfl)
  have hne : ∀ (u : Value) (l : List Int), tI.row wx base Emp 59 u l → ∀ k, u.ownBlock = some k → ¬ One qo k := fun u l hr k hk hm => by
    have hm : k = qo := hm
    subst hm
    obtain ⟨_, cs, hb⟩ := hr.own hk
    exact Blk.ne_ h.o hb (by decide) rfl
  exact ⟨h.p.fr FS (fun _ h => h.elim) (hne _ _ h.p), h.r.fr FS (fun _ h => h.elim) (hne _ _ h.r), h.vv.fr FS (fun _ h => h.elim) (hne _ _ h.vv), by simpa using h.o.set_ 3 v', h.q, h.f.trans FS (fun i hi hm => by
    have hm : i = qo := hm
    have := h.q
    exact absurd hi (by omega))⟩
def CopTo (x : Sf) (w : World) (e : Ending) (w' : World) : Prop :=
  ∃ (AP : Option Addr) (cP : Nat) (AR : Option Addr) (cR : Nat) (AV : Option Addr) (cV : Nat) (AB : Option Addr) (cB : Nat) (rs : List Rw), e = .returned (.agg #[.slice AP x.type.params.length cP, .slice AR x.type.results.length cR, .slice AV x.vals.length cV, .slice AB x.blocks.length cB]) ∧
    tI.row w' w.heap.size Emp 59 (.slice AP x.type.params.length cP) x.type.params ∧ tI.row w' w.heap.size Emp 59 (.slice AR x.type.results.length cR) x.type.results ∧ tI.row w' w.heap.size Emp 59 (.slice AV x.vals.length cV) x.vals ∧
    Cb w.heap.size w' (.slice AB x.blocks.length cB) x.blocks rs ∧ Fr No w w'
theorem elBks : ElemOk Tryz.prog 37 57 7 120 (.agg #[.slice none 0 0, .slice none 0 0, .int .i64 0, .int .i64 0, .slice none 0 0, .slice none 0 0, .int .i64 0]) := ElemOk.mk' Tryz.underlying37 (by kernel_rfl) rfl (by decide)
theorem elIns : ElemOk Tryz.prog 51 82 7 88 (.agg #[.int .i64 0, .int .i64 0, .int .i64 0, .int .i64 0, .int .u64 0, .slice none 0 0, .slice none 0 0]) := ElemOk.mk' Tryz.underlying51 (by kernel_rfl) rfl (by decide)
theorem copied_any (P R V B : Option Addr) (np nr nv nb pc rc vc bc : Nat) (x : Sf) (S : Nat → Prop) (w : World) (hp : tI.els w S P x.type.params) (hr : tI.els w S R x.type.results) (hv : tI.els w S V x.vals) (h : tSb.els w S B x.blocks) (hS : ∀ k, S k → k < w.heap.size)
    (ep : Hid (x.type.params.length = np)) (er : Hid (x.type.results.length = nr)) (ev : Hid (x.vals.length = nv)) (eb : Hid (x.blocks.length = nb)) (hl : Hid (FL x)) :
    Calls Tryz.prog 17 #[.agg #[.slice P np pc, .slice R nr rc, .slice V nv vc, .slice B nb bc]] w (CopTo x w) := by
  have F0 := hid (((Fr.refl No w).alloc (.cells #[.slice P np pc, .slice R nr rc, .slice V nv vc, .slice B nb bc] 39)).alloc (.cells #[.slice none 0 0, .slice none 0 0, .slice none 0 0, .slice none 0 0] 39))
  have G := hid ((Blk.new w 39 #[.slice P np pc, .slice R nr rc, .slice V nv vc, .slice B nb bc]).alloc (.cells #[.slice none 0 0, .slice none 0 0, .slice none 0 0, .slice none 0 0] 39))
  have GR := hid (Blk.new1 w (.cells #[.slice P np pc, .slice R nr rc, .slice V nv vc, .slice B nb bc] 39) 39 #[.slice none 0 0, .slice none 0 0, .slice none 0 0, .slice none 0 0])
  have HH := hid (h.fr F0.out (fun k hk => ⟨hS k hk, fun x => x⟩))
  have hbl := hid (fun k (hk : S k) => Nat.lt_of_lt_of_le (hS k hk) F0.out.size)
  have hnb : nb ≤ 100000 := by have := hl.out.nb; rw [eb.out] at this; exact this
  have HCP := hid (fun X (f : Fr No w X) => cloneV_any P pc x.type.params S X (hp.fr f (fun k hk => ⟨hS k hk, fun x => x⟩)) (fun k hk => Nat.lt_of_lt_of_le (hS k hk) f.size) hl.out.p)
  have HCR := hid (fun X (f : Fr No w X) => cloneV_any R rc x.type.results S X (hr.fr f (fun k hk => ⟨hS k hk, fun x => x⟩)) (fun k hk => Nat.lt_of_lt_of_le (hS k hk) f.size) hl.out.r)
  have HCV := hid (fun X (f : Fr No w X) => cloneV_any V vc x.vals S X (hv.fr f (fun k hk => ⟨hS k hk, fun x => x⟩)) (fun k hk => Nat.lt_of_lt_of_le (hS k hk) f.size) hl.out.v)
  unfold CloneTo at HCP HCR HCV
  rw [ep.out] at HCP
  rw [er.out] at HCR
  rw [ev.out] at HCV
  clear hp hr hv h hS
  go_enter Tryz.func17, Tryz.ntmps17
  go_upto_region 1 with fail
  generalize (w.alloc (.cells #[.slice P np pc, .slice R nr rc, .slice V nv vc, .slice B nb bc] 39)).alloc (.cells #[.slice none 0 0, .slice none 0 0, .slice none 0 0, .slice none 0 0] 39) = W at *
  have hW := hid F0.out.size
  replace HCP := hid (fun X (f : Fr No W X) => HCP.out X (F0.out.trans f (fun _ _ h => h)))
  replace HCR := hid (fun X (f : Fr No W X) => HCR.out X (F0.out.trans f (fun _ _ h => h)))
  replace HCV := hid (fun X (f : Fr No W X) => HCV.out X (F0.out.trans f (fun _ _ h => h)))
  have HXW : Hid (∀ X, Fr No W X → X.cell? ⟨w.heap.size, 0, none⟩ = some (.slice P np pc) ∧ X.cell? ⟨w.heap.size, 1, none⟩ = some (.slice R nr rc) ∧ X.cell? ⟨w.heap.size, 2, none⟩ = some (.slice V nv vc)) := hid fun X f => by
    have g := G.out.fr f (fun x => x)
    exact ⟨g.cell 0, g.cell 1, g.cell 2⟩
  go_cut [3] (fun v3 wx => ∃ (qo : Nat) (AP : Option Addr) (cP : Nat) (AR : Option Addr) (cR : Nat) (AV : Option Addr) (cV : Nat), v3 = .pointer (some ⟨qo, 0, none⟩) ∧ Hid (Co w.heap.size W wx x qo np nr nv AP cP AR cR AV cV (.slice none 0 0)))
  case first =>
    refine wp_region_ort (Fr No W) (.rd 0 (.rd 1 (.rd 2 (.rd 4 (.rd 5 (.rd 6 (.rd 9 (.rd 10 (.alt 3 (.alt 7 (.rd 8 (.alt 11 (.rd 12 (.eff 13 (.eff 14 .nil))) 13 (.eff 11 (.rd 12 (.eff 14 .nil))))) 13 (.eff 7 (.rd 8 (.eff 11 (.rd 12 (.eff 14 .nil)))))) 13 (.eff 3 (.eff 7 (.rd 8 (.eff 11 (.rd 12 (.eff 14 .nil))))))))))))))) (by kernel_rfl) (by kernel_rfl) (by kernel_rfl) rfl (Fr.refl _ W).drew ?_
    repeat (first | refine tS ?_ | refine tX HXW.out ?_)
    refine wpT_alt ?_ ?_
    · skip
      refine wpT_eff rfl rfl (fun K hK => ?_)
      simp only [zA]
      go_simp
      refine (HCP.out _ ((Fr.refl No W).drew)).mono ?_
      rintro e Y1 ⟨AP, cP, rfl, hrow, f⟩
      have F4n := hid ((Fr.refl No W).drew.trans f (fun _ _ h => h))
      have HP := hid (hrow.more (base' := w.heap.size) (Nat.le_trans hW.out (Fr.refl No W).drew.size) (fun _ h => h))
      clear hrow f
      have F4 := F4n
      clear F4n
      refine hK _ _ (F4.out) ?_
      clear hK K
      repeat (first | refine tS ?_ | refine tX HXW.out ?_)
      refine wpT_alt ?_ ?_
      · skip
        refine wpT_eff rfl rfl (fun K hK => ?_)
        simp only [zA]
        go_simp
        refine (HCR.out _ F4.out).mono ?_
        rintro e Y2 ⟨AR, cR, rfl, hrow, f⟩
        have F4n := hid (F4.out.trans f (fun _ _ h => h))
        have HR := hid (hrow.more (base' := w.heap.size) (Nat.le_trans hW.out F4.out.size) (fun _ h => h))
        replace HP := hid (HP.out.fr f (fun _ h => h.elim) (fun _ _ h => h))
        clear hrow f
        clear F4
        have F4 := F4n
        clear F4n
        refine hK _ _ (F4.out) ?_
        clear hK K
        repeat (first | refine tS ?_ | refine tX HXW.out ?_)
        refine wpT_alt ?_ ?_
        · skip
          refine wpT_eff rfl rfl (fun K hK => ?_)
          simp only [zA]
          go_simp
          refine (HCV.out _ F4.out).mono ?_
          rintro e Y3 ⟨AV, cV, rfl, hrow, f⟩
          have F4n := hid (F4.out.trans f (fun _ _ h => h))
          have HV := hid (hrow.more (base' := w.heap.size) (Nat.le_trans hW.out F4.out.size) (fun _ h => h))
          replace HP := hid (HP.out.fr f (fun _ h => h.elim) (fun _ _ h => h))
          replace HR := hid (HR.out.fr f (fun _ h => h.elim) (fun _ _ h => h))
          clear hrow f
          clear F4
          have F4 := F4n
          clear F4n
          refine hK _ _ (F4.out) ?_
          clear hK K
          repeat (first | refine tS ?_ | refine tX HXW.out ?_)
          refine wpT_eff rfl rfl (fun K hK => ?_)
          simp only [zA]
          go_simp
          have F4n := hid (F4.out.alloc (.cells #[.slice none 0 0, .slice none 0 0, .slice none 0 0, .slice none 0 0] 39))
          have HO := hid (Blk.new Y3 39 #[.slice none 0 0, .slice none 0 0, .slice none 0 0, .slice none 0 0])
          have hqo := hid F4.out.size
          replace HP := hid (HP.out.fr ((Fr.refl No Y3).alloc (.cells #[.slice none 0 0, .slice none 0 0, .slice none 0 0, .slice none 0 0] 39)) (fun _ h => h.elim) (fun _ _ h => h))
          replace HR := hid (HR.out.fr ((Fr.refl No Y3).alloc (.cells #[.slice none 0 0, .slice none 0 0, .slice none 0 0, .slice none 0 0] 39)) (fun _ h => h.elim) (fun _ _ h => h))
          replace HV := hid (HV.out.fr ((Fr.refl No Y3).alloc (.cells #[.slice none 0 0, .slice none 0 0, .slice none 0 0, .slice none 0 0] 39)) (fun _ h => h.elim) (fun _ _ h => h))
          obtain ⟨qo, hqo2⟩ : ∃ qo, Y3.heap.size = qo := ⟨_, rfl⟩
          rw [hqo2] at HO hqo ⊢
          clear hqo2
          generalize Y3.alloc (.cells #[.slice none 0 0, .slice none 0 0, .slice none 0 0, .slice none 0 0] 39) = Y4 at *
          clear F4
          have F4 := F4n
          clear F4n
          refine hK _ _ (F4.out) ?_
          clear hK K
          repeat (first | refine tS ?_ | refine tX HXW.out ?_)
          have z0 := HO.out.cell 0
          have z1 := HO.out.cell 1
          have z2 := HO.out.cell 2
          have z3 := HO.out.cell 3
          have zq0 := HO.out.frozen 0
          have zq1 := HO.out.frozen 1
          have zq2 := HO.out.frozen 2
          have zq3 := HO.out.frozen 3
          refine wpT_eff rfl rfl (fun K hK => ?_)
          simp only [zA]
          go_simp
          have FS := hid (((((Fr.refl (One qo) Y4).setCell ⟨qo, 0, none⟩ (.slice AP np cP) (fun _ => rfl)).setCell ⟨qo, 1, none⟩ (.slice AR nr cR) (fun _ => rfl)).setCell ⟨qo, 2, none⟩ (.slice AV nv cV) (fun _ => rfl)).setCell ⟨qo, 3, none⟩ (.slice none 0 0) (fun _ => rfl))
          have HO4 : Hid (Blk _ qo 39 _) := hid ((((HO.out.set_ 0 (.slice AP np cP)).set_ 1 (.slice AR nr cR)).set_ 2 (.slice AV nv cV)).set_ 3 (.slice none 0 0))
          have hM := Ng.one HO.out (by decide) (by decide)
          clear z0 z1 z2 z3 zq0 zq1 zq2 zq3
          have F5 := hid (F4.out.trans FS.out (fun i hi h => by have := hqo.out; unfold One at h; omega))
          have hne : ∀ (u : Value) (l : List Int), tI.row Y4 w.heap.size Emp 59 u l → ∀ k, u.ownBlock = some k → ¬ One qo k := fun u l hr k hk h => by
            have h : k = qo := h
            subst h
            obtain ⟨_, cs, hb⟩ := hr.own hk
            exact Blk.ne_ HO.out hb (by decide) rfl
          have RP := hid (HP.out.fr FS.out (fun _ h => h.elim) (hne _ _ HP.out))
          have RR := hid (HR.out.fr FS.out (fun _ h => h.elim) (hne _ _ HR.out))
          have RV := hid (HV.out.fr FS.out (fun _ h => h.elim) (hne _ _ HV.out))
          refine hK _ _ (F5.out) ?_
          clear hK K
          repeat (first | refine tS ?_ | refine tX HXW.out ?_)
          refine wpT_nil ?_
          clear hne hM
          go_wp2_with fail
          go_meet
          case rel => exact ⟨qo, AP, cP, AR, cR, AV, cV, rfl, hid ⟨RP.out, RR.out, RV.out, HO4.out, hqo.out, F5.out⟩⟩
        · skip
          refine wpT_eff rfl rfl (fun K hK => ?_)
          simp only [zA]
          go_simp
          have F4n := hid (F4.out.alloc (.cells #[.slice none 0 0, .slice none 0 0, .slice none 0 0, .slice none 0 0] 39))
          have HO := hid (Blk.new Y2 39 #[.slice none 0 0, .slice none 0 0, .slice none 0 0, .slice none 0 0])
          have hqo := hid F4.out.size
          replace HP := hid (HP.out.fr ((Fr.refl No Y2).alloc (.cells #[.slice none 0 0, .slice none 0 0, .slice none 0 0, .slice none 0 0] 39)) (fun _ h => h.elim) (fun _ _ h => h))
          replace HR := hid (HR.out.fr ((Fr.refl No Y2).alloc (.cells #[.slice none 0 0, .slice none 0 0, .slice none 0 0, .slice none 0 0] 39)) (fun _ h => h.elim) (fun _ _ h => h))
          obtain ⟨qo, hqo2⟩ : ∃ qo, Y2.heap.size = qo := ⟨_, rfl⟩
          rw [hqo2] at HO hqo ⊢
          clear hqo2
          generalize Y2.alloc (.cells #[.slice none 0 0, .slice none 0 0, .slice none 0 0, .slice none 0 0] 39) = Y3 at *
          clear F4
          have F4 := F4n
          clear F4n
          refine hK _ _ (F4.out) ?_
          clear hK K
          repeat (first | refine tS ?_ | refine tX HXW.out ?_)
          refine wpT_eff rfl rfl (fun K hK => ?_)
          simp only [zA]
          go_simp
          refine (HCV.out _ F4.out).mono ?_
          rintro e Y4 ⟨AV, cV, rfl, hrow, f⟩
          have F4n := hid (F4.out.trans f (fun _ _ h => h))
          have HV := hid (hrow.more (base' := w.heap.size) (Nat.le_trans hW.out F4.out.size) (fun _ h => h))
          replace HP := hid (HP.out.fr f (fun _ h => h.elim) (fun _ _ h => h))
          replace HR := hid (HR.out.fr f (fun _ h => h.elim) (fun _ _ h => h))
          replace HO := hid (HO.out.fr f (fun x => x))
          clear hrow f
          clear F4
          have F4 := F4n
          clear F4n
          refine hK _ _ (F4.out) ?_
          clear hK K
          repeat (first | refine tS ?_ | refine tX HXW.out ?_)
          have z0 := HO.out.cell 0
          have z1 := HO.out.cell 1
          have z2 := HO.out.cell 2
          have z3 := HO.out.cell 3
          have zq0 := HO.out.frozen 0
          have zq1 := HO.out.frozen 1
          have zq2 := HO.out.frozen 2
          have zq3 := HO.out.frozen 3
          refine wpT_eff rfl rfl (fun K hK => ?_)
          simp only [zA]
          go_simp
          have FS := hid (((((Fr.refl (One qo) Y4).setCell ⟨qo, 0, none⟩ (.slice AP np cP) (fun _ => rfl)).setCell ⟨qo, 1, none⟩ (.slice AR nr cR) (fun _ => rfl)).setCell ⟨qo, 2, none⟩ (.slice AV nv cV) (fun _ => rfl)).setCell ⟨qo, 3, none⟩ (.slice none 0 0) (fun _ => rfl))
          have HO4 : Hid (Blk _ qo 39 _) := hid ((((HO.out.set_ 0 (.slice AP np cP)).set_ 1 (.slice AR nr cR)).set_ 2 (.slice AV nv cV)).set_ 3 (.slice none 0 0))
          have hM := Ng.one HO.out (by decide) (by decide)
          clear z0 z1 z2 z3 zq0 zq1 zq2 zq3
          have F5 := hid (F4.out.trans FS.out (fun i hi h => by have := hqo.out; unfold One at h; omega))
          have hne : ∀ (u : Value) (l : List Int), tI.row Y4 w.heap.size Emp 59 u l → ∀ k, u.ownBlock = some k → ¬ One qo k := fun u l hr k hk h => by
            have h : k = qo := h
            subst h
            obtain ⟨_, cs, hb⟩ := hr.own hk
            exact Blk.ne_ HO.out hb (by decide) rfl
          have RP := hid (HP.out.fr FS.out (fun _ h => h.elim) (hne _ _ HP.out))
          have RR := hid (HR.out.fr FS.out (fun _ h => h.elim) (hne _ _ HR.out))
          have RV := hid (HV.out.fr FS.out (fun _ h => h.elim) (hne _ _ HV.out))
          refine hK _ _ (F5.out) ?_
          clear hK K
          repeat (first | refine tS ?_ | refine tX HXW.out ?_)
          refine wpT_nil ?_
          clear hne hM
          go_wp2_with fail
          go_meet
          case rel => exact ⟨qo, AP, cP, AR, cR, AV, cV, rfl, hid ⟨RP.out, RR.out, RV.out, HO4.out, hqo.out, F5.out⟩⟩
      · skip
        refine wpT_eff rfl rfl (fun K hK => ?_)
        simp only [zA]
        go_simp
        have F4n := hid (F4.out.alloc (.cells #[.slice none 0 0, .slice none 0 0, .slice none 0 0, .slice none 0 0] 39))
        have HO := hid (Blk.new Y1 39 #[.slice none 0 0, .slice none 0 0, .slice none 0 0, .slice none 0 0])
        have hqo := hid F4.out.size
        replace HP := hid (HP.out.fr ((Fr.refl No Y1).alloc (.cells #[.slice none 0 0, .slice none 0 0, .slice none 0 0, .slice none 0 0] 39)) (fun _ h => h.elim) (fun _ _ h => h))
        obtain ⟨qo, hqo2⟩ : ∃ qo, Y1.heap.size = qo := ⟨_, rfl⟩
        rw [hqo2] at HO hqo ⊢
        clear hqo2
        generalize Y1.alloc (.cells #[.slice none 0 0, .slice none 0 0, .slice none 0 0, .slice none 0 0] 39) = Y2 at *
        clear F4
        have F4 := F4n
        clear F4n
        refine hK _ _ (F4.out) ?_
        clear hK K
        repeat (first | refine tS ?_ | refine tX HXW.out ?_)
        refine wpT_eff rfl rfl (fun K hK => ?_)
        simp only [zA]
        go_simp
        refine (HCR.out _ F4.out).mono ?_
        rintro e Y3 ⟨AR, cR, rfl, hrow, f⟩
        have F4n := hid (F4.out.trans f (fun _ _ h => h))
        have HR := hid (hrow.more (base' := w.heap.size) (Nat.le_trans hW.out F4.out.size) (fun _ h => h))
        replace HP := hid (HP.out.fr f (fun _ h => h.elim) (fun _ _ h => h))
        replace HO := hid (HO.out.fr f (fun x => x))
        clear hrow f
        clear F4
        have F4 := F4n
        clear F4n
        refine hK _ _ (F4.out) ?_
        clear hK K
        repeat (first | refine tS ?_ | refine tX HXW.out ?_)
        refine wpT_eff rfl rfl (fun K hK => ?_)
        simp only [zA]
        go_simp
        refine (HCV.out _ F4.out).mono ?_
        rintro e Y4 ⟨AV, cV, rfl, hrow, f⟩
        have F4n := hid (F4.out.trans f (fun _ _ h => h))
        have HV := hid (hrow.more (base' := w.heap.size) (Nat.le_trans hW.out F4.out.size) (fun _ h => h))
        replace HP := hid (HP.out.fr f (fun _ h => h.elim) (fun _ _ h => h))
        replace HO := hid (HO.out.fr f (fun x => x))
        replace HR := hid (HR.out.fr f (fun _ h => h.elim) (fun _ _ h => h))
        clear hrow f
        clear F4
        have F4 := F4n
        clear F4n
        refine hK _ _ (F4.out) ?_
        clear hK K
        repeat (first | refine tS ?_ | refine tX HXW.out ?_)
        have z0 := HO.out.cell 0
        have z1 := HO.out.cell 1
        have z2 := HO.out.cell 2
        have z3 := HO.out.cell 3
        have zq0 := HO.out.frozen 0
        have zq1 := HO.out.frozen 1
        have zq2 := HO.out.frozen 2
        have zq3 := HO.out.frozen 3
        refine wpT_eff rfl rfl (fun K hK => ?_)
        simp only [zA]
        go_simp
        have FS := hid (((((Fr.refl (One qo) Y4).setCell ⟨qo, 0, none⟩ (.slice AP np cP) (fun _ => rfl)).setCell ⟨qo, 1, none⟩ (.slice AR nr cR) (fun _ => rfl)).setCell ⟨qo, 2, none⟩ (.slice AV nv cV) (fun _ => rfl)).setCell ⟨qo, 3, none⟩ (.slice none 0 0) (fun _ => rfl))
        have HO4 : Hid (Blk _ qo 39 _) := hid ((((HO.out.set_ 0 (.slice AP np cP)).set_ 1 (.slice AR nr cR)).set_ 2 (.slice AV nv cV)).set_ 3 (.slice none 0 0))
        have hM := Ng.one HO.out (by decide) (by decide)
        clear z0 z1 z2 z3 zq0 zq1 zq2 zq3
        have F5 := hid (F4.out.trans FS.out (fun i hi h => by have := hqo.out; unfold One at h; omega))
        have hne : ∀ (u : Value) (l : List Int), tI.row Y4 w.heap.size Emp 59 u l → ∀ k, u.ownBlock = some k → ¬ One qo k := fun u l hr k hk h => by
          have h : k = qo := h
          subst h
          obtain ⟨_, cs, hb⟩ := hr.own hk
          exact Blk.ne_ HO.out hb (by decide) rfl
        have RP := hid (HP.out.fr FS.out (fun _ h => h.elim) (hne _ _ HP.out))
        have RR := hid (HR.out.fr FS.out (fun _ h => h.elim) (hne _ _ HR.out))
        have RV := hid (HV.out.fr FS.out (fun _ h => h.elim) (hne _ _ HV.out))
        refine hK _ _ (F5.out) ?_
        clear hK K
        repeat (first | refine tS ?_ | refine tX HXW.out ?_)
        refine wpT_nil ?_
        clear hne hM
        go_wp2_with fail
        go_meet
        case rel => exact ⟨qo, AP, cP, AR, cR, AV, cV, rfl, hid ⟨RP.out, RR.out, RV.out, HO4.out, hqo.out, F5.out⟩⟩
    · skip
      refine wpT_eff rfl rfl (fun K hK => ?_)
      simp only [zA]
      go_simp
      have F4 := hid (((Fr.refl No W).alloc (.cells #[.slice none 0 0, .slice none 0 0, .slice none 0 0, .slice none 0 0] 39)).drew)
      have HO := hid ((Blk.new W 39 #[.slice none 0 0, .slice none 0 0, .slice none 0 0, .slice none 0 0]).drew)
      have hqo := hid (Nat.le_refl W.heap.size)
      obtain ⟨qo, hqo2⟩ : ∃ qo, W.heap.size = qo := ⟨_, rfl⟩
      rw [hqo2] at HO ⊢
      have hqo : Hid (W.heap.size ≤ qo) := hid (Nat.le_of_eq hqo2)
      clear hqo2
      generalize (W.alloc (.cells #[.slice none 0 0, .slice none 0 0, .slice none 0 0, .slice none 0 0] 39)).drew = Y1 at *
      refine hK _ _ (F4.out) ?_
      clear hK K
      repeat (first | refine tS ?_ | refine tX HXW.out ?_)
      refine wpT_eff rfl rfl (fun K hK => ?_)
      simp only [zA]
      go_simp
      refine (HCP.out _ F4.out).mono ?_
      rintro e Y2 ⟨AP, cP, rfl, hrow, f⟩
      have F4n := hid (F4.out.trans f (fun _ _ h => h))
      have HP := hid (hrow.more (base' := w.heap.size) (Nat.le_trans hW.out F4.out.size) (fun _ h => h))
      replace HO := hid (HO.out.fr f (fun x => x))
      clear hrow f
      clear F4
      have F4 := F4n
      clear F4n
      refine hK _ _ (F4.out) ?_
      clear hK K
      repeat (first | refine tS ?_ | refine tX HXW.out ?_)
      refine wpT_eff rfl rfl (fun K hK => ?_)
      simp only [zA]
      go_simp
      refine (HCR.out _ F4.out).mono ?_
      rintro e Y3 ⟨AR, cR, rfl, hrow, f⟩
      have F4n := hid (F4.out.trans f (fun _ _ h => h))
      have HR := hid (hrow.more (base' := w.heap.size) (Nat.le_trans hW.out F4.out.size) (fun _ h => h))
      replace HO := hid (HO.out.fr f (fun x => x))
      replace HP := hid (HP.out.fr f (fun _ h => h.elim) (fun _ _ h => h))
      clear hrow f
      clear F4
      have F4 := F4n
      clear F4n
      refine hK _ _ (F4.out) ?_
      clear hK K
      repeat (first | refine tS ?_ | refine tX HXW.out ?_)
      refine wpT_eff rfl rfl (fun K hK => ?_)
      simp only [zA]
      go_simp
      refine (HCV.out _ F4.out).mono ?_
      rintro e Y4 ⟨AV, cV, rfl, hrow, f⟩
      have F4n := hid (F4.out.trans f (fun _ _ h => h))
      have HV := hid (hrow.more (base' := w.heap.size) (Nat.le_trans hW.out F4.out.size) (fun _ h => h))
      replace HO := hid (HO.out.fr f (fun x => x))
      replace HP := hid (HP.out.fr f (fun _ h => h.elim) (fun _ _ h => h))
      replace HR := hid (HR.out.fr f (fun _ h => h.elim) (fun _ _ h => h))
      clear hrow f
      clear F4
      have F4 := F4n
      clear F4n
      refine hK _ _ (F4.out) ?_
      clear hK K
      repeat (first | refine tS ?_ | refine tX HXW.out ?_)
      have z0 := HO.out.cell 0
      have z1 := HO.out.cell 1
      have z2 := HO.out.cell 2
      have z3 := HO.out.cell 3
      have zq0 := HO.out.frozen 0
      have zq1 := HO.out.frozen 1
      have zq2 := HO.out.frozen 2
      have zq3 := HO.out.frozen 3
      refine wpT_eff rfl rfl (fun K hK => ?_)
      simp only [zA]
      go_simp
      have FS := hid (((((Fr.refl (One qo) Y4).setCell ⟨qo, 0, none⟩ (.slice AP np cP) (fun _ => rfl)).setCell ⟨qo, 1, none⟩ (.slice AR nr cR) (fun _ => rfl)).setCell ⟨qo, 2, none⟩ (.slice AV nv cV) (fun _ => rfl)).setCell ⟨qo, 3, none⟩ (.slice none 0 0) (fun _ => rfl))
      have HO4 : Hid (Blk _ qo 39 _) := hid ((((HO.out.set_ 0 (.slice AP np cP)).set_ 1 (.slice AR nr cR)).set_ 2 (.slice AV nv cV)).set_ 3 (.slice none 0 0))
      have hM := Ng.one HO.out (by decide) (by decide)
      clear z0 z1 z2 z3 zq0 zq1 zq2 zq3
      have F5 := hid (F4.out.trans FS.out (fun i hi h => by have := hqo.out; unfold One at h; omega))
      have hne : ∀ (u : Value) (l : List Int), tI.row Y4 w.heap.size Emp 59 u l → ∀ k, u.ownBlock = some k → ¬ One qo k := fun u l hr k hk h => by
        have h : k = qo := h
        subst h
        obtain ⟨_, cs, hb⟩ := hr.own hk
        exact Blk.ne_ HO.out hb (by decide) rfl
      have RP := hid (HP.out.fr FS.out (fun _ h => h.elim) (hne _ _ HP.out))
      have RR := hid (HR.out.fr FS.out (fun _ h => h.elim) (hne _ _ HR.out))
      have RV := hid (HV.out.fr FS.out (fun _ h => h.elim) (hne _ _ HV.out))
      refine hK _ _ (F5.out) ?_
      clear hK K
      repeat (first | refine tS ?_ | refine tX HXW.out ?_)
      refine wpT_nil ?_
      clear hne hM
      go_wp2_with fail
      go_meet
      case rel => exact ⟨qo, AP, cP, AR, cR, AV, cV, rfl, hid ⟨RP.out, RR.out, RV.out, HO4.out, hqo.out, F5.out⟩⟩
  case rest =>
    obtain ⟨qo, AP, cP, AR, cR, AV, cV, rfl, HCO⟩ := hcut
    have HCB := hid (Cb.nil W.heap.size wc)
    have y3 := (G.out.fr HCO.out.f (fun x => x)).cell 3
    clear HXW HCP HCR HCV G
    go_wp2_with fail
    clear y3
    go_loopw [25] (fun i wr => ∃ (k : Nat) (AB : Option Addr) (cB : Nat) (rs : List Rw), k ≤ nb ∧ i = .int .i64 k ∧ Hid (Co w.heap.size W wr x qo np nr nv AP cP AR cR AV cV (.slice AB k cB)) ∧ Hid (Cb W.heap.size wr (.slice AB k cB) (x.blocks.take k) rs)) (fun i _ => nb - (intOf i).toNat)
    case atStart => exact ⟨0, none, 0, [], by omega, rfl, HCO, by rw [List.take_zero]; exact HCB⟩
    case round =>
      clear HCO HCB
      obtain ⟨k, AB, cB, rs, hk, rfl, HCO, HCB⟩ := hrel
      by_cases hgo : k < nb
      · have hlk : k < x.blocks.length := by have := eb.out; omega
        have FR := hid HCO.out.f
        obtain ⟨b, o, A0, c0, A1, c1, A2, c2, A3, c3, rfl, hb, y0, y1, y2, y3, y4, y5, y6, g0, g1, e0, g2, g3, e1, wk, wc_, g4, g5, e2, g6, g7, e3, wt⟩ := Sb_at HH.out k hlk
        have hbb := hbl.out b hb
        replace y0 := (FR.out.cell (p := ⟨b, o + k * 7, none⟩) hbb (fun x => x)).trans y0
        replace y1 := (FR.out.cell (p := ⟨b, o + k * 7 + 1, none⟩) hbb (fun x => x)).trans y1
        replace y2 := (FR.out.cell (p := ⟨b, o + k * 7 + 2, none⟩) hbb (fun x => x)).trans y2
        replace y3 := (FR.out.cell (p := ⟨b, o + k * 7 + 3, none⟩) hbb (fun x => x)).trans y3
        replace y4 := (FR.out.cell (p := ⟨b, o + k * 7 + 4, none⟩) hbb (fun x => x)).trans y4
        replace y5 := (FR.out.cell (p := ⟨b, o + k * 7 + 5, none⟩) hbb (fun x => x)).trans y5
        replace y6 := (FR.out.cell (p := ⟨b, o + k * 7 + 6, none⟩) hbb (fun x => x)).trans y6
        have hmem := List.getElem_mem hlk
        have hbp := hl.out.bp _ hmem
        have hbi := hl.out.bi _ hmem
        have hba := hl.out.ba _ hmem
        have hia := hid (hl.out.ia _ hmem)
        have hea := hid (hl.out.ea _ hmem)
        have htl := to_le hl.out.t k
        rw [toOf_el hlk] at htl
        have hxk : Hid (x.blocks.take (k + 1) = x.blocks.take k ++ [x.blocks[k]]) := hid (List.take_succ_eq_append_getElem hlk)
        have HWF := hid (And.intro wk (And.intro wc_ wt))
        have hSW := hid (fun k (hk : S k) => Nat.lt_of_lt_of_le (hbl.out k hk) FR.out.size)
        have HE0 := hid (e0.fr FR.out (fun k hk => ⟨hbl.out k hk, fun x => x⟩))
        have HE1 := hid (e1.fr FR.out (fun k hk => ⟨hbl.out k hk, fun x => x⟩))
        have HE2 := hid (e2.fr FR.out (fun k hk => ⟨hbl.out k hk, fun x => x⟩))
        have HE3 := hid (e3.fr FR.out (fun k hk => ⟨hbl.out k hk, fun x => x⟩))
        clear g0 g1 e0 g2 g3 e1 wk wc_ g4 g5 e2 g6 g7 e3 wt hmem
        generalize x.blocks[k] = bk at *
        obtain ⟨npk, hnpk⟩ : ∃ n, bk.params.length = n := ⟨_, rfl⟩
        obtain ⟨ni, hni⟩ : ∃ n, bk.ins.length = n := ⟨_, rfl⟩
        obtain ⟨na, hna⟩ : ∃ n, bk.end_.args.length = n := ⟨_, rfl⟩
        obtain ⟨nt, hnt⟩ : ∃ n, bk.end_.to.length = n := ⟨_, rfl⟩
        rw [hnpk] at y0 hbp
        rw [hni] at y1 hbi
        rw [hna] at y4 hba
        rw [hnt] at y5 htl
        have HNP := hid hnpk
        have HNI := hid hni
        have HNA := hid hna
        have HNT := hid hnt
        clear hnpk hni hna hnt
        have FB := (Fr.refl No wr).alloc (.cells #[.slice A0 npk c0, .slice A1 ni c1, .int .i64 bk.end_.kind, .int .i64 bk.end_.cond, .slice A2 na c2, .slice A3 nt c3, .int .i64 bk.end_.trap] 57)
        have HBV := hid (Blk.new wr 57 #[.slice A0 npk c0, .slice A1 ni c1, .int .i64 bk.end_.kind, .int .i64 bk.end_.cond, .slice A2 na c2, .slice A3 nt c3, .int .i64 bk.end_.trap])
        have HC1 := hid (HCO.out.frNo FB)
        have HB1 := hid (HCB.out.frNo FB)
        have FA := hid FB
        have i0 : (0 : Int) ≤ k := by omega
        have i1 : (k : Int) < nb := by omega
        clear FB
        go_upto_region 5 with fail
        clear y0 y1 y2 y3 y4 y5 y6
        generalize wr.alloc (.cells #[.slice A0 npk c0, .slice A1 ni c1, .int .i64 bk.end_.kind, .int .i64 bk.end_.cond, .slice A2 na c2, .slice A3 nt c3, .int .i64 bk.end_.trap] 57) = W1 at *
        obtain ⟨qb, hqb⟩ : ∃ qb, wr.heap.size = qb := ⟨_, rfl⟩
        rw [hqb] at HBV ⊢
        clear hqb
        have hSW1 := hid (fun k (hk : S k) => Nat.lt_of_lt_of_le (hSW.out k hk) FA.out.size)
        have HCL0 := hid (fun X (f : Fr No W1 X) => cloneI_any A0 c0 bk.params S X ((HE0.out.fr FA.out (fun k hk => ⟨hSW.out k hk, fun x => x⟩)).fr f (fun k hk => ⟨hSW1.out k hk, fun x => x⟩)) (fun k hk => Nat.lt_of_lt_of_le (hSW1.out k hk) f.size) (by rw [HNP.out]; exact hbp))
        unfold CloneTo at HCL0
        rw [HNP.out] at HCL0
        have HXB : Hid (∀ X, Fr No W1 X → X.cell? ⟨qb, 0, none⟩ = some (.slice A0 npk c0) ∧ X.cell? ⟨qb, 2, none⟩ = some (.int .i64 bk.end_.kind) ∧ X.cell? ⟨qb, 3, none⟩ = some (.int .i64 bk.end_.cond) ∧ X.cell? ⟨qb, 4, none⟩ = some (.slice A2 na c2) ∧ X.cell? ⟨qb, 5, none⟩ = some (.slice A3 nt c3) ∧ X.cell? ⟨qb, 6, none⟩ = some (.int .i64 bk.end_.trap)) := hid fun X f => by
          have g := HBV.out.fr f (fun x => x)
          exact ⟨g.cell 0, g.cell 2, g.cell 3, g.cell 4, g.cell 5, g.cell 6⟩
        go_cut [6] (fun v6 wx => ∃ (qx : Nat) (AX : Option Addr) (cX : Nat), v6 = .pointer (some ⟨qx, 0, none⟩) ∧ Hid (Blk wx qx 57 #[.slice AX npk cX, .slice none 0 0, .int .i64 bk.end_.kind, .int .i64 bk.end_.cond, .slice A2 na c2, .slice A3 nt c3, .int .i64 bk.end_.trap]) ∧ W1.heap.size ≤ qx ∧ Hid (tI.row wx W.heap.size Emp 3 (.slice AX npk cX) bk.params) ∧ Hid (Fr No W1 wx))
        case first =>
          refine wp_region_ort (Fr No W1) (.rd 0 (.rd 1 (.rd 3 (.rd 4 (.alt 2 (.rd 5 (.eff 6 (.eff 7 .nil))) 6 (.eff 2 (.rd 5 (.eff 7 .nil)))))))) (by kernel_rfl) (by kernel_rfl) (by kernel_rfl) rfl (Fr.refl _ W1).drew ?_
          repeat (first | refine tS ?_ | refine tX HXB.out ?_)
          refine wpT_alt ?_ ?_
          · skip
            refine wpT_eff rfl rfl (fun K hK => ?_)
            simp only [zA]
            go_simp
            refine (HCL0.out _ ((Fr.refl No W1).drew)).mono ?_
            rintro e Y0 ⟨AX, cX, rfl, hrow, f⟩
            have F4n := hid ((Fr.refl No W1).drew.trans f (fun _ _ h => h))
            have HPX := hid (hrow.more (base' := W.heap.size) (Nat.le_trans FR.out.size (Nat.le_trans FA.out.size (Fr.refl No W1).drew.size)) (fun _ h => h))
            clear hrow f
            have F4 := F4n
            clear F4n
            refine hK _ _ (F4.out) ?_
            clear hK K
            repeat (first | refine tS ?_ | refine tX HXB.out ?_)
            refine wpT_eff rfl rfl (fun K hK => ?_)
            simp only [zA]
            go_simp
            have F4n := hid (F4.out.alloc (.cells #[.slice none 0 0, .slice none 0 0, .int .i64 0, .int .i64 0, .slice none 0 0, .slice none 0 0, .int .i64 0] 57))
            have HX := hid (Blk.new Y0 57 #[.slice none 0 0, .slice none 0 0, .int .i64 0, .int .i64 0, .slice none 0 0, .slice none 0 0, .int .i64 0])
            have hqx := hid F4.out.size
            replace HPX := hid (HPX.out.fr ((Fr.refl No Y0).alloc (.cells #[.slice none 0 0, .slice none 0 0, .int .i64 0, .int .i64 0, .slice none 0 0, .slice none 0 0, .int .i64 0] 57)) (fun _ h => h.elim) (fun _ _ h => h))
            obtain ⟨qx, hqx2⟩ : ∃ q, Y0.heap.size = q := ⟨_, rfl⟩
            rw [hqx2] at HX hqx ⊢
            clear hqx2
            generalize Y0.alloc (.cells #[.slice none 0 0, .slice none 0 0, .int .i64 0, .int .i64 0, .slice none 0 0, .slice none 0 0, .int .i64 0] 57) = Y1 at *
            clear F4
            have F4 := F4n
            clear F4n
            refine hK _ _ (F4.out) ?_
            clear hK K
            repeat (first | refine tS ?_ | refine tX HXB.out ?_)
            have z0 := HX.out.cell 0
            have z1 := HX.out.cell 1
            have z2 := HX.out.cell 2
            have z3 := HX.out.cell 3
            have z4 := HX.out.cell 4
            have z5 := HX.out.cell 5
            have z6 := HX.out.cell 6
            have zq0 := HX.out.frozen 0
            have zq1 := HX.out.frozen 1
            have zq2 := HX.out.frozen 2
            have zq3 := HX.out.frozen 3
            have zq4 := HX.out.frozen 4
            have zq5 := HX.out.frozen 5
            have zq6 := HX.out.frozen 6
            refine wpT_eff rfl rfl (fun K hK => ?_)
            simp only [zA]
            go_simp
            have FS := hid ((((((((Fr.refl (One qx) Y1).setCell ⟨qx, 0, none⟩ (.slice AX npk cX) (fun _ => rfl)).setCell ⟨qx, 1, none⟩ (.slice none 0 0) (fun _ => rfl)).setCell ⟨qx, 2, none⟩ (.int .i64 bk.end_.kind) (fun _ => rfl)).setCell ⟨qx, 3, none⟩ (.int .i64 bk.end_.cond) (fun _ => rfl)).setCell ⟨qx, 4, none⟩ (.slice A2 na c2) (fun _ => rfl)).setCell ⟨qx, 5, none⟩ (.slice A3 nt c3) (fun _ => rfl)).setCell ⟨qx, 6, none⟩ (.int .i64 bk.end_.trap) (fun _ => rfl))
            have HX4 : Hid (Blk _ qx 57 _) := hid (((((((HX.out.set_ 0 (.slice AX npk cX)).set_ 1 (.slice none 0 0)).set_ 2 (.int .i64 bk.end_.kind)).set_ 3 (.int .i64 bk.end_.cond)).set_ 4 (.slice A2 na c2)).set_ 5 (.slice A3 nt c3)).set_ 6 (.int .i64 bk.end_.trap))
            clear z0 zq0 z1 zq1 z2 zq2 z3 zq3 z4 zq4 z5 zq5 z6 zq6
            have F5 := hid (F4.out.trans FS.out (fun i hi h => by have := hqx.out; unfold One at h; omega))
            have RX := hid (HPX.out.fr FS.out (fun _ h => h.elim) (fun k hk h => by
              have h : k = qx := h
              subst h
              obtain ⟨_, cs, hb⟩ := HPX.out.own hk
              exact Blk.ne_ HX.out hb (by decide) rfl))
            refine hK _ _ (F5.out) ?_
            clear hK K
            repeat (first | refine tS ?_ | refine tX HXB.out ?_)
            refine wpT_nil ?_
            go_wp2_with fail
            go_meet
            case rel => exact ⟨qx, AX, cX, rfl, HX4, hqx.out, RX, F5⟩
          · skip
            refine wpT_eff rfl rfl (fun K hK => ?_)
            simp only [zA]
            go_simp
            have F4 := hid (((Fr.refl No W1).alloc (.cells #[.slice none 0 0, .slice none 0 0, .int .i64 0, .int .i64 0, .slice none 0 0, .slice none 0 0, .int .i64 0] 57)).drew)
            have HX := hid ((Blk.new W1 57 #[.slice none 0 0, .slice none 0 0, .int .i64 0, .int .i64 0, .slice none 0 0, .slice none 0 0, .int .i64 0]).drew)
            obtain ⟨qx, hqx2⟩ : ∃ q, W1.heap.size = q := ⟨_, rfl⟩
            rw [hqx2] at HX ⊢
            have hqx : Hid (W1.heap.size ≤ qx) := hid (Nat.le_of_eq hqx2)
            clear hqx2
            generalize (W1.alloc (.cells #[.slice none 0 0, .slice none 0 0, .int .i64 0, .int .i64 0, .slice none 0 0, .slice none 0 0, .int .i64 0] 57)).drew = Y0 at *
            refine hK _ _ (F4.out) ?_
            clear hK K
            repeat (first | refine tS ?_ | refine tX HXB.out ?_)
            refine wpT_eff rfl rfl (fun K hK => ?_)
            simp only [zA]
            go_simp
            refine (HCL0.out _ F4.out).mono ?_
            rintro e Y1 ⟨AX, cX, rfl, hrow, f⟩
            have F4n := hid (F4.out.trans f (fun _ _ h => h))
            have HPX := hid (hrow.more (base' := W.heap.size) (Nat.le_trans FR.out.size (Nat.le_trans FA.out.size F4.out.size)) (fun _ h => h))
            replace HX := hid (HX.out.fr f (fun x => x))
            clear hrow f
            clear F4
            have F4 := F4n
            clear F4n
            refine hK _ _ (F4.out) ?_
            clear hK K
            repeat (first | refine tS ?_ | refine tX HXB.out ?_)
            have z0 := HX.out.cell 0
            have z1 := HX.out.cell 1
            have z2 := HX.out.cell 2
            have z3 := HX.out.cell 3
            have z4 := HX.out.cell 4
            have z5 := HX.out.cell 5
            have z6 := HX.out.cell 6
            have zq0 := HX.out.frozen 0
            have zq1 := HX.out.frozen 1
            have zq2 := HX.out.frozen 2
            have zq3 := HX.out.frozen 3
            have zq4 := HX.out.frozen 4
            have zq5 := HX.out.frozen 5
            have zq6 := HX.out.frozen 6
            refine wpT_eff rfl rfl (fun K hK => ?_)
            simp only [zA]
            go_simp
            have FS := hid ((((((((Fr.refl (One qx) Y1).setCell ⟨qx, 0, none⟩ (.slice AX npk cX) (fun _ => rfl)).setCell ⟨qx, 1, none⟩ (.slice none 0 0) (fun _ => rfl)).setCell ⟨qx, 2, none⟩ (.int .i64 bk.end_.kind) (fun _ => rfl)).setCell ⟨qx, 3, none⟩ (.int .i64 bk.end_.cond) (fun _ => rfl)).setCell ⟨qx, 4, none⟩ (.slice A2 na c2) (fun _ => rfl)).setCell ⟨qx, 5, none⟩ (.slice A3 nt c3) (fun _ => rfl)).setCell ⟨qx, 6, none⟩ (.int .i64 bk.end_.trap) (fun _ => rfl))
            have HX4 : Hid (Blk _ qx 57 _) := hid (((((((HX.out.set_ 0 (.slice AX npk cX)).set_ 1 (.slice none 0 0)).set_ 2 (.int .i64 bk.end_.kind)).set_ 3 (.int .i64 bk.end_.cond)).set_ 4 (.slice A2 na c2)).set_ 5 (.slice A3 nt c3)).set_ 6 (.int .i64 bk.end_.trap))
            clear z0 zq0 z1 zq1 z2 zq2 z3 zq3 z4 zq4 z5 zq5 z6 zq6
            have F5 := hid (F4.out.trans FS.out (fun i hi h => by have := hqx.out; unfold One at h; omega))
            have RX := hid (HPX.out.fr FS.out (fun _ h => h.elim) (fun k hk h => by
              have h : k = qx := h
              subst h
              obtain ⟨_, cs, hb⟩ := HPX.out.own hk
              exact Blk.ne_ HX.out hb (by decide) rfl))
            refine hK _ _ (F5.out) ?_
            clear hK K
            repeat (first | refine tS ?_ | refine tX HXB.out ?_)
            refine wpT_nil ?_
            go_wp2_with fail
            go_meet
            case rel => exact ⟨qx, AX, cX, rfl, HX4, hqx.out, RX, F5⟩
        case rest =>
          obtain ⟨qx, AX, cX, rfl, HX, hqx, HPX, FX⟩ := hcut
          have HX0 := HX
          have HC2 := hid (HC1.out.frNo FX.out)
          have HB2 := hid (HB1.out.frNo FX.out)
          have HBV2 := hid (HBV.out.fr FX.out (fun x => x))
          have HI := hid ((HE1.out.fr FA.out (fun k hk => ⟨hSW.out k hk, fun x => x⟩)).fr FX.out (fun k hk => ⟨hSW1.out k hk, fun x => x⟩))
          have hSW2 := hid (fun k (hk : S k) => Nat.lt_of_lt_of_le (hSW1.out k hk) FX.out.size)
          have yb1 := HBV2.out.cell 1
          clear HC1 HB1 HXB HCL0 HE0
          go_wp2_with fail
          clear yb1
          have hWc : Hid (W.heap.size ≤ wc.heap.size) := hid (Nat.le_trans FR.out.size (Nat.le_trans FA.out.size FX.out.size))
          go_loopw [38] (fun i wr => ∃ (j : Nat) (AI : Option Addr) (cI : Nat), j ≤ ni ∧ i = .int .i64 j ∧ Hid (Blk wr qx 57 #[.slice AX npk cX, .slice AI j cI, .int .i64 bk.end_.kind, .int .i64 bk.end_.cond, .slice A2 na c2, .slice A3 nt c3, .int .i64 bk.end_.trap]) ∧ Hid (tSi.row wr wc.heap.size (Sn W.heap.size wr) 82 (.slice AI j cI) (bk.ins.take j)) ∧ Hid (Fr (One qx) wc wr)) (fun i _ => ni - (intOf i).toNat)
          case atStart => exact ⟨0, none, 0, by omega, rfl, HX, hid (by rw [List.take_zero]; exact Ty.row.nil _ _ _ _), hid (Fr.refl _ wc)⟩
          case round =>
            clear HX
            obtain ⟨j, AI, cI, hj, rfl, HX, HRI, FQ⟩ := hrel
            by_cases hgj : j < ni
            · have hlj : j < bk.ins.length := by have := HNI.out; omega
              have FI := FQ.out
              have hnqx : ∀ k, S k → ¬ One qx k := fun k hk h => by have := hSW1.out k hk; unfold One at h; omega
              obtain ⟨b', o', Aa, ca, Ao, co, hA1, hb', y0, y1, y2, y3, y4, y5, y6, w0, w1, w2, w3, w4, _, _, ea, _, _, eo⟩ := Si_at HI.out j hlj
              subst hA1
              have hbb1 := hSW2.out b' hb'
              replace y0 := (FI.cell (p := ⟨b', o' + j * 7, none⟩) hbb1 (hnqx _ hb')).trans y0
              replace y1 := (FI.cell (p := ⟨b', o' + j * 7 + 1, none⟩) hbb1 (hnqx _ hb')).trans y1
              replace y2 := (FI.cell (p := ⟨b', o' + j * 7 + 2, none⟩) hbb1 (hnqx _ hb')).trans y2
              replace y3 := (FI.cell (p := ⟨b', o' + j * 7 + 3, none⟩) hbb1 (hnqx _ hb')).trans y3
              replace y4 := (FI.cell (p := ⟨b', o' + j * 7 + 4, none⟩) hbb1 (hnqx _ hb')).trans y4
              replace y5 := (FI.cell (p := ⟨b', o' + j * 7 + 5, none⟩) hbb1 (hnqx _ hb')).trans y5
              replace y6 := (FI.cell (p := ⟨b', o' + j * 7 + 6, none⟩) hbb1 (hnqx _ hb')).trans y6
              have HSQ := hid (fun k (hk : S k) => Nat.lt_of_lt_of_le (hSW2.out k hk) FI.size)
              have HEA := hid (ea.fr FI (fun k hk => ⟨hSW2.out k hk, hnqx k hk⟩))
              have HEO := hid (eo.fr FI (fun k hk => ⟨hSW2.out k hk, hnqx k hk⟩))
              obtain ⟨hga, hgo2⟩ := hia.out _ (List.getElem_mem hlj)
              have hik : Hid (bk.ins.take (j + 1) = bk.ins.take j ++ [bk.ins[j]]) := hid (List.take_succ_eq_append_getElem hlj)
              have HW5 := hid (And.intro w0 (And.intro w1 (And.intro w2 (And.intro w3 w4))))
              clear ea eo w0 w1 w2 w3 w4 FI hnqx
              generalize bk.ins[j] = bi at *
              obtain ⟨nga, hnga⟩ : ∃ n, bi.args.length = n := ⟨_, rfl⟩
              obtain ⟨ngo, hngo⟩ : ∃ n, bi.outs.length = n := ⟨_, rfl⟩
              rw [hnga] at y5 hga
              rw [hngo] at y6 hgo2
              have HGA := hid hnga
              have HGO := hid hngo
              clear hnga hngo
              have FB := (Fr.refl No wr).alloc (.cells #[.int .i64 bi.kind, .int .i64 bi.op, .int .i64 bi.a, .int .i64 bi.b, .int .u64 bi.n, .slice Aa nga ca, .slice Ao ngo co] 82)
              have HQI := hid (Blk.new wr 82 #[.int .i64 bi.kind, .int .i64 bi.op, .int .i64 bi.a, .int .i64 bi.b, .int .u64 bi.n, .slice Aa nga ca, .slice Ao ngo co])
              have HXI := hid (HX.out.fr FB (fun x => x))
              have HRI1 := hid (rowSn_fr HRI.out FB (Ng.no wr) (fun _ _ h => h))
              have FQ1 := hid (FQ.out.trans FB (fun _ _ h => h.elim))
              have hqxi : Hid (qx < wr.heap.size) := hid HX.out.lt
              have HCA := hid (fun X (f : Fr No wr X) => cloneI_any Aa ca bi.args S X (HEA.out.fr f (fun k hk => ⟨HSQ.out k hk, fun x => x⟩)) (fun k hk => Nat.lt_of_lt_of_le (HSQ.out k hk) f.size) (by rw [HGA.out]; exact hga))
              have HCB_ := hid (fun X (f : Fr No wr X) => cloneI_any Ao co bi.outs S X (HEO.out.fr f (fun k hk => ⟨HSQ.out k hk, fun x => x⟩)) (fun k hk => Nat.lt_of_lt_of_le (HSQ.out k hk) f.size) (by rw [HGO.out]; exact hgo2))
              unfold CloneTo at HCA HCB_
              rw [HGA.out] at HCA
              rw [HGO.out] at HCB_
              have FBH := hid FB
              have j0 : (0 : Int) ≤ j := by omega
              have j1 : (j : Int) < ni := by omega
              clear FB
              go_upto_region 9 with fail
              clear y0 y1 y2 y3 y4 y5 y6
              generalize wr.alloc (.cells #[.int .i64 bi.kind, .int .i64 bi.op, .int .i64 bi.a, .int .i64 bi.b, .int .u64 bi.n, .slice Aa nga ca, .slice Ao ngo co] 82) = wi at *
              obtain ⟨qi, hqi⟩ : ∃ q, wr.heap.size = q := ⟨_, rfl⟩
              rw [hqi] at HQI hqxi ⊢
              have hqiw := hid (Nat.le_of_eq hqi)
              clear hqi
              refine wp_region_ord (fun X => X.cell? ⟨qi, 6, none⟩ = some (.slice Ao ngo co)) [9] [(0, true), (3, true), (4, true), (1, false), (2, false), (6, true), (5, false), (7, false), (8, true), (9, false)] (by kernel_rfl) (by kernel_rfl) (by kernel_rfl) rfl (HQI.out.cell 6) ?_
              repeat (first | refine oS ?_ | refine oC ?_)
              have zi5 := HQI.out.cell 5
              refine wpO_eff rfl rfl (fun K hK => ?_)
              simp only [zA]
              go_simp
              clear zi5
              refine hK _ _ (fun _ => HQI.out.cell 6) ?_
              clear hK K
              repeat (first | refine oS ?_ | refine oC ?_)
              refine wpO_eff rfl rfl (fun K hK => ?_)
              simp only [zA]
              go_simp
              refine (HCA.out _ (FBH.out.drew)).mono ?_
              rintro e Y1 ⟨AA, cA, rfl, hrow, f⟩
              have F1 := hid ((Fr.refl No wi).drew.trans f (fun _ _ h => h))
              have HQI1 := hid (HQI.out.fr F1.out (fun x => x))
              have HAA := hid (hrow.more (base' := W.heap.size) (by have h1 := hWc.out; have h2 := FQ.out.size; have h3 := FBH.out.size; simp only [World.drew] at *; omega) (fun _ h => h))
              clear hrow f
              refine hK _ _ (fun _ => HQI1.out.cell 6) ?_
              clear hK K
              repeat (first | refine oS ?_ | refine oC ?_)
              refine wpO_eff rfl rfl (fun K hK => ?_)
              simp only [zA]
              go_simp
              refine (HCB_.out _ (FBH.out.trans F1.out (fun _ _ h => h))).mono ?_
              rintro e Y2 ⟨AO, cO, rfl, hrow, f⟩
              have F2 := hid (F1.out.trans f (fun _ _ h => h))
              have HQI2 := hid (HQI1.out.fr f (fun x => x))
              have HAA2 := hid (HAA.out.fr f (fun _ h => h.elim) (fun _ _ h => h))
              have HAO := hid (hrow.more (base' := W.heap.size) (by have h1 := hWc.out; have h2 := FQ.out.size; have h3 := FBH.out.size; have h4 := F1.out.size; omega) (fun _ h => h))
              clear hrow f HQI1 HAA
              refine hK _ _ (fun _ => HQI2.out.cell 6) ?_
              clear hK K
              repeat (first | refine oS ?_ | refine oC ?_)
              have zi5 := HQI2.out.cell 5
              have zq5 := HQI2.out.frozen 5
              refine wpO_eff rfl rfl (fun K hK => ?_)
              simp only [zA]
              go_simp
              have HQI3 := hid (HQI2.out.set_ 5 (.slice AA nga cA))
              refine hK _ _ (fun _ => by simpa using HQI3.out.cell 6) ?_
              clear hK K zi5 zq5
              repeat (first | refine oS ?_ | refine oC ?_)
              have zi6 := HQI3.out.cell 6
              have zq6 := HQI3.out.frozen 6
              refine wpO_eff rfl rfl (fun K hK => ?_)
              simp only [zA]
              go_simp
              have HQI4 := hid (HQI3.out.set_ 6 (.slice AO ngo cO))
              have FS := hid (((Fr.refl (One qi) Y2).setCell ⟨qi, 5, none⟩ (.slice AA nga cA) (fun _ => rfl)).setCell ⟨qi, 6, none⟩ (.slice AO ngo cO) (fun _ => rfl))
              clear zi6 zq6
              refine hK _ _ (fun h => by cases h) ?_
              clear hK K
              refine wpO_nil ?_
              have hnqi : ∀ (u : Value) (l : List Int), tI.row Y2 W.heap.size Emp 3 u l → ∀ k, u.ownBlock = some k → ¬ One qi k := fun u l hr k hk h => by
                have h : k = qi := h
                subst h
                obtain ⟨_, cs, hb⟩ := hr.own hk
                exact Blk.ne_ HQI2.out hb (by decide) rfl
              have ZA := hid (HAA2.out.fr FS.out (fun _ h => h.elim) (hnqi _ _ HAA2.out))
              have ZO := hid (HAO.out.fr FS.out (fun _ h => h.elim) (hnqi _ _ HAO.out))
              have ZX := hid ((HXI.out.fr F2.out (fun x => x)).fr FS.out (fun h => by have h1 : qx = qi := h; have := hqxi.out; omega))
              have ZR := hid (rowSi_fr (rowSi_frNo HRI1.out F2.out) FS.out (fun j cs hm hb => by
                have hm : j = qi := hm
                subst hm
                exact Blk.ne_ HQI2.out hb (by decide) rfl) (fun k hk h => by
                have h : k = qi := h
                obtain ⟨_, cs, hb⟩ := HRI.out.own hk
                have := hb.lt
                have := hqiw.out
                omega))
              have ZQ : Hid (Blk _ qi 82 #[.int .i64 bi.kind, .int .i64 bi.op, .int .i64 bi.a, .int .i64 bi.b, .int .u64 bi.n, .slice AA nga cA, .slice AO ngo cO]) := hid (by simpa using HQI4.out)
              have ZF := hid ((FQ1.out.trans F2.out (fun _ _ h => h.elim)).trans FS.out (fun i hi h => by
                have h : i = qi := h
                have h1 := hqiw.out
                have h2 := FQ.out.size
                exact absurd hi (by omega)))
              clear hnqi HAA2 HAO HXI HRI1 HQI2 HQI3 HQI4 FS F1 F2 FBH HCA HCB_ HQI
              generalize (Y2.setCell ⟨qi, 5, none⟩ (.slice AA nga cA)).setCell ⟨qi, 6, none⟩ (.slice AO ngo cO) = Z at *
              have FL := (Fr.refl No Z).alloc (.cells #[.int .i64 bi.kind, .int .i64 bi.op, .int .i64 bi.a, .int .i64 bi.b, .int .u64 bi.n, .slice AA nga cA, .slice AO ngo cO] 82)
              have BL := hid (Blk.new Z 82 #[.int .i64 bi.kind, .int .i64 bi.op, .int .i64 bi.a, .int .i64 bi.b, .int .u64 bi.n, .slice AA nga cA, .slice AO ngo cO])
              have TA := hid (ZA.out.fr FL (fun _ h => h.elim) (fun _ _ h => h))
              have TO := hid (ZO.out.fr FL (fun _ h => h.elim) (fun _ _ h => h))
              have TR := hid (rowSi_frNo ZR.out FL)
              have TX := hid (ZX.out.fr FL (fun x => x))
              have TF := hid (ZF.out.trans FL (fun _ _ h => h.elim))
              have u0 := ZQ.out.cell 0
              have u1 := ZQ.out.cell 1
              have u2 := ZQ.out.cell 2
              have u3 := ZQ.out.cell 3
              have u4 := ZQ.out.cell 4
              have u5 := ZQ.out.cell 5
              have u6 := ZQ.out.cell 6
              have ux := ZX.out.cell 1
              have hcs : Hid (Css tSi (Z.alloc (.cells #[.int .i64 bi.kind, .int .i64 bi.op, .int .i64 bi.a, .int .i64 bi.b, .int .u64 bi.n, .slice AA nga cA, .slice AO ngo cO] 82)) (Sn W.heap.size (Z.alloc (.cells #[.int .i64 bi.kind, .int .i64 bi.op, .int .i64 bi.a, .int .i64 bi.b, .int .u64 bi.n, .slice AA nga cA, .slice AO ngo cO] 82))) [[.int .i64 bi.kind, .int .i64 bi.op, .int .i64 bi.a, .int .i64 bi.b, .int .u64 bi.n, .slice AA nga cA, .slice AO ngo cO]] [bi]) := hid (Css.one (by
                obtain ⟨a1, a2, a3⟩ := row_els2 TA.out HGA.out
                obtain ⟨o1, o2, o3⟩ := row_els2 TO.out HGO.out
                have h := Si_mk (a := bi) HW5.out.1 HW5.out.2.1 HW5.out.2.2.1 HW5.out.2.2.2.1 HW5.out.2.2.2.2 a1 a2 a3 o1 o2 o3
                rw [HGA.out, HGO.out] at h
                exact h))
              have hnt2 : Hid (∀ k, Sn W.heap.size (Z.alloc (.cells #[.int .i64 bi.kind, .int .i64 bi.op, .int .i64 bi.a, .int .i64 bi.b, .int .u64 bi.n, .slice AA nga cA, .slice AO ngo cO] 82)) k → k < (Z.alloc (.cells #[.int .i64 bi.kind, .int .i64 bi.op, .int .i64 bi.a, .int .i64 bi.b, .int .u64 bi.n, .slice AA nga cA, .slice AO ngo cO] 82)).heap.size ∧ ¬ some k = (Value.slice AI j cI).ownBlock) := hid fun k hk => ⟨hk.lt, fun e => by
                obtain ⟨_, cs, hb⟩ := TR.out.own e.symm
                obtain ⟨_, cs', hb'⟩ := hk
                exact Blk.ne_ hb hb' (by decide) rfl⟩
              have hxo : Hid (¬ some qx = (Value.slice AI j cI).ownBlock) := hid fun e => by
                obtain ⟨_, cs, hb⟩ := TR.out.own e.symm
                exact Blk.ne_ TX.out hb (by decide) rfl
              have htl1 : Hid ((bk.ins.take j).length = j) := hid (by rw [List.length_take, HNI.out]; omega)
              have hlk1 : Hid ((bk.ins.take (j + 1)).length = j + 1) := hid (by rw [List.length_take, HNI.out]; omega)
              have hfo : Hid (wc.heap.size ≤ (Z.alloc (.cells #[.int .i64 bi.kind, .int .i64 bi.op, .int .i64 bi.a, .int .i64 bi.b, .int .u64 bi.n, .slice AA nga cA, .slice AO ngo cO] 82)).heap.size) := hid TF.out.size
              clear ZA ZO ZR ZX ZF ZQ FL
              go_wp2_with (at_builtin; refine wpList_appC (t := tSi) (base := wc.heap.size) (S := Sn W.heap.size (Z.alloc (.cells #[.int .i64 bi.kind, .int .i64 bi.op, .int .i64 bi.a, .int .i64 bi.b, .int .u64 bi.n, .slice AA nga cA, .slice AO ngo cO] 82))) (xs := bk.ins.take j) (ys := [bi]) (dss := [[.int .i64 bi.kind, .int .i64 bi.op, .int .i64 bi.a, .int .i64 bi.b, .int .u64 bi.n, .slice AA nga cA, .slice AO ngo cO]]) (B2 := (Z.alloc (.cells #[.int .i64 bi.kind, .int .i64 bi.op, .int .i64 bi.a, .int .i64 bi.b, .int .u64 bi.n, .slice AA nga cA, .slice AO ngo cO] 82)).heap.size) elIns rfl rfl rfl rfl TR.out hcs.out (by simpa using Rd.blk BL.out BL.out.lt 0 (xs := [.int .i64 bi.kind, .int .i64 bi.op, .int .i64 bi.a, .int .i64 bi.b, .int .u64 bi.n, .slice AA nga cA, .slice AO ngo cO]) (fun i u h => by rw [Nat.zero_add]; simpa using h)) rfl (by rw [htl1.out]; omega) (by rw [htl1.out]; omega) hnt2.out hfo.out ?_; intro v8 wy hr fr1 hv; have TXy := hid (TX.out.fr fr1 hxo.out); have zc := TXy.out.cell 1; have zf := TXy.out.frozen 1; rw [← hik.out] at hr; obtain ⟨A8, c8, e8, _, _, _⟩ := hr.els (S' := fun _ => True) (fun _ _ => trivial) (fun _ _ => trivial); rw [hlk1.out] at e8; subst e8; have HRY := hid hr; have FR1 := hid fr1; clear hr fr1 hv)
              clear zc zf u0 u1 u2 u3 u4 u5 u6 ux
              have HRY2 := HRY.out.more (S' := Sn W.heap.size wy) (Nat.le_refl _) (Sn.fr FR1.out (fun k cs hm hb => by
                obtain ⟨_, cs', hb'⟩ := TR.out.own hm.symm
                exact Blk.ne_ hb' hb (by decide) rfl))
              have FSx := (Fr.refl (One qx) wy).setCell ⟨qx, 1, none⟩ (.slice A8 (j + 1) c8) (fun _ => rfl)
              have HRZ := hid (rowSi_fr HRY2 FSx (fun k cs hm hb => by
                have hm : k = qx := hm
                subst hm
                exact Blk.ne_ TXy.out hb (by decide) rfl) (fun k hk h => by
                have h : k = qx := h
                subst h
                obtain ⟨_, cs, hb⟩ := HRY2.own hk
                exact Blk.ne_ TXy.out hb (by decide) rfl))
              have HXZ : Hid (Blk (wy.setCell ⟨qx, 1, none⟩ (.slice A8 (j + 1) c8)) qx 57 #[.slice AX npk cX, .slice A8 (j + 1) c8, .int .i64 bk.end_.kind, .int .i64 bk.end_.cond, .slice A2 na c2, .slice A3 nt c3, .int .i64 bk.end_.trap]) := hid (by simpa using TXy.out.set_ 1 (.slice A8 (j + 1) c8))
              have FQZ := hid ((TF.out.trans FR1.out (fun i hi e => by
                have := (TR.out.own e.symm).1
                exact absurd hi (by omega))).trans FSx (fun _ _ h => h))
              clear FSx HRY2 FR1 hlk1
              go_round
              case rel => exact ⟨j + 1, A8, c8, by omega, by go_num, HXZ, HRZ, FQZ⟩
              case measure => simp [intOf]; omega
            · have hjn : ni = j := by omega
              subst hjn
              clear hgj
              have hti : bk.ins.take ni = bk.ins := List.take_of_length_le (by rw [HNI.out]; exact Nat.le_refl _)
              rw [hti] at HRI
              have FI := FQ.out
              have hnqx : ∀ k, S k → ¬ One qx k := fun k hk h => by have := hSW1.out k hk; unfold One at h; omega
              have hown1 : ∀ (u : Value) (l : List Sr) (b1 : Nat) (S1 : Nat → Prop) (X : World), tSr.row X b1 S1 57 u l → X.heap.size ≤ W1.heap.size → ∀ k, u.ownBlock = some k → ¬ One qx k := fun u l b1 S1 X hr hX k hk h => by
                obtain ⟨_, cs, hb⟩ := hr.own hk
                have := hb.lt
                have h : k = qx := h
                omega
              have HPX2 := hid (HPX.out.fr FI (fun _ h => h.elim) (fun k hk h => by
                have h : k = qx := h
                subst h
                obtain ⟨_, cs, hb⟩ := HPX.out.own hk
                exact Blk.ne_ HX0.out hb (by decide) rfl))
              have HC3 := hid (HC2.out.fr FI (fun k hk => by
                have hk : k = qx := hk
                subst hk
                refine ⟨Nat.le_trans FR.out.size (Nat.le_trans FA.out.size hqx), fun e => ?_, fun cs hb => Blk.ne_ HX0.out hb (by decide) rfl⟩
                subst e
                exact Blk.ne_ HX0.out HC2.out.o (by decide) rfl))
              have HB3 := hid (HB2.out.fr FI (Ng.one HX0.out (by decide) (by decide)) (hown1 _ _ _ _ _ HCB.out.row FA.out.size) (fun i hi k hk h => by
                have h : k = qx := h
                subst h
                obtain ⟨_, cs, hb⟩ := (HB2.out.tor i hi).own hk
                exact Blk.ne_ HX0.out hb (by decide) rfl))
              have hqbx : Hid (qb ≠ qx) := hid (by have := HBV.out.lt; omega)
              have HBV3 := hid (HBV2.out.fr FI (fun h => hqbx.out h))
              have HXQ : Hid (∀ X, Fr (One qx) wr X → X.cell? ⟨qb, 4, none⟩ = some (.slice A2 na c2) ∧ X.cell? ⟨qb, 5, none⟩ = some (.slice A3 nt c3)) := hid fun X f => by
                have g := HBV3.out.fr f (fun h => hqbx.out h)
                exact ⟨g.cell 4, g.cell 5⟩
              have hSQ := fun k (hk : S k) => Nat.lt_of_lt_of_le (hSW2.out k hk) FI.size
              have HA2 := hid ((((HE2.out.fr FA.out (fun k hk => ⟨hSW.out k hk, fun x => x⟩)).fr FX.out (fun k hk => ⟨hSW1.out k hk, fun x => x⟩))).fr FI (fun k hk => ⟨hSW2.out k hk, hnqx k hk⟩))
              have HA3 := hid ((((HE3.out.fr FA.out (fun k hk => ⟨hSW.out k hk, fun x => x⟩)).fr FX.out (fun k hk => ⟨hSW1.out k hk, fun x => x⟩))).fr FI (fun k hk => ⟨hSW2.out k hk, hnqx k hk⟩))
              have HCLA := hid (fun X (f : Fr No wr X) => cloneI_any A2 c2 bk.end_.args S X (HA2.out.fr f (fun k hk => ⟨hSQ k hk, fun x => x⟩)) (fun k hk => Nat.lt_of_lt_of_le (hSQ k hk) f.size) (by rw [HNA.out]; exact hba))
              have HED := hid (fun X (f : Fr No wr X) => edges_any A3 c3 bk.end_.to S X (HA3.out.fr f (fun k hk => ⟨hSQ k hk, fun x => x⟩)) (fun k hk => Nat.lt_of_lt_of_le (hSQ k hk) f.size) (by rw [HNT.out]; exact htl) hea.out)
              unfold CloneTo at HCLA
              unfold EdTo at HED
              rw [HNA.out] at HCLA
              rw [HNT.out] at HED
              have hwr : Hid (W.heap.size ≤ wr.heap.size) := hid (Nat.le_trans hWc.out FI.size)
              clear hnqx hown1 hSQ HPX HC2 HB2 HBV2 HX0 HE1 HE2 HE3 HI
              go_upto_region 12 with fail
              refine wp_region_ord (Fr (One qx) wr) [] [(0, true), (1, true), (2, true), (4, true), (5, true), (6, true), (3, false), (8, true), (9, true), (7, false), (10, false), (11, true), (12, true), (13, false)] (by kernel_rfl) (by kernel_rfl) (by kernel_rfl) rfl (Fr.refl _ wr).drew ?_
              repeat (first | refine oS ?_ | refine oX HXQ.out ?_)
              refine wpO_eff rfl rfl (fun K hK => ?_)
              simp only [zA]
              go_simp
              refine (HCLA.out _ (Fr.refl No wr).drew).mono ?_
              rintro e Y1 ⟨AA, cA, rfl, hrow, f⟩
              have F1 := hid ((Fr.refl No wr).drew.trans f (fun _ _ h => h))
              have HAA := hid (hrow.more (base' := W.heap.size) (by have h1 := hwr.out; simp only [World.drew] at *; omega) (fun _ h => h))
              clear hrow f
              refine hK _ _ (fun _ => F1.out.mono (fun _ _ h => h.elim)) ?_
              clear hK K
              repeat (first | refine oS ?_ | refine oX HXQ.out ?_)
              refine wpO_eff rfl rfl (fun K hK => ?_)
              simp only [zA]
              go_simp
              refine (HED.out _ F1.out).mono ?_
              rintro e Y2 ⟨AE, cE, rfl, hrow, f⟩
              have F2 := hid (F1.out.trans f (fun _ _ h => h))
              have HAA2 := hid (HAA.out.fr f (fun _ h => h.elim) (fun _ _ h => h))
              have HROW := hid hrow
              have hfre := hid (fun g (hg : (Value.slice AE nt cE).ownBlock = some g) => (hrow.own hg).1)
              have hY1 := hid F1.out.size
              clear hrow f HAA
              refine hK _ _ (fun _ => F2.out.mono (fun _ _ h => h.elim)) ?_
              clear hK K
              repeat (first | refine oS ?_ | refine oX HXQ.out ?_)
              have HX2 := hid (HX.out.fr F2.out (fun x => x))
              have z4 := HX2.out.cell 4
              have zq4 := HX2.out.frozen 4
              refine wpO_eff rfl rfl (fun K hK => ?_)
              simp only [zA]
              go_simp
              have FS1 := hid ((Fr.refl (One qx) Y2).setCell ⟨qx, 4, none⟩ (.slice AA na cA) (fun _ => rfl))
              have HX3 := hid (HX2.out.set_ 4 (.slice AA na cA))
              clear z4 zq4
              refine hK _ _ (fun _ => (F2.out.mono (M := One qx) (fun _ _ h => h.elim)).trans FS1.out (fun _ _ h => h)) ?_
              clear hK K
              repeat (first | refine oS ?_ | refine oX HXQ.out ?_)
              have z5 := HX3.out.cell 5
              have zq5 := HX3.out.frozen 5
              refine wpO_eff rfl rfl (fun K hK => ?_)
              simp only [zA]
              go_simp
              have FS := hid (((Fr.refl (One qx) Y2).setCell ⟨qx, 4, none⟩ (.slice AA na cA) (fun _ => rfl)).setCell ⟨qx, 5, none⟩ (.slice AE nt cE) (fun _ => rfl))
              have HX4 := hid (HX3.out.set_ 5 (.slice AE nt cE))
              clear z5 zq5
              refine hK _ _ (fun _ => (F2.out.mono (M := One qx) (fun _ _ h => h.elim)).trans FS.out (fun _ _ h => h)) ?_
              clear hK K
              refine wpO_nil ?_
              have ZX : Hid (Blk _ qx 57 #[.slice AX npk cX, .slice AI ni cI, .int .i64 bk.end_.kind, .int .i64 bk.end_.cond, .slice AA na cA, .slice AE nt cE, .int .i64 bk.end_.trap]) := hid (by simpa using HX4.out)
              have hty : ∀ (e : TypeId) (k : Nat) (cs : Array Value), Blk Y2 k e cs → e ≠ 57 → ¬ One qx k := fun e k cs hb hne h => by
                have h : k = qx := h
                subst h
                exact Blk.ne_ HX2.out hb (fun e => hne e.symm) rfl
              have ZP := hid ((HPX2.out.fr F2.out (fun _ h => h.elim) (fun _ _ h => h)).fr FS.out (fun _ h => h.elim) (fun k hk => by
                obtain ⟨_, cs, hb⟩ := (HPX2.out.fr F2.out (fun _ h => h.elim) (fun _ _ h => h)).own hk
                exact hty _ k cs hb (by decide)))
              have ZI := hid (rowSi_fr (rowSi_frNo HRI.out F2.out) FS.out (fun k cs hm hb => hty _ k cs hb (by decide) hm) (fun k hk => by
                obtain ⟨_, cs, hb⟩ := (rowSi_frNo HRI.out F2.out).own hk
                exact hty _ k cs hb (by decide)))
              have ZA := hid (HAA2.out.fr FS.out (fun _ h => h.elim) (fun k hk => by
                obtain ⟨_, cs, hb⟩ := HAA2.out.own hk
                exact hty _ k cs hb (by decide)))
              have ZE := hid (rowSi_fr HROW.out FS.out (fun k cs hm hb => hty _ k cs hb (by decide) hm) (fun k hk => by
                obtain ⟨_, cs, hb⟩ := HROW.out.own hk
                exact hty _ k cs hb (by decide)))
              have ZC := hid ((HC3.out.frNo F2.out).fr FS.out (fun k hk => by
                have hk : k = qx := hk
                subst hk
                refine ⟨Nat.le_trans FR.out.size (Nat.le_trans FA.out.size hqx), fun e => ?_, fun cs hb => Blk.ne_ HX2.out hb (by decide) rfl⟩
                subst e
                exact Blk.ne_ HX2.out (HC3.out.frNo F2.out).o (by decide) rfl))
              have ZB := hid ((HB3.out.frNo F2.out).fr FS.out (Ng.one HX2.out (by decide) (by decide)) (fun g hg h => by
                obtain ⟨_, cs, hb⟩ := HCB.out.row.own hg
                have h1 := hb.lt
                have h2 := FA.out.size
                have h : g = qx := h
                omega) (fun i hi g hg => by
                obtain ⟨_, cs, hb⟩ := ((HB3.out.frNo F2.out).tor i hi).own hg
                exact hty _ g cs hb (by decide)))
              have hf := hid (fun g (hg : (Value.slice AE nt cE).ownBlock = some g) i (hi : i < (x.blocks.take k).length) (e : (rs.getD i rD).v.ownBlock = some g) => (by
                have h1 := hfre.out g hg
                obtain ⟨_, cs, hb⟩ := (HB3.out.tor i hi).own e
                have h2 := hb.lt
                have h3 := hY1.out
                omega : False))
              have ZE2 := hid (ZE.out.more (Nat.le_trans hwr.out hY1.out) (Sn.base (Nat.le_trans hwr.out hY1.out)))
              clear hty HX HX2 HX3 HX4 HPX2 HAA2 HROW FS FS1 HC3 HB3 ZE HRI HCLA HED F1 F2 HXQ HBV3
              generalize (Y2.setCell ⟨qx, 4, none⟩ (.slice AA na cA)).setCell ⟨qx, 5, none⟩ (.slice AE nt cE) = Z at *
              have FL := (Fr.refl No Z).alloc (.cells #[.slice AX npk cX, .slice AI ni cI, .int .i64 bk.end_.kind, .int .i64 bk.end_.cond, .slice AA na cA, .slice AE nt cE, .int .i64 bk.end_.trap] 57)
              have BL := hid (Blk.new Z 57 #[.slice AX npk cX, .slice AI ni cI, .int .i64 bk.end_.kind, .int .i64 bk.end_.cond, .slice AA na cA, .slice AE nt cE, .int .i64 bk.end_.trap])
              have TP := hid (ZP.out.fr FL (fun _ h => h.elim) (fun _ _ h => h))
              have TI := hid (rowSi_frNo ZI.out FL)
              have TA := hid (ZA.out.fr FL (fun _ h => h.elim) (fun _ _ h => h))
              have TE := hid (rowSi_frNo ZE2.out FL)
              have TC := hid (ZC.out.frNo FL)
              have TB := hid (ZB.out.frNo FL)
              have u0 := ZX.out.cell 0
              have u1 := ZX.out.cell 1
              have u2 := ZX.out.cell 2
              have u3 := ZX.out.cell 3
              have u4 := ZX.out.cell 4
              have u5 := ZX.out.cell 5
              have u6 := ZX.out.cell 6
              have uo := ZC.out.o.cell 3
              have hcs : Hid (Css tSr (Z.alloc (.cells #[.slice AX npk cX, .slice AI ni cI, .int .i64 bk.end_.kind, .int .i64 bk.end_.cond, .slice AA na cA, .slice AE nt cE, .int .i64 bk.end_.trap] 57)) (Sg W.heap.size (Z.alloc (.cells #[.slice AX npk cX, .slice AI ni cI, .int .i64 bk.end_.kind, .int .i64 bk.end_.cond, .slice AA na cA, .slice AE nt cE, .int .i64 bk.end_.trap] 57))) [[.slice AX npk cX, .slice AI ni cI, .int .i64 bk.end_.kind, .int .i64 bk.end_.cond, .slice AA na cA, .slice AE nt cE, .int .i64 bk.end_.trap]] [srOf bk ⟨AE, nt, cE⟩]) := hid (Css.one (by
                obtain ⟨p1, p2, p3⟩ := row_els2 TP.out HNP.out
                obtain ⟨a1, a2, a3⟩ := row_els2 TA.out HNA.out
                obtain ⟨A', c', e', i1, i2, i3⟩ := TI.out.els (S' := Sg W.heap.size (Z.alloc (.cells #[.slice AX npk cX, .slice AI ni cI, .int .i64 bk.end_.kind, .int .i64 bk.end_.cond, .slice AA na cA, .slice AE nt cE, .int .i64 bk.end_.trap] 57))) Sn.g (fun g hg => by
                  obtain ⟨h0, cs, hb⟩ := TI.out.own hg
                  exact ⟨Nat.le_trans hWc.out h0, .inr ⟨cs, hb⟩⟩)
                injection e' with e1 _ e3
                subst e1 e3
                have h := Sr_mk (a := srOf bk ⟨AE, nt, cE⟩) p1 p2 (p3.more Sn.g) i1 i2 i3 HWF.out.1 HWF.out.2.1 a1 a2 (a3.more Sn.g) HWF.out.2.2
                simp only [srOf] at h
                rw [HNP.out, HNI.out, HNA.out] at h
                exact h))
              have hab : Hid (∀ (k2 : Nat) (e : TypeId) (cs : Array Value), Blk (Z.alloc (.cells #[.slice AX npk cX, .slice AI ni cI, .int .i64 bk.end_.kind, .int .i64 bk.end_.cond, .slice AA na cA, .slice AE nt cE, .int .i64 bk.end_.trap] 57)) k2 e cs → e ≠ 57 → ¬ some k2 = (Value.slice AB k cB).ownBlock) := hid fun k2 e cs hb hne h => by
                obtain ⟨_, cs', hb'⟩ := TB.out.row.own h.symm
                exact Blk.ne_ hb hb' hne rfl
              have hnt2 : Hid (∀ k2, Sg W.heap.size (Z.alloc (.cells #[.slice AX npk cX, .slice AI ni cI, .int .i64 bk.end_.kind, .int .i64 bk.end_.cond, .slice AA na cA, .slice AE nt cE, .int .i64 bk.end_.trap] 57)) k2 → k2 < (Z.alloc (.cells #[.slice AX npk cX, .slice AI ni cI, .int .i64 bk.end_.kind, .int .i64 bk.end_.cond, .slice AA na cA, .slice AE nt cE, .int .i64 bk.end_.trap] 57)).heap.size ∧ ¬ some k2 = (Value.slice AB k cB).ownBlock) := hid fun k2 hk => ⟨hk.lt, by
                obtain ⟨_, ⟨cs, hb⟩ | ⟨cs, hb⟩⟩ := hk
                · exact hab.out _ _ _ hb (by decide)
                · exact hab.out _ _ _ hb (by decide)⟩
              have htk : Hid ((x.blocks.take k).length = k) := hid (by rw [List.length_take, eb.out]; omega)
              have hsl : Hid ((srs (x.blocks.take k) rs).length = k) := hid (by rw [srs_len TB.out.len, htk.out])
              have hlk1 : Hid ((x.blocks.take (k + 1)).length = k + 1) := hid (by rw [List.length_take, eb.out]; omega)
              have hzs : Hid (W.heap.size ≤ (Z.alloc (.cells #[.slice AX npk cX, .slice AI ni cI, .int .i64 bk.end_.kind, .int .i64 bk.end_.cond, .slice AA na cA, .slice AE nt cE, .int .i64 bk.end_.trap] 57)).heap.size) := hid TC.out.f.size
              clear ZP ZI ZA ZE2 ZC ZB FL TP TI TA
              go_wp2_with (at_builtin; refine wpList_appC (t := tSr) (base := W.heap.size) (S := Sg W.heap.size (Z.alloc (.cells #[.slice AX npk cX, .slice AI ni cI, .int .i64 bk.end_.kind, .int .i64 bk.end_.cond, .slice AA na cA, .slice AE nt cE, .int .i64 bk.end_.trap] 57))) (xs := srs (x.blocks.take k) rs) (ys := [srOf bk ⟨AE, nt, cE⟩]) (dss := [[.slice AX npk cX, .slice AI ni cI, .int .i64 bk.end_.kind, .int .i64 bk.end_.cond, .slice AA na cA, .slice AE nt cE, .int .i64 bk.end_.trap]]) (B2 := (Z.alloc (.cells #[.slice AX npk cX, .slice AI ni cI, .int .i64 bk.end_.kind, .int .i64 bk.end_.cond, .slice AA na cA, .slice AE nt cE, .int .i64 bk.end_.trap] 57)).heap.size) elBks rfl rfl rfl rfl TB.out.row hcs.out (by simpa using Rd.blk BL.out BL.out.lt 0 (xs := [.slice AX npk cX, .slice AI ni cI, .int .i64 bk.end_.kind, .int .i64 bk.end_.cond, .slice AA na cA, .slice AE nt cE, .int .i64 bk.end_.trap]) (fun i u h => by rw [Nat.zero_add]; simpa using h)) rfl (by rw [hsl.out]; omega) (by rw [hsl.out]; omega) hnt2.out hzs.out ?_; intro v8 wy hr fr1 hv; have TCy := hid (TC.out.fr fr1 (fun g hg => ⟨(TB.out.row.own hg.symm).1, fun e => hab.out _ _ _ (e ▸ TC.out.o) (by decide) hg, fun cs hb => hab.out _ _ _ hb (by decide) hg⟩)); have zc := TCy.out.o.cell 3; have zf := TCy.out.o.frozen 3; have hP := Cb.push TB.out bk ⟨AE, nt, cE⟩ HNT.out.symm TE.out (fun g hg i hi e => hf.out g hg i hi e) hr fr1; rw [← hxk.out] at hP; obtain ⟨A8, c8, e8, _, _, _⟩ := hP.row.els (S' := fun _ => True) (fun _ _ => trivial) (fun _ _ => trivial); rw [srs_len hP.len, hlk1.out] at e8; subst e8; have HPY := hid hP; clear hP hr fr1 hv)
              clear zc zf u0 u1 u2 u3 u4 u5 u6 uo
              have FSo := (Fr.refl (One qo) wy).setCell ⟨qo, 3, none⟩ (.slice A8 (k + 1) c8) (fun _ => rfl)
              have hqo : ∀ (e : TypeId) (k2 : Nat) (cs : Array Value), Blk wy k2 e cs → e ≠ 39 → ¬ One qo k2 := fun e k2 cs hb hne h => by
                have h : k2 = qo := h
                subst h
                exact Blk.ne_ TCy.out.o hb (fun e => hne e.symm) rfl
              have HCZ := hid (TCy.out.set (.slice A8 (k + 1) c8))
              have HBZ := hid (HPY.out.fr FSo (Ng.one TCy.out.o (by decide) (by decide)) (fun g hg => by
                obtain ⟨_, cs, hb⟩ := HPY.out.row.own hg
                exact hqo _ g cs hb (by decide)) (fun i hi g hg => by
                obtain ⟨_, cs, hb⟩ := (HPY.out.tor i hi).own hg
                exact hqo _ g cs hb (by decide)))
              clear FSo hqo
              go_round
              case rel => exact ⟨k + 1, A8, c8, rs ++ [⟨AE, nt, cE⟩], by omega, by go_num, HCZ, HBZ⟩
              case measure => simp [intOf]; omega
      · have hkn : nb = k := by omega
        subst hkn
        clear hgo
        have htk : x.blocks.take nb = x.blocks := List.take_of_length_le (by rw [eb.out]; exact Nat.le_refl _)
        rw [htk] at HCB
        have o0 := HCO.out.o.cell 0
        have o1 := HCO.out.o.cell 1
        have o2 := HCO.out.o.cell 2
        have o3 := HCO.out.o.cell 3
        have HG := hid (GR.out.fr HCO.out.f (fun x => x))
        have z0 := HG.out.cell 0
        have z1 := HG.out.cell 1
        have z2 := HG.out.cell 2
        have z3 := HG.out.cell 3
        have zq0 := HG.out.frozen 0
        have zq1 := HG.out.frozen 1
        have zq2 := HG.out.frozen 2
        have zq3 := HG.out.frozen 3
        have hlt := HG.out.lt
        go_wp2_with fail
        clear o0 o1 o2 o3 z0 z1 z2 z3 zq0 zq1 zq2 zq3
        have FS := hid (((((Fr.refl (One (w.heap.size + 1)) wr).setCell ⟨w.heap.size + 1, 0, none⟩ (.slice AP np cP) (fun _ => rfl)).setCell ⟨w.heap.size + 1, 1, none⟩ (.slice AR nr cR) (fun _ => rfl)).setCell ⟨w.heap.size + 1, 2, none⟩ (.slice AV nv cV) (fun _ => rfl)).setCell ⟨w.heap.size + 1, 3, none⟩ (.slice AB nb cB) (fun _ => rfl))
        have HGZ : Hid (Blk _ (w.heap.size + 1) 39 #[.slice AP np cP, .slice AR nr cR, .slice AV nv cV, .slice AB nb cB]) := hid (by simpa using (((HG.out.set_ 0 (.slice AP np cP)).set_ 1 (.slice AR nr cR)).set_ 2 (.slice AV nv cV)).set_ 3 (.slice AB nb cB))
        have g0 := HGZ.out.cell 0
        have g1 := HGZ.out.cell 1
        have g2 := HGZ.out.cell 2
        have g3 := HGZ.out.cell 3
        have hne : ∀ (e : TypeId) (k2 : Nat) (cs : Array Value), Blk wr k2 e cs → e ≠ 39 → ¬ One (w.heap.size + 1) k2 := fun e k2 cs hb hne h => by
          have h : k2 = w.heap.size + 1 := h
          subst h
          exact Blk.ne_ HG.out hb (fun e => hne e.symm) rfl
        have hv1 : ∀ (u : Value) (l : List Int), tI.row wr w.heap.size Emp 59 u l → ∀ k2, u.ownBlock = some k2 → ¬ One (w.heap.size + 1) k2 := fun u l hr k2 hk => by
          obtain ⟨_, cs, hb⟩ := hr.own hk
          exact hne _ k2 cs hb (by decide)
        have hFin : CopTo x w (.returned (.agg #[.slice AP np cP, .slice AR nr cR, .slice AV nv cV, .slice AB nb cB])) ((((wr.setCell ⟨w.heap.size + 1, 0, none⟩ (.slice AP np cP)).setCell ⟨w.heap.size + 1, 1, none⟩ (.slice AR nr cR)).setCell ⟨w.heap.size + 1, 2, none⟩ (.slice AV nv cV)).setCell ⟨w.heap.size + 1, 3, none⟩ (.slice AB nb cB)) := by
          refine ⟨AP, cP, AR, cR, AV, cV, AB, cB, rs, by rw [ep.out, er.out, ev.out, eb.out], ?_, ?_, ?_, ?_, ?_⟩
          · rw [ep.out]; exact HCO.out.p.fr FS.out (fun _ h => h.elim) (hv1 _ _ HCO.out.p)
          · rw [er.out]; exact HCO.out.r.fr FS.out (fun _ h => h.elim) (hv1 _ _ HCO.out.r)
          · rw [ev.out]; exact HCO.out.vv.fr FS.out (fun _ h => h.elim) (hv1 _ _ HCO.out.vv)
          · rw [eb.out]
            refine (HCB.out.fr FS.out (Ng.one HG.out (by decide) (by decide)) (fun g hg => ?_) (fun i hi g hg => ?_)).base hW.out
            · obtain ⟨_, cs, hb⟩ := HCB.out.row.own hg
              exact hne _ g cs hb (by decide)
            · obtain ⟨_, cs, hb⟩ := (HCB.out.tor i hi).own hg
              exact hne _ g cs hb (by decide)
          · exact (F0.out.trans HCO.out.f (fun _ _ h => h)).trans FS.out (fun i hi h => by
              have h : i = w.heap.size + 1 := h
              omega)
        generalize (((wr.setCell ⟨w.heap.size + 1, 0, none⟩ (.slice AP np cP)).setCell ⟨w.heap.size + 1, 1, none⟩ (.slice AR nr cR)).setCell ⟨w.heap.size + 1, 2, none⟩ (.slice AV nv cV)).setCell ⟨w.heap.size + 1, 3, none⟩ (.slice AB nb cB) = Zf at *
        exact bodyPost_ret (v := .agg #[.slice AP np cP, .slice AR nr cR, .slice AV nv cV, .slice AB nb cB]) (by simp [results, Tryz.results17, go_sem, g0, g1, g2, g3]) rfl hFin
end Go.Proofs.YtiafkakkbbclhaaGreat
namespace Go.Proofs.YtiafkakkbbclhaaGreat
open Go.RowKit
theorem row_some {α : Type} {t : Ty α} {w : World} {base : Nat} {S : Nat → Prop} {e : TypeId} {A : Option Addr} {n c : Nat} {xs : List α} (h : t.row w base S e (.slice A n c) xs) (h0 : 0 < xs.length) : ∃ g, A = some ⟨g, 0, none⟩ ∧ n = xs.length := by
  obtain ⟨css, h1, h2⟩ := h
  rcases h2.2 with ⟨_, hn⟩ | ⟨g, cap, cur, e1, _⟩
  · omega
  · injection e1 with e1 e2 _
    exact ⟨g, e1, e2⟩
theorem srs_setTo {bs : List Sb} {rs : List Rw} (h : rs.length = bs.length) (i : Nat) (hi : i < bs.length) (es : List Ed) : srs (bs.set i (withTo (bs.getD i bD) es)) rs = srs bs rs := by
  apply List.ext_getElem
  · simp [srs]
  · intro j h1 h2
    simp only [srs, List.getElem_zipWith, List.getElem_set]
    split
    · rename_i hij
      subst hij
      exact (congrArg (fun b => srOf (withTo b es) (rs[i]'(by omega))) (getD_el bD hi)).trans rfl
    · rfl
theorem toOf_setTo {bs : List Sb} {i : Nat} (hi : i < bs.length) (es : List Ed) (j : Nat) : toOf (bs.set i (withTo (bs.getD i bD) es)) j = if i = j then es else toOf bs j := by
  unfold toOf
  rw [getD_set _ _ _ _ _ hi]
  split
  · rfl
  · rfl
theorem Cb.setTo {base : Nat} {w w' : World} {v : Value} {bs : List Sb} {rs : List Rw} (H : Cb base w v bs rs) {i : Nat} (hi : i < bs.length) {g : Nat} (hg : (rs.getD i rD).v.ownBlock = some g) (f : Fr (One g) w w') {es : List Ed} (hlen : es.length = (toOf bs i).length)
    (hrow : tEd.row w' base (Sn base w') 65 (rs.getD i rD).v es) : Cb base w' v (bs.set i (withTo (bs.getD i bD) es)) rs := by
  obtain ⟨_, csg, hbg⟩ := (H.tor i hi).own hg
  have hM : Ng (One g) w := Ng.one hbg (by decide) (by decide)
  refine ⟨by rw [List.length_set]; exact H.len, ?_, fun j hj => ?_, fun j hj => ?_, fun j k hj hk hjk => ?_⟩
  · rw [srs_setTo H.len i hi]
    exact rowSg_fr H.row f hM (fun k hk h => by
      have h : k = g := h
      subst h
      exact H.apart hi hg hk)
  · rw [List.length_set] at hj
    rw [toOf_setTo hi]
    split
    · rename_i h; subst h; rw [H.num i hi, hlen]
    · exact H.num j hj
  · rw [List.length_set] at hj
    rw [toOf_setTo hi]
    split
    · rename_i h; subst h; exact hrow
    · rename_i h
      exact rowSn_fr (H.tor j hj) f hM (fun k hk h2 => by
        have h2 : k = g := h2
        subst h2
        exact H.dis i j hi hj h k hg hk)
  · rw [List.length_set] at hj hk
    exact H.dis j k hj hk hjk
structure Fn_ (Wc w : World) (x : Sf) (bs : List Sb) (qo : Nat) (AP : Option Addr) (cP : Nat) (AR : Option Addr) (cR : Nat) (AV : Option Addr) (cV : Nat) (AB : Option Addr) (cB : Nat) (rs : List Rw) : Prop where
  co : Co Wc.heap.size Wc w x qo x.type.params.length x.type.results.length x.vals.length AP cP AR cR AV cV (.slice AB bs.length cB)
  cb : Cb Wc.heap.size w (.slice AB bs.length cB) bs rs
theorem Fn_.frNo {Wc w w' : World} {x : Sf} {bs : List Sb} {qo : Nat} {AP AR AV AB : Option Addr} {cP cR cV cB : Nat} {rs : List Rw} (h : Fn_ Wc w x bs qo AP cP AR cR AV cV AB cB rs) (f : Fr No w w') : Fn_ Wc w' x bs qo AP cP AR cR AV cV AB cB rs := ⟨h.co.frNo f, h.cb.frNo f⟩
theorem Fn_.edge {Wc w : World} {x : Sf} {bs : List Sb} {qo : Nat} {AP AR AV AB : Option Addr} {cP cR cV cB : Nat} {rs : List Rw} (h : Fn_ Wc w x bs qo AP cP AR cR AV cV AB cB rs) {i k : Nat} (hi : i < bs.length) (hk : k < (toOf bs i).length) :
    ∃ (b o g cE : Nat) (Aa : Option Addr) (ca : Nat), AB = some ⟨b, o, none⟩ ∧ b < w.heap.size ∧ w.cell? ⟨b, o + i * 7 + 5, none⟩ = some (.slice (some ⟨g, 0, none⟩) (toOf bs i).length cE) ∧ rs.getD i rD = ⟨some ⟨g, 0, none⟩, (toOf bs i).length, cE⟩ ∧
      (∃ cs, Blk w g 65 cs) ∧ w.cell? ⟨g, k * 2, none⟩ = some (.int .i64 (toOf bs i)[k].to) ∧ w.cell? ⟨g, k * 2 + 1, none⟩ = some (.slice Aa (toOf bs i)[k].args.length ca) ∧
      tEd.rd w (Sn Wc.heap.size w) [.int .i64 (toOf bs i)[k].to, .slice Aa (toOf bs i)[k].args.length ca] (toOf bs i)[k] := by
  have hrow := h.cb.row
  have hsl : (srs bs rs).length = bs.length := srs_len h.cb.len
  have hi2 : i < (srs bs rs).length := by rw [hsl]; exact hi
  have hels := Ty.row.els' (S' := fun j => j < w.heap.size) hrow (fun k hk => hk.lt) (fun g hg => by obtain ⟨_, cs, hb⟩ := hrow.own hg; exact hb.lt)
  obtain ⟨b, o, _, _, _, _, _, _, eA, hb, _, _, _, _, _, y5, _⟩ := Sr_at hels i hi2
  rw [srs_get h.cb.len i hi] at y5
  have ht := h.cb.tor i hi
  have hn := h.cb.num i hi
  obtain ⟨g, eg, _⟩ := row_some ht (by omega)
  have hr : rs.getD i rD = ⟨some ⟨g, 0, none⟩, (toOf bs i).length, (rs.getD i rD).c⟩ := by
    cases hx : rs.getD i rD with
    | mk A n c =>
      rw [hx] at eg hn
      subst eg hn
      rfl
  have hown : (rs.getD i rD).v.ownBlock = some g := by rw [hr]; rfl
  obtain ⟨_, cs, hbg⟩ := ht.own hown
  obtain ⟨css, c1, c2⟩ := ht.rd (A := (rs.getD i rD).A) (n := (rs.getD i rD).n) (c := (rs.getD i rD).c)
  have hkc : k < css.length := by rw [c1.1]; exact hk
  have hrd := c1.2 k _ _ (List.getElem?_eq_getElem hkc) (List.getElem?_eq_getElem hk)
  have hg2 := fun (j : Nat) (u : Value) (hu : css[k][j]? = some u) => flat_get c1.lens (List.getElem?_eq_getElem hkc) hu
  obtain ⟨Aa, ca, hc, _⟩ := Ed_cells hrd
  rw [hc] at hg2 hrd
  have g0 := hg2 0 _ rfl
  have g1 := hg2 1 _ rfl
  rw [show tEd.size = 2 from rfl] at g0 g1
  rcases c2 with c2 | ⟨b', o', e', _, c2⟩
  · rw [c2] at g0; cases g0
  · rw [eg] at e'
    injection e' with e'
    injection e' with e1 e2 _
    subst e1 e2
    have z0 := c2 _ _ g0
    have z1 := c2 _ _ g1
    rw [Nat.zero_add] at z0 z1
    refine ⟨b, o, g, (rs.getD i rD).c, Aa, ca, eA, hb, ?_, hr, ⟨cs, hbg⟩, z0, z1, hrd⟩
    rw [y5]
    simp only [srOf]
    rw [eg, hn]
end Go.Proofs.YtiafkakkbbclhaaGreat
namespace Go.Proofs.YtiafkakkbbclhaaGreat
open Go.RowKit
theorem stepB_len (bs : List Sb) (x : Int) (p : Nat × Nat) : (stepB bs x p).length = bs.length + 1 := by simp [stepB]
theorem part_any (Wc w : World) (x : Sf) (bs : List Sb) (qo : Nat) (AP : Option Addr) (cP : Nat) (AR : Option Addr) (cR : Nat) (AV : Option Addr) (cV : Nat) (AB : Option Addr) (cB : Nat) (rs : List Rw) (i k : Nat)
    (H : Fn_ Wc w x bs qo AP cP AR cR AV cV AB cB rs) (hi : i < bs.length) (hk : k < (toOf bs i).length) (hn : bs.length ≤ 200000) (hm : (toOf bs i).length ≤ 200000) :
    Calls Tryz.prog 18 #[.agg #[.int .i64 i, .int .i64 k], .pointer (some ⟨qo, 0, none⟩)] w fun e w' => e = .returned (.tuple #[]) ∧ (∃ (AB' : Option Addr) (cB' : Nat) (rs' : List Rw), Fn_ Wc w' x (stepB bs (bs.length : Int) (i, k)) qo AP cP AR cR AV cV AB' cB' rs') ∧ ∀ q cs, Blk w q 75 cs → Blk w' q 75 cs := by
  have FA := (Fr.refl No w).alloc (.cells #[.int .i64 i, .int .i64 k] 75)
  have G := hid (Blk.new w 75 #[.int .i64 i, .int .i64 k])
  have H1 := hid (H.frNo FA)
  have HK := hid (fun q cs (hb : Blk w q 75 cs) => hb.fr FA (fun x => x))
  obtain ⟨b, o, g, cE, Aa, ca, rfl, hbb, y5, hr, ⟨csg, hbg⟩, z0, z1, hrd⟩ := H1.out.edge hi hk
  clear H FA
  have hsn : Hid ((stepB bs (bs.length : Int) (i, k)) = bs.set i (withTo (bs.getD i bD) ((toOf bs i).set k ⟨(bs.length : Int), []⟩)) ++ [jmp (toOf bs i)[k]]) := hid (by unfold stepB; rw [getD_el _ hk])
  have htor := hid (H1.out.cb.tor i hi)
  have hdn : Hid ((rs.getD i rD).v = .slice (some ⟨g, 0, none⟩) (toOf bs i).length cE) := hid (by rw [hr]; rfl)
  rw [hdn.out] at htor
  obtain ⟨n, hnn⟩ : ∃ n, bs.length = n := ⟨_, rfl⟩
  have HN := hid hnn
  generalize hes : toOf bs i = es at *
  have HES := hid hes
  obtain ⟨m, hmm⟩ : ∃ m, es.length = m := ⟨_, rfl⟩
  have HM := hid hmm
  have HBG := hid hbg
  have HRD := hid hrd
  have hgl : Hid (Wc.heap.size ≤ g) := hid (by obtain ⟨h0, _⟩ := htor.out.own (g := g) rfl; exact h0)
  have HX : Hid (∀ X, Fr No (w.alloc (.cells #[.int .i64 i, .int .i64 k] 75)) X → X.cell? ⟨qo, 3, none⟩ = some (.slice (some ⟨b, o, none⟩) n cB) ∧ X.cell? ⟨w.heap.size, 0, none⟩ = some (.int .i64 i) ∧ X.cell? ⟨w.heap.size, 1, none⟩ = some (.int .i64 k) ∧ X.cell? ⟨b, o + i * 7 + 5, none⟩ = some (.slice (some ⟨g, 0, none⟩) m cE) ∧ X.cell? ⟨g, k * 2, none⟩ = some (.int .i64 es[k].to) ∧ X.cell? ⟨g, k * 2 + 1, none⟩ = some (.slice Aa es[k].args.length ca)) := hid fun X f => by
    have g1 := H1.out.co.o.fr f (fun x => x)
    have g2 := G.out.fr f (fun x => x)
    have g3 := g1.cell 3
    rw [hnn] at g3
    exact ⟨g3, g2.cell 0, g2.cell 1, (f.cell (p := ⟨b, o + i * 7 + 5, none⟩) hbb (fun x => x)).trans (by rw [y5, hmm]), (f.cell (p := ⟨g, k * 2, none⟩) HBG.out.lt (fun x => x)).trans z0, (f.cell (p := ⟨g, k * 2 + 1, none⟩) HBG.out.lt (fun x => x)).trans z1⟩
  have hi0 : (0 : Int) ≤ i := by omega
  have hi1 : (i : Int) < n := by omega
  have hk0 : (0 : Int) ≤ k := by omega
  have hk1 : (k : Int) < m := by omega
  clear y5 z0 z1 hbg hr hrd hnn hes hmm
  go_enter Tryz.func18, Tryz.ntmps18
  go_wp2_with fail
  generalize w.alloc (.cells #[.int .i64 i, .int .i64 k] 75) = W1 at *
  generalize w.heap.size = qa at *
  refine wp_region_ort (Fr No W1) (.rd 0 (.rd 1 (.rd 2 (.rd 3 (.rd 4 (.rd 5 (.rd 6 (.rd 7 (.rd 8 (.rd 9 (.rd 10 (.rd 11 .nil)))))))))))) (by kernel_rfl) (by kernel_rfl) (by kernel_rfl) rfl (Fr.refl _ W1).drew ?_
  repeat (first | refine tS ?_ | refine tX HX.out ?_)
  refine wpT_nil ?_
  have FD := (Fr.refl No W1).drew
  obtain ⟨x3, a0, a1, x5, e0, e1⟩ := HX.out _ FD
  have H2 := hid (H1.out.frNo FD)
  replace HK := hid (fun q cs (hb : Blk w q 75 cs) => (HK.out q cs hb).fr FD (fun x => x))
  have HT2 := hid (rowSi_frNo htor.out FD)
  have HRD2 := hid ((TyMore.more _ _ _ _ _ (TyOk.keep _ W1.drew _ _ _ HRD.out (fun p hp => FD.cell hp.lt (fun x => x))) (Sn.frNo FD)) : tEd.rd W1.drew (Sn Wc.heap.size W1.drew) [.int .i64 es[k].to, .slice Aa es[k].args.length ca] es[k])
  have HBG2 := hid (HBG.out.fr FD (fun x => x))
  clear H1 htor HX HRD HBG G a0 a1 x5 FD
  generalize W1.drew = W2 at *
  have ex := hid (rfl : es[k] = es[k])
  go_upto_region 3 with fail
  have F23 := ((Fr.refl No W2).alloc (.cells #[.int .i64 es[k].to, .slice Aa es[k].args.length ca] 65)).alloc (.cells #[.slice none 0 0, .slice none 0 0, .int .i64 0, .int .i64 0, .slice none 0 0, .slice (some ⟨W2.heap.size, 0, none⟩) 1 1, .int .i64 0] 57)
  have HBE := hid ((Blk.new W2 65 #[.int .i64 es[k].to, .slice Aa es[k].args.length ca]).alloc (.cells #[.slice none 0 0, .slice none 0 0, .int .i64 0, .int .i64 0, .slice none 0 0, .slice (some ⟨W2.heap.size, 0, none⟩) 1 1, .int .i64 0] 57))
  have HQB := hid (Blk.new1 W2 (.cells #[.int .i64 es[k].to, .slice Aa es[k].args.length ca] 65) 57 #[.slice none 0 0, .slice none 0 0, .int .i64 0, .int .i64 0, .slice none 0 0, .slice (some ⟨W2.heap.size, 0, none⟩) 1 1, .int .i64 0])
  have H3 := hid (H2.out.frNo F23)
  replace HK := hid (fun q cs (hb : Blk w q 75 cs) => (HK.out q cs hb).fr F23 (fun x => x))
  have HT3 := hid (rowSi_frNo HT2.out F23)
  have HRD3 := hid (TyMore.more _ _ _ _ _ (TyOk.keep _ _ _ _ _ HRD2.out (fun p hp => F23.cell hp.lt (fun x => x))) (Sn.frNo F23))
  have HBG3 := hid (HBG2.out.fr F23 (fun x => x))
  have hgq : Hid (g < W2.heap.size) := hid HBG2.out.lt
  have hwc : Hid (Wc.heap.size ≤ W2.heap.size) := hid H2.out.co.f.size
  have hrsl : Hid (∀ j, j < bs.length → ∀ u, (rs.getD j rD).v.ownBlock = some u → u < W2.heap.size) := hid fun j hj u hu => by
    obtain ⟨_, cs, hb⟩ := (H2.out.cb.tor j hj).own hu
    exact hb.lt
  have y3 := H3.out.co.o.cell 3
  have z0 := (F23.cell (p := ⟨g, k * 2, none⟩) hgq.out (fun x => x)).trans e0
  have z1 := (F23.cell (p := ⟨g, k * 2 + 1, none⟩) hgq.out (fun x => x)).trans e1
  have zq0 := HBG3.out.frozen (k * 2)
  have zq1 := HBG3.out.frozen (k * 2 + 1)
  rw [HN.out] at y3
  clear H2 HT2 HRD2 HBG2 F23 x3 e0 e1 ex
  generalize ((W2.alloc (.cells #[.int .i64 es[k].to, .slice Aa es[k].args.length ca] 65)).alloc (.cells #[.slice none 0 0, .slice none 0 0, .int .i64 0, .int .i64 0, .slice none 0 0, .slice (some ⟨W2.heap.size, 0, none⟩) 1 1, .int .i64 0] 57)) = W3 at *
  obtain ⟨qe, hqe⟩ : ∃ q, W2.heap.size = q := ⟨_, rfl⟩
  rw [hqe] at HBE HQB hgq hrsl hwc ⊢
  clear hqe
  have hke : k < es.length := by rw [HM.out]; omega
  have HJ := hid (Ty.row.lit (t := tEd) (w := W3) (base := Wc.heap.size) (q := qe) (S := Sn Wc.heap.size W3) (e := 65) (css := [[.int .i64 es[k].to, .slice Aa es[k].args.length ca]]) (xs := [es[k]]) (by simpa using HBE.out) hwc.out (Css.one HRD3.out) (show (1 : Nat) ≤ maxLen by decide))
  clear HBE HRD3
  go_upto_region 4 with fail
  clear y3 z0 z1 zq0 zq1
  have FS := hid (((Fr.refl (One g) W3).setCell ⟨g, k * 2, none⟩ (.int .i64 n) (fun _ => rfl)).setCell ⟨g, k * 2 + 1, none⟩ (.slice none 0 0) (fun _ => rfl))
  have hgt : ∀ (e : TypeId) (j : Nat) (cs : Array Value), Blk W3 j e cs → e ≠ 65 → ¬ One g j := fun e j cs hb hne h => by
    have h : j = g := h
    subst h
    exact Blk.ne_ HBG3.out hb (fun e => hne e.symm) rfl
  replace HK := hid (fun q cs (hb : Blk w q 75 cs) => (HK.out q cs hb).fr FS.out (hgt _ _ _ (HK.out q cs hb) (by decide)))
  have hnw : (Lit.int .i64 (n : Int)).wf = true := wf_bool64 (by rw [HN.out] at hn; omega)
  have hset := (Ty.row.set (x := (⟨(n : Int), []⟩ : Ed)) (ds := [.int .i64 n, .slice none 0 0]) (w' := (W3.setCell ⟨g, k * 2, none⟩ (.int .i64 n)).setCell ⟨g, k * 2 + 1, none⟩ (.slice none 0 0)) HT3.out k hke (Ed_mk (a := ⟨(n : Int), []⟩) hnw (Nat.le_refl _) (by decide) (.inl rfl)) (fun p hp => FS.out.cell hp.lt (by
    obtain ⟨_, cs, hb⟩ := hp
    exact hgt _ _ cs hb (by decide))) (fun cur hb => (hb.set_ (k * 2) (.int .i64 n)).set_ (k * 2 + 1) (.slice none 0 0))).more (Nat.le_refl _) (Sn.fr FS.out (fun j cs hm hb => hgt _ _ cs hb (by decide) hm))
  have HCB4 := hid (Cb.setTo H3.out.cb hi (by rw [hdn.out]; rfl) FS.out (es := es.set k ⟨(n : Int), []⟩) (by rw [HES.out, List.length_set]) (by rw [hdn.out]; exact hset))
  have HCO4 := hid (H3.out.co.fr FS.out (fun j hj => by
    have hj : j = g := hj
    subst hj
    exact ⟨hgl.out, fun e => by subst e; exact Blk.ne_ HBG3.out H3.out.co.o (by decide) rfl, fun cs hb => Blk.ne_ HBG3.out hb (by decide) rfl⟩))
  have HJ4 := hid (rowSi_fr HJ.out FS.out (fun j cs hm hb => hgt _ _ cs hb (by decide) hm) (fun j hj h => by
    have h : j = g := h
    have h2 : qe = j := by simpa [Value.ownBlock] using hj
    have := hgq.out
    omega))
  have HQB4 := hid (HQB.out.fr FS.out (hgt _ _ _ HQB.out (by decide)))
  rw [HN.out] at hsn
  clear hset hgt FS HT3 H3 HJ HQB HBG3
  generalize (W3.setCell ⟨g, k * 2, none⟩ (.int .i64 n)).setCell ⟨g, k * 2 + 1, none⟩ (.slice none 0 0) = W4 at *
  generalize hb1 : bs.set i (withTo (bs.getD i bD) (es.set k ⟨(n : Int), []⟩)) = bs1 at *
  have hb1l : Hid (bs1.length = n) := hid (by rw [← hb1, List.length_set]; exact HN.out)
  have hb1n : Hid (bs1.length = bs.length) := hid (by rw [← hb1, List.length_set])
  have FL := (Fr.refl No W4).alloc (.cells #[.slice none 0 0, .slice none 0 0, .int .i64 0, .int .i64 0, .slice none 0 0, .slice (some ⟨qe, 0, none⟩) 1 1, .int .i64 0] 57)
  have BL := hid (Blk.new W4 57 #[.slice none 0 0, .slice none 0 0, .int .i64 0, .int .i64 0, .slice none 0 0, .slice (some ⟨qe, 0, none⟩) 1 1, .int .i64 0])
  have TJ := hid (rowSi_frNo HJ4.out FL)
  replace HK := hid (fun q cs (hb : Blk w q 75 cs) => (HK.out q cs hb).fr FL (fun x => x))
  have TC := hid (HCO4.out.frNo FL)
  have TB := hid (HCB4.out.frNo FL)
  rw [HN.out] at TC TB
  have u0 := HQB4.out.cell 0
  have u1 := HQB4.out.cell 1
  have u2 := HQB4.out.cell 2
  have u3 := HQB4.out.cell 3
  have u4 := HQB4.out.cell 4
  have u5 := HQB4.out.cell 5
  have u6 := HQB4.out.cell 6
  have uo := HCO4.out.o.cell 3
  rw [HN.out] at uo
  have hcs : Hid (Css tSr (W4.alloc (.cells #[.slice none 0 0, .slice none 0 0, .int .i64 0, .int .i64 0, .slice none 0 0, .slice (some ⟨qe, 0, none⟩) 1 1, .int .i64 0] 57)) (Sg Wc.heap.size (W4.alloc (.cells #[.slice none 0 0, .slice none 0 0, .int .i64 0, .int .i64 0, .slice none 0 0, .slice (some ⟨qe, 0, none⟩) 1 1, .int .i64 0] 57))) [[.slice none 0 0, .slice none 0 0, .int .i64 0, .int .i64 0, .slice none 0 0, .slice (some ⟨qe, 0, none⟩) 1 1, .int .i64 0]] [srOf (jmp es[k]) ⟨some ⟨qe, 0, none⟩, 1, 1⟩]) := hid (Css.one (Sr_mk (a := srOf (jmp es[k]) ⟨some ⟨qe, 0, none⟩, 1, 1⟩) (Nat.le_refl _) (by decide) (.inl rfl) (Nat.le_refl _) (by decide) (.inl rfl) (show (Lit.int .i64 0).wf = true by decide) (show (Lit.int .i64 0).wf = true by decide) (Nat.le_refl _) (by decide) (.inl rfl) (show (Lit.int .i64 0).wf = true by decide)))
  have hab : Hid (∀ (k2 : Nat) (e : TypeId) (cs : Array Value), Blk (W4.alloc (.cells #[.slice none 0 0, .slice none 0 0, .int .i64 0, .int .i64 0, .slice none 0 0, .slice (some ⟨qe, 0, none⟩) 1 1, .int .i64 0] 57)) k2 e cs → e ≠ 57 → ¬ some k2 = (Value.slice (some ⟨b, o, none⟩) n cB).ownBlock) := hid fun k2 e cs hb hne h => by
    obtain ⟨_, cs', hb'⟩ := TB.out.row.own h.symm
    exact Blk.ne_ hb hb' hne rfl
  have hnt2 : Hid (∀ k2, Sg Wc.heap.size (W4.alloc (.cells #[.slice none 0 0, .slice none 0 0, .int .i64 0, .int .i64 0, .slice none 0 0, .slice (some ⟨qe, 0, none⟩) 1 1, .int .i64 0] 57)) k2 → k2 < (W4.alloc (.cells #[.slice none 0 0, .slice none 0 0, .int .i64 0, .int .i64 0, .slice none 0 0, .slice (some ⟨qe, 0, none⟩) 1 1, .int .i64 0] 57)).heap.size ∧ ¬ some k2 = (Value.slice (some ⟨b, o, none⟩) n cB).ownBlock) := hid fun k2 hk2 => ⟨hk2.lt, by
    obtain ⟨_, ⟨cs, hb⟩ | ⟨cs, hb⟩⟩ := hk2
    · exact hab.out _ _ _ hb (by decide)
    · exact hab.out _ _ _ hb (by decide)⟩
  have hsl : Hid ((srs bs1 rs).length = n) := hid (by rw [srs_len TB.out.len, hb1l.out])
  have hzs : Hid (Wc.heap.size ≤ (W4.alloc (.cells #[.slice none 0 0, .slice none 0 0, .int .i64 0, .int .i64 0, .slice none 0 0, .slice (some ⟨qe, 0, none⟩) 1 1, .int .i64 0] 57)).heap.size) := hid TC.out.f.size
  have hn2 : n ≤ 200000 := by rw [HN.out] at hn; exact hn
  have hfr : Hid (∀ u, (Rw.mk (some ⟨qe, 0, none⟩) 1 1).v.ownBlock = some u → ∀ j, j < bs1.length → (rs.getD j rD).v.ownBlock ≠ some u) := hid fun u hu j hj e => by
    have h2 : qe = u := by simpa [Value.ownBlock, Rw.v] using hu
    have := hrsl.out j (by rw [← hb1n.out]; exact hj) u e
    omega
  clear HJ4 HCO4 HCB4 FL
  go_wp2_with (at_builtin; refine wpList_appC (t := tSr) (base := Wc.heap.size) (S := Sg Wc.heap.size (W4.alloc (.cells #[.slice none 0 0, .slice none 0 0, .int .i64 0, .int .i64 0, .slice none 0 0, .slice (some ⟨qe, 0, none⟩) 1 1, .int .i64 0] 57))) (xs := srs bs1 rs) (ys := [srOf (jmp es[k]) ⟨some ⟨qe, 0, none⟩, 1, 1⟩]) (dss := [[.slice none 0 0, .slice none 0 0, .int .i64 0, .int .i64 0, .slice none 0 0, .slice (some ⟨qe, 0, none⟩) 1 1, .int .i64 0]]) (B2 := (W4.alloc (.cells #[.slice none 0 0, .slice none 0 0, .int .i64 0, .int .i64 0, .slice none 0 0, .slice (some ⟨qe, 0, none⟩) 1 1, .int .i64 0] 57)).heap.size) elBks rfl rfl rfl rfl TB.out.row hcs.out (by simpa using Rd.blk BL.out BL.out.lt 0 (xs := [.slice none 0 0, .slice none 0 0, .int .i64 0, .int .i64 0, .slice none 0 0, .slice (some ⟨qe, 0, none⟩) 1 1, .int .i64 0]) (fun i u h => by rw [Nat.zero_add]; simpa using h)) rfl (by rw [hsl.out]; omega) (by rw [hsl.out]; omega) hnt2.out hzs.out ?_; intro v8 wy hr fr1 hv; have TCy := hid (TC.out.fr fr1 (fun g hg => ⟨(TB.out.row.own hg.symm).1, fun e => hab.out _ _ _ (e ▸ TC.out.o) (by decide) hg, fun cs hb => hab.out _ _ _ hb (by decide) hg⟩)); have HKy := hid (fun q cs (hb : Blk w q 75 cs) => (HK.out q cs hb).fr fr1 (hab.out _ _ _ (HK.out q cs hb) (by decide))); have zc := TCy.out.o.cell 3; have zf := TCy.out.o.frozen 3; have hP := Cb.push TB.out (jmp es[k]) ⟨some ⟨qe, 0, none⟩, 1, 1⟩ rfl TJ.out hfr.out hr fr1; rw [← hsn.out] at hP; obtain ⟨A8, c8, e8, _, _, _⟩ := hP.row.els (S' := fun _ => True) (fun _ _ => trivial) (fun _ _ => trivial); rw [srs_len hP.len, stepB_len, HN.out] at e8; subst e8; have HPY := hid hP; clear hP hr fr1 hv)
  clear zc zf u0 u1 u2 u3 u4 u5 u6 uo
  have FSo := (Fr.refl (One qo) wy).setCell ⟨qo, 3, none⟩ (.slice A8 (n + 1) c8) (fun _ => rfl)
  have hqo : ∀ (e : TypeId) (k2 : Nat) (cs : Array Value), Blk wy k2 e cs → e ≠ 39 → ¬ One qo k2 := fun e k2 cs hb hne h => by
    have h : k2 = qo := h
    subst h
    exact Blk.ne_ TCy.out.o hb (fun e => hne e.symm) rfl
  have HCZ := TCy.out.set (.slice A8 (n + 1) c8)
  have HBZ := HPY.out.fr FSo (Ng.one TCy.out.o (by decide) (by decide)) (fun g hg => by
    obtain ⟨_, cs, hb⟩ := HPY.out.row.own hg
    exact hqo _ g cs hb (by decide)) (fun i hi g hg => by
    obtain ⟨_, cs, hb⟩ := (HPY.out.tor i hi).own hg
    exact hqo _ g cs hb (by decide))
  go_end0
  refine ⟨rfl, ⟨A8, c8, rs ++ [⟨some ⟨qe, 0, none⟩, 1, 1⟩], ?_, ?_⟩, fun q cs hb => (HKy.out q cs hb).fr FSo (hqo _ _ _ (HKy.out q cs hb) (by decide))⟩
  · rw [HN.out, stepB_len, HN.out]; exact HCZ
  · rw [HN.out, stepB_len, HN.out]; exact HBZ
end Go.Proofs.YtiafkakkbbclhaaGreat
namespace Go.Proofs.YtiafkakkbbclhaaGreat
open Go.RowKit
def splitB (bs : List Sb) : List Sb := Sp bs (crit (tosOf bs)) (crit (tosOf bs)).length
theorem pr_at {w : World} {base : Nat} {S : Nat → Prop} {e : TypeId} {A : Option Addr} {n c : Nat} {l : List (Nat × Nat)} (h : tPr.row w base S e (.slice A n c) l) (j : Nat) (hj : j < l.length) :
    ∃ g cs, A = some ⟨g, 0, none⟩ ∧ Blk w g e cs ∧ cs[j * 2]? = some (.int .i64 (l[j].1 : Int)) ∧ cs[j * 2 + 1]? = some (.int .i64 (l[j].2 : Int)) := by
  obtain ⟨g, rfl, _⟩ := row_some h (by omega)
  obtain ⟨_, cs, hb⟩ := h.own (g := g) rfl
  obtain ⟨css, c1, c2⟩ := h.rd
  have hjc : j < css.length := by rw [c1.1]; exact hj
  have hrd := c1.2 j _ _ (List.getElem?_eq_getElem hjc) (List.getElem?_eq_getElem hj)
  have hg2 := fun (i : Nat) (u : Value) (hu : css[j][i]? = some u) => flat_get c1.lens (List.getElem?_eq_getElem hjc) hu
  obtain ⟨d1, d2, hc, ⟨rfl, _⟩, rfl, _⟩ := hrd
  rw [hc] at hg2
  have g0 := hg2 0 _ rfl
  have g1 := hg2 1 _ rfl
  rw [show tPr.size = 2 from rfl] at g0 g1
  rcases c2 with c2 | ⟨b', o', e', _, c2⟩
  · rw [c2] at g0; cases g0
  · injection e' with e'
    injection e' with e1 e2 _
    subst e1 e2
    have z0 := c2 _ _ g0
    have z1 := c2 _ _ g1
    rw [Nat.zero_add, hb.cell] at z0 z1
    exact ⟨g, cs, rfl, hb, z0, z1⟩
theorem Sp_row {bs : List Sb} {j : Nat} (hj : j ≤ (crit (tosOf bs)).length) {b : Nat} (hb : b < bs.length) : (toOf (Sp bs (crit (tosOf bs)) j) b).length = (toOf bs b).length := by
  have h := (tsOk (crOk_crit (tosOf bs)) j hj).row b (by rw [tosOf_len]; exact hb)
  rw [← tosOf_Sp, tosOf_getD, tosOf_getD, List.length_map, List.length_map] at h
  exact h
def FuncTo (x : Sf) (w : World) (e : Ending) (w' : World) : Prop :=
  ∃ (AP : Option Addr) (cP : Nat) (AR : Option Addr) (cR : Nat) (AV : Option Addr) (cV : Nat) (AB : Option Addr) (cB : Nat) (rs : List Rw), e = .returned (.agg #[.slice AP x.type.params.length cP, .slice AR x.type.results.length cR, .slice AV x.vals.length cV, .slice AB (splitB x.blocks).length cB]) ∧
    tI.row w' w.heap.size Emp 59 (.slice AP x.type.params.length cP) x.type.params ∧ tI.row w' w.heap.size Emp 59 (.slice AR x.type.results.length cR) x.type.results ∧ tI.row w' w.heap.size Emp 59 (.slice AV x.vals.length cV) x.vals ∧
    Cb w.heap.size w' (.slice AB (splitB x.blocks).length cB) (splitB x.blocks) rs ∧ Fr No w w'
theorem func_any (P R V B : Option Addr) (np nr nv nb pc rc vc bc : Nat) (x : Sf) (S : Nat → Prop) (w : World) (hp : tI.els w S P x.type.params) (hr : tI.els w S R x.type.results) (hv : tI.els w S V x.vals) (h : tSb.els w S B x.blocks) (hS : ∀ k, S k → k < w.heap.size)
    (ep : Hid (x.type.params.length = np)) (er : Hid (x.type.results.length = nr)) (ev : Hid (x.vals.length = nv)) (eb : Hid (x.blocks.length = nb)) (hl : Hid (FL x)) :
    Calls Tryz.prog 8 #[.agg #[.slice P np pc, .slice R nr rc, .slice V nv vc, .slice B nb bc]] w (FuncTo x w) := by
  have F0 := hid (((Fr.refl No w).alloc (.cells #[.slice P np pc, .slice R nr rc, .slice V nv vc, .slice B nb bc] 39)).alloc (.cells #[.slice none 0 0, .slice none 0 0, .slice none 0 0, .slice none 0 0] 39))
  have G := hid ((Blk.new w 39 #[.slice P np pc, .slice R nr rc, .slice V nv vc, .slice B nb bc]).alloc (.cells #[.slice none 0 0, .slice none 0 0, .slice none 0 0, .slice none 0 0] 39))
  have GR := hid (Blk.new1 w (.cells #[.slice P np pc, .slice R nr rc, .slice V nv vc, .slice B nb bc] 39) 39 #[.slice none 0 0, .slice none 0 0, .slice none 0 0, .slice none 0 0])
  have hSW := hid (fun k (hk : S k) => Nat.lt_of_lt_of_le (hS k hk) F0.out.size)
  have HP := hid (hp.fr F0.out (fun k hk => ⟨hS k hk, fun x => x⟩))
  have HR := hid (hr.fr F0.out (fun k hk => ⟨hS k hk, fun x => x⟩))
  have HV := hid (hv.fr F0.out (fun k hk => ⟨hS k hk, fun x => x⟩))
  have HB := hid (h.fr F0.out (fun k hk => ⟨hS k hk, fun x => x⟩))
  have hnb : nb ≤ 100000 := by have := hl.out.nb; rw [eb.out] at this; exact this
  clear hp hr hv h hS
  have y0 := G.out.cell 0
  have y1 := G.out.cell 1
  have y2 := G.out.cell 2
  have y3 := G.out.cell 3
  go_enter Tryz.func8, Tryz.ntmps8
  go_wp2_with fail
  generalize (w.alloc (.cells #[.slice P np pc, .slice R nr rc, .slice V nv vc, .slice B nb bc] 39)).alloc (.cells #[.slice none 0 0, .slice none 0 0, .slice none 0 0, .slice none 0 0] 39) = W at *
  refine (copied_any P R V B np nr nv nb pc rc vc bc x S W HP.out HR.out HV.out HB.out hSW.out ep er ev eb hl).mono ?_
  clear y0 y1 y2 y3
  rintro e w1 ⟨AP, cP, AR, cR, AV, cV, AB, cB, rs, rfl, hrp, hrr, hrv, hcb, f⟩
  have FB := (Fr.refl No w1).alloc (.cells #[.slice AP x.type.params.length cP, .slice AR x.type.results.length cR, .slice AV x.vals.length cV, .slice AB x.blocks.length cB] 39)
  have F2 := hid (f.trans FB (fun _ _ h => h))
  have HFN : Hid (Fn_ W (w1.alloc (.cells #[.slice AP x.type.params.length cP, .slice AR x.type.results.length cR, .slice AV x.vals.length cV, .slice AB x.blocks.length cB] 39)) x x.blocks w1.heap.size AP cP AR cR AV cV AB cB rs) := hid ⟨⟨hrp.fr FB (fun _ h => h.elim) (fun _ _ h => h), hrr.fr FB (fun _ h => h.elim) (fun _ _ h => h), hrv.fr FB (fun _ h => h.elim) (fun _ _ h => h), Blk.new w1 _ _, f.size, F2.out⟩, hcb.frNo FB⟩
  have G2 := G.out.fr F2.out (fun x => x)
  have y0 := G2.cell 0
  have y1 := G2.cell 1
  have y2 := G2.cell 2
  have y3 := G2.cell 3
  clear hrp hrr hrv hcb f FB G2
  go_wp2_with fail
  generalize w1.alloc (.cells #[.slice AP x.type.params.length cP, .slice AR x.type.results.length cR, .slice AV x.vals.length cV, .slice AB x.blocks.length cB] 39) = w2 at *
  generalize w1.heap.size = qo at *
  refine (crit_any P R V B np nr nv nb pc rc vc bc x.blocks S w2 (HB.out.fr F2.out (fun k hk => ⟨hSW.out k hk, fun x => x⟩)) (fun k hk => Nat.lt_of_lt_of_le (hSW.out k hk) F2.out.size) eb hnb hl.out.t).mono ?_
  clear y0 y1 y2 y3
  rintro e w3 ⟨AC, cC, rfl, hrow, f⟩
  have HF3 := hid (HFN.out.frNo f)
  have HROW := hid hrow
  have hcl : (crit (tosOf x.blocks)).length ≤ 100000 := Nat.le_trans (critR_tot _ _) hl.out.t
  have HSR := hid (fun j (hj : j ≤ (crit (tosOf x.blocks)).length) b (hb : b < x.blocks.length) => Sp_row hj hb)
  have HOK := hid (crOk_crit (tosOf x.blocks)).b
  have HSP : Hid (Sp x.blocks (crit (tosOf x.blocks)) (crit (tosOf x.blocks)).length = splitB x.blocks) := hid rfl
  clear hrow f HFN
  generalize hcr : crit (tosOf x.blocks) = cr at *
  obtain ⟨nc, hnc⟩ : ∃ n, cr.length = n := ⟨_, rfl⟩
  have HNC := hid hnc
  rw [hnc] at hcl HROW HSR HSP
  clear hcr
  rw [hnc]
  clear hnc
  go_wp2_with fail
  go_loopw [13] (fun i13 wr => ∃ (j : Nat) (AB : Option Addr) (cB : Nat) (rs : List Rw), j ≤ nc ∧ i13 = .int .i64 j ∧ Hid (Fn_ W wr x (Sp x.blocks cr j) qo AP cP AR cR AV cV AB cB rs) ∧ Hid (∀ q cs, Blk w3 q 75 cs → Blk wr q 75 cs)) (fun i13 _ => nc - (intOf i13).toNat)
  case atStart => exact ⟨0, AB, cB, rs, by omega, rfl, HF3, hid (fun _ _ h => h)⟩
  case round =>
    clear HF3
    obtain ⟨j, AB, cB, rs, hj, rfl, HF, HK⟩ := hrel
    by_cases hgo : j < nc
    · have hlj : j < cr.length := by have := HNC.out; omega
      obtain ⟨g, cs, rfl, hb, z0, z1⟩ := pr_at HROW.out j hlj
      have hb2 := HK.out g cs hb
      have u0 := (hb2.cell (j * 2)).trans z0
      have u1 := (hb2.cell (j * 2 + 1)).trans z1
      obtain ⟨h1, h2⟩ := HOK.out.at_ _ (List.getElem_mem hlj)
      have hrw := HSR.out j hj _ h1
      have hlen := Sp_len x.blocks cr j
      have hnx : Hid (Sp x.blocks cr (j + 1) = stepB (Sp x.blocks cr j) ((Sp x.blocks cr j).length : Int) (cr[j].1, cr[j].2)) := hid (by rw [Sp, getD_el _ hlj, hlen])
      have hnb2 := hl.out.nb
      have htl := to_le hl.out.t cr[j].1
      have HPA := hid (part_any W (wr.alloc (.cells #[.int .i64 (cr[j].1 : Int), .int .i64 (cr[j].2 : Int)] 75)) x (Sp x.blocks cr j) qo AP cP AR cR AV cV AB cB rs cr[j].1 cr[j].2 (HF.out.frNo ((Fr.refl No wr).alloc _)) (by rw [hlen]; omega) (by rw [hrw]; exact h2) (by rw [hlen]; omega) (by rw [hrw]; omega))
      rw [← hnx.out] at HPA
      have HKA := hid (fun q cs (h : Blk w3 q 75 cs) => (HK.out q cs h).fr ((Fr.refl No wr).alloc (.cells #[.int .i64 (cr[j].1 : Int), .int .i64 (cr[j].2 : Int)] 75)) (fun x => x))
      generalize cr[j].1 = p1 at *
      generalize cr[j].2 = p2 at *
      have j0 : (0 : Int) ≤ j := by omega
      have j1 : (j : Int) < nc := by omega
      clear hb hb2 z0 z1 h1 h2 hrw hlen hnx htl
      go_wp2_with fail
      refine HPA.out.mono ?_
      clear HPA u0 u1
      rintro e w5 ⟨rfl, ⟨AB', cB', rs', hfn⟩, hk⟩
      have HF5 := hid hfn
      have HK5 := hid (fun q cs (h : Blk w3 q 75 cs) => hk q cs (HKA.out q cs h))
      clear hfn hk HKA
      go_wp2
      go_round
      case rel => exact ⟨j + 1, AB', cB', rs', by omega, by go_num, HF5, HK5⟩
      case measure => simp [intOf]; omega
    · have hkn : nc = j := by omega
      subst hkn
      clear hgo
      rw [HSP.out] at HF
      have o0 := HF.out.co.o.cell 0
      have o1 := HF.out.co.o.cell 1
      have o2 := HF.out.co.o.cell 2
      have o3 := HF.out.co.o.cell 3
      have HG := hid (GR.out.fr HF.out.co.f (fun x => x))
      have z0 := HG.out.cell 0
      have z1 := HG.out.cell 1
      have z2 := HG.out.cell 2
      have z3 := HG.out.cell 3
      have zq0 := HG.out.frozen 0
      have zq1 := HG.out.frozen 1
      have zq2 := HG.out.frozen 2
      have zq3 := HG.out.frozen 3
      have hlt := HG.out.lt
      go_wp2_with fail
      clear o0 o1 o2 o3 z0 z1 z2 z3 zq0 zq1 zq2 zq3
      have FS := hid (((((Fr.refl (One (w.heap.size + 1)) wr).setCell ⟨w.heap.size + 1, 0, none⟩ (.slice AP x.type.params.length cP) (fun _ => rfl)).setCell ⟨w.heap.size + 1, 1, none⟩ (.slice AR x.type.results.length cR) (fun _ => rfl)).setCell ⟨w.heap.size + 1, 2, none⟩ (.slice AV x.vals.length cV) (fun _ => rfl)).setCell ⟨w.heap.size + 1, 3, none⟩ (.slice AB (splitB x.blocks).length cB) (fun _ => rfl))
      have HGZ : Hid (Blk _ (w.heap.size + 1) 39 #[.slice AP x.type.params.length cP, .slice AR x.type.results.length cR, .slice AV x.vals.length cV, .slice AB (splitB x.blocks).length cB]) := hid (by simpa using (((HG.out.set_ 0 (.slice AP x.type.params.length cP)).set_ 1 (.slice AR x.type.results.length cR)).set_ 2 (.slice AV x.vals.length cV)).set_ 3 (.slice AB (splitB x.blocks).length cB))
      have g0 := HGZ.out.cell 0
      have g1 := HGZ.out.cell 1
      have g2 := HGZ.out.cell 2
      have g3 := HGZ.out.cell 3
      have hne : ∀ (e : TypeId) (k2 : Nat) (cs : Array Value), Blk wr k2 e cs → e ≠ 39 → ¬ One (w.heap.size + 1) k2 := fun e k2 cs hb hne h => by
        have h : k2 = w.heap.size + 1 := h
        subst h
        exact Blk.ne_ HG.out hb (fun e => hne e.symm) rfl
      have hv1 : ∀ (u : Value) (l : List Int), tI.row wr W.heap.size Emp 59 u l → ∀ k2, u.ownBlock = some k2 → ¬ One (w.heap.size + 1) k2 := fun u l hr k2 hk => by
        obtain ⟨_, cs, hb⟩ := hr.own hk
        exact hne _ k2 cs hb (by decide)
      have hWw : w.heap.size ≤ W.heap.size := F0.out.size
      have hFin : FuncTo x w (.returned (.agg #[.slice AP x.type.params.length cP, .slice AR x.type.results.length cR, .slice AV x.vals.length cV, .slice AB (splitB x.blocks).length cB])) ((((wr.setCell ⟨w.heap.size + 1, 0, none⟩ (.slice AP x.type.params.length cP)).setCell ⟨w.heap.size + 1, 1, none⟩ (.slice AR x.type.results.length cR)).setCell ⟨w.heap.size + 1, 2, none⟩ (.slice AV x.vals.length cV)).setCell ⟨w.heap.size + 1, 3, none⟩ (.slice AB (splitB x.blocks).length cB)) := by
        refine ⟨AP, cP, AR, cR, AV, cV, AB, cB, rs, rfl, ?_, ?_, ?_, ?_, ?_⟩
        · exact (HF.out.co.p.fr FS.out (fun _ h => h.elim) (hv1 _ _ HF.out.co.p)).more hWw (fun _ h => h)
        · exact (HF.out.co.r.fr FS.out (fun _ h => h.elim) (hv1 _ _ HF.out.co.r)).more hWw (fun _ h => h)
        · exact (HF.out.co.vv.fr FS.out (fun _ h => h.elim) (hv1 _ _ HF.out.co.vv)).more hWw (fun _ h => h)
        · refine (HF.out.cb.fr FS.out (Ng.one HG.out (by decide) (by decide)) (fun g hg => ?_) (fun i hi g hg => ?_)).base hWw
          · obtain ⟨_, cs, hb⟩ := HF.out.cb.row.own hg
            exact hne _ g cs hb (by decide)
          · obtain ⟨_, cs, hb⟩ := (HF.out.cb.tor i hi).own hg
            exact hne _ g cs hb (by decide)
        · exact (F0.out.trans HF.out.co.f (fun _ _ h => h)).trans FS.out (fun i hi h => by
            have h : i = w.heap.size + 1 := h
            omega)
      generalize (((wr.setCell ⟨w.heap.size + 1, 0, none⟩ (.slice AP x.type.params.length cP)).setCell ⟨w.heap.size + 1, 1, none⟩ (.slice AR x.type.results.length cR)).setCell ⟨w.heap.size + 1, 2, none⟩ (.slice AV x.vals.length cV)).setCell ⟨w.heap.size + 1, 3, none⟩ (.slice AB (splitB x.blocks).length cB) = Zf at *
      exact bodyPost_ret (v := .agg #[.slice AP x.type.params.length cP, .slice AR x.type.results.length cR, .slice AV x.vals.length cV, .slice AB (splitB x.blocks).length cB]) (by simp [results, Tryz.results8, go_sem, g0, g1, g2, g3]) rfl hFin
end Go.Proofs.YtiafkakkbbclhaaGreat
