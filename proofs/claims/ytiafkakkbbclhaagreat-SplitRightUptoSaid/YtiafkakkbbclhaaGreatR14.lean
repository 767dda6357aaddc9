/- For every input SplitRight returns true, part 14: what the proof rests on. Condition: the arguments are of bulk at most 1048576. -/
import Derived.Test.YtiafkakkbbclhaaGreatR13
import Derived.Test.YtiafkakkbbclhaaGreatR7
import Derived.Test.YtiafkakkbbclhaaGreatR6
import Derived.Test.YtiafkakkbbclhaaGreatR4
import Derived.Test.YtiafkakkbbclhaaGreatR5
set_option maxRecDepth 100000
set_option maxHeartbeats 12800000
set_option linter.unusedVariables false
set_option linter.unusedSimpArgs false
set_option linter.unusedSectionVars false
namespace Go.Proofs.YtiafkakkbbclhaaGreat
open Go.RowKit
structure SBd (x : Sf) : Prop where
  par : ∀ b ∈ x.blocks, b.params.length * 8 ≤ 140737488351232
  ins : ∀ b ∈ x.blocks, b.ins.length ≤ 100000
  xb : ∀ b ∈ x.blocks, ∀ y ∈ b.ins, XB y
  arg : ∀ b ∈ x.blocks, b.end_.args.length * 8 ≤ 140737488351232
  tt : ∀ b ∈ x.blocks, b.end_.to.length ≤ 100000
  ed : ∀ b ∈ x.blocks, ∀ e ∈ b.end_.to, e.args.length * 8 ≤ 140737488351232
  out : ∀ b ∈ x.blocks, (outsB b).length * 8 ≤ 140737488351232
  use : ∀ b ∈ x.blocks, (usedE b.end_).length * 8 ≤ 140737488351232
theorem els_rng {α : Type} {t : Ty α} {w : World} {S : Nat → Prop} {A : Option Addr} {l : List α} (h : t.els w S A l) (k : Nat) (hk : k < l.length) : ∃ b o ds, A = some ⟨b, o, none⟩ ∧ S b ∧ w.rangeAt b (o + k * t.size) ds ∧ t.rd w S ds l[k] := by
  obtain ⟨b, o, ds, hA, hb, hc, hr⟩ := h.at_ k hk
  exact ⟨b, o, ds, hA, hb, fun j v hj => by rw [Nat.add_assoc]; exact hc j v hj, hr⟩
theorem rng_fr {w w' : World} {b o : Nat} {cs : List Value} (h : w.rangeAt b o cs) (f : Fr No w w') (hb : b < w.heap.size) : w'.rangeAt b o cs := fun j v hj => (f.cell (p := ⟨b, o + j, none⟩) hb (fun x => x)).trans (h j v hj)
theorem block39_any {w : World} {S : Nat → Prop} {lc mc : List Value} {m : Md} {k : Lk} {x : Sf} {im ds : List Int} {rb : List Bool} (h : LW w S lc mc m k x im ds rb) (B : MdB m) (hd : m.datas ≤ 1000000000000) (hn : x.blocks.length ≤ 100000) (hv : x.vals.length ≤ 140737488351232) (hp : x.type.params.length ≤ 140737488351232) (hrs : x.type.results.length ≤ 140737488351232) (hx : SBd x) (b : Nat) (hb : b < x.blocks.length) :
    Calls Tryz.prog 16 #[.agg lc.toArray, .int .i64 b] w (OvTo (blockB m x ds im rb b x.blocks[b]) w) := by
  have F0 := hid ((Fr.refl No w).alloc (.cells lc.toArray 73))
  have G0 := hid (Blk.new w 73 lc.toArray)
  have HI : Hid ((Tryz.prog.info? 73).map (·.size) = some 19) := by unfold Hid; kernel_rfl
  have HIB : Hid ((Tryz.prog.info? 57).map (·.size) = some 7) := by unfold Hid; kernel_rfl
  have HIX : Hid ((Tryz.prog.info? 82).map (·.size) = some 7) := by unfold Hid; kernel_rfl
  have HLEN := hid h.len
  have HLT := hid h.md.lt
  have hmem : x.blocks[b] ∈ x.blocks := List.getElem_mem hb
  have hS : ∀ (W : World), Fr No w W → ∀ j, S j → j < W.heap.size := fun W f j hj => Nat.lt_of_lt_of_le (h.md.lt j hj) f.size
  have hN : ∀ j, S j → j < w.heap.size ∧ ¬ No j := fun j hj => ⟨h.md.lt j hj, fun x => x⟩
  have HIN := hid (fun (W : World) (f : Fr No w W) (xc : List Value) (y : Si) (hy : tSi.rd w S xc y) (hyb : XB y) => ins39_any (h.fr f) B hd hv hp (XW.fr ⟨hy, h.md.lt⟩ f) hyb)
  have HSD := hid (fun (W : World) (f : Fr No w W) (AH : Option Addr) (cH : Nat) (here : List Int) (SH : Nat → Prop) (hh : tI.els W SH AH here) (hsh : ∀ j, SH j → j < W.heap.size) (hhl : here.length ≤ 9223372036854775807) (AL : Option Addr) (cL : Nat) (l : List Int) (SL : Nat → Prop) (hl : tI.els W SL AL l) (hsl : ∀ j, SL j → j < W.heap.size) (hll : l.length ≤ 9223372036854775807) => stand_any (h.fr f) hn b hb AH cH here SH hh hsh hhl AL cL l SL hl hsl hll)
  obtain ⟨bb, ob, bc, hAB, hbb, hrg, hrd⟩ := els_rng (LW.blocks h) b hb
  obtain ⟨Ap, cp, Ai, ci, Aa, ca, At, ct, hbc, gp1, gp2, hpar, gi1, gi2, hins, wk, wc, ga1, ga2, hargs, gt1, gt2, hto, wt⟩ := Sb_cells hrd
  have HAL := hid (fun (W : World) (f : Fr No w W) => all_any Ap cp x.blocks[b].params k.AV k.cV x.vals S W (hpar.fr f hN) (LW.vals (h.fr f)) (hS W f) (hx.par _ hmem) hv)
  have HEN := hid (fun (W : World) (f : Fr No w W) => end_any (h.fr f) hv hrs x.blocks[b].end_.kind x.blocks[b].end_.cond x.blocks[b].end_.trap Aa ca x.blocks[b].end_.args (hargs.fr f hN) (hx.arg _ hmem) At ct x.blocks[b].end_.to.length (hx.tt _ hmem) wc)
  have HEG := hid (fun (W : World) (f : Fr No w W) => edges39_any (h.fr f) hv hn hx.par x.blocks[b].end_.kind x.blocks[b].end_.cond x.blocks[b].end_.trap Aa ca x.blocks[b].end_.args.length At ct x.blocks[b].end_.to (hto.fr f hN) (hx.tt _ hmem) (hx.ed _ hmem))
  have HUS : Hid (∀ W, Fr No w W → Calls Tryz.prog 31 #[.agg #[.slice none 0 0, .slice none 0 0, .int .i64 x.blocks[b].end_.kind, .int .i64 x.blocks[b].end_.cond, .slice Aa x.blocks[b].end_.args.length ca, .slice At x.blocks[b].end_.to.length ct, .int .i64 x.blocks[b].end_.trap]] W (IntsTo (usedE x.blocks[b].end_) W)) := hid fun W f => used_any (S := S) (x := ⟨[], [], x.blocks[b].end_⟩) ⟨Sb_mk (w := W) (S := S) (a := ⟨[], [], x.blocks[b].end_⟩) (Aparams := none) (cparams := 0) (Ains := none) (cins := 0) (Nat.le_refl _) (by decide) (.inl rfl) (Nat.le_refl _) (by decide) (.inl rfl) wk wc ga1 ga2 (hargs.fr f hN) gt1 gt2 (hto.fr f hN) wt, hS W f⟩ rfl (by exact hx.use x.blocks[b] hmem) (by exact hx.tt x.blocks[b] hmem)
  have HBL : Hid ((outsB x.blocks[b]).length * 8 ≤ 140737488351232) := hid (hx.out _ hmem)
  have HBI := hid (hx.ins _ hmem)
  have HXB := hid (hx.xb _ hmem)
  have HUL := hid (hx.use _ hmem)
  subst hbc
  have C3 := hid h.c3
  have C2 := hid h.c2
  rw [hAB] at C3
  generalize hR : blockB m x ds im rb b x.blocks[b] = R
  unfold blockB at hR
  have HR := hid hR
  have HPA := hid hpar
  have HIS := hid hins
  have HRG := hid hrg
  unfold OvTo AllTo IntsTo at *
  clear h hR hx hpar hins hrg hrd hargs hto wk wc wt gp1 gp2 gi1 gi2 ga1 ga2 gt1 gt2 hmem hAB B hd hv hp hrs hS hN
  generalize x.blocks[b] = bk at *
  obtain ⟨nb, hnb⟩ : ∃ n, x.blocks.length = n := ⟨_, rfl⟩
  rw [hnb] at hn hb C3
  clear hnb
  obtain ⟨nv, hnv⟩ : ∃ n, x.vals.length = n := ⟨_, rfl⟩
  rw [hnv] at C2 HAL
  clear hnv
  obtain ⟨np, hnp⟩ : ∃ n, bk.params.length = n := ⟨_, rfl⟩
  have HNP := hid hnp
  obtain ⟨ni, hni⟩ : ∃ n, bk.ins.length = n := ⟨_, rfl⟩
  have HNI := hid hni
  have hpl : np ≤ (outsB bk).length := by rw [← hnp]; unfold outsB; rw [List.length_append]; omega
  rw [hnp] at HRG HAL
  rw [hni] at HRG HBI
  clear hnp hni
  have e7 : tSb.size = 7 := rfl
  rw [e7] at HRG
  clear e7
  generalize bk.end_.args.length = na at *
  generalize bk.end_.to.length = nt at *
  generalize endB x.vals x.type.results bk.end_.kind bk.end_.cond bk.end_.args nt bk.end_.trap = t3 at *
  generalize edgesB x.vals x.blocks bk.end_.to = t4 at *
  generalize allT x.vals bk.params = o at *
  have HIA : Hid (∀ i (hi : i < bk.ins.length), insAt m x.vals x.type.params ds im rb b bk i = (insB m x.vals x.type.params bk.ins[i] && standB ds im rb b (outsP bk i) bk.ins[i].args)) := hid fun i hi => by
    unfold insAt
    rw [List.getElem?_eq_getElem hi]
  generalize insAt m x.vals x.type.params ds im rb b bk = ia at *
  generalize insB m x.vals x.type.params = ib at *
  generalize bk.end_.kind = ek at *
  generalize bk.end_.cond = ec at *
  generalize bk.end_.trap = et at *
  have i0 : (0 : Int) ≤ b := by omega
  have i1 : (b : Int) < nb := by omega
  go_enter Tryz.func16, Tryz.ntmps16
  go_upto_region 1 with fail
  generalize w.alloc (.cells lc.toArray 73) = W0 at *
  obtain ⟨q, hq⟩ : ∃ q, w.heap.size = q := ⟨_, rfl⟩
  have HQ := hid hq
  rw [hq] at G0 ⊢
  clear hq
  have y15 := G0.out.at_ C3.out
  have HRG0 := hid (rng_fr HRG.out F0.out (HLT.out bb hbb))
  have F1 := hid (F0.out.alloc (.cells #[.slice Ap np cp, .slice Ai ni ci, .int .i64 ek, .int .i64 ec, .slice Aa na ca, .slice At nt ct, .int .i64 et] 57))
  have G1 := hid (G0.out.fr ((Fr.refl No W0).alloc (.cells #[.slice Ap np cp, .slice Ai ni ci, .int .i64 ek, .int .i64 ec, .slice Aa na ca, .slice At nt ct, .int .i64 et] 57)) (fun x => x))
  have B1 := hid (Blk.new W0 57 #[.slice Ap np cp, .slice Ai ni ci, .int .i64 ek, .int .i64 ec, .slice Aa na ca, .slice At nt ct, .int .i64 et])
  go_upto_region 2 with (first | refine ldG Tryz.underlying57 HIB.out HRG0.out rfl ?_ | fail)
  generalize W0.alloc (.cells #[.slice Ap np cp, .slice Ai ni ci, .int .i64 ek, .int .i64 ec, .slice Aa na ca, .slice At nt ct, .int .i64 et] 57) = W1 at *
  obtain ⟨q1, hq1⟩ : ∃ q, W0.heap.size = q := ⟨_, rfl⟩
  rw [hq1] at B1 ⊢
  clear hq1 y15 HRG0
  have y0 := B1.out.cell 0
  have y14 := G1.out.at_ C2.out
  go_wp2_with fail
  refine (HAL.out W1 F1.out).mono ?_
  rintro e W2 ⟨A2, c2, rfl, -, f⟩
  have F2 := hid (F1.out.trans f (fun _ _ h => h))
  have G2 := hid (G1.out.fr f (fun x => x))
  have B2 := hid (B1.out.fr f (fun x => x))
  clear HAL f F1 G1 B1 y0 y14
  cases o with
  | none =>
    have hR := HR.out
    simp only [Option.isSome_none, Bool.false_and] at hR
    subst hR
    simp only [Option.isSome_none]
    clear HR HIN HSD HEN HEG HUS
    go_wp2
    go_ret
    exact ⟨rfl, F2.out⟩
  | some ts =>
    have hR := HR.out
    simp only [Option.isSome_some, Bool.true_and] at hR
    simp only [Option.isSome_some, Option.getD_some]
    replace HR := hid hR
    clear hR
    generalize ts.length = nts
    obtain ⟨css, hcs, hrd⟩ := els_flat HPA.out HLT.out
    have HC := hid hcs
    have F3 := hid (F2.out.alloc (.cells #[] 3))
    have FE := (Fr.refl No W2).alloc (.cells #[] 3)
    have FEH := hid FE
    have HRD := hid (hrd.fr F3.out (fun _ _ x => x))
    have R0 := hid (Ty.row.lit (t := tI) (S := Emp) (base := W2.heap.size) (css := []) (xs := []) (Blk.new W2 3 #[]) (Nat.le_refl _) Css.nil (by decide))
    have B3 := hid (B2.out.fr FE (fun x => x))
    have y0 := B3.out.cell 0
    have HZ := hid FE.size
    have hnp8 : np * 8 ≤ 140737488351232 := by have := HBL.out; omega
    clear hcs hrd FE
    go_wp2_with (at_builtin; refine wpList_appC (t := tI) (base := W2.heap.size) (S := Emp) (xs := []) (ys := bk.params) (dss := css) (B2 := w.heap.size) elInts rfl rfl rfl rfl R0.out (HC.out _ _) HRD.out HNP.out (by simp; omega) (by simp; omega) (fun _ h => h.elim) HZ.out ?_; intro v1 w2 hr1 fr1 hv1; have F4 := hid (own_frame R0.out FEH.out fr1 (Nat.le_refl _)); have R1 := hid hr1; clear hr1 fr1 hv1)
    rw [List.nil_append] at R1
    obtain ⟨A1, c1, e1, _, _, _⟩ := R1.out.els (S' := fun _ => True) (fun _ _ => trivial) (fun _ _ => trivial)
    have ho0 : outsP bk 0 = bk.params := by simp [outsP]
    rw [← ho0] at R1 e1
    subst e1
    clear ho0 y0 R0 HC HRD F3 B3 FEH HZ
    go_wp2_with fail
    go_loopw [8, 9] (fun v8 v9 wr => ∃ (i : Nat) (A : Option Addr) (c : Nat), i ≤ ni ∧ v9 = .int .i64 i ∧ v8 = .slice A (outsP bk i).length c ∧ Hid (tI.row wr W2.heap.size Emp 3 (.slice A (outsP bk i).length c) (outsP bk i)) ∧ Hid (Fr No W2 wr) ∧ Hid (∀ j, j < i → ia j = true)) (fun _ v9 _ => ni - (intOf v9).toNat)
    case atStart => exact ⟨0, A1, c1, by omega, rfl, rfl, R1, F4, hid (fun j h => absurd h (Nat.not_lt_zero _))⟩
    case round =>
      clear R1 F4
      obtain ⟨i, A, c, hi, rfl, rfl, HRW, HF, HPR⟩ := hrel
      have FK := hid (F2.out.trans HF.out (fun _ _ h => h))
      have GK := hid (G2.out.fr HF.out (fun x => x))
      have BK := hid (B2.out.fr HF.out (fun x => x))
      have y1 := BK.out.cell 1
      by_cases hgo : i < ni
      · have j0 : (0 : Int) ≤ i := by omega
        have j1 : (i : Int) < ni := by omega
        have hil : i < bk.ins.length := by rw [HNI.out]; exact hgo
        have hbi := HBI.out
        obtain ⟨b9, o9, xc, hA9, hb9, hrg9, hrd9⟩ := els_rng HIS.out i hil
        subst hA9
        obtain ⟨Ax, cx, Ao, co, e5, e6, hax, hox⟩ := XW.lists ⟨hrd9, HLT.out⟩
        have e7 : tSi.size = 7 := rfl
        rw [e7] at hrg9
        have HRG9 := hid (rng_fr hrg9 FK.out (HLT.out b9 hb9))
        have hb9w := Nat.lt_of_lt_of_le (HLT.out b9 hb9) FK.out.size
        have HLX := hid (XW.len ⟨hrd9, HLT.out⟩)
        have HXY := hid (HXB.out _ (List.getElem_mem hil))
        have HC1 := hid (fun W f => HIN.out W f xc bk.ins[i] hrd9 HXY.out)
        obtain ⟨A8, c8, e8, _, _, hels8⟩ := HRW.out.els (S' := fun j => j < wr.heap.size) (fun j hj => hj.elim) (fun g hg => by obtain ⟨h0, _, hb⟩ := HRW.out.own hg; exact hb.lt)
        injection e8 with e8 _ e9
        subst e8 e9
        have HH8 := hid hels8
        have hle := outsP_le bk i
        have hle2 := outsP_le bk (i + 1)
        have HST := hid (outsP_step hil)
        rw [HST.out, List.length_append] at hle2
        have HC2 := hid (fun W (f : Fr No wr W) => HSD.out W (FK.out.trans f (fun _ _ h => h)) A c (outsP bk i) _ (HH8.out.fr f (fun j hj => ⟨hj, fun x => x⟩)) (fun j hj => Nat.lt_of_lt_of_le hj f.size) (by have := HBL.out; omega) Ax cx bk.ins[i].args S (hax.fr (FK.out.trans f (fun _ _ h => h)) (fun j hj => ⟨HLT.out j hj, fun x => x⟩)) (fun j hj => Nat.lt_of_lt_of_le (HLT.out j hj) (FK.out.trans f (fun _ _ h => h)).size) (by have := HXY.out.args; omega))
        have HI2 := hid (HIA.out i hil)
        have HOX := hid hox
        have HX : Hid (∀ X, Fr No wr X → X.cell? ⟨q1, 1, none⟩ = some (.slice (some ⟨b9, o9, none⟩) ni ci) ∧ X.cell? ⟨b9, o9 + i * 7 + 5, none⟩ = some (.slice Ax bk.ins[i].args.length cx)) := hid fun X f => ⟨(BK.out.fr f (fun x => x)).cell 1, (rng_fr HRG9.out f hb9w) 5 _ e5⟩
        have HX1 : Hid (∀ X, Fr No wr X → X.rangeAt q 0 lc) := hid fun X f => rangeL (GK.out.fr f (fun x => x))
        have HX2 : Hid (∀ X, Fr No wr X → X.rangeAt b9 (o9 + i * 7) xc) := hid fun X f => rng_fr HRG9.out f hb9w
        have HX6 : Hid (∀ X, Fr No wr X → X.cell? ⟨b9, o9 + i * 7 + 6, none⟩ = some (.slice Ao bk.ins[i].outs.length co)) := hid fun X f => (rng_fr HRG9.out f hb9w) 6 _ e6
        clear hrg9 hrd9 e5 e6 e7 hax hox hels8 hb9w HRG9 HXY HIA HIN HSD
        generalize bk.ins[i] = y at *
        clear hil
        generalize standB ds im rb b (outsP bk i) y.args = t2 at *
        generalize ib y = t1 at *
        go_upto_region 9 with fail
        clear y1
        cases t1 with
        | false =>
          refine wp_region_ord (Fr No wr) [] [(0, true), (1, true), (2, true), (3, true), (4, true), (5, true), (6, false), (7, true), (8, true), (9, true), (10, true), (11, true), (12, true), (13, true), (14, true), (15, true), (16, true), (17, true), (18, false), (19, true), (20, true)] (by kernel_rfl) (by kernel_rfl) (by kernel_rfl) rfl (Fr.refl _ wr).drew ?_
          refine wpO_load rfl rfl 73 _ rfl q 0 rfl lc _ HX1.out Tryz.underlying73 rfl (by rw [HLEN.out]; exact HI.out) ?_
          repeat (first | refine oS ?_ | refine oX HX.out ?_)
          refine wpO_load rfl rfl 82 _ rfl b9 (o9 + i * 7) rfl xc _ HX2.out Tryz.underlying82 rfl (by rw [HLX.out]; exact HIX.out) ?_
          refine wpO_eff rfl rfl (fun K hK => ?_)
          simp only [zA]
          go_simp
          refine (HC1.out _ FK.out.drew).mono ?_
          rintro e Y1 ⟨rfl, f⟩
          have F1 := hid ((Fr.refl No wr).drew.trans f (fun _ _ h => h))
          clear f
          refine hK _ _ (fun _ => F1.out) ?_
          clear hK K
          repeat (first | refine oS ?_ | refine oX HX.out ?_)
          refine wpO_skipE rfl rfl F1.out ?_
          simp only [zA, zC, Act.put]
          repeat (first | refine oS ?_ | refine oX HX.out ?_)
          refine wpO_nil ?_
          have FZ := F1
          have hall : (List.range bk.ins.length).all ia = false := by
            rw [List.all_eq_false]
            exact ⟨i, List.mem_range.2 (by rw [HNI.out]; exact hgo), by rw [HI2.out]; simp⟩
          have hR := HR.out
          rw [hall, Bool.false_and, Bool.false_and, Bool.false_and] at hR
          subst hR
          have FF := hid (FK.out.trans FZ.out (fun _ _ h => h))
          clear HR HI2 hall HX HX1 HX2 HX6 HC1 HC2 HEN HEG HUS HPR
          go_wp2
          go_ret
          exact ⟨rfl, FF.out⟩
        | true =>
          refine wp_region_ord (Fr No wr) [] [(0, true), (1, true), (2, true), (3, true), (4, true), (5, true), (6, false), (7, true), (8, true), (9, true), (10, true), (11, true), (12, true), (13, true), (14, true), (15, true), (16, true), (17, true), (18, false), (19, true), (20, true)] (by kernel_rfl) (by kernel_rfl) (by kernel_rfl) rfl (Fr.refl _ wr).drew ?_
          refine wpO_load rfl rfl 73 _ rfl q 0 rfl lc _ HX1.out Tryz.underlying73 rfl (by rw [HLEN.out]; exact HI.out) ?_
          repeat (first | refine oS ?_ | refine oX HX.out ?_)
          refine wpO_load rfl rfl 82 _ rfl b9 (o9 + i * 7) rfl xc _ HX2.out Tryz.underlying82 rfl (by rw [HLX.out]; exact HIX.out) ?_
          refine wpO_eff rfl rfl (fun K hK => ?_)
          simp only [zA]
          go_simp
          refine (HC1.out _ FK.out.drew).mono ?_
          rintro e Y1 ⟨rfl, f⟩
          have F1 := hid ((Fr.refl No wr).drew.trans f (fun _ _ h => h))
          clear f
          refine hK _ _ (fun _ => F1.out) ?_
          clear hK K
          repeat (first | refine oS ?_ | refine oX HX.out ?_)
          refine wpO_load rfl rfl 73 _ rfl q 0 rfl lc _ HX1.out Tryz.underlying73 rfl (by rw [HLEN.out]; exact HI.out) ?_
          repeat (first | refine oS ?_ | refine oX HX.out ?_)
          refine wpO_eff rfl rfl (fun K hK => ?_)
          simp only [zA]
          go_simp
          refine (HC2.out _ F1.out).mono ?_
          rintro e Y2 ⟨rfl, f⟩
          have FZ := hid (F1.out.trans f (fun _ _ h => h))
          clear f F1
          refine hK _ _ (fun _ => FZ.out) ?_
          clear hK K
          repeat (first | refine oS ?_ | refine oX HX.out ?_)
          refine wpO_nil ?_
          cases t2 with
          | false =>
            have hall : (List.range bk.ins.length).all ia = false := by
              rw [List.all_eq_false]
              exact ⟨i, List.mem_range.2 (by rw [HNI.out]; exact hgo), by rw [HI2.out]; simp⟩
            have hR := HR.out
            rw [hall, Bool.false_and, Bool.false_and, Bool.false_and] at hR
            subst hR
            have FF := hid (FK.out.trans FZ.out (fun _ _ h => h))
            clear HR HI2 hall HX HX1 HX2 HX6 HC1 HC2 HEN HEG HUS HPR
            go_wp2
            go_ret
            exact ⟨rfl, FF.out⟩
          | true =>
            have FF := hid (HF.out.trans FZ.out (fun _ _ h => h))
            have FB := hid (FK.out.trans FZ.out (fun _ _ h => h))
            have RF := hid (HRW.out.fr FZ.out (fun _ h => h.elim) (fun _ _ x => x))
            obtain ⟨css, hcs, hrd⟩ := els_flat HOX.out HLT.out
            have HC := hid hcs
            have HRD := hid (hrd.fr FB.out (fun _ _ x => x))
            have y1 := (HX.out _ FZ.out).1
            have y6 := HX6.out _ FZ.out
            have HZ := hid FF.out.size
            have hbl := HBL.out
            have HI3 : Hid (∀ j, j < i + 1 → ia j = true) := hid fun j hj => by
              by_cases hji : j = i
              · rw [hji, HI2.out]; rfl
              · exact HPR.out j (by omega)
            clear hcs hrd HR HI2 HX HX1 HX2 HX6 HC1 HC2 HEN HEG HUS HPR
            generalize y.outs = l at *
            obtain ⟨ml, hml⟩ : ∃ n, l.length = n := ⟨_, rfl⟩
            have HML := hid hml
            rw [hml] at hle2 y6
            clear hml HOX
            go_wp2_with (at_builtin; refine wpList_appC (t := tI) (base := W2.heap.size) (S := Emp) (xs := outsP bk i) (ys := l) (dss := css) (B2 := w.heap.size) elInts rfl rfl rfl rfl RF.out (HC.out _ _) HRD.out HML.out (by omega) (by omega) (fun _ h => h.elim) HZ.out ?_; intro v9 wy hr9 fr1 hv9; have FY := hid (own_frame RF.out FF.out fr1 (Nat.le_refl _)); have RY := hid hr9; clear hr9 fr1 hv9)
            rw [← HST.out] at RY
            obtain ⟨A8, c8, e8, _, _, _⟩ := RY.out.els (S' := fun _ => True) (fun _ _ => trivial) (fun _ _ => trivial)
            subst e8
            go_round
            case rel => exact ⟨i + 1, A8, c8, by omega, by go_num, rfl, RY, FY, HI3⟩
            case measure => simp [intOf]; omega
      · have hin : i = ni := by omega
        subst hin
        have hall : (List.range bk.ins.length).all ia = true := by
          rw [List.all_eq_true]
          intro j hj
          exact HPR.out j (by have := List.mem_range.1 hj; have := HNI.out; omega)
        have hR := HR.out
        rw [hall, Bool.true_and] at hR
        replace HR := hid hR
        have ho : outsP bk i = outsB bk := outsP_all (by rw [HNI.out]; exact Nat.le_refl _)
        rw [ho] at HRW
        rw [ho]
        obtain ⟨A8, c8, e8, _, _, hels8⟩ := HRW.out.els (S' := fun j => j < wr.heap.size) (fun j hj => hj.elim) (fun g hg => by obtain ⟨h0, _, hb⟩ := HRW.out.own hg; exact hb.lt)
        injection e8 with e8 _ e9
        subst e8 e9
        have HH8 := hid hels8
        have HC1 := hid (HEN.out _ FK.out)
        have HC4 := hid (fun W (f : Fr No wr W) (AL : Option Addr) (cL : Nat) (l : List Int) (SL : Nat → Prop) (hl : tI.els W SL AL l) (hsl : ∀ j, SL j → j < W.heap.size) (hll : l.length ≤ 9223372036854775807) => HSD.out W (FK.out.trans f (fun _ _ h => h)) A c (outsB bk) _ (HH8.out.fr f (fun j hj => ⟨hj, fun x => x⟩)) (fun j hj => Nat.lt_of_lt_of_le hj f.size) (by have := HBL.out; omega) AL cL l SL hl hsl hll)
        have y2 := BK.out.cell 2
        have y3 := BK.out.cell 3
        have y4 := BK.out.cell 4
        have y5 := BK.out.cell 5
        have y6 := BK.out.cell 6
        clear hgo hR hall ho hels8 HSD HEN HIN HIA HPR HRW
        go_wp2_with (first | refine ldG Tryz.underlying73 HI.out (rangeL GK.out) HLEN.out ?_ | refine ldW Tryz.underlying73 HI.out (rangeL GK.out) HLEN.out ?_ | fail)
        refine HC1.out.mono ?_
        rintro e Y1 ⟨rfl, f⟩
        have F1 := hid f
        have GY := hid (GK.out.fr f (fun x => x))
        have BY := hid (BK.out.fr f (fun x => x))
        have HC2 := hid (HEG.out _ (FK.out.trans f (fun _ _ h => h)))
        clear f HC1 HEG y1 y2 y3 y4 y5 y6
        cases t3 with
        | false =>
          have hR := HR.out
          simp only [Bool.false_and] at hR
          subst hR
          have FF := hid (FK.out.trans F1.out (fun _ _ h => h))
          clear HR HC2 HC4 HUS
          go_wp2
          go_ret
          exact ⟨rfl, FF.out⟩
        | true =>
          have y2 := BY.out.cell 2
          have y3 := BY.out.cell 3
          have y4 := BY.out.cell 4
          have y5 := BY.out.cell 5
          have y6 := BY.out.cell 6
          go_wp2_with (first | refine ldG Tryz.underlying73 HI.out (rangeL GY.out) HLEN.out ?_ | refine ldW Tryz.underlying73 HI.out (rangeL GY.out) HLEN.out ?_ | fail)
          refine HC2.out.mono ?_
          rintro e Y2 ⟨rfl, f⟩
          have F2' := hid (F1.out.trans f (fun _ _ h => h))
          have GZ := hid (GY.out.fr f (fun x => x))
          have BZ := hid (BY.out.fr f (fun x => x))
          clear f HC2 y2 y3 y4 y5 y6
          cases t4 with
          | false =>
            have hR := HR.out
            simp only [Bool.false_and, Bool.true_and] at hR
            subst hR
            have FF := hid (FK.out.trans F2'.out (fun _ _ h => h))
            clear HR HC4 HUS
            go_wp2
            go_ret
            exact ⟨rfl, FF.out⟩
          | true =>
            have hR := HR.out
            simp only [Bool.true_and] at hR
            subst hR
            clear HR
            go_upto_region 14 with fail
            have HX : Hid (∀ X, Fr No Y2 X → X.cell? ⟨q1, 2, none⟩ = some (.int .i64 ek) ∧ X.cell? ⟨q1, 3, none⟩ = some (.int .i64 ec) ∧ X.cell? ⟨q1, 4, none⟩ = some (.slice Aa na ca) ∧ X.cell? ⟨q1, 5, none⟩ = some (.slice At nt ct) ∧ X.cell? ⟨q1, 6, none⟩ = some (.int .i64 et)) := hid fun X f => by
              have g := BZ.out.fr f (fun x => x)
              exact ⟨g.cell 2, g.cell 3, g.cell 4, g.cell 5, g.cell 6⟩
            have HX1 : Hid (∀ X, Fr No Y2 X → X.rangeAt q 0 lc) := hid fun X f => rangeL (GZ.out.fr f (fun x => x))
            refine wp_region_ord (Fr No Y2) [] [(0, true), (1, true), (2, true), (3, true), (4, true), (5, true), (6, false), (7, false), (8, true)] (by kernel_rfl) (by kernel_rfl) (by kernel_rfl) rfl (Fr.refl _ Y2).drew ?_
            refine wpO_load rfl rfl 73 _ rfl q 0 rfl lc _ HX1.out Tryz.underlying73 rfl (by rw [HLEN.out]; exact HI.out) ?_
            repeat (first | refine oS ?_ | refine oX HX.out ?_)
            refine wpO_eff rfl rfl (fun K hK => ?_)
            simp only [zA]
            go_simp
            refine (HUS.out _ ((FK.out.trans F2'.out (fun _ _ h => h)).drew)).mono ?_
            rintro e Y3 ⟨A3, c3, rfl, hels3, f⟩
            have F3 := hid ((Fr.refl No Y2).drew.trans f (fun _ _ h => h))
            have HE3 := hid hels3
            clear f hels3 HUS
            refine hK _ _ (fun _ => F3.out) ?_
            clear hK K
            repeat (first | refine oS ?_ | refine oX HX.out ?_)
            refine wpO_eff rfl rfl (fun K hK => ?_)
            simp only [zA]
            go_simp
            refine (HC4.out _ (F2'.out.trans F3.out (fun _ _ h => h)) A3 c3 (usedE bk.end_) _ HE3.out (fun j hj => hj.2) (by have := HUL.out; omega)).mono ?_
            rintro e Y4 ⟨rfl, f⟩
            have F4 := hid (F3.out.trans f (fun _ _ h => h))
            clear f HC4
            refine hK _ _ (fun _ => F4.out) ?_
            clear hK K
            repeat (first | refine oS ?_ | refine oX HX.out ?_)
            refine wpO_nil ?_
            have FF := hid (FK.out.trans (F2'.out.trans F4.out (fun _ _ h => h)) (fun _ _ h => h))
            clear HX HX1
            go_wp2
            go_ret
            exact ⟨rfl, FF.out⟩
end Go.Proofs.YtiafkakkbbclhaaGreat
namespace Go.Proofs.YtiafkakkbbclhaaGreat
open Go.RowKit
theorem im_wf {w : World} {S : Nat → Prop} {A : Option Addr} {l : List Im} (h : tIm.els w S A l) : ∀ im ∈ l, (Lit.int .i64 im.glob.val).wf = true ∧ (Lit.int .i64 im.table.elem).wf = true := fun im hm => by
  obtain ⟨i, hi, rfl⟩ := List.getElem_of_mem hm
  obtain ⟨_, _, ds, -, -, -, hr⟩ := h.at_ i hi
  have := Im_cells hr
  exact ⟨this.2.2.2.2.2.2.2.2.2.2, this.2.2.2.2.2.1⟩
theorem gd_wf {w : World} {S : Nat → Prop} {A : Option Addr} {l : List Gd} (h : tGd.els w S A l) : ∀ g ∈ l, (Lit.int .i64 g.type.val).wf = true := fun g hm => by
  obtain ⟨i, hi, rfl⟩ := List.getElem_of_mem hm
  obtain ⟨_, _, ds, -, -, -, hr⟩ := h.at_ i hi
  obtain ⟨_, _, _, h1, _⟩ := Gd_cells hr
  exact h1
theorem tb_wf {w : World} {S : Nat → Prop} {A : Option Addr} {l : List Tb} (h : tTb.els w S A l) : ∀ g ∈ l, (Lit.int .i64 g.elem).wf = true := fun g hm => by
  obtain ⟨i, hi, rfl⟩ := List.getElem_of_mem hm
  obtain ⟨_, _, ds, -, -, -, hr⟩ := h.at_ i hi
  exact (Tb_cells hr).2.1
theorem atD_all {α : Type} {d : α} {l : List α} {P : α → Prop} (hd : P d) (hl : ∀ x ∈ l, P x) (i : Int) : P (atD d l i).1 := by
  unfold atD
  split
  · exact hl _ (List.getElem_mem _)
  · exact hd
theorem mdB_of {w : World} {S : Nat → Prop} {mc : List Value} {m : Md} (h : MW w S mc m) (u : tMd.le 1048576 m) (f : FewOk m.elems m.types.length m.imports.length m.funcs.length m.tables.length m.mems.length m.globals.length m.exports.length m.elems.length m.datas) : MdB m := by
  obtain ⟨At, ct, Ai, ci, Af, cf, Ata, cta, Am, cm, Ag, cg, Ae, ce, Ael, cel, Ad, cd, Ac, cc, -, -, -, -, -, -, h2, -, -, -, -, -, h4, -, -, -, -, -, h6, -⟩ := Md_cells h.rd
  obtain ⟨⟨_, u1⟩, _, _, _, _, ⟨_, u6⟩, _, _, _, ⟨_, u10⟩, _⟩ := u
  refine ⟨f.lt, Nat.le_trans f.li (by decide), f.lf, f.lta, f.lm, f.lg, f.le, f.lel, fun g hg => ?_, f.it, fun e he l hl => ?_, fun i => ?_, fun i => ?_, fun g hg => ?_⟩
  · have := (u6 g hg).2.1
    exact Nat.le_trans this (by decide)
  · have := ((u10 e he).2.2.2.2.2 l hl).1
    exact Nat.le_trans this (by decide)
  · unfold globD
    refine atD_all (P := fun (g : Gl) => (Lit.int .i64 g.val).wf = true) (by decide) (fun g hg => ?_) i
    rcases List.mem_append.1 hg with hg | hg
    · obtain ⟨im, hm, rfl⟩ := List.mem_map.1 hg
      exact (im_wf h2 im (List.mem_filter.1 hm).1).1
    · obtain ⟨gd, hm, rfl⟩ := List.mem_map.1 hg
      exact gd_wf h6 gd hm
  · unfold tabD
    refine atD_all (P := fun (g : Tb) => (Lit.int .i64 g.elem).wf = true) (by decide) (fun g hg => ?_) i
    rcases List.mem_append.1 hg with hg | hg
    · obtain ⟨im, hm, rfl⟩ := List.mem_map.1 hg
      exact (im_wf h2 im (List.mem_filter.1 hm).1).2
    · exact tb_wf h4 g hg
  · have h1 : g.params.length ≤ 1048576 := (u1 g hg).1.1
    have h2 : g.results.length ≤ 1048576 := (u1 g hg).2.1
    exact ⟨by omega, by omega⟩
theorem datas_le {w : World} {S : Nat → Prop} {mc : List Value} {m : Md} (f : FewOk m.elems m.types.length m.imports.length m.funcs.length m.tables.length m.mems.length m.globals.length m.exports.length m.elems.length m.datas) : m.datas ≤ 1000000000000 := Nat.le_trans f.ld (by decide)
end Go.Proofs.YtiafkakkbbclhaaGreat
namespace Go.Proofs.YtiafkakkbbclhaaGreat
open Go.RowKit
theorem tot_sumF (bs : List Sb) : tot (tosOf bs) ≤ sumF bs := by
  induction bs with
  | nil => simp [tot, tosOf, sumF]
  | cons b bs ih =>
    simp only [tot, tosOf, sumF, lenF, List.map_cons, List.sum_cons, List.length_map] at *
    omega
theorem mem_sumF {bs : List Sb} {b : Sb} (h : b ∈ bs) : lenF b ≤ sumF bs := le_sum (List.mem_map_of_mem h)
theorem splitB_len (bs : List Sb) : (splitB bs).length = bs.length + (crit (tosOf bs)).length := Sp_len _ _ _
def splitF (x : Sf) : Sf := ⟨x.type, x.vals, splitB x.blocks⟩
theorem splitB_ref (bs : List Sb) : splitB bs = refB bs (crit (tosOf bs)) := Sp_all (crOk_crit (tosOf bs)).b
theorem redir_or (n : Nat) (cr : List (Nat × Nat)) (b i : Nat) (e : Ed) : ∀ k, (redir n cr b i e k).args = [] ∨ redir n cr b i e k = e
  | 0 => .inr rfl
  | k + 1 => by
    rw [redir]
    split
    · exact .inl rfl
    · exact redir_or n cr b i e k
theorem refA_mem {bs : List Sb} {cr : List (Nat × Nat)} {k : Nat} {b : Sb} (h : b ∈ refA bs cr k) : ∃ x ∈ bs, ∃ i, b = withTo x (turnTo bs.length cr i x.end_.to k) := by
  obtain ⟨i, hi, rfl⟩ := List.getElem_of_mem h
  have hi' : i < bs.length := by rw [refA_len] at hi; exact hi
  exact ⟨bs[i], List.getElem_mem hi', i, by simp only [refA, List.getElem_mapIdx]⟩
theorem turnTo_mem {n : Nat} {cr : List (Nat × Nat)} {b : Nat} {es : List Ed} {k : Nat} {e : Ed} (h : e ∈ turnTo n cr b es k) : e.args = [] ∨ e ∈ es := by
  obtain ⟨i, hi, rfl⟩ := List.getElem_of_mem h
  have hi' : i < es.length := by rw [turnTo_len] at hi; exact hi
  have e' : (turnTo n cr b es k)[i] = redir n cr b i es[i] k := by simp only [turnTo, List.getElem_mapIdx]
  rw [e']
  rcases redir_or n cr b i es[i] k with h | h
  · exact .inl h
  · rw [h]; exact .inr (List.getElem_mem hi')
theorem refJ_mem {bs : List Sb} {cr : List (Nat × Nat)} (H : CrB bs cr) {b : Sb} (h : b ∈ refJ bs cr) : ∃ x ∈ bs, ∃ e ∈ x.end_.to, b = jmp e := by
  unfold refJ at h
  obtain ⟨p, hp, rfl⟩ := List.mem_map.1 h
  obtain ⟨h1, h2⟩ := H.at_ p hp
  have e : toOf bs p.1 = bs[p.1].end_.to := by unfold toOf; rw [getD_el _ h1]
  rw [e] at h2 ⊢
  exact ⟨bs[p.1], List.getElem_mem h1, _, List.getElem_mem h2, by rw [getD_el _ h2]⟩
theorem tot_tosOf (bs : List Sb) : tot (tosOf bs) = (bs.map fun b => b.end_.to.length).sum := by
  unfold tot tosOf
  rw [List.map_map]
  congr 1
  apply List.map_congr_left
  intro b _
  simp
theorem tot_split (bs : List Sb) : tot (tosOf (splitB bs)) = tot (tosOf bs) + (crit (tosOf bs)).length := by
  rw [splitB_ref, tot_tosOf, tot_tosOf, refB, List.map_append, List.sum_append]
  generalize crit (tosOf bs) = cr
  congr 1
  · congr 1
    apply List.ext_getElem
    · simp [refA]
    · intro i h1 h2
      simp [refA, withTo, turnTo]
  · unfold refJ
    rw [List.map_map]
    induction cr with
    | nil => rfl
    | cons p cr ih =>
      rw [List.map_cons, List.sum_cons, ih, List.length_cons]
      show 1 + _ = _
      omega
structure Bn (x : Sf) : Prop where
  nb : x.blocks.length ≤ 2000
  nv : x.vals.length ≤ 2000
  p : x.type.params.length ≤ 1048576
  r : x.type.results.length ≤ 1048576
  tt : tot (tosOf x.blocks) ≤ 4000
  bp : ∀ b ∈ x.blocks, b.params.length ≤ 1048576
  bi : ∀ b ∈ x.blocks, b.ins.length ≤ 1500
  ia : ∀ b ∈ x.blocks, ∀ i ∈ b.ins, i.args.length ≤ 1048576 ∧ i.outs.length ≤ 1048576
  ba : ∀ b ∈ x.blocks, b.end_.args.length ≤ 1048576
  bt : ∀ b ∈ x.blocks, b.end_.to.length ≤ 1500
  ea : ∀ b ∈ x.blocks, ∀ e ∈ b.end_.to, e.args.length ≤ 1048576
theorem bn_of {x : Sf} (u : tSf.le 1048576 x) (s : Small x) : Bn x := by
  obtain ⟨⟨⟨u1, _⟩, u2, _⟩, ⟨u3, _⟩, _, u4⟩ := u
  have hs := s.sum
  have hl : ∀ b ∈ x.blocks, lenF b ≤ 1500 := fun b hb => Nat.le_trans (mem_sumF hb) hs
  refine ⟨Nat.le_trans s.nb (by decide), s.vals, u1, u2, Nat.le_trans (tot_sumF _) (by omega), fun b hb => ?_, fun b hb => ?_, fun b hb i hi => ?_, fun b hb => ?_, fun b hb => ?_, fun b hb e he => ?_⟩
  · exact (u4 b hb).1.1
  · have := hl b hb
    unfold lenF at this
    omega
  · have h := ((u4 b hb).2.1.2 i hi).2.2.2.2.2
    exact ⟨h.1.1, h.2.1⟩
  · exact (u4 b hb).2.2.2.2.1.1
  · have := hl b hb
    unfold lenF at this
    omega
  · exact ((u4 b hb).2.2.2.2.2.1.2 e he).2.1
theorem split_mem {bs : List Sb} {b : Sb} (hb : b ∈ splitB bs) : (∃ y ∈ bs, b.params = y.params ∧ b.ins = y.ins ∧ b.end_.args = y.end_.args ∧ b.end_.to.length = y.end_.to.length ∧ ∀ e ∈ b.end_.to, e.args = [] ∨ e ∈ y.end_.to) ∨ (b.params = [] ∧ b.ins = [] ∧ b.end_.args = [] ∧ b.end_.to.length = 1 ∧ ∃ y ∈ bs, ∀ e ∈ b.end_.to, e ∈ y.end_.to) := by
  rw [splitB_ref, refB, List.mem_append] at hb
  rcases hb with hb | hb
  · obtain ⟨y, hy, i, rfl⟩ := refA_mem hb
    exact .inl ⟨y, hy, rfl, rfl, rfl, turnTo_len .., fun e he => turnTo_mem he⟩
  · obtain ⟨y, hy, e, he, rfl⟩ := refJ_mem (crOk_crit (tosOf bs)).b hb
    refine .inr ⟨rfl, rfl, rfl, rfl, y, hy, fun e' he' => ?_⟩
    have : e' = e := by simpa [jmp] using he'
    rw [this]; exact he
theorem bn_split {x : Sf} (h : Bn x) (s : Small x) : Bn (splitF x) := by
  have ht := Nat.le_trans (tot_sumF x.blocks) s.sum
  have hc : (crit (tosOf x.blocks)).length ≤ 1500 := Nat.le_trans (critR_tot _ _) ht
  refine ⟨?_, h.nv, h.p, h.r, ?_, fun b hm => ?_, fun b hm => ?_, fun b hm i hi => ?_, fun b hm => ?_, fun b hm => ?_, fun b hm e he => ?_⟩
  · show (splitB x.blocks).length ≤ _
    rw [splitB_len]
    have := s.nb
    omega
  · show tot (tosOf (splitB x.blocks)) ≤ _
    rw [tot_split]
    omega
  · rcases split_mem hm with ⟨y, hy, e, _⟩ | ⟨e, _⟩
    · rw [e]; exact h.bp y hy
    · rw [e]; simp
  · rcases split_mem hm with ⟨y, hy, _, e, _⟩ | ⟨_, e, _⟩
    · rw [e]; exact h.bi y hy
    · rw [e]; simp
  · rcases split_mem hm with ⟨y, hy, _, e, _⟩ | ⟨_, e, _⟩
    · rw [e] at hi; exact h.ia y hy i hi
    · rw [e] at hi; cases hi
  · rcases split_mem hm with ⟨y, hy, _, _, e, _⟩ | ⟨_, _, e, _⟩
    · rw [e]; exact h.ba y hy
    · rw [e]; simp
  · rcases split_mem hm with ⟨y, hy, _, _, _, e, _⟩ | ⟨_, _, _, e, _⟩
    · rw [e]; exact h.bt y hy
    · rw [e]; decide
  · rcases split_mem hm with ⟨y, hy, _, _, _, _, k⟩ | ⟨_, _, _, _, y, hy, k⟩
    · rcases k e he with k | k
      · rw [k]; simp
      · exact h.ea y hy e k
    · exact h.ea y hy e (k e he)
theorem flat_le {α : Type} {f : α → List Int} {M : Nat} : ∀ {l : List α}, (∀ x ∈ l, (f x).length ≤ M) → (l.flatMap f).length ≤ l.length * M
  | [], _ => by simp
  | a :: l, h => by
    rw [List.flatMap_cons, List.length_append, List.length_cons, Nat.succ_mul]
    have h1 := h a (by simp)
    have h2 := flat_le (l := l) (fun x hx => h x (by simp [hx]))
    omega
section
variable {x : Sf} (h : Bn x)
include h
theorem Bn.outs (b : Sb) (hb : b ∈ x.blocks) : (outsB b).length ≤ 1573912576 := by
  unfold outsB
  rw [List.length_append]
  have h1 := h.bp b hb
  have h2 := flat_le (f := fun i : Si => i.outs) (l := b.ins) (fun i hi => (h.ia b hb i hi).2)
  have h3 : b.ins.length * 1048576 ≤ 1500 * 1048576 := Nat.mul_le_mul_right _ (h.bi b hb)
  omega
theorem Bn.used (b : Sb) (hb : b ∈ x.blocks) : (usedE b.end_).length ≤ 1573912577 := by
  unfold usedE
  rw [List.length_append, List.length_append]
  have h1 := h.ba b hb
  have h2 := flat_le (f := fun e : Ed => e.args) (l := b.end_.to) (fun e he => h.ea b hb e he)
  have h3 : b.end_.to.length * 1048576 ≤ 1500 * 1048576 := Nat.mul_le_mul_right _ (h.bt b hb)
  have h4 : (if b.end_.kind = 1 ∨ b.end_.kind = 2 then [b.end_.cond] else []).length ≤ 1 := by split <;> simp
  omega
theorem Bn.ob : OB x := ⟨fun b hb => by have := h.outs b hb; omega, fun b hb => by have := h.bi b hb; omega⟩
theorem Bn.sbd : SBd x :=
  ⟨fun b hb => by have := h.bp b hb; omega, fun b hb => by have := h.bi b hb; omega, fun b hb y hy => ⟨by have := (h.ia b hb y hy).1; omega, by have := (h.ia b hb y hy).2; omega⟩, fun b hb => by have := h.ba b hb; omega, fun b hb => by have := h.bt b hb; omega, fun b hb e he => by have := h.ea b hb e he; omega, fun b hb => by have := h.outs b hb; omega, fun b hb => by have := h.used b hb; omega⟩
theorem Bn.fl : FL x :=
  ⟨by have := h.p; omega, by have := h.r; omega, by have := h.nv; omega, by have := h.nb; omega, by have := h.tt; omega, fun b hb => by have := h.bp b hb; omega, fun b hb => by have := h.bi b hb; omega, fun b hb => by have := h.ba b hb; omega, fun b hb y hy => ⟨by have := (h.ia b hb y hy).1; omega, by have := (h.ia b hb y hy).2; omega⟩, fun b hb e he => by have := h.ea b hb e he; omega⟩
theorem Bn.cnt (k i : Nat) (t : Int) : cntP (x.blocks.map outsB) k i t ≤ 9000000000000000000 := by
  have h0 : ∀ l : List (List Int), (∀ r ∈ l, r.length ≤ 1573912576) → cntT l t ≤ l.length * 1573912576 := fun l => by
    induction l with
    | nil => intro _; simp [cntT]
    | cons a l ih =>
      intro hr
      have h1 := ih (fun r hr' => hr r (by simp [hr']))
      have h2 := hr a (by simp)
      have h3 : a.count t ≤ a.length := List.count_le_length
      unfold cntT at *
      rw [List.map_cons, List.sum_cons, List.length_cons, Nat.succ_mul]
      omega
  have hrow : ∀ r ∈ x.blocks.map outsB, r.length ≤ 1573912576 := fun r hr => by
    obtain ⟨b, hb, rfl⟩ := List.mem_map.1 hr
    exact h.outs b hb
  unfold cntP
  have h1 := h0 ((x.blocks.map outsB).take k) (fun r hr => hrow r (List.mem_of_mem_take hr))
  have h2 : ((x.blocks.map outsB).take k).length ≤ 2000 := by
    rw [List.length_take, List.length_map]
    have := h.nb
    omega
  have h3 : ((x.blocks.map outsB).take k).length * 1573912576 ≤ 2000 * 1573912576 := Nat.mul_le_mul_right _ h2
  have h4 : ((((x.blocks.map outsB).getD k []).take i).count t) ≤ 1573912576 := by
    refine Nat.le_trans List.count_le_length (Nat.le_trans (by rw [List.length_take]; exact Nat.min_le_right _ _) ?_)
    by_cases hk : k < (x.blocks.map outsB).length
    · rw [getD_el _ hk]
      exact hrow _ (List.getElem_mem hk)
    · rw [List.getD_eq_getElem?_getD, List.getElem?_eq_none (by omega)]
      simp
  omega
end
end Go.Proofs.YtiafkakkbbclhaaGreat
namespace Go.Proofs.YtiafkakkbbclhaaGreat
open Go.RowKit
theorem check_yes {m : Md} {f : Sf} {rb : List Bool} (hw : wholeB f = true) (hr : ∀ k : Nat, rb[k]? = some true ↔ Rch (nextOf f.blocks) (fun _ => False) k) (hb : ∀ b (h : b < f.blocks.length), blockB m f (defL f.blocks f.vals.length) (idomF (nextOf f.blocks)) rb b f.blocks[b] = true) : checkB m f := by
  obtain ⟨h1, h2, h3, h4, h5⟩ := (wholeB_iff f).1 hw
  exact ⟨hw, h3, h4, h5, fun b h => (blockB_iff hr h _).1 (hb b h)⟩
theorem check_no {m : Md} {f : Sf} {rb : List Bool} (hr : ∀ k : Nat, rb[k]? = some true ↔ Rch (nextOf f.blocks) (fun _ => False) k) {b : Nat} (h : b < f.blocks.length) (hb : blockB m f (defL f.blocks f.vals.length) (idomF (nextOf f.blocks)) rb b f.blocks[b] = false) : ¬ checkB m f := fun hc => by
  rw [(blockB_iff hr h _).2 (hc.2.blk b h)] at hb
  cases hb
def ChkTo (P : Prop) (w : World) (e : Ending) (w' : World) : Prop := (∃ n er : Int, e = .returned (.tuple #[.int .i64 n, .int .i64 er]) ∧ (er = 0 ↔ P)) ∧ Fr No w w'
section
variable {α : Type} {t : Ty α}
def Eo (t : Ty α) (Y : World) (A : Option Addr) (l : List α) : Prop := t.els Y (fun j => j < Y.heap.size) A l
def Ep (t : Ty α) (Y : World) (p : Nat) (A : Option Addr) (l : List α) : Prop := t.els Y (fun j => j < Y.heap.size ∧ j ≠ p) A l
variable [TyOk t] [TyMore t] {Y Y' : World} {A : Option Addr} {l : List α} {p : Nat}
theorem Eo.fr (h : Eo t Y A l) (f : Fr No Y Y') : Eo t Y' A l := (Ty.els.fr h f (fun j hj => ⟨hj, fun x => x⟩)).more fun j hj => Nat.lt_of_lt_of_le hj f.size
theorem Ep.fr (h : Ep t Y p A l) (f : Fr No Y Y') : Ep t Y' p A l := (Ty.els.fr h f (fun j hj => ⟨hj.1, fun x => x⟩)).more fun j hj => ⟨Nat.lt_of_lt_of_le hj.1 f.size, hj.2⟩
theorem Ep.put (h : Ep t Y p A l) (f : Fr (fun q => q = p) Y Y') : Ep t Y' p A l := (Ty.els.fr h f (fun j hj => ⟨hj.1, hj.2⟩)).more fun j hj => ⟨Nat.lt_of_lt_of_le hj.1 f.size, hj.2⟩
theorem Eo.alloc (h : Eo t Y A l) (ob : Obj) : Ep t (Y.alloc ob) Y.heap.size A l := (Ty.els.fr h ((Fr.refl No Y).alloc ob) (fun j hj => ⟨hj, fun x => x⟩)).more fun j hj => ⟨Nat.lt_of_lt_of_le hj ((Fr.refl No Y).alloc ob).size, Nat.ne_of_lt hj⟩
omit [TyOk t] in
theorem el_new (h : t.els Y' (fun k => Y.heap.size ≤ k ∧ k < Y'.heap.size) A l) : Eo t Y' A l := Ty.els.more h fun j hj => hj.2
omit [TyOk t] in
theorem ep_new (h : t.els Y' (fun k => Y.heap.size ≤ k ∧ k < Y'.heap.size) A l) (hp : p < Y.heap.size) : Ep t Y' p A l := Ty.els.more h fun j hj => ⟨hj.2, fun e => by omega⟩
omit [TyOk t] in
theorem Ep.all (h : Ep t Y p A l) : t.els Y (fun j => j < Y.heap.size) A l := Ty.els.more h fun j hj => hj.1
end
theorem wpT_load {P : Program} {ops : Array Oper} {Q : Exit → Act → World → Prop} {S : World → Prop} {i : Nat} {op : Oper} {r : OT} {a : Act} {w : World} (ho : ops[i]? = some op) (hw : Region.wanted op (yielded ops a.tmps) = true) (ty : TypeId) (x : Operand) (hop : op.op = .load ty x)
    (b q : Nat) (hx : a.eval x = .pointer (some ⟨b, q, none⟩)) (cs : List Value) (dd : TypeDesc) (hc : ∀ X, S X → X.rangeAt b q cs) (hu : P.underlying ty = some dd) (hd : dd.isRow = true) (hi : (P.info? ty).map (·.size) = some cs.length)
    (h : wpT P ops Q S r (a.put op.dst (.agg cs.toArray)) w) : wpT P ops Q S (.rd i r) a w :=
  wpT_call ho hw ⟨_, fun X hX => by unfold execOp; simp only [hop, hx, Instr.loadAt, Instr.sureAddr, Sem.run_bind, Sem.run_pure, Result.andThen_ok, run_loadVar_mid X b q ty cs dd (hc X hX) hu hd hi]; exact stillUpon_value, h⟩
theorem wpT_build {P : Program} {ops : Array Oper} {Q : Exit → Act → World → Prop} {S : World → Prop} {i : Nat} {op : Oper} {r : OT} {a : Act} {w : World} (ho : ops[i]? = some op) (hw : Region.wanted op (yielded ops a.tmps) = true) (ty : TypeId) (parts : Array (Nat × Operand)) (hop : op.op = .build ty parts)
    (cs : Array Value) (hb : P.built ty (parts.map fun (i, x) => (i, a.eval x)).toList = some cs)
    (h : wpT P ops Q S r (a.put op.dst (.agg cs)) w) : wpT P ops Q S (.rd i r) a w :=
  wpT_call ho hw ⟨_, fun X hX => by unfold execOp; simp only [hop, Sem.run_bind, run_build X ty _ cs hb, Result.andThen_ok]; exact stillUpon_value, h⟩
theorem list12 {l : List Value} (h : l.length = 12) : ∃ a0 a1 a2 a3 a4 a5 a6 a7 a8 a9 a10 a11, l = [a0, a1, a2, a3, a4, a5, a6, a7, a8, a9, a10, a11] := by
  match l, h with
  | [a0, a1, a2, a3, a4, a5, a6, a7, a8, a9, a10, a11], _ => exact ⟨a0, a1, a2, a3, a4, a5, a6, a7, a8, a9, a10, a11, rfl⟩
theorem look_built {mc : List Value} (h : mc.length = 12) (a b c d : Value) (A1 A2 A3 : Option Addr) (n1 n2 n3 c1 c2 c3 : Nat) : Tryz.prog.built 73 [(0, .agg mc.toArray), (1, .agg #[a, b, c, d]), (2, .slice A1 n1 c1), (3, .slice A2 n2 c2), (4, .slice A3 n3 c3)] = some (mc ++ [a, b, c, d, .slice A1 n1 c1, .slice A2 n2 c2, .slice A3 n3 c3]).toArray := by
  obtain ⟨a0, a1, a2, a3, a4, a5, a6, a7, a8, a9, a10, a11, rfl⟩ := list12 h
  kernel_rfl
end Go.Proofs.YtiafkakkbbclhaaGreat
namespace Go.Proofs.YtiafkakkbbclhaaGreat
open Go.RowKit
theorem whole_no {m : Md} {f : Sf} (h : wholeB f = false) : ¬ checkB m f := fun hc => by rw [hc.1] at h; cases h
theorem bx2 (w : World) (D E : Array Value) (T U : TypeId) : Hid (Fr No w ((w.alloc (.cells D T)).alloc (.cells E U))) ∧ Hid (Blk ((w.alloc (.cells D T)).alloc (.cells E U)) w.heap.size T D) ∧ Hid (Blk ((w.alloc (.cells D T)).alloc (.cells E U)) (w.heap.size + 1) U E) :=
  ⟨((Fr.refl No w).alloc _).alloc _, (Blk.new w _ _).alloc _, Blk.new1 w _ _ _⟩
theorem MW.all {w w' : World} {S : Nat → Prop} {mc : List Value} {m : Md} (h : MW w S mc m) (f : Fr No w w') : MW w' (fun j => j < w'.heap.size) mc m := ⟨(inferInstance : TyMore tMd).more _ _ _ _ _ (h.fr f).rd (h.fr f).lt, fun _ h => h⟩
theorem FW.all {w w' : World} {S : Nat → Prop} {fc : List Value} {x : Sf} (h : FW w S fc x) (f : Fr No w w') : FW w' (fun j => j < w'.heap.size) fc x := ⟨(inferInstance : TyMore tSf).more _ _ _ _ _ (h.fr f).rd (h.fr f).lt, fun _ h => h⟩
theorem lw_mk {w wc : World} {S : Nat → Prop} {mc : List Value} {m : Md} {x : Sf} {AP AR AV AB AI AD AE : Option Addr} {cP cR cV cB cI cD cE p : Nat} {im ds : List Int} {rb : List Bool} (hm : MW w S mc m) (hf : FW w S [.slice AP x.type.params.length cP, .slice AR x.type.results.length cR, .slice AV x.vals.length cV, .slice AB x.blocks.length cB] x) (f : Fr No w wc)
    (h1 : Ep tI wc p AI im) (h2 : Ep tI wc p AD ds) (h3 : Ep Ty.bool wc p AE rb) (l1 : im.length = x.blocks.length) (l2 : ds.length = x.vals.length) (l3 : rb.length = x.blocks.length) :
    LW wc (fun j => j < wc.heap.size) (mc ++ [.slice AP x.type.params.length cP, .slice AR x.type.results.length cR, .slice AV x.vals.length cV, .slice AB x.blocks.length cB, .slice AI x.blocks.length cI, .slice AD x.vals.length cD, .slice AE x.blocks.length cE]) mc m ⟨AP, cP, AR, cR, AV, cV, AB, cB, AI, cI, AD, cD, AE, cE⟩ x im ds rb := by
  have hl := hm.len
  have g : ∀ i, (mc ++ [Value.slice AP x.type.params.length cP, .slice AR x.type.results.length cR, .slice AV x.vals.length cV, .slice AB x.blocks.length cB, .slice AI x.blocks.length cI, .slice AD x.vals.length cD, .slice AE x.blocks.length cE])[12 + i]? = [Value.slice AP x.type.params.length cP, .slice AR x.type.results.length cR, .slice AV x.vals.length cV, .slice AB x.blocks.length cB, .slice AI x.blocks.length cI, .slice AD x.vals.length cD, .slice AE x.blocks.length cE][i]? := fun i => by
    rw [List.getElem?_append_right (by omega), hl, Nat.add_sub_cancel_left]
  refine ⟨by rw [List.length_append, hl]; rfl, by rw [← hl]; exact List.take_left, fun u hu => ?_, g 0, g 1, g 2, g 3, g 4, g 5, g 6, hm.all f, (hf.all f).rd, h1.all, h2.all, h3.all, l1, l2, l3⟩
  rcases List.mem_append.1 hu with hu | hu
  · exact hm.one u hu
  · simp only [List.mem_cons, List.not_mem_nil, or_false] at hu
    rcases hu with rfl | rfl | rfl | rfl | rfl | rfl | rfl <;> rfl
theorem look_put {Y W1 : World} {p : Nat} {z : Array Value} {lc : List Value} (HO : Blk Y p 73 z) (hz : z.size = 19) (hl : lc.length = 19) (hp : W1.heap.size ≤ p) (F : Fr No W1 Y) : Fr No W1 (Y.setCells p 0 lc) ∧ Fr (fun q => q = p) Y (Y.setCells p 0 lc) ∧ (Y.setCells p 0 lc).rangeAt p 0 lc ∧ p < (Y.setCells p 0 lc).heap.size ∧ Y.there p 0 lc.toArray.size := by
  have T : Y.there p 0 lc.length := there_blk HO (hz.trans hl.symm)
  have F2 := Fr.setCells' (a := Y) (M := fun q => q = p) (b := p) (fun _ => rfl) lc 0 _ (Fr.refl _ Y)
  exact ⟨Fr.setCells' (a := W1) (M := No) (b := p) (fun h => by omega) lc 0 _ F, F2, World.rangeAt_setCells_same Y p 0 lc T, Nat.lt_of_lt_of_le HO.lt F2.size, T⟩
theorem look_len {mc : List Value} (h : mc.length = 12) (a b c d u v x : Value) : (mc ++ [a, b, c, d, u, v, x]).length = 19 := by rw [List.length_append, h]; rfl
theorem look_one {mc : List Value} (h : ∀ u ∈ mc, u.oneCell' = true) (A1 A2 A3 A4 A5 A6 A7 : Option Addr) (n1 n2 n3 n4 n5 n6 n7 c1 c2 c3 c4 c5 c6 c7 : Nat) : (mc ++ [Value.slice A1 n1 c1, .slice A2 n2 c2, .slice A3 n3 c3, .slice A4 n4 c4, .slice A5 n5 c5, .slice A6 n6 c6, .slice A7 n7 c7]).toArray.all (·.oneCell') = true := by
  rw [Array.all_eq_true']
  intro u hu
  rcases List.mem_append.1 (List.mem_toArray.1 hu) with hu | hu
  · exact h u hu
  · simp only [List.mem_cons, List.not_mem_nil, or_false] at hu
    rcases hu with rfl | rfl | rfl | rfl | rfl | rfl | rfl <;> rfl
theorem check39_any {w : World} {S : Nat → Prop} {mc fc : List Value} {m : Md} {x : Sf} (hm : MW w S mc m) (hf : FW w S fc x) (B : MdB m) (hd : m.datas ≤ 1000000000000) (bn : Bn x) :
    Calls Tryz.prog 7 #[.agg mc.toArray, .agg fc.toArray] w (ChkTo (checkB m x) w) := by
  obtain ⟨AP, cP, AR, cR, AV, cV, AB, cB, rfl, -⟩ := Sf_cells hf.rd
  obtain ⟨F0, M0, G0⟩ := bx2 w mc.toArray #[.slice AP x.type.params.length cP, .slice AR x.type.results.length cR, .slice AV x.vals.length cV, .slice AB x.blocks.length cB] 33 39
  have hnb := bn.nb
  have hnv := bn.nv
  have hbt : ∀ b ∈ x.blocks, b.end_.to.length ≤ 100000 := fun b hb => Nat.le_trans (bn.bt b hb) (by decide)
  have HWH := hid (fun (W : World) (f : Fr No w W) => whole_any (hf.fr f) bn.ob bn.cnt (by omega) (by omega) (by have := bn.p; omega) (by have := bn.r; omega))
  have HNX := hid (fun (W : World) (f : Fr No w W) => next_any (hf.fr f) (by omega) hbt)
  have HOF := hid (fun (W : World) (A : Option Addr) (c : Nat) (Sx : Nat → Prop) (h : tI.slice.els W Sx A (nextOf x.blocks)) (hs : ∀ k, Sx k → k < W.heap.size) => of37_any A c (nextOf x.blocks) Sx W h hs (by rw [next_len]; omega))
  have HDF := hid (fun (hne : x.blocks ≠ []) (W : World) (f : Fr No w W) => defs_any (hf.fr f) bn.ob hne (by omega) (by omega))
  have HRE := hid (fun (W : World) (f : Fr No w W) => reached39_any (hf.fr f) (by omega) hbt)
  have HBK := hid (fun (W : World) (S' : Nat → Prop) (lc : List Value) (k : Lk) (im ds : List Int) (rb : List Bool) (h : LW W S' lc mc m k x im ds rb) (b : Nat) (hb : b < x.blocks.length) => block39_any h B hd (by omega) (by omega) (by have := bn.p; omega) (by have := bn.r; omega) bn.sbd b hb)
  have HNW := hid (fun (h : wholeB x = false) => whole_no (m := m) h)
  have HNE := hid (fun (h : wholeB x = true) => ((wholeB_iff x).1 h).2.2.1)
  have HYES := hid (fun (hw : wholeB x = true) (rb : List Bool) (hr : ∀ k : Nat, rb[k]? = some true ↔ Rch (nextOf x.blocks) (fun _ => False) k) => check_yes (m := m) hw hr)
  have HNO := hid (fun (rb : List Bool) (hr : ∀ k : Nat, rb[k]? = some true ↔ Rch (nextOf x.blocks) (fun _ => False) k) (b : Nat) (h : b < x.blocks.length) => check_no (m := m) hr h)
  have HLW := hid (fun (wc : World) (f : Fr No w wc) (AI AD AE : Option Addr) (cI cD cE p : Nat) (im ds : List Int) (rb : List Bool) (h1 : Ep tI wc p AI im) (h2 : Ep tI wc p AD ds) (h3 : Ep Ty.bool wc p AE rb) => lw_mk (cI := cI) (cD := cD) (cE := cE) hm hf f h1 h2 h3)
  have HLM := hid hm.len
  have HMO := hid hm.one
  have HLN := hid (next_len x.blocks)
  have HIM : Hid ((Tryz.prog.info? 33).map (·.size) = some 12) := by unfold Hid; kernel_rfl
  have HI : Hid ((Tryz.prog.info? 73).map (·.size) = some 19) := by unfold Hid; kernel_rfl
  have HIL : Hid ((idomF (nextOf x.blocks)).length = x.blocks.length) := hid (by rw [idomF_len, next_len])
  have HDL : Hid ((defL x.blocks x.vals.length).length = x.vals.length) := hid (by simp [defL])
  unfold ChkTo OvTo NxTo OfTo IntsTo RdTo at *
  generalize checkB m x = CB at *
  generalize wholeB x = wb at *
  clear hm hf B hd bn hbt
  generalize nextOf x.blocks = nx at *
  generalize defL x.blocks x.vals.length = ds at *
  obtain ⟨nb, hb'⟩ : ∃ n, x.blocks.length = n := ⟨_, rfl⟩
  obtain ⟨nv, hv'⟩ : ∃ n, x.vals.length = n := ⟨_, rfl⟩
  obtain ⟨np, hp'⟩ : ∃ n, x.type.params.length = n := ⟨_, rfl⟩
  obtain ⟨nr, hr'⟩ : ∃ n, x.type.results.length = n := ⟨_, rfl⟩
  have HNB := hid hb'
  have HNV := hid hv'
  rw [hb', hv', hp', hr'] at F0 M0 G0 HWH HNX HDF HRE HLW
  rw [hb'] at hnb HIL HLN
  rw [HLN.out] at HNX HOF HRE
  rw [hv'] at hnv HDL
  rw [HDL.out] at HDF
  rw [hb', hv', hp', hr']
  clear hb' hv' hp' hr'
  have d1 : decide ((8192 : Int) < nb) = false := decide_eq_false (by omega)
  have d2 : decide ((65536 : Int) < nv) = false := decide_eq_false (by omega)
  go_enter Tryz.func7, Tryz.ntmps7
  go_upto_region 1 with fail
  generalize (w.alloc (.cells mc.toArray 33)).alloc (.cells #[.slice AP np cP, .slice AR nr cR, .slice AV nv cV, .slice AB nb cB] 39) = W0 at *
  obtain ⟨q, hq⟩ : ∃ q, w.heap.size = q := ⟨_, rfl⟩
  have HQ := hid hq
  rw [hq] at G0 M0 ⊢
  clear hq
  have y0 := G0.out.cell 0
  have y1 := G0.out.cell 1
  have y2 := G0.out.cell 2
  have y3 := G0.out.cell 3
  go_wp2_with fail
  refine (HWH.out W0 F0.out).mono ?_
  rintro e W1 ⟨rfl, f⟩
  have F1 := hid (F0.out.trans f (fun _ _ h => h))
  have G1 := hid (G0.out.fr f (fun x => x))
  have M1 := hid (M0.out.fr f (fun x => x))
  clear HWH f F0 G0 M0 y0 y1 y2 y3
  cases wb with
  | false =>
    have hno := hid (HNW.out rfl)
    clear HNW HNE HYES HNO HLW
    go_wp2
    go_ret2
    exact ⟨⟨0, 29, rfl, ⟨fun h => absurd h (by decide), fun h => absurd h hno.out⟩⟩, F1.out⟩
  | true =>
    replace HYES := hid (HYES.out rfl)
    replace HDF := hid (HDF.out (HNE.out rfl))
    clear HNW HNE
    go_upto_region 5 with fail
    have HX : Hid (∀ X, Fr No W1 X → X.cell? ⟨q + 1, 0, none⟩ = some (.slice AP np cP) ∧ X.cell? ⟨q + 1, 1, none⟩ = some (.slice AR nr cR) ∧ X.cell? ⟨q + 1, 2, none⟩ = some (.slice AV nv cV) ∧ X.cell? ⟨q + 1, 3, none⟩ = some (.slice AB nb cB)) := hid fun X f => by
      have g := G1.out.fr f (fun x => x)
      exact ⟨g.cell 0, g.cell 1, g.cell 2, g.cell 3⟩
    have HXM : Hid (∀ X, Fr No W1 X → X.rangeAt q 0 mc) := hid fun X f => rangeL (M1.out.fr f (fun x => x))
    go_cut [6] (fun v6 wx => ∃ (p : Nat) (lc : List Value) (k : Lk) (rb : List Bool), v6 = .pointer (some ⟨p, 0, none⟩) ∧ Hid (LW wx (fun j => j < wx.heap.size) lc mc m k x (idomF nx) ds rb) ∧ Hid (wx.rangeAt p 0 lc) ∧ Hid (p < wx.heap.size) ∧ Hid (Fr No W1 wx) ∧ Hid (∀ j : Nat, rb[j]? = some true ↔ Rch nx (fun _ => False) j))
    case first =>
      refine wp_region_ort (Fr No W1) (.rd 0 (.rd 1 (.rd 2 (.rd 5 (.rd 7 (.alt 3 (.alt 4 (.alt 6 (.alt 8 (.rd 9 (.eff 10 (.eff 11 .nil))) 10 (.eff 8 (.rd 9 (.eff 11 .nil)))) 10 (.eff 6 (.eff 8 (.rd 9 (.eff 11 .nil))))) 10 (.eff 4 (.eff 6 (.eff 8 (.rd 9 (.eff 11 .nil)))))) 10 (.eff 3 (.eff 4 (.eff 6 (.eff 8 (.rd 9 (.eff 11 .nil)))))))))))) (by kernel_rfl) (by kernel_rfl) (by kernel_rfl) rfl (Fr.refl _ W1).drew ?_
      refine wpT_load rfl rfl 33 _ rfl q 0 (by rfl) mc _ (fun X hX => HXM.out X hX) Tryz.underlying33 (by rfl) (by rw [HLM.out]; exact HIM.out) ?_
      repeat (first | refine tS ?_ | refine tX HX.out ?_)
      have F := hid (Fr.refl No W1).drew
      generalize W1.drew = Wd at *
      refine wpT_alt ?_ ?_
      · skip
        refine wpT_eff rfl rfl (fun K hK => ?_)
        simp only [zA]
        go_simp
        refine (HNX.out _ (F1.out.trans F.out (fun _ _ h => h))).mono ?_
        rintro e Y1 ⟨A3, c3, rfl, hels, f⟩
        have E3n := hid (el_new hels)
        have Fn := hid (F.out.trans f (fun _ _ h => h))
        clear hels f F
        have F := Fn
        have E3 := E3n
        clear Fn E3n
        refine hK _ _ (F.out) ?_
        clear hK K
        repeat (first | refine tS ?_ | refine tX HX.out ?_)
        refine wpT_alt ?_ ?_
        · skip
          refine wpT_eff rfl rfl (fun K hK => ?_)
          simp only [zA]
          go_simp
          refine (HOF.out _ A3 c3 _ E3.out (fun k hk => hk)).mono ?_
          rintro e Y1 ⟨A4, c4, rfl, hels, f⟩
          have E4n := hid (el_new hels)
          have Fn := hid (F.out.trans f (fun _ _ h => h))
          clear hels f F E3
          have F := Fn
          have E4 := E4n
          clear Fn E4n
          refine hK _ _ (F.out) ?_
          clear hK K
          repeat (first | refine tS ?_ | refine tX HX.out ?_)
          refine wpT_alt ?_ ?_
          · skip
            refine wpT_eff rfl rfl (fun K hK => ?_)
            simp only [zA]
            go_simp
            refine (HDF.out _ (F1.out.trans F.out (fun _ _ h => h))).mono ?_
            rintro e Y1 ⟨A6, c6, rfl, hels, f⟩
            have E6n := hid (el_new hels)
            have Fn := hid (F.out.trans f (fun _ _ h => h))
            replace E4 := hid (E4.out.fr f)
            clear hels f F
            have F := Fn
            have E6 := E6n
            clear Fn E6n
            refine hK _ _ (F.out) ?_
            clear hK K
            repeat (first | refine tS ?_ | refine tX HX.out ?_)
            refine wpT_alt ?_ ?_
            · skip
              refine wpT_eff rfl rfl (fun K hK => ?_)
              simp only [zA]
              go_simp
              refine (HRE.out _ (F1.out.trans F.out (fun _ _ h => h))).mono ?_
              rintro e Y1 ⟨A8, c8, rb, rfl, hrl, hrb, hels, f⟩
              rw [hrl]
              have HRL := hid hrl
              have HRB := hid hrb
              have E8n := hid (el_new hels)
              have Fn := hid (F.out.trans f (fun _ _ h => h))
              replace E4 := hid (E4.out.fr f)
              replace E6 := hid (E6.out.fr f)
              clear hels f F hrl hrb
              have F := Fn
              have E8 := E8n
              clear Fn E8n
              refine hK _ _ (F.out) ?_
              clear hK K
              repeat (first | refine tS ?_ | refine tX HX.out ?_)
              refine wpT_build rfl rfl 73 _ rfl _ (by simp only [List.map_toArray, List.map_cons, List.map_nil]; exact look_built HLM.out _ _ _ _ _ _ _ _ _ _ _ _ _) ?_
              refine wpT_eff rfl rfl (fun K hK => ?_)
              simp only [zA]
              go_simp
              have HOn := hid (Blk.new (Y1) 73 #[.slice none 0 0, .slice none 0 0, .slice none 0 0, .slice none 0 0, .slice none 0 0, .slice none 0 0, .slice none 0 0, .bool false, .int .i64 0, .slice none 0 0, .slice none 0 0, .slice none 0 0, .slice none 0 0, .slice none 0 0, .slice none 0 0, .slice none 0 0, .slice none 0 0, .slice none 0 0, .slice none 0 0])
              have Fn := hid (F.out.alloc (.cells #[.slice none 0 0, .slice none 0 0, .slice none 0 0, .slice none 0 0, .slice none 0 0, .slice none 0 0, .slice none 0 0, .bool false, .int .i64 0, .slice none 0 0, .slice none 0 0, .slice none 0 0, .slice none 0 0, .slice none 0 0, .slice none 0 0, .slice none 0 0, .slice none 0 0, .slice none 0 0, .slice none 0 0] 73))
              have PG := hid F.out.size
              replace E4 := hid (E4.out.alloc (.cells #[.slice none 0 0, .slice none 0 0, .slice none 0 0, .slice none 0 0, .slice none 0 0, .slice none 0 0, .slice none 0 0, .bool false, .int .i64 0, .slice none 0 0, .slice none 0 0, .slice none 0 0, .slice none 0 0, .slice none 0 0, .slice none 0 0, .slice none 0 0, .slice none 0 0, .slice none 0 0, .slice none 0 0] 73))
              replace E6 := hid (E6.out.alloc (.cells #[.slice none 0 0, .slice none 0 0, .slice none 0 0, .slice none 0 0, .slice none 0 0, .slice none 0 0, .slice none 0 0, .bool false, .int .i64 0, .slice none 0 0, .slice none 0 0, .slice none 0 0, .slice none 0 0, .slice none 0 0, .slice none 0 0, .slice none 0 0, .slice none 0 0, .slice none 0 0, .slice none 0 0] 73))
              replace E8 := hid (E8.out.alloc (.cells #[.slice none 0 0, .slice none 0 0, .slice none 0 0, .slice none 0 0, .slice none 0 0, .slice none 0 0, .slice none 0 0, .bool false, .int .i64 0, .slice none 0 0, .slice none 0 0, .slice none 0 0, .slice none 0 0, .slice none 0 0, .slice none 0 0, .slice none 0 0, .slice none 0 0, .slice none 0 0, .slice none 0 0] 73))
              clear F
              have F := Fn
              have HO := HOn
              clear Fn HOn
              have PL := hid HO.out.lt
              obtain ⟨p, hp⟩ : ∃ p, (Y1).heap.size = p := ⟨_, rfl⟩
              rw [hp] at HO PL PG E4 E6 E8 ⊢
              clear hp
              generalize (Y1).alloc (.cells #[.slice none 0 0, .slice none 0 0, .slice none 0 0, .slice none 0 0, .slice none 0 0, .slice none 0 0, .slice none 0 0, .bool false, .int .i64 0, .slice none 0 0, .slice none 0 0, .slice none 0 0, .slice none 0 0, .slice none 0 0, .slice none 0 0, .slice none 0 0, .slice none 0 0, .slice none 0 0, .slice none 0 0] 73) = Yz at *
              refine hK _ _ (F.out) ?_
              clear hK K
              repeat (first | refine tS ?_ | refine tX HX.out ?_)
              obtain ⟨FS, FS2, NS, QL, TH⟩ := look_put (lc := (mc ++ [Value.slice AP np cP, Value.slice AR nr cR, Value.slice AV nv cV, Value.slice AB nb cB, Value.slice A4 nb c4, Value.slice A6 nv c6, Value.slice A8 nb c8])) HO.out rfl (look_len HLM.out _ _ _ _ _ _ _) PG.out F.out
              have HW := hid (HLW.out _ (F1.out.trans FS (fun _ _ h => h)) A4 A6 A8 c4 c6 c8 p (idomF nx) ds rb (E4.out.put FS2) (E6.out.put FS2) (E8.out.put FS2) HIL.out HDL.out HRL.out)
              replace FS := hid FS
              replace NS := hid NS
              replace QL := hid QL
              replace TH := hid TH
              clear FS2
              refine wpT_eff rfl rfl (fun K hK => ?_)
              simp only [List.getElem_toArray, List.getElem_cons_succ, List.getElem_cons_zero]
              refine wp_store_mid 73 _ _ (by rfl) p 0 ((mc ++ [Value.slice AP np cP, Value.slice AR nr cR, Value.slice AV nv cV, Value.slice AB nb cB, Value.slice A4 nb c4, Value.slice A6 nv c6, Value.slice A8 nb c8])).toArray (by rfl) (by rfl) TH.out (by rw [List.size_toArray, look_len HLM.out]; exact HI.out) (look_one HMO.out _ _ _ _ _ _ _ _ _ _ _ _ _ _ _ _ _ _ _ _ _) ?_
              refine hK _ _ FS.out ?_
              clear hK K
              refine wpT_nil ?_
              go_wp2_with fail
              go_meet
              case rel => exact ⟨p, (mc ++ [Value.slice AP np cP, Value.slice AR nr cR, Value.slice AV nv cV, Value.slice AB nb cB, Value.slice A4 nb c4, Value.slice A6 nv c6, Value.slice A8 nb c8]), _, rb, rfl, HW, NS, QL, FS, HRB⟩
            · skip
              refine wpT_eff rfl rfl (fun K hK => ?_)
              simp only [zA]
              go_simp
              have HOn := hid (Blk.new (Y1) 73 #[.slice none 0 0, .slice none 0 0, .slice none 0 0, .slice none 0 0, .slice none 0 0, .slice none 0 0, .slice none 0 0, .bool false, .int .i64 0, .slice none 0 0, .slice none 0 0, .slice none 0 0, .slice none 0 0, .slice none 0 0, .slice none 0 0, .slice none 0 0, .slice none 0 0, .slice none 0 0, .slice none 0 0])
              have Fn := hid (F.out.alloc (.cells #[.slice none 0 0, .slice none 0 0, .slice none 0 0, .slice none 0 0, .slice none 0 0, .slice none 0 0, .slice none 0 0, .bool false, .int .i64 0, .slice none 0 0, .slice none 0 0, .slice none 0 0, .slice none 0 0, .slice none 0 0, .slice none 0 0, .slice none 0 0, .slice none 0 0, .slice none 0 0, .slice none 0 0] 73))
              have PG := hid F.out.size
              replace E4 := hid (E4.out.alloc (.cells #[.slice none 0 0, .slice none 0 0, .slice none 0 0, .slice none 0 0, .slice none 0 0, .slice none 0 0, .slice none 0 0, .bool false, .int .i64 0, .slice none 0 0, .slice none 0 0, .slice none 0 0, .slice none 0 0, .slice none 0 0, .slice none 0 0, .slice none 0 0, .slice none 0 0, .slice none 0 0, .slice none 0 0] 73))
              replace E6 := hid (E6.out.alloc (.cells #[.slice none 0 0, .slice none 0 0, .slice none 0 0, .slice none 0 0, .slice none 0 0, .slice none 0 0, .slice none 0 0, .bool false, .int .i64 0, .slice none 0 0, .slice none 0 0, .slice none 0 0, .slice none 0 0, .slice none 0 0, .slice none 0 0, .slice none 0 0, .slice none 0 0, .slice none 0 0, .slice none 0 0] 73))
              clear F
              have F := Fn
              have HO := HOn
              clear Fn HOn
              have PL := hid HO.out.lt
              obtain ⟨p, hp⟩ : ∃ p, (Y1).heap.size = p := ⟨_, rfl⟩
              rw [hp] at HO PL PG E4 E6 ⊢
              clear hp
              generalize (Y1).alloc (.cells #[.slice none 0 0, .slice none 0 0, .slice none 0 0, .slice none 0 0, .slice none 0 0, .slice none 0 0, .slice none 0 0, .bool false, .int .i64 0, .slice none 0 0, .slice none 0 0, .slice none 0 0, .slice none 0 0, .slice none 0 0, .slice none 0 0, .slice none 0 0, .slice none 0 0, .slice none 0 0, .slice none 0 0] 73) = Yz at *
              refine hK _ _ (F.out) ?_
              clear hK K
              repeat (first | refine tS ?_ | refine tX HX.out ?_)
              refine wpT_eff rfl rfl (fun K hK => ?_)
              simp only [zA]
              go_simp
              refine (HRE.out _ (F1.out.trans F.out (fun _ _ h => h))).mono ?_
              rintro e Y1 ⟨A8, c8, rb, rfl, hrl, hrb, hels, f⟩
              rw [hrl]
              have HRL := hid hrl
              have HRB := hid hrb
              have E8n := hid (ep_new hels PL.out)
              have Fn := hid (F.out.trans f (fun _ _ h => h))
              replace E4 := hid (E4.out.fr f)
              replace E6 := hid (E6.out.fr f)
              replace HO := hid (HO.out.fr f (fun x => x))
              replace PL := hid HO.out.lt
              clear hels f F hrl hrb
              have F := Fn
              have E8 := E8n
              clear Fn E8n
              refine hK _ _ (F.out) ?_
              clear hK K
              repeat (first | refine tS ?_ | refine tX HX.out ?_)
              refine wpT_build rfl rfl 73 _ rfl _ (by simp only [List.map_toArray, List.map_cons, List.map_nil]; exact look_built HLM.out _ _ _ _ _ _ _ _ _ _ _ _ _) ?_
              obtain ⟨FS, FS2, NS, QL, TH⟩ := look_put (lc := (mc ++ [Value.slice AP np cP, Value.slice AR nr cR, Value.slice AV nv cV, Value.slice AB nb cB, Value.slice A4 nb c4, Value.slice A6 nv c6, Value.slice A8 nb c8])) HO.out rfl (look_len HLM.out _ _ _ _ _ _ _) PG.out F.out
              have HW := hid (HLW.out _ (F1.out.trans FS (fun _ _ h => h)) A4 A6 A8 c4 c6 c8 p (idomF nx) ds rb (E4.out.put FS2) (E6.out.put FS2) (E8.out.put FS2) HIL.out HDL.out HRL.out)
              replace FS := hid FS
              replace NS := hid NS
              replace QL := hid QL
              replace TH := hid TH
              clear FS2
              refine wpT_eff rfl rfl (fun K hK => ?_)
              simp only [List.getElem_toArray, List.getElem_cons_succ, List.getElem_cons_zero]
              refine wp_store_mid 73 _ _ (by rfl) p 0 ((mc ++ [Value.slice AP np cP, Value.slice AR nr cR, Value.slice AV nv cV, Value.slice AB nb cB, Value.slice A4 nb c4, Value.slice A6 nv c6, Value.slice A8 nb c8])).toArray (by rfl) (by rfl) TH.out (by rw [List.size_toArray, look_len HLM.out]; exact HI.out) (look_one HMO.out _ _ _ _ _ _ _ _ _ _ _ _ _ _ _ _ _ _ _ _ _) ?_
              refine hK _ _ FS.out ?_
              clear hK K
              refine wpT_nil ?_
              go_wp2_with fail
              go_meet
              case rel => exact ⟨p, (mc ++ [Value.slice AP np cP, Value.slice AR nr cR, Value.slice AV nv cV, Value.slice AB nb cB, Value.slice A4 nb c4, Value.slice A6 nv c6, Value.slice A8 nb c8]), _, rb, rfl, HW, NS, QL, FS, HRB⟩
          · skip
            refine wpT_eff rfl rfl (fun K hK => ?_)
            simp only [zA]
            go_simp
            have HOn := hid (Blk.new (Y1) 73 #[.slice none 0 0, .slice none 0 0, .slice none 0 0, .slice none 0 0, .slice none 0 0, .slice none 0 0, .slice none 0 0, .bool false, .int .i64 0, .slice none 0 0, .slice none 0 0, .slice none 0 0, .slice none 0 0, .slice none 0 0, .slice none 0 0, .slice none 0 0, .slice none 0 0, .slice none 0 0, .slice none 0 0])
            have Fn := hid (F.out.alloc (.cells #[.slice none 0 0, .slice none 0 0, .slice none 0 0, .slice none 0 0, .slice none 0 0, .slice none 0 0, .slice none 0 0, .bool false, .int .i64 0, .slice none 0 0, .slice none 0 0, .slice none 0 0, .slice none 0 0, .slice none 0 0, .slice none 0 0, .slice none 0 0, .slice none 0 0, .slice none 0 0, .slice none 0 0] 73))
            have PG := hid F.out.size
            replace E4 := hid (E4.out.alloc (.cells #[.slice none 0 0, .slice none 0 0, .slice none 0 0, .slice none 0 0, .slice none 0 0, .slice none 0 0, .slice none 0 0, .bool false, .int .i64 0, .slice none 0 0, .slice none 0 0, .slice none 0 0, .slice none 0 0, .slice none 0 0, .slice none 0 0, .slice none 0 0, .slice none 0 0, .slice none 0 0, .slice none 0 0] 73))
            clear F
            have F := Fn
            have HO := HOn
            clear Fn HOn
            have PL := hid HO.out.lt
            obtain ⟨p, hp⟩ : ∃ p, (Y1).heap.size = p := ⟨_, rfl⟩
            rw [hp] at HO PL PG E4 ⊢
            clear hp
            generalize (Y1).alloc (.cells #[.slice none 0 0, .slice none 0 0, .slice none 0 0, .slice none 0 0, .slice none 0 0, .slice none 0 0, .slice none 0 0, .bool false, .int .i64 0, .slice none 0 0, .slice none 0 0, .slice none 0 0, .slice none 0 0, .slice none 0 0, .slice none 0 0, .slice none 0 0, .slice none 0 0, .slice none 0 0, .slice none 0 0] 73) = Yz at *
            refine hK _ _ (F.out) ?_
            clear hK K
            repeat (first | refine tS ?_ | refine tX HX.out ?_)
            refine wpT_eff rfl rfl (fun K hK => ?_)
            simp only [zA]
            go_simp
            refine (HDF.out _ (F1.out.trans F.out (fun _ _ h => h))).mono ?_
            rintro e Y1 ⟨A6, c6, rfl, hels, f⟩
            have E6n := hid (ep_new hels PL.out)
            have Fn := hid (F.out.trans f (fun _ _ h => h))
            replace E4 := hid (E4.out.fr f)
            replace HO := hid (HO.out.fr f (fun x => x))
            replace PL := hid HO.out.lt
            clear hels f F
            have F := Fn
            have E6 := E6n
            clear Fn E6n
            refine hK _ _ (F.out) ?_
            clear hK K
            repeat (first | refine tS ?_ | refine tX HX.out ?_)
            refine wpT_eff rfl rfl (fun K hK => ?_)
            simp only [zA]
            go_simp
            refine (HRE.out _ (F1.out.trans F.out (fun _ _ h => h))).mono ?_
            rintro e Y1 ⟨A8, c8, rb, rfl, hrl, hrb, hels, f⟩
            rw [hrl]
            have HRL := hid hrl
            have HRB := hid hrb
            have E8n := hid (ep_new hels PL.out)
            have Fn := hid (F.out.trans f (fun _ _ h => h))
            replace E4 := hid (E4.out.fr f)
            replace E6 := hid (E6.out.fr f)
            replace HO := hid (HO.out.fr f (fun x => x))
            replace PL := hid HO.out.lt
            clear hels f F hrl hrb
            have F := Fn
            have E8 := E8n
            clear Fn E8n
            refine hK _ _ (F.out) ?_
            clear hK K
            repeat (first | refine tS ?_ | refine tX HX.out ?_)
            refine wpT_build rfl rfl 73 _ rfl _ (by simp only [List.map_toArray, List.map_cons, List.map_nil]; exact look_built HLM.out _ _ _ _ _ _ _ _ _ _ _ _ _) ?_
            obtain ⟨FS, FS2, NS, QL, TH⟩ := look_put (lc := (mc ++ [Value.slice AP np cP, Value.slice AR nr cR, Value.slice AV nv cV, Value.slice AB nb cB, Value.slice A4 nb c4, Value.slice A6 nv c6, Value.slice A8 nb c8])) HO.out rfl (look_len HLM.out _ _ _ _ _ _ _) PG.out F.out
            have HW := hid (HLW.out _ (F1.out.trans FS (fun _ _ h => h)) A4 A6 A8 c4 c6 c8 p (idomF nx) ds rb (E4.out.put FS2) (E6.out.put FS2) (E8.out.put FS2) HIL.out HDL.out HRL.out)
            replace FS := hid FS
            replace NS := hid NS
            replace QL := hid QL
            replace TH := hid TH
            clear FS2
            refine wpT_eff rfl rfl (fun K hK => ?_)
            simp only [List.getElem_toArray, List.getElem_cons_succ, List.getElem_cons_zero]
            refine wp_store_mid 73 _ _ (by rfl) p 0 ((mc ++ [Value.slice AP np cP, Value.slice AR nr cR, Value.slice AV nv cV, Value.slice AB nb cB, Value.slice A4 nb c4, Value.slice A6 nv c6, Value.slice A8 nb c8])).toArray (by rfl) (by rfl) TH.out (by rw [List.size_toArray, look_len HLM.out]; exact HI.out) (look_one HMO.out _ _ _ _ _ _ _ _ _ _ _ _ _ _ _ _ _ _ _ _ _) ?_
            refine hK _ _ FS.out ?_
            clear hK K
            refine wpT_nil ?_
            go_wp2_with fail
            go_meet
            case rel => exact ⟨p, (mc ++ [Value.slice AP np cP, Value.slice AR nr cR, Value.slice AV nv cV, Value.slice AB nb cB, Value.slice A4 nb c4, Value.slice A6 nv c6, Value.slice A8 nb c8]), _, rb, rfl, HW, NS, QL, FS, HRB⟩
        · skip
          refine wpT_eff rfl rfl (fun K hK => ?_)
          simp only [zA]
          go_simp
          have HOn := hid (Blk.new (Y1) 73 #[.slice none 0 0, .slice none 0 0, .slice none 0 0, .slice none 0 0, .slice none 0 0, .slice none 0 0, .slice none 0 0, .bool false, .int .i64 0, .slice none 0 0, .slice none 0 0, .slice none 0 0, .slice none 0 0, .slice none 0 0, .slice none 0 0, .slice none 0 0, .slice none 0 0, .slice none 0 0, .slice none 0 0])
          have Fn := hid (F.out.alloc (.cells #[.slice none 0 0, .slice none 0 0, .slice none 0 0, .slice none 0 0, .slice none 0 0, .slice none 0 0, .slice none 0 0, .bool false, .int .i64 0, .slice none 0 0, .slice none 0 0, .slice none 0 0, .slice none 0 0, .slice none 0 0, .slice none 0 0, .slice none 0 0, .slice none 0 0, .slice none 0 0, .slice none 0 0] 73))
          have PG := hid F.out.size
          replace E3 := hid (E3.out.fr ((Fr.refl No (Y1)).alloc (.cells #[.slice none 0 0, .slice none 0 0, .slice none 0 0, .slice none 0 0, .slice none 0 0, .slice none 0 0, .slice none 0 0, .bool false, .int .i64 0, .slice none 0 0, .slice none 0 0, .slice none 0 0, .slice none 0 0, .slice none 0 0, .slice none 0 0, .slice none 0 0, .slice none 0 0, .slice none 0 0, .slice none 0 0] 73)))
          clear F
          have F := Fn
          have HO := HOn
          clear Fn HOn
          have PL := hid HO.out.lt
          obtain ⟨p, hp⟩ : ∃ p, (Y1).heap.size = p := ⟨_, rfl⟩
          rw [hp] at HO PL PG  ⊢
          clear hp
          generalize (Y1).alloc (.cells #[.slice none 0 0, .slice none 0 0, .slice none 0 0, .slice none 0 0, .slice none 0 0, .slice none 0 0, .slice none 0 0, .bool false, .int .i64 0, .slice none 0 0, .slice none 0 0, .slice none 0 0, .slice none 0 0, .slice none 0 0, .slice none 0 0, .slice none 0 0, .slice none 0 0, .slice none 0 0, .slice none 0 0] 73) = Yz at *
          refine hK _ _ (F.out) ?_
          clear hK K
          repeat (first | refine tS ?_ | refine tX HX.out ?_)
          refine wpT_eff rfl rfl (fun K hK => ?_)
          simp only [zA]
          go_simp
          refine (HOF.out _ A3 c3 _ E3.out (fun k hk => hk)).mono ?_
          rintro e Y1 ⟨A4, c4, rfl, hels, f⟩
          have E4n := hid (ep_new hels PL.out)
          have Fn := hid (F.out.trans f (fun _ _ h => h))
          replace HO := hid (HO.out.fr f (fun x => x))
          replace PL := hid HO.out.lt
          clear hels f F E3
          have F := Fn
          have E4 := E4n
          clear Fn E4n
          refine hK _ _ (F.out) ?_
          clear hK K
          repeat (first | refine tS ?_ | refine tX HX.out ?_)
          refine wpT_eff rfl rfl (fun K hK => ?_)
          simp only [zA]
          go_simp
          refine (HDF.out _ (F1.out.trans F.out (fun _ _ h => h))).mono ?_
          rintro e Y1 ⟨A6, c6, rfl, hels, f⟩
          have E6n := hid (ep_new hels PL.out)
          have Fn := hid (F.out.trans f (fun _ _ h => h))
          replace E4 := hid (E4.out.fr f)
          replace HO := hid (HO.out.fr f (fun x => x))
          replace PL := hid HO.out.lt
          clear hels f F
          have F := Fn
          have E6 := E6n
          clear Fn E6n
          refine hK _ _ (F.out) ?_
          clear hK K
          repeat (first | refine tS ?_ | refine tX HX.out ?_)
          refine wpT_eff rfl rfl (fun K hK => ?_)
          simp only [zA]
          go_simp
          refine (HRE.out _ (F1.out.trans F.out (fun _ _ h => h))).mono ?_
          rintro e Y1 ⟨A8, c8, rb, rfl, hrl, hrb, hels, f⟩
          rw [hrl]
          have HRL := hid hrl
          have HRB := hid hrb
          have E8n := hid (ep_new hels PL.out)
          have Fn := hid (F.out.trans f (fun _ _ h => h))
          replace E4 := hid (E4.out.fr f)
          replace E6 := hid (E6.out.fr f)
          replace HO := hid (HO.out.fr f (fun x => x))
          replace PL := hid HO.out.lt
          clear hels f F hrl hrb
          have F := Fn
          have E8 := E8n
          clear Fn E8n
          refine hK _ _ (F.out) ?_
          clear hK K
          repeat (first | refine tS ?_ | refine tX HX.out ?_)
          refine wpT_build rfl rfl 73 _ rfl _ (by simp only [List.map_toArray, List.map_cons, List.map_nil]; exact look_built HLM.out _ _ _ _ _ _ _ _ _ _ _ _ _) ?_
          obtain ⟨FS, FS2, NS, QL, TH⟩ := look_put (lc := (mc ++ [Value.slice AP np cP, Value.slice AR nr cR, Value.slice AV nv cV, Value.slice AB nb cB, Value.slice A4 nb c4, Value.slice A6 nv c6, Value.slice A8 nb c8])) HO.out rfl (look_len HLM.out _ _ _ _ _ _ _) PG.out F.out
          have HW := hid (HLW.out _ (F1.out.trans FS (fun _ _ h => h)) A4 A6 A8 c4 c6 c8 p (idomF nx) ds rb (E4.out.put FS2) (E6.out.put FS2) (E8.out.put FS2) HIL.out HDL.out HRL.out)
          replace FS := hid FS
          replace NS := hid NS
          replace QL := hid QL
          replace TH := hid TH
          clear FS2
          refine wpT_eff rfl rfl (fun K hK => ?_)
          simp only [List.getElem_toArray, List.getElem_cons_succ, List.getElem_cons_zero]
          refine wp_store_mid 73 _ _ (by rfl) p 0 ((mc ++ [Value.slice AP np cP, Value.slice AR nr cR, Value.slice AV nv cV, Value.slice AB nb cB, Value.slice A4 nb c4, Value.slice A6 nv c6, Value.slice A8 nb c8])).toArray (by rfl) (by rfl) TH.out (by rw [List.size_toArray, look_len HLM.out]; exact HI.out) (look_one HMO.out _ _ _ _ _ _ _ _ _ _ _ _ _ _ _ _ _ _ _ _ _) ?_
          refine hK _ _ FS.out ?_
          clear hK K
          refine wpT_nil ?_
          go_wp2_with fail
          go_meet
          case rel => exact ⟨p, (mc ++ [Value.slice AP np cP, Value.slice AR nr cR, Value.slice AV nv cV, Value.slice AB nb cB, Value.slice A4 nb c4, Value.slice A6 nv c6, Value.slice A8 nb c8]), _, rb, rfl, HW, NS, QL, FS, HRB⟩
      · skip
        refine wpT_eff rfl rfl (fun K hK => ?_)
        simp only [zA]
        go_simp
        have HOn := hid (Blk.new (Wd) 73 #[.slice none 0 0, .slice none 0 0, .slice none 0 0, .slice none 0 0, .slice none 0 0, .slice none 0 0, .slice none 0 0, .bool false, .int .i64 0, .slice none 0 0, .slice none 0 0, .slice none 0 0, .slice none 0 0, .slice none 0 0, .slice none 0 0, .slice none 0 0, .slice none 0 0, .slice none 0 0, .slice none 0 0])
        have Fn := hid (F.out.alloc (.cells #[.slice none 0 0, .slice none 0 0, .slice none 0 0, .slice none 0 0, .slice none 0 0, .slice none 0 0, .slice none 0 0, .bool false, .int .i64 0, .slice none 0 0, .slice none 0 0, .slice none 0 0, .slice none 0 0, .slice none 0 0, .slice none 0 0, .slice none 0 0, .slice none 0 0, .slice none 0 0, .slice none 0 0] 73))
        have PG := hid F.out.size
        clear F
        have F := Fn
        have HO := HOn
        clear Fn HOn
        have PL := hid HO.out.lt
        obtain ⟨p, hp⟩ : ∃ p, (Wd).heap.size = p := ⟨_, rfl⟩
        rw [hp] at HO PL PG  ⊢
        clear hp
        generalize (Wd).alloc (.cells #[.slice none 0 0, .slice none 0 0, .slice none 0 0, .slice none 0 0, .slice none 0 0, .slice none 0 0, .slice none 0 0, .bool false, .int .i64 0, .slice none 0 0, .slice none 0 0, .slice none 0 0, .slice none 0 0, .slice none 0 0, .slice none 0 0, .slice none 0 0, .slice none 0 0, .slice none 0 0, .slice none 0 0] 73) = Yz at *
        refine hK _ _ (F.out) ?_
        clear hK K
        repeat (first | refine tS ?_ | refine tX HX.out ?_)
        refine wpT_eff rfl rfl (fun K hK => ?_)
        simp only [zA]
        go_simp
        refine (HNX.out _ (F1.out.trans F.out (fun _ _ h => h))).mono ?_
        rintro e Y1 ⟨A3, c3, rfl, hels, f⟩
        have E3n := hid (el_new hels)
        have Fn := hid (F.out.trans f (fun _ _ h => h))
        replace HO := hid (HO.out.fr f (fun x => x))
        replace PL := hid HO.out.lt
        clear hels f F
        have F := Fn
        have E3 := E3n
        clear Fn E3n
        refine hK _ _ (F.out) ?_
        clear hK K
        repeat (first | refine tS ?_ | refine tX HX.out ?_)
        refine wpT_eff rfl rfl (fun K hK => ?_)
        simp only [zA]
        go_simp
        refine (HOF.out _ A3 c3 _ E3.out (fun k hk => hk)).mono ?_
        rintro e Y1 ⟨A4, c4, rfl, hels, f⟩
        have E4n := hid (ep_new hels PL.out)
        have Fn := hid (F.out.trans f (fun _ _ h => h))
        replace HO := hid (HO.out.fr f (fun x => x))
        replace PL := hid HO.out.lt
        clear hels f F E3
        have F := Fn
        have E4 := E4n
        clear Fn E4n
        refine hK _ _ (F.out) ?_
        clear hK K
        repeat (first | refine tS ?_ | refine tX HX.out ?_)
        refine wpT_eff rfl rfl (fun K hK => ?_)
        simp only [zA]
        go_simp
        refine (HDF.out _ (F1.out.trans F.out (fun _ _ h => h))).mono ?_
        rintro e Y1 ⟨A6, c6, rfl, hels, f⟩
        have E6n := hid (ep_new hels PL.out)
        have Fn := hid (F.out.trans f (fun _ _ h => h))
        replace E4 := hid (E4.out.fr f)
        replace HO := hid (HO.out.fr f (fun x => x))
        replace PL := hid HO.out.lt
        clear hels f F
        have F := Fn
        have E6 := E6n
        clear Fn E6n
        refine hK _ _ (F.out) ?_
        clear hK K
        repeat (first | refine tS ?_ | refine tX HX.out ?_)
        refine wpT_eff rfl rfl (fun K hK => ?_)
        simp only [zA]
        go_simp
        refine (HRE.out _ (F1.out.trans F.out (fun _ _ h => h))).mono ?_
        rintro e Y1 ⟨A8, c8, rb, rfl, hrl, hrb, hels, f⟩
        rw [hrl]
        have HRL := hid hrl
        have HRB := hid hrb
        have E8n := hid (ep_new hels PL.out)
        have Fn := hid (F.out.trans f (fun _ _ h => h))
        replace E4 := hid (E4.out.fr f)
        replace E6 := hid (E6.out.fr f)
        replace HO := hid (HO.out.fr f (fun x => x))
        replace PL := hid HO.out.lt
        clear hels f F hrl hrb
        have F := Fn
        have E8 := E8n
        clear Fn E8n
        refine hK _ _ (F.out) ?_
        clear hK K
        repeat (first | refine tS ?_ | refine tX HX.out ?_)
        refine wpT_build rfl rfl 73 _ rfl _ (by simp only [List.map_toArray, List.map_cons, List.map_nil]; exact look_built HLM.out _ _ _ _ _ _ _ _ _ _ _ _ _) ?_
        obtain ⟨FS, FS2, NS, QL, TH⟩ := look_put (lc := (mc ++ [Value.slice AP np cP, Value.slice AR nr cR, Value.slice AV nv cV, Value.slice AB nb cB, Value.slice A4 nb c4, Value.slice A6 nv c6, Value.slice A8 nb c8])) HO.out rfl (look_len HLM.out _ _ _ _ _ _ _) PG.out F.out
        have HW := hid (HLW.out _ (F1.out.trans FS (fun _ _ h => h)) A4 A6 A8 c4 c6 c8 p (idomF nx) ds rb (E4.out.put FS2) (E6.out.put FS2) (E8.out.put FS2) HIL.out HDL.out HRL.out)
        replace FS := hid FS
        replace NS := hid NS
        replace QL := hid QL
        replace TH := hid TH
        clear FS2
        refine wpT_eff rfl rfl (fun K hK => ?_)
        simp only [List.getElem_toArray, List.getElem_cons_succ, List.getElem_cons_zero]
        refine wp_store_mid 73 _ _ (by rfl) p 0 ((mc ++ [Value.slice AP np cP, Value.slice AR nr cR, Value.slice AV nv cV, Value.slice AB nb cB, Value.slice A4 nb c4, Value.slice A6 nv c6, Value.slice A8 nb c8])).toArray (by rfl) (by rfl) TH.out (by rw [List.size_toArray, look_len HLM.out]; exact HI.out) (look_one HMO.out _ _ _ _ _ _ _ _ _ _ _ _ _ _ _ _ _ _ _ _ _) ?_
        refine hK _ _ FS.out ?_
        clear hK K
        refine wpT_nil ?_
        go_wp2_with fail
        go_meet
        case rel => exact ⟨p, (mc ++ [Value.slice AP np cP, Value.slice AR nr cR, Value.slice AV nv cV, Value.slice AB nb cB, Value.slice A4 nb c4, Value.slice A6 nv c6, Value.slice A8 nb c8]), _, rb, rfl, HW, NS, QL, FS, HRB⟩
    case rest =>
      obtain ⟨p, lc, k, rb, rfl, HL, HRG, HPL, HFC, HRB⟩ := hcut
      clear HLW HNX HOF HDF HRE HX HXM
      have HLL := hid HL.out.len
      have FC := hid (F1.out.trans HFC.out (fun _ _ h => h))
      have GC := hid (G1.out.fr HFC.out (fun x => x))
      replace HYES := hid (HYES.out rb HRB.out)
      replace HNO := hid (HNO.out rb HRB.out)
      have HBC := hid (fun (W : World) (f : Fr No wc W) => HBK.out W _ lc k (idomF nx) ds rb (HL.out.fr f))
      clear HBK HL HRB HMO HLM HIM HIL HDL HLN
      generalize blockB m x ds (idomF nx) rb = bB at *
      go_wp2_with fail
      go_loopw [7] (fun v7 wr => ∃ i : Nat, i ≤ nb ∧ v7 = .int .i64 i ∧ Hid (∀ j (h : j < x.blocks.length), j < i → bB j x.blocks[j] = true) ∧ Hid (Fr No wc wr)) (fun v7 _ => nb - (intOf v7).toNat)
      case atStart => exact ⟨0, by omega, rfl, hid (fun j h h2 => absurd h2 (Nat.not_lt_zero _)), hid (Fr.refl _ _)⟩
      case round =>
        obtain ⟨i, hi, rfl, HPR, HF⟩ := hrel
        have FK := hid (FC.out.trans HF.out (fun _ _ h => h))
        have y3 := (GC.out.fr HF.out (fun x => x)).cell 3
        by_cases hgo : i < nb
        · have j0 : (0 : Int) ≤ i := by omega
          have j1 : (i : Int) < nb := by omega
          have hil : i < x.blocks.length := by rw [HNB.out]; exact hgo
          have HC := hid (HBC.out _ HF.out i hil)
          have HNI := hid (HNO.out i hil)
          have HPN : Hid (bB i x.blocks[i] = true → ∀ j (h : j < x.blocks.length), j < i + 1 → bB j x.blocks[j] = true) := hid fun hv j h hj => by
            by_cases hji : j = i
            · subst hji; exact hv
            · exact HPR.out j h (by omega)
          have HRG2 := hid (rng_fr HRG.out HF.out HPL.out)
          generalize bB i x.blocks[i] = bi at *
          clear hil HPR
          go_wp2_with (first | refine ldG Tryz.underlying73 HI.out HRG2.out HLL.out ?_ | fail)
          refine HC.out.mono ?_
          rintro e Y1 ⟨rfl, f⟩
          have FF := hid (HF.out.trans f (fun _ _ h => h))
          have FFF := hid (FK.out.trans f (fun _ _ h => h))
          clear HC f
          cases bi with
          | false =>
            have hno := hid (HNI.out rfl)
            clear HNI HPN HNO HYES HBC
            go_wp2
            go_ret2
            exact ⟨⟨i, 29, rfl, ⟨fun h => absurd h (by decide), fun h => absurd h hno.out⟩⟩, FFF.out⟩
          | true =>
            have HPN2 := hid (HPN.out rfl)
            clear HNI HPN
            go_wp2
            go_roundw
            case rel => exact ⟨i + 1, by omega, by go_num, HPN2, FF⟩
            case measure => simp [intOf]; omega
        · have hin : i = nb := by omega
          subst hin
          have hyes := hid (HYES.out (fun b h => HPR.out b h (by have := HNB.out; omega)))
          clear HPR HNO HYES HBC hgo
          go_wp2
          go_ret2
          exact ⟨⟨0, 0, rfl, ⟨fun _ => hyes.out, fun _ => rfl⟩⟩, FK.out⟩
end Go.Proofs.YtiafkakkbbclhaaGreat
namespace Go.Proofs.YtiafkakkbbclhaaGreat
theorem check_split {m : Md} {f : Sf} (h : checkB m f) : checkB m (splitF f) ∧ crit (tosOf (splitB f.blocks)) = [] := by
  obtain ⟨hw, hf⟩ := h
  have H := (crOk_crit (tosOf f.blocks)).b
  have hQ : endPr f.vals f.type.results 0 0 [] 1 0 := by
    unfold endPr endB
    rw [if_pos rfl]
    rfl
  have hs := formV_split (cr := crit (tosOf f.blocks)) hQ H hf
  rw [← splitB_ref] at hs
  obtain ⟨w1, w2, _⟩ := (wholeB_iff f).1 hw
  refine ⟨⟨(wholeB_iff (splitF f)).2 ⟨w1, w2, hs.ne, hs.par0, hs.once⟩, hs⟩, ?_⟩
  have e : tosOf (splitB f.blocks) = Ts (tosOf f.blocks) (crit (tosOf f.blocks)) (crit (tosOf f.blocks)).length := tosOf_Sp _ _ _
  rw [e]
  apply crit_none
  intro b k hb hk
  rw [tosOf_len] at hb
  rw [tosOf_getD, List.length_map] at hk
  rw [tosOf_getD, to_getD, tosOf_len, getD_el _ hk]
  have e1 : toOf f.blocks b = f.blocks[b].end_.to := by unfold toOf; rw [getD_el _ hb]
  have hm : (toOf f.blocks b)[k] ∈ f.blocks[b].end_.to := by rw [← e1]; exact List.getElem_mem hk
  exact (isReal_iff.1 ((hf.blk b hb).edge _ hm).1).2
end Go.Proofs.YtiafkakkbbclhaaGreat
namespace Go.Proofs.YtiafkakkbbclhaaGreat
open Go.RowKit
def FuncS (x : Sf) (w : World) (e : Ending) (w' : World) : Prop :=
  ∃ (P R V B : Option Addr) (pc rc vc bc : Nat), e = .returned (.agg #[.slice P x.type.params.length pc, .slice R x.type.results.length rc, .slice V x.vals.length vc, .slice B (splitB x.blocks).length bc]) ∧ FW w' (· < w'.heap.size) [.slice P x.type.params.length pc, .slice R x.type.results.length rc, .slice V x.vals.length vc, .slice B (splitB x.blocks).length bc] (splitF x) ∧ Fr No w w'
theorem toElsR {w : World} {base : Nat} {e : TypeId} {A : Option Addr} {n c : Nat} {l : List Int} (h : tI.row w base Emp e (.slice A n c) l) : l.length ≤ c ∧ c ≤ maxLen ∧ tI.els w (· < w.heap.size) A l := by
  obtain ⟨A', c', e1, h1, h2, h3⟩ := h.els (S' := (· < w.heap.size)) (fun k hk => hk.elim) (fun g hg => by obtain ⟨_, cs, hb⟩ := h.own hg; exact hb.lt)
  injection e1 with e1 _ e2
  subst e1 e2
  exact ⟨h1, h2, h3⟩
theorem cb_cap {base : Nat} {w : World} {A : Option Addr} {n c : Nat} {bs : List Sb} {rs : List Rw} (h : Cb base w (.slice A n c) bs rs) : bs.length ≤ c ∧ c ≤ maxLen := by
  obtain ⟨A', c', e1, h1, h2, -⟩ := h.row.els (S' := fun _ => True) (fun _ _ => trivial) (fun _ _ => trivial)
  injection e1 with e1 _ e2
  subst e2
  rw [srs_len h.len] at h1
  exact ⟨h1, h2⟩
theorem funcS_any {w : World} {S : Nat → Prop} {x : Sf} {P R V B : Option Addr} {pc rc vc bc : Nat} (h : FW w S [.slice P x.type.params.length pc, .slice R x.type.results.length rc, .slice V x.vals.length vc, .slice B x.blocks.length bc] x) (hl : FL x) :
    Calls Tryz.prog 8 #[.agg #[.slice P x.type.params.length pc, .slice R x.type.results.length rc, .slice V x.vals.length vc, .slice B x.blocks.length bc]] w (FuncS x w) := by
  obtain ⟨P', pc', R', rc', V', vc', B', bc', hcs, -, -, h1, -, -, h2, -, -, h3, -, -, h4⟩ := Sf_cells h.rd
  injection hcs with ha hcs
  injection hcs with hb hcs
  injection hcs with hc hcs
  injection hcs with hd _
  injection ha with ha _ _
  injection hb with hb _ _
  injection hc with hc _ _
  injection hd with hd _ _
  subst ha hb hc hd
  refine (func_any P R V B _ _ _ _ pc rc vc bc x S w h1 h2 h3 h4 h.lt rfl rfl rfl rfl hl).mono ?_
  rintro e w' ⟨AP, cP, AR, cR, AV, cV, AB, cB, rs, he, r1, r2, r3, hcb, f⟩
  obtain ⟨a1, a2, a3⟩ := toElsR r1
  obtain ⟨b1, b2, b3⟩ := toElsR r2
  obtain ⟨c1, c2, c3⟩ := toElsR r3
  obtain ⟨d1, d2⟩ := cb_cap hcb
  exact ⟨AP, AR, AV, AB, cP, cR, cV, cB, he, ⟨Sf_mk (a := splitF x) a1 a2 a3 b1 b2 b3 c1 c2 c3 d1 d2 (hcb.els.more fun k hk => hk.2), fun _ h => h⟩, f⟩
theorem fewS_any {w : World} {S : Nat → Prop} {x : Sf} {P R V B : Option Addr} {pc rc vc bc : Nat} (h : FW w S [.slice P x.type.params.length pc, .slice R x.type.results.length rc, .slice V x.vals.length vc, .slice B x.blocks.length bc] x) (u : tSf.le 1048576 x) :
    Calls Tryz.prog 4 #[.agg #[.slice P x.type.params.length pc, .slice R x.type.results.length rc, .slice V x.vals.length vc, .slice B x.blocks.length bc]] w (FewT x w) := by
  obtain ⟨P', pc', R', rc', V', vc', B', bc', hcs, -, -, h1, -, -, h2, -, -, h3, -, -, h4⟩ := Sf_cells h.rd
  injection hcs with ha hcs
  injection hcs with hb hcs
  injection hcs with hc hcs
  injection hcs with hd _
  injection hd with hd _ _
  subst hd
  refine few_any P R V B _ _ _ _ pc rc vc bc x S w h4 h.lt (fun b hb => ?_) rfl rfl
  have hb2 := u.2.2.2 b hb
  have e1 : b.ins.length ≤ 1048576 := hb2.2.1.1
  have e2 : b.end_.to.length ≤ 1048576 := hb2.2.2.2.2.2.1.1
  exact ⟨by omega, by omega⟩
theorem critS_any {w : World} {S : Nat → Prop} {x : Sf} {P R V B : Option Addr} {pc rc vc bc : Nat} (h : FW w S [.slice P x.type.params.length pc, .slice R x.type.results.length rc, .slice V x.vals.length vc, .slice B x.blocks.length bc] x) (bn : Bn x) (hz : crit (tosOf x.blocks) = []) :
    Calls Tryz.prog 9 #[.agg #[.slice P x.type.params.length pc, .slice R x.type.results.length rc, .slice V x.vals.length vc, .slice B x.blocks.length bc]] w fun e w' => ∃ (A : Option Addr) (c : Nat), e = .returned (.slice A 0 c) ∧ Fr No w w' := by
  obtain ⟨P', pc', R', rc', V', vc', B', bc', hcs, -, -, h1, -, -, h2, -, -, h3, -, -, h4⟩ := Sf_cells h.rd
  injection hcs with ha hcs
  injection hcs with hb hcs
  injection hcs with hc hcs
  injection hcs with hd _
  injection hd with hd _ _
  subst hd
  refine (crit_any P R V B _ _ _ _ pc rc vc bc x.blocks S w h4 h.lt rfl (by have := bn.nb; omega) (by have := bn.tt; omega)).mono ?_
  rintro e w' ⟨A, c, he, -, f⟩
  rw [hz] at he
  exact ⟨A, c, he, f⟩
theorem few8S_any {w : World} {S : Nat → Prop} {mc : List Value} {m : Md} (h : MW w S mc m) (u : tMd.le 1048576 m) :
    Calls Tryz.prog 5 #[.agg mc.toArray] w (Few8To m.elems m.types.length m.imports.length m.funcs.length m.tables.length m.mems.length m.globals.length m.exports.length m.elems.length m.datas w) := by
  obtain ⟨At, ct, Ai, ci, Af, cf, Ata, cta, Am, cm, Ag, cg, Ae, ce, Ael, cel, Ad, cd, Ac, cc, rfl, -, -, -, -, -, -, -, -, -, -, -, -, -, -, -, -, -, -, -, -, -, -, -, -, h10, -⟩ := Md_cells h.rd
  refine few8_any _ _ _ _ _ _ _ _ _ _ ct ci cf cta cm cg ce cel cd cc At Ai Af Ata Am Ag Ae Ael Ad Ac _ _ w m.elems S h10 h.lt rfl (hid fun e he => ?_)
  have h1 : e.items.length ≤ 1048576 := ((u.2.2.2.2.2.2.2.2.2.1).2 e he).2.2.2.2.1
  omega
theorem right_t {w : World} {mc : List Value} {m : Md} {x : Sf} {P R V B : Option Addr} {pc rc vc bc : Nat} (hm : MW w (· < w.heap.size) mc m) (hf : FW w (· < w.heap.size) [.slice P x.type.params.length pc, .slice R x.type.results.length rc, .slice V x.vals.length vc, .slice B x.blocks.length bc] x) (um : tMd.le 1048576 m) (uf : tSf.le 1048576 x) :
    Calls Tryz.prog 3 #[.agg mc.toArray, .agg #[.slice P x.type.params.length pc, .slice R x.type.results.length rc, .slice V x.vals.length vc, .slice B x.blocks.length bc]] w fun e w' => e = .returned (.bool true) ∧ Fr No w w' := by
  obtain ⟨F0, M0, G0⟩ := bx2 w mc.toArray #[.slice P x.type.params.length pc, .slice R x.type.results.length rc, .slice V x.vals.length vc, .slice B x.blocks.length bc] 33 39
  have HFW := hid (fun (W : World) (f : Fr No w W) => fewS_any (hf.fr f) uf)
  have HF8 := hid (fun (W : World) (f : Fr No w W) => few8S_any (hm.fr f) um)
  have HCK : Hid (Small x → FewOk m.elems m.types.length m.imports.length m.funcs.length m.tables.length m.mems.length m.globals.length m.exports.length m.elems.length m.datas → ∀ W, Fr No w W → Calls Tryz.prog 7 #[.agg mc.toArray, .agg #[.slice P x.type.params.length pc, .slice R x.type.results.length rc, .slice V x.vals.length vc, .slice B x.blocks.length bc]] W (ChkTo (checkB m x) W)) := hid fun hs h8 W f => check39_any ((hm.fr f).all (Fr.refl _ _)) ((hf.fr f).all (Fr.refl _ _)) (mdB_of hm um h8) (datas_le (w := w) (S := fun _ => True) (mc := mc) h8) (bn_of uf hs)
  have HFU := hid (fun (hs : Small x) (W : World) (f : Fr No w W) => funcS_any (hf.fr f) (bn_of uf hs).fl)
  have HCK2 := hid (fun (hs : Small x) (h8 : FewOk m.elems m.types.length m.imports.length m.funcs.length m.tables.length m.mems.length m.globals.length m.exports.length m.elems.length m.datas) (W : World) (f : Fr No w W) (S' : Nat → Prop) (P' R' V' B' : Option Addr) (pc' rc' vc' bc' : Nat) (hg : FW W S' [.slice P' x.type.params.length pc', .slice R' x.type.results.length rc', .slice V' x.vals.length vc', .slice B' (splitB x.blocks).length bc'] (splitF x)) => check39_any ((hm.fr f).all (Fr.refl _ _)) (hg.all (Fr.refl _ _)) (mdB_of hm um h8) (datas_le (w := w) (S := fun _ => True) (mc := mc) h8) (bn_split (bn_of uf hs) hs))
  have HCR : Hid (Small x → checkB m x → ∀ (W : World) (S' : Nat → Prop) (P' R' V' B' : Option Addr) (pc' rc' vc' bc' : Nat), FW W S' [.slice P' x.type.params.length pc', .slice R' x.type.results.length rc', .slice V' x.vals.length vc', .slice B' (splitB x.blocks).length bc'] (splitF x) → Calls Tryz.prog 9 #[.agg #[.slice P' x.type.params.length pc', .slice R' x.type.results.length rc', .slice V' x.vals.length vc', .slice B' (splitB x.blocks).length bc']] W fun e w' => ∃ (A : Option Addr) (c : Nat), e = .returned (.slice A 0 c) ∧ Fr No W w') := hid (fun hs hz W S' P' R' V' B' pc' rc' vc' bc' hg => critS_any (x := splitF x) hg (bn_split (bn_of uf hs) hs) (check_split hz).2)
  have HSP := hid (fun hz : checkB m x => (check_split hz).1)
  have HIM : Hid ((Tryz.prog.info? 33).map (·.size) = some 12) := by unfold Hid; kernel_rfl
  have HLM := hid hm.len
  unfold FewT Few8To ChkTo FuncS at *
  clear hm hf um uf
  generalize FewOk m.elems m.types.length m.imports.length m.funcs.length m.tables.length m.mems.length m.globals.length m.exports.length m.elems.length m.datas = K8 at *
  generalize checkB m x = C1 at *
  generalize checkB m (splitF x) = C2 at *
  generalize Small x = SM at *
  generalize x.type.params.length = np at *
  generalize x.type.results.length = nr at *
  generalize x.vals.length = nv at *
  generalize x.blocks.length = nb at *
  generalize (splitB x.blocks).length = ng at *
  generalize splitF x = fx at *
  go_enter Tryz.func3, Tryz.ntmps3
  go_upto_region 1 with fail
  generalize (w.alloc (.cells mc.toArray 33)).alloc (.cells #[.slice P np pc, .slice R nr rc, .slice V nv vc, .slice B nb bc] 39) = W0 at *
  obtain ⟨q, hq⟩ : ∃ q, w.heap.size = q := ⟨_, rfl⟩
  have HQ := hid hq
  rw [hq] at G0 M0 ⊢
  clear hq
  have y0 := G0.out.cell 0
  have y1 := G0.out.cell 1
  have y2 := G0.out.cell 2
  have y3 := G0.out.cell 3
  go_wp2_with fail
  refine (HFW.out W0 F0.out).mono ?_
  rintro e W1 ⟨⟨r1, rfl, hs⟩, f⟩
  have F1 := hid (F0.out.trans f (fun _ _ h => h))
  have G1 := hid (G0.out.fr f (fun x => x))
  have M1 := hid (M0.out.fr f (fun x => x))
  have HS := hid hs
  clear HFW f F0 G0 M0 y0 y1 y2 y3 hs
  cases r1 with
  | false =>
    clear HF8 HCK HFU HCK2 HCR HSP HS
    go_wp2_with fail
    refine (alive_any _).mono ?_
    rintro e W2 ⟨rfl, f⟩
    have F2 := hid (F1.out.trans f (fun _ _ h => h))
    clear f
    go_wp2
    go_ret
    exact ⟨rfl, F2.out⟩
  | true =>
    have hsm := hid (HS.out rfl)
    replace HCK := hid (HCK.out hsm.out)
    replace HFU := hid (HFU.out hsm.out)
    replace HCK2 := hid (HCK2.out hsm.out)
    replace HCR := hid (HCR.out hsm.out)
    clear HS hsm
    go_wp2_with (first | refine ldG Tryz.underlying33 HIM.out (rangeL M1.out) HLM.out ?_ | refine ldW Tryz.underlying33 HIM.out (rangeL M1.out) HLM.out ?_ | fail)
    refine (HF8.out W1 F1.out).mono ?_
    rintro e W2 ⟨⟨r2, rfl, hs⟩, f⟩
    have F2 := hid (F1.out.trans f (fun _ _ h => h))
    have G2 := hid (G1.out.fr f (fun x => x))
    have M2 := hid (M1.out.fr f (fun x => x))
    have HS := hid hs
    clear HF8 f F1 G1 M1 hs
    cases r2 with
    | false =>
      clear HCK HFU HCK2 HCR HSP HS
      go_wp2_with fail
      refine (alive_any _).mono ?_
      rintro e W3 ⟨rfl, f⟩
      have F3 := hid (F2.out.trans f (fun _ _ h => h))
      clear f
      go_wp2
      go_ret
      exact ⟨rfl, F3.out⟩
    | true =>
      have h8 := hid (HS.out rfl)
      replace HCK := hid (HCK.out h8.out)
      replace HCK2 := hid (HCK2.out h8.out)
      clear HS h8
      have y0 := G2.out.cell 0
      have y1 := G2.out.cell 1
      have y2 := G2.out.cell 2
      have y3 := G2.out.cell 3
      go_wp2_with (first | refine ldG Tryz.underlying33 HIM.out (rangeL M2.out) HLM.out ?_ | refine ldW Tryz.underlying33 HIM.out (rangeL M2.out) HLM.out ?_ | fail)
      refine (HCK.out W2 F2.out).mono ?_
      rintro e W3 ⟨⟨n1, er, rfl, hs⟩, f⟩
      have F3 := hid (F2.out.trans f (fun _ _ h => h))
      have G3 := hid (G2.out.fr f (fun x => x))
      have M3 := hid (M2.out.fr f (fun x => x))
      have HS := hid hs
      clear HCK f F2 G2 M2 hs y0 y1 y2 y3
      by_cases her : er = 0
      · have hc1 := hid (HS.out.1 her)
        subst her
        have hc2 := hid (HSP.out hc1.out)
        replace HCR := hid (HCR.out hc1.out)
        clear HS HSP hc1
        have y0 := G3.out.cell 0
        have y1 := G3.out.cell 1
        have y2 := G3.out.cell 2
        have y3 := G3.out.cell 3
        go_wp2_with fail
        refine (HFU.out W3 F3.out).mono ?_
        rintro e W4 ⟨P4, R4, V4, B4, pc4, rc4, vc4, bc4, rfl, hfw, f⟩
        have F4 := hid (F3.out.trans f (fun _ _ h => h))
        have G4 := hid (G3.out.fr f (fun x => x))
        have M4 := hid (M3.out.fr f (fun x => x))
        have HF4 := hid hfw
        clear HFU f F3 G3 M3 hfw y0 y1 y2 y3
        have FA := (Fr.refl No W4).alloc (.cells #[.slice P4 np pc4, .slice R4 nr rc4, .slice V4 nv vc4, .slice B4 ng bc4] 39)
        have F5 := hid (F4.out.trans FA (fun _ _ h => h))
        have M5 := hid (M4.out.fr FA (fun x => x))
        have B5 := hid (Blk.new W4 39 #[.slice P4 np pc4, .slice R4 nr rc4, .slice V4 nv vc4, .slice B4 ng bc4])
        have HF5 := hid (HF4.out.fr FA)
        clear FA
        go_upto_region 7 with fail
        generalize W4.alloc (.cells #[.slice P4 np pc4, .slice R4 nr rc4, .slice V4 nv vc4, .slice B4 ng bc4] 39) = W5 at *
        obtain ⟨q5, hq5⟩ : ∃ q, W4.heap.size = q := ⟨_, rfl⟩
        have HQ5 := hid hq5
        rw [hq5] at B5 ⊢
        clear hq5 F4 G4 M4 HF4
        have y0 := B5.out.cell 0
        have y1 := B5.out.cell 1
        have y2 := B5.out.cell 2
        have y3 := B5.out.cell 3
        go_wp2_with (first | refine ldG Tryz.underlying33 HIM.out (rangeL M5.out) HLM.out ?_ | fail)
        refine (HCK2.out W5 F5.out _ P4 R4 V4 B4 pc4 rc4 vc4 bc4 HF5.out).mono ?_
        rintro e W6 ⟨⟨n2, er2, rfl, hs⟩, f⟩
        have F6 := hid (F5.out.trans f (fun _ _ h => h))
        have B6 := hid (B5.out.fr f (fun x => x))
        have HF6 := hid (HF5.out.fr f)
        have he2 : er2 = 0 := hs.2 hc2.out
        subst he2
        clear HCK2 f F5 B5 M5 HF5 hs y0 y1 y2 y3 hc2
        have y0 := B6.out.cell 0
        have y1 := B6.out.cell 1
        have y2 := B6.out.cell 2
        have y3 := B6.out.cell 3
        go_wp2_with fail
        refine (HCR.out W6 _ P4 R4 V4 B4 pc4 rc4 vc4 bc4 HF6.out).mono ?_
        rintro e W7 ⟨A7, c7, rfl, f⟩
        have F7 := hid (F6.out.trans f (fun _ _ h => h))
        clear HCR f F6 B6 HF6 y0 y1 y2 y3
        go_wp2_with fail
        refine (alive_any _).mono ?_
        rintro e W8 ⟨rfl, f⟩
        have F8 := hid (F7.out.trans f (fun _ _ h => h))
        clear f
        go_wp2
        go_ret
        exact ⟨rfl, F8.out⟩
      · have d0 : (er == 0) = false := beq_eq_false_iff_ne.2 her
        have d1 : (er != 0) = true := by simp [bne, d0]
        clear HFU HCK2 HCR HSP HS
        go_wp2_with fail
        refine (alive_any _).mono ?_
        rintro e W4 ⟨rfl, f⟩
        have F4 := hid (F3.out.trans f (fun _ _ h => h))
        clear f
        go_wp2
        go_ret
        exact ⟨rfl, F4.out⟩
theorem splitRight_walk (w : World) (v0 v1 : Value) (x0 : Md) (x1 : Sf) (y0 : tMd.rd w (· < w.heap.size) v0.cells.toList x0) (y1 : tSf.rd w (· < w.heap.size) v1.cells.toList x1) (u0 : tMd.le 1048576 x0) (u1 : tSf.le 1048576 x1) (hv0 : ∃ cs, v0 = .agg cs) (hv1 : ∃ cs, v1 = .agg cs) :
    Calls Tryz.prog 3 #[v0, v1] w fun e w' => e = .returned (.bool true) ∧ Below w.heap.size w w' := by
  obtain ⟨cs0, rfl⟩ := hv0
  obtain ⟨cs1, rfl⟩ := hv1
  have y1' : tSf.rd w (· < w.heap.size) cs1.toList x1 := y1
  obtain ⟨P, pc, R, rc, V, vc, B, bc, hcs, -⟩ := Sf_cells y1'
  have e1 : cs1 = #[.slice P x1.type.params.length pc, .slice R x1.type.results.length rc, .slice V x1.vals.length vc, .slice B x1.blocks.length bc] := by rw [← Array.toArray_toList (xs := cs1), hcs]
  subst e1
  have h := right_t (mc := cs0.toList) ⟨y0, fun _ h => h⟩ ⟨y1', fun _ h => h⟩ u0 u1
  rw [Array.toArray_toList] at h
  exact h.mono fun e w' ⟨a, b⟩ => ⟨a, b.below⟩
end Go.Proofs.YtiafkakkbbclhaaGreat
