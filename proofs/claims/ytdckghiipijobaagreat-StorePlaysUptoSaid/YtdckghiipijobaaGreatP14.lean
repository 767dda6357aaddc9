/- Part 14 of the proof: lemmas and contracts of functions. No condition. -/
import Derived.Test.YtdckghiipijobaaGreatP13
import Derived.Test.YtdckghiipijobaaGreatP7
import Derived.Test.YtdckghiipijobaaGreatP1
set_option maxRecDepth 100000
set_option maxHeartbeats 12800000
set_option linter.unusedVariables false
set_option linter.unusedSimpArgs false
set_option linter.unusedSectionVars false
namespace Go.Proofs.YtdckghiipijobaaGreat
open Go.RowKit Go.Proofs.Tryz
abbrev kCh : Array Value := #[.slice none 0 0, .slice none 0 0, .slice none 0 0, .slice none 0 0, .slice none 0 0, .slice none 0 0, .slice none 0 0, .slice none 0 0, .slice none 0 0, .slice none 0 0]
theorem kLv (w : World) (v0 v1 : Value) (hosts : List Ho) (acts : List At) (y0 : tHo.slice.rd w (· < w.heap.size) v0.cells.toList hosts) (y1 : tAt.slice.rd w (· < w.heap.size) v1.cells.toList acts)
    (u0 : tHo.slice.le 1048576 hosts) (u1 : tAt.slice.le 1048576 acts) (hv0 : ∃ a l c, v0 = .slice a l c) (hv1 : ∃ a l c, v1 = .slice a l c) :
    Calls prog 3 #[v0, v1] w fun e w' => e = .returned (.bool true) ∧ Below w.heap.size w w' := by
 obtain ⟨A, n0, c0, rfl⟩ := hv0
 obtain ⟨B, n1, d0, rfl⟩ := hv1
 obtain ⟨A', c', h1, hc, hcm, hh⟩ := y0
 simp only [Value.cells, List.cons.injEq, Value.slice.injEq, and_true] at h1
 obtain ⟨rfl, rfl, rfl⟩ := h1
 obtain ⟨B', d', h2, gc, gcm, ha⟩ := y1
 simp only [Value.cells, List.cons.injEq, Value.slice.injEq, and_true] at h2
 obtain ⟨rfl, rfl, rfl⟩ := h2
 suffices h : Calls prog 3 #[.slice A hosts.length c0, .slice B acts.length d0] w fun e w' => e = .returned (.bool true) ∧ Fr No w w' from h.mono fun e w' ⟨h1, h2⟩ => ⟨h1, h2.below⟩
 have HH := hid hh
 have HA := hid ha
 have L1 : Hid (hosts.length ≤ 1048576) := u0.1
 have l2 : acts.length ≤ 1048576 := u1.1
 have HB : Hid (∀ x ∈ hosts, HoBu x) := fun x hx => kMr (u0.2 x hx)
 have U1 := hid u1.2
 have HC := hid (And.intro hc hcm)
 have HI : Hid (∀ n, n = 10 → (prog.info? 39).map (·.size) = some n) := by rintro _ rfl; kernel_rfl
 have HIA : Hid (∀ n, n = 38 → (prog.info? 76).map (·.size) = some n) := by rintro _ rfl; kernel_rfl
 clear hh ha u0 u1 hc hcm gc gcm
 go_enter func3, ntmps3
 go_wp2_with fail
 refine (kMu hosts acts A B c0 d0 w HH.o HA.o L1.o l2).mono ?_
 rintro e w1 ⟨⟨r, rfl, hr⟩, f1⟩
 cases r with
 | false =>
  have F1 := hid f1
  clear hr f1
  go_wp2_with fail
  refine (kEZ _).mono ?_
  rintro e w2 ⟨rfl, f2⟩
  go_wp2_with fail
  go_ret
  exact ⟨rfl, F1.o.trans f2 i3⟩
 | true =>
  have FW := hid (hr rfl)
  have F1 := hid f1
  clear hr f1
  have HAB : Hid (∀ a ∈ acts, AtB a) := by
   intro a ha
   obtain ⟨i, hi, rfl⟩ := List.getElem_of_mem ha
   obtain ⟨g, o, ds, -, -, -, hr⟩ := HA.o.at_ i hi
   obtain ⟨P1, p1, P2, p2, A1, c1, A2, c2, A3, c3, ms, ns, -, -, -, -, -, -, -, -, gw, -⟩ := kAg hr
   exact kOI (U1.o _ ha) (FW.o.2 _ ha) gw
  clear U1
  go_wp2_with fail
  refine (kHd A c0 hosts (· < w.heap.size) w1 (kAA HH.o F1.o i2 i2) (fun k hk => ltl hk F1.o.size) (by have := L1.o; omega) (fun x hx => (HB.o x hx).1)).mono ?_
  rintro e w2 hN
  unfold kDf at hN
  by_cases hm : mayB hosts = true
  · rw [if_pos hm] at hN
    obtain ⟨V0, rfl, hst, hown, f2⟩ := hN
    have HST := hid hst
    have HOW := hid hown
    have F2 := ftr F1 f2
    have HM := hid hm
    clear hst hown f2 hm
    obtain ⟨P0, hP0⟩ : ∃ q, q = V0.P := ⟨_, rfl⟩
    rw [← hP0]
    have HP0 := hid hP0
    clear hP0
    go_wp2_with fail
    refine (kHR A c0 hosts w2 (kAA HH.o F2.o i2 (fun _ h => ltl h F2.o.size)) (by have := L1.o; omega) HB.o).mono ?_
    rintro e w3 ⟨rfl, f3⟩
    rw [HM.o]
    have F23 := hid f3
    have F3 := ftr F2 f3
    clear f3
    go_wp2_with fail
    refine (kMB A c0 hosts (· < w.heap.size) w3 (kAA HH.o F3.o i2 i2) (fun k hk => ltl hk F3.o.size) HC.o.1 HC.o.2 (by have h := HM.o; unfold mayB at h; simp only [Bool.and_eq_true, decide_eq_true_eq] at h; omega)).mono ?_
    rintro e w4 ⟨cs0, rfl, hrx, f4⟩
    have HL0 : Hid (cs0.length = 10) := TyOk.len _ _ _ _ hrx
    have HO0 : Hid (cs0.all (·.oneCell') = true) := List.all_eq_true.2 ((inferInstance : kAG tRx).one _ _ _ _ hrx)
    have F34 := hid f4
    have HRX := hid hrx
    clear hrx f4
    go_upto_region 7 with (first
     | (refine kAz (by rfl) 39 _ _ (by rfl) kCh cs0 (by rfl) (by rfl) (by exact HI.o _ HL0.o) (by rw [HL0.o]; rfl) (by exact HO0.o) ?_)
     | fail)
    have F4 := hid ((F3.o.trans F34.o i3).alloc (.cells cs0.toArray 39))
    have BX := hid (Blk.new w4 39 cs0.toArray)
    have LP : Hid (Lp w w4.heap.size (sto0 hosts) cs0 V0 (fun k => V0.own k ∨ k = w4.heap.size) (w4.alloc (.cells cs0.toArray 39))) := by
     have s1 := F1.o.size
     have s2 := F2.o.size
     have s3 := F23.o.size
     have s4 := F34.o.size
     have o2 : ∀ k, V0.own k → k < w2.heap.size := fun k o => HST.o.low k o
     have fa := (F23.o.trans F34.o i3).alloc (.cells cs0.toArray 39)
     refine ⟨⟨HST.o.fr fa (fun _ _ m => m.elim) (fun k hk r => r.elim id (fun e => by omega)) (fun _ r => .inl r) (fun k r => r.elim (fun r => ltl (o2 k r) fa.size) (fun e => e ▸ BX.o.lt)), ?_⟩, BX.o, .inr rfl, fun o => by have := o2 _ o; omega, fun k r => r.elim (fun o => by have := HOW.o k o; omega) (fun e => by omega), F4.o⟩
     refine kAH HRX.o ((Fr.refl No w4).alloc (.cells cs0.toArray 39)) ?_ ?_
     · rintro k (hk | ⟨-, hk⟩)
       · have : k < w.heap.size := hk
         omega
       exact hk
     rintro k (hk | ⟨h1, h2⟩)
     · have hk : k < w.heap.size := hk
       exact ⟨by have := BX.o.lt; omega, fun r => r.elim (fun o => by have := HOW.o k o; omega) (fun e => by omega)⟩
     exact ⟨by have := BX.o.lt; omega, fun r => r.elim (fun o => by have := o2 k o; omega) (fun e => by omega)⟩
    clear F4 BX HRX HL0 HO0 F34 F3 F23 F2 HST HOW
    generalize w4.alloc (.cells cs0.toArray 39) = W at *
    generalize w4.heap.size = p at *
    go_wp2_with fail
    go_loopw [7] (fun i wr => ∃ (k : Nat) (cs : LV) (V : Pl) (R : Nat → Prop), k ≤ acts.length ∧ i = .int .i64 k ∧ V.P = P0 ∧ Hid (Lp w p (kBu hosts (acts.take k)) cs V R wr)) (fun i _ => acts.length - (intOf i).toNat)
    case atStart => exact ⟨0, cs0, V0, _, by omega, rfl, HP0.o.symm, LP.o⟩
    case round =>
    clear LP HP0
    obtain ⟨k, cs, V, R, hk, rfl, rfl, LP⟩ := hrel
    have HIN := hid (kDx HM.o HB.o HAB.o k hk)
    have HNK : Hid (k ≤ 60) := by have := FW.o.1; unfold Hid; omega
    by_cases hlt : k < acts.length
    · have d1 : decide ((k : Int) < (acts.length : Nat)) = true := by simp; omega
      have i0 := nki k
      have i1 : (k : Int) < (acts.length : Nat) := om
      have HLT : Hid (k + 1 ≤ acts.length) := hlt
      obtain ⟨g, o, ds, eB, hb, hc, hr⟩ := (kAA HA.o LP.o.fr i2 i2).at_ k hlt
      subst eB
      obtain ⟨a, hac⟩ : ∃ a, a = acts[k]'hlt := ⟨_, rfl⟩
      have hr2 : tAt.rd wr (fun x => x < w.heap.size) ds a := by rw [hac]; exact hr
      have HAC := hid (kEi (hosts := hosts) hlt)
      rw [← hac] at HAC
      have AB := hid (HAB.o a (by rw [hac]; exact List.getElem_mem hlt))
      have RA : Hid (∀ X, Fr V.own wr X → X.rangeAt g (o + k * 38) ds) := fun X f j u hj => by
       have h := hc j u hj
       rw [show o + (k * tAt.size + j) = o + k * 38 + j by show o + (k * 38 + j) = _; omega] at h
       exact (f.cell (p := ⟨g, o + k * 38 + j, none⟩) (ltl hb LP.o.fr.size) (fun o => by have h1 := LP.o.lo g (LP.o.b.pr.own g o); have h2 : g < w.heap.size := hb; omega)).trans h
      have RX : Hid (∀ X, Fr V.own wr X → X.rangeAt p 0 cs) := fun X f => by simpa using rangeAt_blk (LP.o.bx.fr f LP.o.np)
      have RD : Hid (∀ X, Fr No w X → Ce X g (o + k * 38 + 1) (.int .i64 a.addr)) := fun X f => by
       obtain ⟨P1, p1, P2, p2, A1, c1, A2, c2, A3, c3, ms, ns, hes, -⟩ := kAg hr2
       have h : wr.cell? ⟨g, o + k * 38 + 1, none⟩ = some (.int .i64 a.addr) := RA.o wr (Fr.refl _ _) 1 _ (by rw [hes]; rfl)
       exact (f.cell (p := ⟨g, o + k * 38 + 1, none⟩) hb id).trans ((LP.o.fr.cell (p := ⟨g, o + k * 38 + 1, none⟩) hb id).symm.trans h)
      have DL : Hid (ds.length = 38) := TyOk.len _ _ _ _ hr2
      have CL : Hid (cs.length = 10) := TyOk.len _ _ _ _ LP.o.b.rf
      have HPL : Hid (∀ (X : World) (R : Nat → Prop), Fr No wr X → Lp w p (kBu hosts (acts.take k)) cs V R X → Calls prog 11 #[.pointer (some ⟨V.P, 0, none⟩), .agg cs.toArray, .agg ds.toArray] X (kAZ R V (kBu hosts (acts.take (k + 1))) X)) := fun X R f l => by
       rw [HAC.o]
       refine kKk l.b HIN.o (by have := HNK.o; omega) a (kAH hr2 f (fun k hk => ltl hk LP.o.fr.size) (fun k hk => ⟨?_, fun r => ?_⟩)) AB.o
       · have h1 : k < w.heap.size := hk
         have := l.fr.size
         omega
       have h1 : k < w.heap.size := hk
       have := l.lo k r
       omega
      clear hc hr hr2 hac hb HAC AB hlt
      go_upto_region 12 with fail
      go_cut [8, 9] (fun v8 v9 wx => ∃ (q : Nat) (cs2 : LV) (V2 : Pl) (R2 : Nat → Prop), v8 = .pointer (some ⟨q, 0, none⟩) ∧ v9 = .bool true ∧ V2.P = V.P ∧ Hid (Lq w p q (kBu hosts (acts.take (k + 1))) cs cs2 V2 R2 wx))
      case first =>
       clear RD
       refine wp_region_ort (Fr V.own wr) (.rd 0 (.rd 1 (.rd 2 (.rd 3 (.rd 4 (.rd 5 (.alt 6 (.rd 7 (.rd 8 (.rd 9 (.eff 10 (.eff 11 (.rd 12 .nil)))))) 10 (.eff 6 (.rd 7 (.rd 8 (.rd 9 (.eff 11 (.rd 12 .nil))))))))))))) kr kr kr rfl (Fr.refl _ _).drew ?_
       refine rT tvv ?_
       refine kGX rfl rfl 39 _ rfl p 0 (by rfl) cs _ (fun X hX => RX.o X hX) underlying39 (by rfl) (HI.o _ CL.o) ?_
       simp only [zC, Act.put]
       refine rT tvv ?_
       refine kGX rfl rfl 76 _ rfl g (o + k * 38) (by rfl) ds _ (fun X hX => RA.o X hX) underlying76 (by rfl) (HIA.o _ DL.o) ?_
       simp only [zC, Act.put]
       clear RX RA
       refine wpT_alt ?_ ?_
       · refine wpT_eff rfl rfl fun K hK => sz ?_
         refine (HPL.o _ R (Fr.refl No wr).drew (LP.o.no (Fr.refl No wr).drew)).mono ?_
         rintro e Y ⟨V2, R2, cs2, rfl, hb, hg⟩
         have SY := hid (((Fr.refl V.own wr).drew).trans hg.fr i3)
         have L0 := hid (LP.o.no (Fr.refl No wr).drew)
         have HB2 := hid hb
         have HG := hid hg
         have HL2 : Hid (cs2.length = 10) := TyOk.len _ _ _ _ hb.rf
         have HO2 : Hid (cs2.all (·.oneCell') = true) := List.all_eq_true.2 ((inferInstance : kAG tRx).one _ _ _ _ hb.rf)
         clear hb hg
         refine hK _ _ (SY.o) ?_
         clear hK K
         refine rT tvv ?_
         refine wpT_eff rfl rfl fun K hK => sz ?_
         have BZ := hid (Blk.new Y 39 kCh)
         have SZ := hid (SY.o.alloc (.cells kCh 39))
         have FZ := hid ((Fr.refl No Y).alloc (.cells kCh 39))
         obtain ⟨q, hq⟩ : ∃ q, Y.heap.size = q := ⟨_, rfl⟩
         have LQ : Hid (wr.heap.size ≤ q ∧ Y.heap.size ≤ q) := hid (by have := SY.o.size; exact ⟨by omega, by omega⟩)
         rw [hq] at BZ ⊢
         clear hq
         generalize Y.alloc (.cells kCh 39) = Z at *
         refine hK _ _ (SZ.o) ?_
         clear hK K
         have HT : Hid (Z.there q 0 cs2.toArray.size) := by
          have h := there_blk (n := 10) BZ.o rfl
          exact kGR
         have HJ : Hid ((prog.info? 39).map (·.size) = some cs2.toArray.size) := HI.o _ (show cs2.toArray.size = 10 from HL2.o)
         have HO3 : Hid (cs2.toArray.all (·.oneCell') = true) := hid (by have := HO2.o; simpa using this)
         refine wpT_eff rfl rfl (fun K hK => ?_)
         simp only [zA]
         refine wp_store_mid 39 _ _ (by rfl) q 0 cs2.toArray (by rfl) (by rfl) HT.o HJ.o HO3.o ?_
         refine hK _ _ (Fr.setCells' (a := wr) (M := V.own) (b := q) (fun h => absurd h (by have := LQ.o.1; omega)) cs2 0 Z SZ.o) ?_
         clear hK K
         refine rT tvv ?_
         refine wpT_nil ?_
         go_wp2
         go_meet
         exact ⟨q, cs2, V2, R2, rfl, rfl, HG.o.P, L0.o.step HG.o HB2.o (Fr.setCells' (a := Y) (M := No) (b := q) (fun h => absurd h (by have := LQ.o.2; omega)) cs2 0 Z FZ.o) (BZ.o.setAll (by have := HL2.o; simp; omega)) LQ.o.1⟩
       · refine wpT_eff rfl rfl fun K hK => sz ?_
         have BZ := hid ((Blk.new wr 39 kCh).drew)
         have SZ := hid (((Fr.refl V.own wr).alloc (.cells kCh 39)).drew)
         have FZ := hid (((Fr.refl No wr).alloc (.cells kCh 39)).drew)
         have L0 := hid (LP.o.more FZ.o (q := wr.heap.size) nr BZ.o.lt)
         have NQ : Hid (¬ V.own wr.heap.size ∧ p ≠ wr.heap.size) := ⟨fun o => by have := LP.o.b.pr.low _ (LP.o.b.pr.own _ o); omega, fun e => by have := LP.o.bx.lt; omega⟩
         obtain ⟨q, hq⟩ : ∃ q, wr.heap.size = q := ⟨_, rfl⟩
         rw [hq] at BZ L0 NQ ⊢
         have LQ : Hid (wr.heap.size ≤ q) := hid om
         clear hq
         generalize (wr.alloc (.cells kCh 39)).drew = Z at *
         refine hK _ _ (SZ.o) ?_
         clear hK K
         refine wpT_eff rfl rfl fun K hK => sz ?_
         refine (HPL.o _ _ FZ.o L0.o).mono ?_
         rintro e Y ⟨V2, R2, cs2, rfl, hb, hg⟩
         have SY := hid (SZ.o.trans hg.fr i3)
         have BY := hid (BZ.o.fr hg.fr NQ.o.1)
         have HB2 := hid hb
         have HG := hid hg
         have HL2 : Hid (cs2.length = 10) := TyOk.len _ _ _ _ hb.rf
         have HO2 : Hid (cs2.all (·.oneCell') = true) := List.all_eq_true.2 ((inferInstance : kAG tRx).one _ _ _ _ hb.rf)
         clear hb hg
         refine hK _ _ (SY.o) ?_
         clear hK K
         refine rT tvv ?_
         have HT : Hid (Y.there q 0 cs2.toArray.size) := by
          have h := there_blk (n := 10) BY.o rfl
          exact kGR
         have HJ : Hid ((prog.info? 39).map (·.size) = some cs2.toArray.size) := HI.o _ (show cs2.toArray.size = 10 from HL2.o)
         have HO3 : Hid (cs2.toArray.all (·.oneCell') = true) := hid (by have := HO2.o; simpa using this)
         refine wpT_eff rfl rfl (fun K hK => ?_)
         simp only [zA]
         refine wp_store_mid 39 _ _ (by rfl) q 0 cs2.toArray (by rfl) (by rfl) HT.o HJ.o HO3.o ?_
         refine hK _ _ (Fr.setCells' (a := wr) (M := V.own) (b := q) (fun h => absurd h (by have := LQ.o; omega)) cs2 0 Y SY.o) ?_
         clear hK K
         refine rT tvv ?_
         refine wpT_nil ?_
         go_wp2
         go_meet
         exact ⟨q, cs2, V2, R2, rfl, rfl, HG.o.P, L0.o.step2 HG.o HB2.o BZ.o rfl (.inr rfl) NQ.o.1 NQ.o.2⟩
      obtain ⟨q, cs2, V2, R2, rfl, rfl, hP, LQ⟩ := hcut
      have RQ : wc.rangeAt q 0 cs2 := by simpa using rangeAt_blk LQ.o.bq
      have HL2 : Hid (cs2.length = 10) := TyOk.len _ _ _ _ LQ.o.b.rf
      have HT : Hid (wc.there p 0 cs2.toArray.size) := by
       have h := there_blk (n := 10) LQ.o.bx (show cs.toArray.size = 10 from CL.o)
       exact kGR
      have HJ : Hid ((prog.info? 39).map (·.size) = some cs2.toArray.size) := HI.o _ (show cs2.toArray.size = 10 from HL2.o)
      have HO3 : Hid (cs2.toArray.all (·.oneCell') = true) := hid (by
       have h : cs2.all (·.oneCell') = true := List.all_eq_true.2 ((inferInstance : kAG tRx).one _ _ _ _ LQ.o.b.rf)
       simpa using h)
      go_upto_region 14 with (first
       | (refine wpList_load_mid (by rfl) 39 _ (by rfl) q 0 (by rfl) _ _ RQ underlying39 (by rfl) (HI.o _ HL2.o) ?_)
       | (refine wpList_store_mid (by rfl) 39 _ _ (by rfl) p 0 cs2.toArray (by rfl) (by rfl) HT.o HJ.o HO3.o ?_)
       | fail)
      have LP2 : Hid (Lp w p (kBu hosts (acts.take (k + 1))) cs2 V2 R2 (wc.setCells p 0 cs2)) := LQ.o.put
      clear RQ HT HJ HO3 LQ LP
      generalize wc.setCells p 0 cs2 = W2 at *
      simp only [Act.put, zC]
      have IN2 := hid (kDx HM.o HB.o HAB.o (k + 1) HLT.o)
      have HPP := hid hP
      have HAS : Hid (∀ X, Fr No W2 X → Calls prog 12 #[.pointer (some ⟨V.P, 0, none⟩), .agg cs2.toArray, .int .i64 a.addr] X (YesTo X)) := fun X f => by
       rw [← HPP.o]
       exact kKu (LP2.o.b.fr f) (IN2.o.ask (by have := HNK.o; omega)) a.addr
      have HOS : Hid (∀ X, Fr No W2 X → Calls prog 13 #[.pointer (some ⟨V.P, 0, none⟩), .agg cs2.toArray, .int .i64 a.addr] X (YesTo X)) := fun X f => by
       rw [← HPP.o]
       exact kMh (LP2.o.b.fr f) (IN2.o.own (by have := HNK.o; omega)) a.addr
      have RX2 : Hid (∀ X, Fr No W2 X → X.rangeAt p 0 cs2) := fun X f => by simpa using rangeAt_blk (LP2.o.bx.fr f id)
      clear hP
      refine rwP (Fr No W2) [] (List.range 24) [10, 21] (Fr.refl _ _).drew ?_
      repeat (first | refine pS ?_ | refine pF ?_ | refine pX (fun (X : World) (h : Fr No W2 X) => RD.o X (LP2.o.fr.trans h i3)) ?_)
      refine kAp rfl rfl rfl 39 _ rfl p 0 (by rfl) cs2 _ (fun X hX => RX2.o X hX) underlying39 (by rfl) (HI.o _ HL2.o) ?_
      simp only [zC, Act.put]
      repeat (first | refine pS ?_ | refine pF ?_ | refine pX (fun (X : World) (h : Fr No W2 X) => RD.o X (LP2.o.fr.trans h i3)) ?_)
      refine kAE rfl rfl fun K hK => sz ?_
      refine (HAS.o _ (Fr.refl No W2).drew).mono ?_
      rintro e W3 ⟨rfl, f3⟩
      have F3 := hid ((Fr.refl No W2).drew.trans f3 i3)
      clear f3
      refine hK _ _ (fun _ => F3.o) ?_
      clear hK K
      repeat (first | refine pS ?_ | refine pF ?_ | refine pX (fun (X : World) (h : Fr No W2 X) => RD.o X (LP2.o.fr.trans h i3)) ?_)
      refine kAp rfl rfl rfl 39 _ rfl p 0 (by rfl) cs2 _ (fun X hX => RX2.o X hX) underlying39 (by rfl) (HI.o _ HL2.o) ?_
      simp only [zC, Act.put]
      repeat (first | refine pS ?_ | refine pF ?_ | refine pX (fun (X : World) (h : Fr No W2 X) => RD.o X (LP2.o.fr.trans h i3)) ?_)
      refine kAE rfl rfl fun K hK => sz ?_
      refine (HOS.o _ F3.o).mono ?_
      rintro e W4 ⟨rfl, f4⟩
      have F4 := ftr F3 f4
      clear f4
      refine hK _ _ (fun _ => F4.o) ?_
      clear hK K
      repeat (first | refine pS ?_ | refine pF ?_ | refine pX (fun (X : World) (h : Fr No W2 X) => RD.o X (LP2.o.fr.trans h i3)) ?_)
      refine kAj ?_
      clear RD RX2 HAS HOS
      go_wp2
      go_roundw
      case rel => exact ⟨k + 1, cs2, V2, R2, HLT.o, by go_num, HPP.o, LP2.o.no F4.o⟩
      simp [intOf]; omega
    have f1 : decide ((k : Int) < (acts.length : Nat)) = false := by simp; omega
    have f2 : ¬ ((k : Int) < (acts.length : Nat)) := om
    have RX : Hid (∀ X, Fr No wr X → X.rangeAt p 0 cs) := fun X f => by simpa using rangeAt_blk (LP.o.bx.fr f id)
    have CL : Hid (cs.length = 10) := TyOk.len _ _ _ _ LP.o.b.rf
    obtain ⟨x, hx⟩ : ∃ x, x = kBu hosts (acts.take k) := ⟨_, rfl⟩
    rw [← hx] at LP HIN
    clear hx
    have HSH : Hid (∀ X, Fr No wr X → Calls prog 15 #[.pointer (some ⟨V.P, 0, none⟩)] X (kAa tSh (kAi x) X)) := fun X f => kHH (LP.o.b.fr f).pr (HIN.o.sh (by have := HNK.o; omega))
    have HRS : Hid (∀ X, Fr No wr X → Calls prog 16 #[.agg cs.toArray] X (kMa (Sd X R) (kAi x) X)) := fun X f => by
     have s := HIN.o.sh (by have := HNK.o; omega)
     exact kJy (LP.o.b.fr f).rf (fun _ h => h.1) s.lme s.lta s.lgl s.lel s.lda
    have HLE := hid (HIN.o.le (by have := HNK.o; omega))
    have FW := hid LP.o.fr
    clear LP HIN
    go_upto_region 16 with fail
    refine rwP (Fr No wr) [] [0, 2, 1, 3, 4, 5, 6, 7, 8] [1, 3, 4, 6] (Fr.refl _ _).drew ?_
    refine rP tvv ?_
    refine kAp rfl rfl rfl 39 _ rfl p 0 (by rfl) cs _ (fun X hX => RX.o X hX) underlying39 (by rfl) (HI.o _ CL.o) ?_
    simp only [zC, Act.put]
    refine kAE rfl rfl fun K hK => sz ?_
    refine (HSH.o _ (Fr.refl No wr).drew).mono ?_
    rintro e W2 ⟨ds, rfl, hd, f2⟩
    have F2 := hid ((Fr.refl No wr).drew.trans f2 i3)
    have HD := hid hd
    clear hd f2
    refine hK _ _ (fun _ => F2.o) ?_
    clear hK K
    refine kAE rfl rfl fun K hK => sz ?_
    refine (HRS.o _ F2.o).mono ?_
    rintro e W3 ⟨es, rfl, he, f3⟩
    have F3 := ftr F2 f3
    have HE := hid he
    have HD3 := hid (kAH (S' := (· < W3.heap.size)) HD.o f3 (fun _ h => h.2) (fun _ h => ltl h.2 f3.size))
    have HE3 : Hid (tSh.rd W3 (· < W3.heap.size) es (kAi x)) := TyMore.more _ _ _ _ _ he (fun _ h => h.elim (fun h => ltl h.1 f3.size) (fun h => h.2))
    clear he f3
    refine hK _ _ (fun _ => F3.o) ?_
    clear hK K
    refine kAE rfl rfl fun K hK => sz ?_
    have HSM := kIN (kAi x) (kAi x) ds es _ _ W3 HD3.o HE3.o i2 i2 HLE.o HLE.o
    rw [kKh] at HSM
    refine HSM.mono ?_
    rintro e W4 ⟨rfl, f4⟩
    have F4 := ftr F3 f4
    clear f4
    refine hK _ _ (fun _ => F4.o) ?_
    clear hK K HSM
    refine rP tvv ?_
    refine kAE rfl rfl fun K hK => sz ?_
    refine (kEZ _).mono ?_
    rintro e W5 ⟨rfl, f5⟩
    have F5 := ftr F4 f5
    clear f5
    refine hK _ _ (fun _ => F5.o) ?_
    clear hK K
    refine rP tvv ?_
    refine kAj ?_
    go_wp2
    go_ret
    exact ⟨rfl, FW.o.trans F5.o i3⟩
  · rw [if_neg hm] at hN
    obtain ⟨rfl, f2⟩ := hN
    have HM : Hid (mayB hosts = false) := by unfold Hid; simpa using hm
    have F2 := ftr F1 f2
    clear f2 hm
    go_wp2_with fail
    refine (kHR A c0 hosts w2 (kAA HH.o F2.o i2 (fun _ h => ltl h F2.o.size)) (by have := L1.o; omega) HB.o).mono ?_
    rintro e w3 ⟨rfl, f3⟩
    rw [HM.o]
    have F3 := ftr F2 f3
    clear f3
    go_wp2_with fail
    refine (kEZ _).mono ?_
    rintro e w4 ⟨rfl, f4⟩
    go_wp2_with fail
    go_ret
    exact ⟨rfl, F3.o.trans f4 i3⟩
end Go.Proofs.YtdckghiipijobaaGreat
