/- Part 12 of the proof: lemmas and contracts of functions. No condition. -/
import Derived.Test.YthggdemiddjlgaaGreatS11
import Derived.Test.YthggdemiddjlgaaGreatS1
set_option maxRecDepth 100000
set_option maxHeartbeats 12800000
set_option linter.unusedVariables false
set_option linter.unusedSimpArgs false
set_option linter.unusedSectionVars false
namespace Go.Proofs.YthggdemiddjlgaaGreat
open Go.RowKit Go.Proofs.Tryz
structure RxB (x : Rx) : Prop where
 hl : x.hosts.length ≤ 20
 hb : ∀ h ∈ x.hosts, HoBd h
 fl : x.funcs.length ≤ 40
 fb : ∀ f ∈ x.funcs, f.ty.params.length ≤ 40 ∧ f.ty.results.length ≤ 40
 tl : x.tabs.length ≤ 20
 tb : ∀ t ∈ x.tabs, t.l.length ≤ 140737488351232
 ml : x.mems.length ≤ 20
 mb : ∀ m ∈ x.mems, m.b.length ≤ 140737488351232
 gl : x.globs.length ≤ 40
 il : x.insts.length ≤ 10
 ib : ∀ i ∈ x.insts, MdB i.m ∧ AdB i.a
def kIS (x : Rx) (w : World) (e : Ending) (w' : World) : Prop :=
 (e = .returned (.tuple #[.pointer none, .bool false]) ∧ Fr No w w') ∨
 ∃ (V : Pl) (R : Nat → Prop), e = .returned (.tuple #[.pointer (some ⟨V.P, 0, none⟩), .bool true]) ∧ StIn w' R V (kAE x x.funcs.length x.tabs.length x.mems.length x.globs.length x.insts.length) ∧ (∀ k, R k → w.heap.size ≤ k) ∧ Fr No w w' ∧ mayB x.hosts = true ∧ MkQ x x.tabs.length x.mems.length
theorem kGk (x : Rx) {cs : LV} (w : World) (hx : tRx.rd w (· < w.heap.size) cs x) (hb : RxB x) :
    Calls prog 11 #[.agg cs.toArray] w (kIS x w) := by
 obtain ⟨A0, c0, A1, c1, A2, c2, A3, c3, A4, c4, A5, c5, A6, c6, A7, c7, A8, c8, A9, c9, hcs, -, -, e0, -, -, -, -, -, -, -, -, e3, -, -, e4, -, -, e5, -, -, e6, -, -, -, -, -, -, -, -, e9⟩ := kBz hx
 have E0 := hid e0
 have E3 := hid e3
 have E4 := hid e4
 have E5 := hid e5
 have E6 := hid e6
 have E9 := hid e9
 have HB := hid hb
 have F0 := hid ((Fr.refl No w).alloc (.cells cs.toArray 33))
 have B0 := hid (Blk.new w 33 cs.toArray)
 have HC : Hid (∀ (X : World) (p : Nat), Blk X p 33 cs.toArray → Ce X p 0 (.slice A0 x.hosts.length c0) ∧ Ce X p 3 (.slice A3 x.funcs.length c3) ∧ Ce X p 4 (.slice A4 x.tabs.length c4) ∧ Ce X p 5 (.slice A5 x.mems.length c5) ∧ Ce X p 6 (.slice A6 x.globs.length c6) ∧ Ce X p 9 (.slice A9 x.insts.length c9)) := fun X p b => by
  rw [hcs] at b
  exact ⟨b.cell 0, b.cell 3, b.cell 4, b.cell 5, b.cell 6, b.cell 9⟩
 have HL : Hid (cs.length = 10) := TyOk.len _ _ _ _ hx
 clear hx hb hcs e0 e3 e4 e5 e6 e9
 go_enter func11, ntmps11
 go_upto_region 1 with fail
 generalize w.alloc (.cells cs.toArray 33) = W at *
 obtain ⟨p, hp⟩ : ∃ p, p = w.heap.size := ⟨_, rfl⟩
 rw [← hp] at B0 ⊢
 have HP := hid hp
 clear hp
 have y := (HC.o W p B0.o).1
 go_wp2_with fail
 refine (kDm A0 c0 x.hosts (· < w.heap.size) W (els_up E0.o F0.o i2 i2) (fun k hk => ltl hk F0.o.size) (by have := HB.o.hl; omega) HB.o.hb).mono ?_
 rintro e w1 hN
 unfold kBp at hN
 clear y
 by_cases hm : mayB x.hosts = true
 case neg =>
  rw [if_neg hm] at hN
  obtain ⟨rfl, f1⟩ := hN
  go_wp2_with fail
  go_ret2
  exact .inl ⟨rfl, F0.o.trans f1 i3⟩
 rw [if_pos hm] at hN
 obtain ⟨V0, rfl, hst, hown, f1⟩ := hN
 have HM := hid hm
 have MK : Hid (Mk w p x cs 0 0 0 0 0 V0.P w1) := ⟨⟨V0, V0.own, rfl, (show kAE x 0 0 0 0 0 = sto0 x.hosts from rfl) ▸ hst, fun k o => by have := hown k o; have := F0.o.size; omega, fun o => by have h1 := hown p o; have h2 := B0.o.lt; omega⟩, F0.o.trans f1 i3, ⟨fun t ht => by simp at ht, fun t ht => by simp at ht⟩, B0.o.fr f1 id⟩
 clear hm hst hown f1 B0 F0
 generalize V0.P = P at *
 clear V0 W
 have y := (HC.o w1 p MK.o.bx).2.1
 go_wp2_with fail
 clear y
 go_loopw [5] (fun i wr => ∃ k : Nat, k ≤ x.funcs.length ∧ i = .int .i64 k ∧ Hid (Mk w p x cs k 0 0 0 0 P wr)) (fun i _ => x.funcs.length - (intOf i).toNat)
 case atStart => exact ⟨0, by omega, rfl, MK.o⟩
 case round =>
 clear MK
 obtain ⟨k, hk, rfl, MK⟩ := hrel
 have y := (HC.o wr p MK.o.bx).2.1
 by_cases hlt : k < x.funcs.length
 · have d1 : decide ((k : Int) < (x.funcs.length : Nat)) = true := by simp; omega
   have i0 := nki k
   have i1 : (k : Int) < (x.funcs.length : Nat) := om
   have HLT : Hid (k + 1 ≤ x.funcs.length) := hlt
   have hfl := HB.o.fl
   have e9 : wrap64 ((k : Int) + 1) = ((k + 1 : Nat) : Int) := by simp only [wrap64]; omega
   obtain ⟨b, o, P1, p1, P2, p2, eA, hbS, z0, z1, z2, z3, -, -, g1, -, -, g2, wi, wx⟩ := kFW (els_up E3.o MK.o.f i2 i2) k hlt
   subst eA
   have HG := hid (And.intro (els_up g1 (Fr.refl No wr) (fun _ h => ltl h MK.o.f.size) (fun _ h => ltl h MK.o.f.size)) (els_up g2 (Fr.refl No wr) (fun _ h => ltl h MK.o.f.size) (fun _ h => ltl h MK.o.f.size)))
   have HW := hid (And.intro wi wx)
   have HFB := hid (HB.o.fb _ (List.getElem_mem hlt))
   have HTK := hid (List.take_succ_eq_append_getElem hlt)
   clear g1 g2 wi wx hbS
   generalize x.funcs[k] = f at z0 z1 z2 z3 HG HW HFB HTK
   clear hlt
   go_wp2_with fail
   clear z0 z1 z2 z3 y
   obtain ⟨V, R, hP, st, r1, r2⟩ := MK.o.ex
   subst hP
   have HST := hid st
   have HA := hid (kEd st f P1 P2 p1 p2 HG.o.1 HG.o.2 (by simp only [kAE, List.length_take]; omega) (by have := HFB.o.1; omega) (by have := HFB.o.2; omega) HW.o.1 HW.o.2 (fun a ha => ⟨by have := (HB.o.hb a ha).p; omega, by have := (HB.o.hb a ha).r; omega⟩))
   clear st
   cases hv : kAz (kAE x k 0 0 0 0) f with
   | false =>
    rw [kBD hv] at HA
    refine HA.o.mono ?_
    rintro e w2 ⟨V', R', rfl, k2, g⟩
    have FW := hid (MK.o.f.trans g.fr (fun i hi o => by have := r1 i (HST.o.own i o); omega))
    have hne : ((-1 : Int) == (k : Int)) = false := by simp
    clear HA g k2
    go_wp2_with fail
    go_ret2
    exact .inl ⟨rfl, FW.o⟩
   | true =>
    rw [kCI hv] at HA
    refine HA.o.mono ?_
    rintro e w2 ⟨V', R', rfl, k2, g⟩
    have el : (((kAE x k 0 0 0 0).funcs.length : Nat) : Int) = (k : Int) := by have := HLT.o; simp only [kAE, List.length_take]; omega
    have MK2 : Hid (Mk w p x cs (k + 1) 0 0 0 0 V.P w2) := by
     refine Mk.grown MK.o.bx MK.o.f MK.o.q r1 r2 HST.o ?_ g rfl
     unfold kAE at k2 ⊢
     rw [HTK.o]
     exact k2
    rw [el]
    clear HA g k2 el MK HST
    go_wp2_with fail
    go_roundw
    case rel => exact ⟨k + 1, HLT.o, by go_num, MK2.o⟩
    case measure => exact meas HLT.o
 have hkn : k = x.funcs.length := om
 subst hkn
 obtain ⟨W1, hY⟩ : ∃ Y, Y = wr := ⟨_, rfl⟩
 subst hY
 go_wp2_with fail
 clear y hk hlt
 go_loopw [6] (fun i wr => ∃ k : Nat, k ≤ x.tabs.length ∧ i = .int .i64 k ∧ Hid (Mk w p x cs x.funcs.length k 0 0 0 P wr)) (fun i _ => x.tabs.length - (intOf i).toNat)
 case atStart => exact ⟨0, by omega, rfl, MK.o⟩
 case round =>
 clear MK
 obtain ⟨k, hk, rfl, MK⟩ := hrel
 have y := (HC.o wr p MK.o.bx).2.2.1
 have htl := HB.o.tl
 by_cases hlt : k < x.tabs.length
 · have d1 : decide ((k : Int) < (x.tabs.length : Nat)) = true := by simp; omega
   have i0 := nki k
   have i1 : (k : Int) < (x.tabs.length : Nat) := om
   have HLT : Hid (k + 1 ≤ x.tabs.length) := hlt
   obtain ⟨b, o, P1, p1, eA, hbS, z0, z1, z2, z3, z4, w0, w1, w2, -⟩ := kIi (els_up E4.o MK.o.f i2 i2) k hlt
   subst eA
   have hbl : b < wr.heap.size := ltl hbS MK.o.f.size
   have HTB := hid (HB.o.tb _ (List.getElem_mem hlt))
   have HTK := hid (List.take_succ_eq_append_getElem hlt)
   have HWF := hid (And.intro w0 (And.intro w1 w2))
   clear w0 w1 w2 hbS
   generalize x.tabs[k] = t at z0 z1 z2 z3 z4 HTB HTK HWF
   have HY : Hid (∀ X, Fr No wr X → Ce X p 4 (.slice (some ⟨b, o, none⟩) x.tabs.length c4) ∧ Ce X b (o + k * 5) (.int .i64 t.t.elem) ∧ Ce X b (o + k * 5 + 1) (.int .i64 t.t.lim.min) ∧ Ce X b (o + k * 5 + 2) (.int .i64 t.t.lim.max) ∧ Ce X b (o + k * 5 + 3) (.bool t.t.lim.has) ∧ Ce X b (o + k * 5 + 4) (.slice P1 t.l.length p1)) := fun X g =>
    ⟨(HC.o X p (MK.o.bx.fr g id)).2.2.1, (g.cell (p := ⟨b, o + k * 5, none⟩) hbl id).trans z0, (g.cell (p := ⟨b, o + k * 5 + 1, none⟩) hbl id).trans z1, (g.cell (p := ⟨b, o + k * 5 + 2, none⟩) hbl id).trans z2, (g.cell (p := ⟨b, o + k * 5 + 3, none⟩) hbl id).trans z3, (g.cell (p := ⟨b, o + k * 5 + 4, none⟩) hbl id).trans z4⟩
   clear z0 z1 z2 z3 z4 hbl hlt
   go_upto_region 12 with fail
   clear y
   refine rwO (Fr No wr) [] (List.range 17) [] (Fr.refl _ _).drew ?_
   refine rO HY.o ?_
   refine wpO_nil ?_
   obtain ⟨y, z0, z1, z2, z3, z4⟩ := HY.o _ (Fr.refl No wr).drew
   have MK1 := hid (MK.o.no (Fr.refl No wr).drew)
   generalize wr.drew = W2 at *
   generalize hn : IntKind.i64.wrap (((t.l.length : Nat) : Int) - t.t.lim.min) = n
   have HN := hid hn
   clear hn
   go_wp2_with fail
   obtain ⟨V, R, hP, st, r1, r2⟩ := MK1.o.ex
   subst hP
   have HST := hid st
   have HA := hid (kDy st t.t (by simp only [kAE, List.length_map, List.length_take]; omega))
   clear st
   have elk : (((kAE x x.funcs.length k 0 0 0).tabs.length : Nat) : Int) = (k : Int) := by have := HLT.o; simp only [kAE, List.length_map, List.length_take]; omega
   cases hv : tbB t.t with
   | false =>
    have ea : kBy (kAE x x.funcs.length k 0 0 0) t.t = (kAE x x.funcs.length k 0 0 0, -1) := by unfold kBy; rw [hv]; rfl
    rw [ea] at HA
    refine HA.o.mono ?_
    rintro e w2 ⟨V', R', rfl, k2, g⟩
    have FW := hid (MK1.o.f.trans g.fr (fun i hi o => by have := r1 i (HST.o.own i o); omega))
    have hne : ((-1 : Int) == (k : Int)) = false := by simp
    clear HA g k2 y z0 z1 z2 z3 z4 elk ea hv
    go_wp2_with fail
    go_ret2
    exact .inl ⟨rfl, FW.o⟩
   | true =>
    have ea : kBy (kAE x x.funcs.length k 0 0 0) t.t = ({ kAE x x.funcs.length k 0 0 0 with tabs := (kAE x x.funcs.length k 0 0 0).tabs ++ [⟨t.t, List.replicate t.t.lim.min.toNat 0⟩] }, (k : Int)) := by unfold kBy; rw [hv, elk]; rfl
    rw [ea] at HA
    refine HA.o.mono ?_
    rintro e w2 ⟨V', R', rfl, k2, g⟩
    have HV := hid hv
    have HK2 := hid k2
    have HG := hid g
    have HLK : Hid (k < V'.tp.length) := hid (by have h := k2.tl; have := HLT.o; simp only [kAE, List.length_append, List.length_map, List.length_take, List.length_singleton] at h; omega)
    obtain ⟨z, hz⟩ : ∃ z, z = V'.tp[k]'HLK.o := ⟨_, rfl⟩
    have hgz : getI (V'.tp.map (·.1)) (k : Int) = some z.1 := by rw [kAp (by rw [List.length_map]; exact HLK.o)]; simp [hz]
    have HZ := hid hz
    have HTT : Hid (∀ X, Fr No w2 X → Calls prog 27 #[.pointer (some ⟨V.P, 0, none⟩), .int .i64 k] X fun e w' => e = .returned (ptrV (some z.1)) ∧ Fr No X w') := hid (fun X f => by
     have HT := kEL (k2.frNo f) (k : Int) (by have := HLT.o; simp only [kAE, List.length_append, List.length_map, List.length_take, List.length_singleton]; omega)
     rw [hgz, g.P] at HT
     exact HT)
    clear HA g k2 y z0 z1 z2 z3 z4 elk ea hv hz hgz
    go_wp2_with fail
    refine (HTT.o _ (Fr.refl No w2)).mono ?_
    rintro e w3 ⟨rfl, f3⟩
    have F3 := hid f3
    clear f3
    simp only [ptrV]
    have FW3 := hid ((MK1.o.f.trans HG.o.fr (fun i hi o => by have := r1 i (HST.o.own i o); omega)).trans F3.o i3)
    by_cases n1 : n < 0
    · have d3 : decide (n < 0) = true := by simpa using n1
      clear n1
      go_wp2_with fail
      go_ret2
      exact .inl ⟨rfl, FW3.o⟩
    by_cases n2 : 0 < n
    · have d3 : decide (n < 0) = false := by simpa using n1
      have d4 : decide (0 < n) = true := by simpa using n2
      have HNP := hid n2
      clear n1 n2
      go_wp2_with fail
      refine (HTT.o _ F3.o).mono ?_
      rintro e w4 ⟨rfl, f4⟩
      have F4 := ftr F3 f4
      clear f4
      simp only [ptrV]
      go_wp2_with fail
      obtain ⟨h0, h1, h2⟩ := kDb HV.o
      have enn : n = (t.l.length : Int) - t.t.lim.min := by
       have h := HN.o
       have h3 := HTB.o
       rw [IntKind.wrap_i64] at h
       omega
      have HQT := hid (MK1.o.q.tab HTK.o ⟨h0, by have := HNP.o; omega⟩)
      have hnp := HNP.o
      have h3 := HTB.o
      have ew : IntKind.u64.wrap n = n := by rw [IntKind.wrap_u64]; omega
      obtain ⟨m, hm⟩ := Int.eq_ofNat_of_zero_le h0
      have em : t.t.lim.min.toNat = m := om
      obtain ⟨N, hN⟩ := Int.eq_ofNat_of_zero_le (show 0 ≤ n % 4294967296 by omega)
      have et := kHP (t := t) h0 enn om hN
      have HZ1 : Hid (V'.tp[k]? = some z) := by rw [HZ.o]; exact List.getElem?_eq_getElem HLK.o
      have hlen : (kAE x x.funcs.length k 0 0 0).tabs.length = k := by have := HLT.o; simp only [kAE, List.length_map, List.length_take]; omega
      have HT1 : Hid (((kAE x x.funcs.length k 0 0 0).tabs ++ [⟨t.t, List.replicate t.t.lim.min.toNat 0⟩])[k]? = some ⟨t.t, List.replicate t.t.lim.min.toNat 0⟩) := by unfold Hid; rw [List.getElem?_append_right (by omega)]; simp [hlen]
      have HTA := hid ((HK2.o.frNo F4.o).tat k z _ HZ1.o HT1.o)
      have HLN := hid hlen
      have HET := hid et
      rw [ew]
      clear et hlen h3 hnp ew
      by_cases hgr : kBt t.t.lim.max t.t.lim.has < ((List.replicate t.t.lim.min.toNat (0 : Int)).length : Int) + n % 4294967296
      · refine (kHj HTA.o n 0 (by have := HNP.o; omega) hgr).mono ?_
        rintro e w5 ⟨rfl, rfl⟩
        have FW4 := hid ((MK1.o.f.trans HG.o.fr (fun i hi o => by have := r1 i (HST.o.own i o); omega)).trans F4.o i3)
        clear hgr enn h0 h1 h2 hm em hN
        go_wp2_with fail
        go_ret2
        exact .inl ⟨rfl, FW4.o⟩
      have hgi : ((List.replicate t.t.lim.min.toNat (0 : Int)).length : Int) + (N : Int) ≤ kBt t.t.lim.max t.t.lim.has := by rw [← hN]; exact Int.not_lt.1 hgr
      refine (kGn HTA.o n 0 N (by have := HNP.o; omega) hN hgi).mono ?_
      rintro e w5 ⟨rfl, g⟩
      rw [List.length_replicate, em]
      have hne : ((m : Int) == 4294967295) = false := by simp; omega
      obtain ⟨R2, V2, k5, g5⟩ := HK2.o.growT F4.o HZ1.o HT1.o g
      have MK5 : Hid (Mk w p x cs x.funcs.length (k + 1) 0 0 0 V.P w5) := by
       refine Mk.grown MK1.o.bx MK1.o.f HQT.o r1 r2 HST.o ?_ (HG.o.trans g5) rfl
       have e2 : kAE x x.funcs.length (k + 1) 0 0 0 = { kAE x x.funcs.length k 0 0 0 with tabs := (kAE x x.funcs.length k 0 0 0).tabs ++ [⟨t.t, List.replicate t.t.lim.min.toNat 0 ++ List.replicate N 0⟩] } := by
        unfold kAE
        rw [HTK.o, List.map_append, List.map_cons, List.map_nil, HET.o]
       rw [e2, ← kDc (a := ⟨t.t, List.replicate t.t.lim.min.toNat 0⟩) HLN.o]
       exact k5
      clear hgr hgi enn h0 h1 h2 hm em hN g k5 g5
      go_wp2_with fail
      go_roundw
      case rel => exact ⟨k + 1, HLT.o, by go_num, MK5.o⟩
      exact meas HLT.o
    · have d3 : decide (n < 0) = false := by simpa using n1
      have d4 : decide (0 < n) = false := by simpa using n2
      have HNZ : Hid (n = 0) := by unfold Hid; omega
      clear n1 n2
      go_wp2_with fail
      go_roundw
      case rel =>
       refine ⟨k + 1, HLT.o, by go_num, ?_⟩
       obtain ⟨h0, h1, -⟩ := kDb HV.o
       have HQT := hid (MK1.o.q.tab HTK.o ⟨h0, by
        have hnn := HN.o
        have hz0 := HNZ.o
        have htb := HTB.o
        rw [hz0, IntKind.wrap_i64] at hnn
        omega⟩)
       have hv := HV.o
       unfold tbB tabB limB at hv
       simp at hv
       have hnn := HN.o
       have hz0 := HNZ.o
       have htb := HTB.o
       rw [hz0, IntKind.wrap_i64] at hnn
       have em : t.l.length - t.t.lim.min.toNat = 0 := om
       have e : tabN t = ⟨t.t, List.replicate t.t.lim.min.toNat 0⟩ := by unfold tabN; rw [em]; rfl
       have e2 : kAE x x.funcs.length (k + 1) 0 0 0 = { kAE x x.funcs.length k 0 0 0 with tabs := (kAE x x.funcs.length k 0 0 0).tabs ++ [⟨t.t, List.replicate t.t.lim.min.toNat 0⟩] } := by
        unfold kAE
        rw [HTK.o, List.map_append, List.map_cons, List.map_nil, e]
       exact (Mk.grown MK1.o.bx MK1.o.f HQT.o r1 r2 HST.o (e2 ▸ HK2.o) HG.o rfl).no F3.o
      exact meas HLT.o
 have hkn : k = x.tabs.length := om
 subst hkn
 obtain ⟨W1, hY⟩ : ∃ Y, Y = wr := ⟨_, rfl⟩
 subst hY
 go_wp2_with fail
 clear y hk hlt htl
 go_loopw [8] (fun i wr => ∃ k : Nat, k ≤ x.mems.length ∧ i = .int .i64 k ∧ Hid (Mk w p x cs x.funcs.length x.tabs.length k 0 0 P wr)) (fun i _ => x.mems.length - (intOf i).toNat)
 case atStart => exact ⟨0, by omega, rfl, MK.o⟩
 case round =>
 clear MK
 obtain ⟨k, hk, rfl, MK⟩ := hrel
 have y := (HC.o wr p MK.o.bx).2.2.2.1
 have hml := HB.o.ml
 by_cases hlt : k < x.mems.length
 · have d1 : decide ((k : Int) < (x.mems.length : Nat)) = true := by simp; omega
   have i0 := nki k
   have i1 : (k : Int) < (x.mems.length : Nat) := om
   have HLT : Hid (k + 1 ≤ x.mems.length) := hlt
   obtain ⟨b, o, P1, p1, eA, hbS, z0, z1, z2, z3, w0, w1, -⟩ := kIj (els_up E5.o MK.o.f i2 i2) k hlt
   subst eA
   have hbl : b < wr.heap.size := ltl hbS MK.o.f.size
   have HTB := hid (HB.o.mb _ (List.getElem_mem hlt))
   have HTK := hid (List.take_succ_eq_append_getElem hlt)
   have HWF := hid (And.intro w0 w1)
   clear w0 w1 hbS
   generalize x.mems[k] = t at z0 z1 z2 z3 HTB HTK HWF
   have HY : Hid (∀ X, Fr No wr X → Ce X p 5 (.slice (some ⟨b, o, none⟩) x.mems.length c5) ∧ Ce X b (o + k * 4) (.int .i64 t.lim.min) ∧ Ce X b (o + k * 4 + 1) (.int .i64 t.lim.max) ∧ Ce X b (o + k * 4 + 2) (.bool t.lim.has) ∧ Ce X b (o + k * 4 + 3) (.slice P1 t.b.length p1)) := fun X g =>
    ⟨(HC.o X p (MK.o.bx.fr g id)).2.2.2.1, (g.cell (p := ⟨b, o + k * 4, none⟩) hbl id).trans z0, (g.cell (p := ⟨b, o + k * 4 + 1, none⟩) hbl id).trans z1, (g.cell (p := ⟨b, o + k * 4 + 2, none⟩) hbl id).trans z2, (g.cell (p := ⟨b, o + k * 4 + 3, none⟩) hbl id).trans z3⟩
   clear z0 z1 z2 z3 hbl hlt
   go_upto_region 18 with fail
   clear y
   refine rwO (Fr No wr) [] (List.range 17) [] (Fr.refl _ _).drew ?_
   refine rO HY.o ?_
   refine wpO_nil ?_
   obtain ⟨y, z0, z1, z2, z3⟩ := HY.o _ (Fr.refl No wr).drew
   have MK1 := hid (MK.o.no (Fr.refl No wr).drew)
   generalize wr.drew = W2 at *
   generalize hn : IntKind.i64.wrap (IntKind.i64.wrap (((t.b.length : Nat) : Int) / 256) - t.lim.min) = n
   have HN := hid hn
   clear hn
   go_wp2_with fail
   obtain ⟨V, R, hP, st, r1, r2⟩ := MK1.o.ex
   subst hP
   have HST := hid st
   have HA := hid (kCw st t.lim (by simp only [kAE, List.length_map, List.length_take]; omega))
   clear st
   have elk : (((kAE x x.funcs.length x.tabs.length k 0 0).mems.length : Nat) : Int) = (k : Int) := by have := HLT.o; simp only [kAE, List.length_map, List.length_take]; omega
   cases hv : kBh t.lim with
   | false =>
    have ea : kBY (kAE x x.funcs.length x.tabs.length k 0 0) t.lim = (kAE x x.funcs.length x.tabs.length k 0 0, -1) := by unfold kBY; rw [hv]; rfl
    rw [ea] at HA
    refine HA.o.mono ?_
    rintro e w2 ⟨V', R', rfl, k2, g⟩
    have FW := hid (MK1.o.f.trans g.fr (fun i hi o => by have := r1 i (HST.o.own i o); omega))
    have hne : ((-1 : Int) == (k : Int)) = false := by simp
    clear HA g k2 y z0 z1 z2 z3 elk ea hv
    go_wp2_with fail
    go_ret2
    exact .inl ⟨rfl, FW.o⟩
   | true =>
    have ea : kBY (kAE x x.funcs.length x.tabs.length k 0 0) t.lim = ({ kAE x x.funcs.length x.tabs.length k 0 0 with mems := (kAE x x.funcs.length x.tabs.length k 0 0).mems ++ [⟨t.lim, List.replicate (t.lim.min.toNat * 256) 0⟩] }, (k : Int)) := by unfold kBY; rw [hv, elk]; rfl
    rw [ea] at HA
    refine HA.o.mono ?_
    rintro e w2 ⟨V', R', rfl, k2, g⟩
    have HV := hid hv
    have HK2 := hid k2
    have HG := hid g
    have HLK : Hid (k < V'.mp.length) := hid (by have h := k2.ml; have := HLT.o; simp only [kAE, List.length_append, List.length_map, List.length_take, List.length_singleton] at h; omega)
    obtain ⟨z, hz⟩ : ∃ z, z = V'.mp[k]'HLK.o := ⟨_, rfl⟩
    have hgz : getI (V'.mp.map (·.1)) (k : Int) = some z.1 := by rw [kAp (by rw [List.length_map]; exact HLK.o)]; simp [hz]
    have HZ := hid hz
    have HTT : Hid (∀ X, Fr No w2 X → Calls prog 29 #[.pointer (some ⟨V.P, 0, none⟩), .int .i64 k] X fun e w' => e = .returned (ptrV (some z.1)) ∧ Fr No X w') := hid (fun X f => by
     have HT := kEj (k2.frNo f) (k : Int) (by have := HLT.o; simp only [kAE, List.length_append, List.length_map, List.length_take, List.length_singleton]; omega)
     rw [hgz, g.P] at HT
     exact HT)
    clear HA g k2 y z0 z1 z2 z3 elk ea hv hz hgz
    go_wp2_with fail
    refine (HTT.o _ (Fr.refl No w2)).mono ?_
    rintro e w3 ⟨rfl, f3⟩
    have F3 := hid f3
    clear f3
    simp only [ptrV]
    have FW3 := hid ((MK1.o.f.trans HG.o.fr (fun i hi o => by have := r1 i (HST.o.own i o); omega)).trans F3.o i3)
    by_cases n1 : n < 0
    · have d3 : decide (n < 0) = true := by simpa using n1
      clear n1
      go_wp2_with fail
      go_ret2
      exact .inl ⟨rfl, FW3.o⟩
    have hvl := HV.o
    unfold kBh at hvl
    simp only [decide_eq_true_eq] at hvl
    obtain ⟨h0, h1, h2, h4⟩ := hvl
    have h3 := HTB.o
    have enn : n = ((t.b.length / 256 : Nat) : Int) - t.lim.min := by
     have h := HN.o
     rw [IntKind.wrap_i64, IntKind.wrap_i64] at h
     omega
    obtain ⟨m, hm⟩ := Int.eq_ofNat_of_zero_le h0
    have em : t.lim.min.toNat = m := om
    have HQ0 : Hid (0 ≤ t.lim.min ∧ t.lim.min ≤ ((t.b.length / 256 : Nat) : Int)) := ⟨h0, by omega⟩
    have HEN := hid (fun (N : Nat) (hN : (n % 4294967296).toNat = N) => kHV (m := t) h0 enn om hN)
    by_cases n2 : 0 < n
    · have d3 : decide (n < 0) = false := by simpa using n1
      have d4 : decide (0 < n) = true := by simpa using n2
      have ew : IntKind.u64.wrap n = n := by rw [IntKind.wrap_u64]; omega
      have HEW := hid ew
      have HNB : Hid (0 ≤ n ∧ n < 18446744073709551616) := hid om
      have HMS : Hid (t.lim.min.toNat = m ∧ m ≤ 256 ∧ (m : Int) ≤ most t.lim ∧ most t.lim ≤ 256) := by
       refine ⟨em, by omega, ?_, ?_⟩
       · unfold most; cases hh : t.lim.has with
         | true => have := h2 hh; simp; omega
         | false => simp; omega
       unfold most; cases hh : t.lim.has with
       | true => have := h2 hh; simp; omega
       | false => simp
      clear n1 n2 ew h0 h1 h2 h3 h4 enn hm em
      go_wp2_with fail
      refine (HTT.o _ F3.o).mono ?_
      rintro e w4 ⟨rfl, f4⟩
      have F4 := ftr F3 f4
      clear f4
      simp only [ptrV]
      go_wp2_with fail
      rw [HEW.o]
      have HZ1 : Hid (V'.mp[k]? = some z) := by rw [HZ.o]; exact List.getElem?_eq_getElem HLK.o
      have hlen : (kAE x x.funcs.length x.tabs.length k 0 0).mems.length = k := by have := HLT.o; simp only [kAE, List.length_map, List.length_take]; omega
      have HT1 : Hid (((kAE x x.funcs.length x.tabs.length k 0 0).mems ++ [⟨t.lim, List.replicate (t.lim.min.toNat * 256) 0⟩])[k]? = some ⟨t.lim, List.replicate (t.lim.min.toNat * 256) 0⟩) := by unfold Hid; rw [List.getElem?_append_right (by omega)]; simp [hlen]
      have HMA := hid ((HK2.o.frNo F4.o).mat k z _ HZ1.o HT1.o)
      have HLN := hid hlen
      have hgc := kFm _ _ _ _ _ n w4 HMA.o (by rw [List.length_replicate, HMS.o.1]; have := HMS.o.2.1; omega) (by rw [List.length_replicate, HMS.o.1, Nat.mul_div_cancel _ dc]; exact HMS.o.2.2.1) HMS.o.2.2.2 HNB.o
      clear hlen
      unfold kDW at hgc
      rw [List.length_replicate, HMS.o.1, Nat.mul_div_cancel _ dc] at hgc
      by_cases hgr : ((lo n : Nat) : Int) ≤ most t.lim - (m : Int)
      · rw [if_pos hgr] at hgc
        refine hgc.mono ?_
        rintro e w5 ⟨rfl, q', c', hM5, fr5, hq5⟩
        obtain ⟨R2, V2, k5, g5⟩ := HK2.o.growM F4.o HZ1.o HT1.o hM5 fr5 hq5
        have hne : ((m : Int) == 4294967295) = false := by have := HMS.o.2.1; simp; omega
        have HQT := hid (MK1.o.q.mem HTK.o ⟨HQ0.o.1, HQ0.o.2, by
         rw [HEN.o (lo n) rfl, HMS.o.1]
         have h1 := HMS.o.2.2.2
         simp only [List.length_append, List.length_replicate]
         omega⟩)
        have MK5 : Hid (Mk w p x cs x.funcs.length x.tabs.length (k + 1) 0 0 V.P w5) := by
         refine Mk.grown MK1.o.bx MK1.o.f HQT.o r1 r2 HST.o ?_ (HG.o.trans g5) rfl
         have e2 : kAE x x.funcs.length x.tabs.length (k + 1) 0 0 = { kAE x x.funcs.length x.tabs.length k 0 0 with mems := (kAE x x.funcs.length x.tabs.length k 0 0).mems ++ [⟨t.lim, List.replicate (m * 256) 0 ++ List.replicate (lo n * 256) 0⟩] } := by
          unfold kAE
          rw [HTK.o, List.map_append, List.map_cons, List.map_nil, HEN.o (lo n) rfl, HMS.o.1]
         rw [e2, ← kDc (a := ⟨t.lim, List.replicate (t.lim.min.toNat * 256) 0⟩) HLN.o]
         exact k5
        clear hgr hgc k5 g5 hM5 fr5 hq5
        go_wp2_with fail
        go_roundw
        case rel => exact ⟨k + 1, HLT.o, by go_num, MK5.o⟩
        exact meas HLT.o
      rw [if_neg hgr] at hgc
      refine hgc.mono ?_
      rintro e w5 ⟨rfl, q', c', hM5, fr5, hq5⟩
      obtain ⟨R2, V2, k5, g5⟩ := HK2.o.growM F4.o HZ1.o HT1.o hM5 fr5 hq5
      have FW5 := hid (MK1.o.f.trans (HG.o.trans g5).fr (fun i hi o => by have := r1 i (HST.o.own i o); omega))
      clear hgr hgc k5 g5 hM5 fr5 hq5
      go_wp2_with fail
      go_ret2
      exact .inl ⟨rfl, FW5.o⟩
    · have d3 : decide (n < 0) = false := by simpa using n1
      have d4 : decide (0 < n) = false := by simpa using n2
      have HNZ : Hid (n = 0) := by unfold Hid; omega
      have HM256 : Hid (t.lim.min.toNat ≤ 256) := by unfold Hid; omega
      clear n1 n2 h0 h1 h2 h3 h4 enn hm em
      go_wp2_with fail
      go_roundw
      case rel =>
       refine ⟨k + 1, HLT.o, by go_num, ?_⟩
       have e := HEN.o 0 (by rw [HNZ.o]; rfl)
       rw [Nat.zero_mul, List.replicate_zero, List.append_nil] at e
       have HQT := hid (MK1.o.q.mem HTK.o ⟨HQ0.o.1, HQ0.o.2, by
        rw [e]
        have h1 := HM256.o
        simp only [List.length_replicate]
        omega⟩)
       have e2 : kAE x x.funcs.length x.tabs.length (k + 1) 0 0 = { kAE x x.funcs.length x.tabs.length k 0 0 with mems := (kAE x x.funcs.length x.tabs.length k 0 0).mems ++ [⟨t.lim, List.replicate (t.lim.min.toNat * 256) 0⟩] } := by
        unfold kAE
        rw [HTK.o, List.map_append, List.map_cons, List.map_nil, e]
       exact (Mk.grown MK1.o.bx MK1.o.f HQT.o r1 r2 HST.o (e2 ▸ HK2.o) HG.o rfl).no F3.o
      exact meas HLT.o
 have hkn : k = x.mems.length := om
 subst hkn
 obtain ⟨W1, hY⟩ : ∃ Y, Y = wr := ⟨_, rfl⟩
 subst hY
 go_wp2_with fail
 clear y hk hlt hml
 go_loopw [10] (fun i wr => ∃ k : Nat, k ≤ x.globs.length ∧ i = .int .i64 k ∧ Hid (Mk w p x cs x.funcs.length x.tabs.length x.mems.length k 0 P wr)) (fun i _ => x.globs.length - (intOf i).toNat)
 case atStart => exact ⟨0, by omega, rfl, MK.o⟩
 case round =>
 clear MK
 obtain ⟨k, hk, rfl, MK⟩ := hrel
 have y := (HC.o wr p MK.o.bx).2.2.2.2.1
 have hgl := HB.o.gl
 by_cases hlt : k < x.globs.length
 · have d1 : decide ((k : Int) < (x.globs.length : Nat)) = true := by simp; omega
   have i0 := nki k
   have i1 : (k : Int) < (x.globs.length : Nat) := om
   have HLT : Hid (k + 1 ≤ x.globs.length) := hlt
   obtain ⟨b, o, eA, hbS, z0, z1, z2, z3, w0, w1, w2⟩ := kHL (els_up E6.o MK.o.f i2 i2) k hlt
   subst eA
   have hbl : b < wr.heap.size := ltl hbS MK.o.f.size
   have HTK := hid (List.take_succ_eq_append_getElem hlt)
   have HWF := hid (And.intro w0 (And.intro w1 w2))
   have HBB := hid hbS
   clear w0 w1 w2 hbS
   generalize x.globs[k] = t at z0 z1 z2 z3 HTK HWF
   have HY : Hid (∀ X, Fr No wr X → Ce X p 6 (.slice (some ⟨b, o, none⟩) x.globs.length c6) ∧ Ce X b (o + k * 4) (.int .i64 t.t.val) ∧ Ce X b (o + k * 4 + 1) (.bool t.t.mut_) ∧ Ce X b (o + k * 4 + 2) (.int .i64 t.v.t) ∧ Ce X b (o + k * 4 + 3) (.int .u64 t.v.n)) := fun X g =>
    ⟨(HC.o X p (MK.o.bx.fr g id)).2.2.2.2.1, (g.cell (p := ⟨b, o + k * 4, none⟩) hbl id).trans z0, (g.cell (p := ⟨b, o + k * 4 + 1, none⟩) hbl id).trans z1, (g.cell (p := ⟨b, o + k * 4 + 2, none⟩) hbl id).trans z2, (g.cell (p := ⟨b, o + k * 4 + 3, none⟩) hbl id).trans z3⟩
   clear z0 z1 z2 z3 hbl hlt
   go_upto_region 24 with fail
   clear y
   refine rwO (fun X => Ce X p 6 (.slice (some ⟨b, o, none⟩) x.globs.length c6) ∧ Ce X b (o + k * 4) (.int .i64 t.t.val) ∧ Ce X b (o + k * 4 + 1) (.bool t.t.mut_) ∧ Ce X b (o + k * 4 + 2) (.int .i64 t.v.t) ∧ Ce X b (o + k * 4 + 3) (.int .u64 t.v.n)) [] [0, 1, 2, 3, 4, 5, 6, 7, 8, 9, 10, 11, 12, 14, 13, 15] [13] (HY.o _ (Fr.refl _ _).drew) ?_
   repeat (first | refine oS ?_ | refine oX (fun X h => h) ?_)
   have MK1 := hid (MK.o.no (Fr.refl No wr).drew)
   have HCC := hid (HY.o _ (Fr.refl No wr).drew)
   have HBW : Hid (b < w.heap.size ∧ w.heap.size ≤ wr.drew.heap.size) := ⟨HBB.o, Nat.le_trans MK.o.f.size (Fr.refl No wr).drew.size⟩
   generalize wr.drew = W2 at *
   obtain ⟨V, R, hP, st, r1, r2⟩ := MK1.o.ex
   subst hP
   have HST := hid st
   have HNB : Hid (¬ V.own b ∧ ¬ V.own p ∧ b < W2.heap.size ∧ p < W2.heap.size) := ⟨fun o => by have h1 := r1 b (HST.o.own b o); have h2 := HBW.o.1; omega, fun o => r2 (HST.o.own p o), by have h2 := HBW.o; omega, MK1.o.bx.lt⟩
   have HA := hid (kCE st t.t t.v HWF.o.1 HWF.o.2.1 HWF.o.2.2 (by simp only [kAE, List.length_take]; omega))
   clear st
   have elk : (((kAE x x.funcs.length x.tabs.length x.mems.length k 0).globs.length : Nat) : Int) = (k : Int) := by have := HLT.o; simp only [kAE, List.length_take]; omega
   cases hv : kAc t.t.val && kBj t.v t.t.val with
   | false =>
    have ea : kBa (kAE x x.funcs.length x.tabs.length x.mems.length k 0) t.t t.v = (kAE x x.funcs.length x.tabs.length x.mems.length k 0, -1) := by unfold kBa; rw [hv]; rfl
    rw [ea] at HA
    refine wpO_eff rfl rfl fun K hK => sz ?_
    refine HA.o.mono ?_
    rintro e w2 ⟨V', R', rfl, k2, g⟩
    have FW := hid (MK1.o.f.trans g.fr (fun i hi o => by have := r1 i (HST.o.own i o); omega))
    have hne : ((-1 : Int) == (k : Int)) = false := by simp
    have HSW := hid (And.intro ((g.fr.cell (p := ⟨p, 6, none⟩) HNB.o.2.2.2 HNB.o.2.1).trans HCC.o.1) (And.intro ((g.fr.cell (p := ⟨b, o + k * 4, none⟩) HNB.o.2.2.1 HNB.o.1).trans HCC.o.2.1) (And.intro ((g.fr.cell (p := ⟨b, o + k * 4 + 1, none⟩) HNB.o.2.2.1 HNB.o.1).trans HCC.o.2.2.1) (And.intro ((g.fr.cell (p := ⟨b, o + k * 4 + 2, none⟩) HNB.o.2.2.1 HNB.o.1).trans HCC.o.2.2.2.1) ((g.fr.cell (p := ⟨b, o + k * 4 + 3, none⟩) HNB.o.2.2.1 HNB.o.1).trans HCC.o.2.2.2.2)))))
    clear HA g k2 elk ea hv
    refine hK _ _ (fun _ => HSW.o) ?_
    clear hK K
    refine rC ?_
    refine wpO_nil ?_
    go_wp2_with fail
    go_ret2
    exact .inl ⟨rfl, FW.o⟩
   | true =>
    have ea : kBa (kAE x x.funcs.length x.tabs.length x.mems.length k 0) t.t t.v = ({ kAE x x.funcs.length x.tabs.length x.mems.length k 0 with globs := (kAE x x.funcs.length x.tabs.length x.mems.length k 0).globs ++ [⟨t.t, t.v⟩] }, (k : Int)) := by unfold kBa; rw [hv, elk]; rfl
    rw [ea] at HA
    refine wpO_eff rfl rfl fun K hK => sz ?_
    refine HA.o.mono ?_
    rintro e w2 ⟨V', R', rfl, k2, g⟩
    have MK2 : Hid (Mk w p x cs x.funcs.length x.tabs.length x.mems.length (k + 1) 0 V.P w2) := by
     refine Mk.grown MK1.o.bx MK1.o.f MK1.o.q r1 r2 HST.o ?_ g rfl
     unfold kAE at k2 ⊢
     rw [HTK.o]
     exact k2
    have HSW := hid (And.intro ((g.fr.cell (p := ⟨p, 6, none⟩) HNB.o.2.2.2 HNB.o.2.1).trans HCC.o.1) (And.intro ((g.fr.cell (p := ⟨b, o + k * 4, none⟩) HNB.o.2.2.1 HNB.o.1).trans HCC.o.2.1) (And.intro ((g.fr.cell (p := ⟨b, o + k * 4 + 1, none⟩) HNB.o.2.2.1 HNB.o.1).trans HCC.o.2.2.1) (And.intro ((g.fr.cell (p := ⟨b, o + k * 4 + 2, none⟩) HNB.o.2.2.1 HNB.o.1).trans HCC.o.2.2.2.1) ((g.fr.cell (p := ⟨b, o + k * 4 + 3, none⟩) HNB.o.2.2.1 HNB.o.1).trans HCC.o.2.2.2.2)))))
    clear HA g k2 elk ea hv
    refine hK _ _ (fun _ => HSW.o) ?_
    clear hK K
    refine rC ?_
    refine wpO_nil ?_
    go_wp2_with fail
    go_roundw
    case rel => exact ⟨k + 1, HLT.o, by go_num, MK2.o⟩
    case measure => exact meas HLT.o
 have hkn : k = x.globs.length := om
 subst hkn
 obtain ⟨W1, hY⟩ : ∃ Y, Y = wr := ⟨_, rfl⟩
 subst hY
 go_wp2_with fail
 clear y hk hlt hgl
 go_loopw [11] (fun i wr => ∃ k : Nat, k ≤ x.insts.length ∧ i = .int .i64 k ∧ Hid (Mk w p x cs x.funcs.length x.tabs.length x.mems.length x.globs.length k P wr)) (fun i _ => x.insts.length - (intOf i).toNat)
 case atStart => exact ⟨0, by omega, rfl, MK.o⟩
 case round =>
 clear MK
 obtain ⟨k, hk, rfl, MK⟩ := hrel
 have y := (HC.o wr p MK.o.bx).2.2.2.2.2
 have hil := HB.o.il
 by_cases hlt : k < x.insts.length
 · have d1 : decide ((k : Int) < (x.insts.length : Nat)) = true := by simp; omega
   have i0 := nki k
   have i1 : (k : Int) < (x.insts.length : Nat) := om
   have HLT : Hid (k + 1 ≤ x.insts.length) := hlt
   have HIB := hid (HB.o.ib _ (List.getElem_mem hlt))
   obtain ⟨b, o, ds, eA, hb, hc, hr⟩ := (els_up E9.o MK.o.f i2 i2).at_ k hlt
   subst eA
   have hbl : b < wr.heap.size := ltl hb MK.o.f.size
   have HTK := hid (List.take_succ_eq_append_getElem hlt)
   generalize x.insts[k] = t at *
   obtain ⟨e1, e2, rfl, hm, ha⟩ := hr
   have hm' : tMd.rd wr (· < w.heap.size) e1 t.m := hm
   have ha' : tAd.rd wr (· < w.heap.size) e2 t.a := ha
   have hl1 : e1.length = 12 := TyOk.len _ _ _ _ hm'
   have hl2 : e2.length = 6 := TyOk.len _ _ _ _ ha'
   have r1 : wr.rangeAt b (o + k * 18) e1 := fun j u hu => by
    have := hc j u (by rw [List.getElem?_append_left (List.getElem?_eq_some_iff.1 hu).1]; exact hu)
    rwa [← Nat.add_assoc] at this
   have r2 : wr.rangeAt b (o + k * 18 + 12) e2 := fun j u hu => by
    exact yy35
   have HM := hid hm'
   have HA := hid ha'
   have HI1 : Hid ((prog.info? 55).map (·.size) = some e1.length) := by unfold Hid; rw [hl1]; kernel_rfl
   have HI2 : Hid ((prog.info? 100).map (·.size) = some e2.length) := by unfold Hid; rw [hl2]; kernel_rfl
   have HX : Hid (∀ X, Fr No wr X → Ce X p 9 (.slice (some ⟨b, o, none⟩) x.insts.length c9) ∧ X.rangeAt b (o + k * 18) e1 ∧ X.rangeAt b (o + k * 18 + 12) e2) := fun X f => ⟨(HC.o X p (MK.o.bx.fr f id)).2.2.2.2.2, fun j v hv => (f.cell (p := ⟨b, o + k * 18 + j, none⟩) hbl id).trans (r1 j v hv), fun j v hv => (f.cell (p := ⟨b, o + k * 18 + 12 + j, none⟩) hbl id).trans (r2 j v hv)⟩
   have HBB := hid hb
   clear r1 r2 hm ha hm' ha' hl1 hl2 hc hb hbl hlt
   go_upto_region 29 with fail
   clear y
   refine rwO (fun X => Ce X p 9 (.slice (some ⟨b, o, none⟩) x.insts.length c9) ∧ X.rangeAt b (o + k * 18) e1 ∧ X.rangeAt b (o + k * 18 + 12) e2) [] [0, 1, 2, 3, 4, 5, 6, 7, 8, 9, 10, 11, 12, 14, 13, 15] [13] (HX.o _ (Fr.refl _ _).drew) ?_
   iterate 6 (refine kAY rfl rfl ?_; simp only [zA]; apply Exists.intro; refine ⟨fun X hX => ?_, ?_⟩; (have s0 := hX.1; clear hX; go_simp; exact stillUpon_value); simp only [zC, Act.put])
   refine kBO rfl rfl 55 _ rfl b (o + k * 18) (by rfl) e1 _ (fun X hX => hX.2.1) underlying55 (by rfl) HI1.o ?_
   simp only [zA, zC, Act.put]
   iterate 5 (refine kAY rfl rfl ?_; simp only [zA]; apply Exists.intro; refine ⟨fun X hX => ?_, ?_⟩; (have s0 := hX.1; clear hX; go_simp; exact stillUpon_value); simp only [zC, Act.put])
   refine kBO rfl rfl 100 _ rfl b (o + k * 18 + 12) (by rfl) e2 _ (fun X hX => hX.2.2) underlying100 (by rfl) HI2.o ?_
   simp only [zA, zC, Act.put]
   iterate 1 (refine kAY rfl rfl ?_; simp only [zA]; apply Exists.intro; refine ⟨fun X hX => ?_, ?_⟩; (have s0 := hX.1; clear hX; go_simp; exact stillUpon_value); simp only [zC, Act.put])
   have MK1 := hid (MK.o.no (Fr.refl No wr).drew)
   have HM1 := hid (kAO HM.o (Fr.refl No wr).drew (fun k hk => ltl hk MK.o.f.size) i2)
   have HA1 := hid (kAO HA.o (Fr.refl No wr).drew (fun k hk => ltl hk MK.o.f.size) i2)
   have HCC := hid (HX.o _ (Fr.refl No wr).drew)
   have HBW : Hid (b < w.heap.size ∧ w.heap.size ≤ wr.drew.heap.size) := ⟨HBB.o, Nat.le_trans MK.o.f.size (Fr.refl No wr).drew.size⟩
   have HSZ : Hid (w.heap.size ≤ wr.drew.heap.size) := Nat.le_trans MK.o.f.size (Fr.refl No wr).drew.size
   clear HX HM HA HI1 HI2
   generalize wr.drew = W2 at *
   obtain ⟨V, R, hP, st, r1, r2⟩ := MK1.o.ex
   subst hP
   have HST := hid st
   have HNB : Hid (¬ V.own b ∧ ¬ V.own p ∧ b < W2.heap.size ∧ p < W2.heap.size) := ⟨fun o => by have h1 := r1 b (HST.o.own b o); have h2 := HBW.o.1; omega, fun o => r2 (HST.o.own p o), by have h2 := HBW.o; omega, MK1.o.bx.lt⟩
   have HA := hid (kEc st t.m t.a (· < w.heap.size) HM1.o HA1.o (fun k hk => ltl hk HSZ.o) HIB.o.1 HIB.o.2 (by simp only [kAE, List.length_take]; omega))
   clear st
   have elk : (((kAE x x.funcs.length x.tabs.length x.mems.length x.globs.length k).insts.length : Nat) : Int) = (k : Int) := by have := HLT.o; simp only [kAE, List.length_take]; omega
   have ea : kBZ (kAE x x.funcs.length x.tabs.length x.mems.length x.globs.length k) t.m t.a = ({ kAE x x.funcs.length x.tabs.length x.mems.length x.globs.length k with insts := (kAE x x.funcs.length x.tabs.length x.mems.length x.globs.length k).insts ++ [⟨t.m, t.a⟩] }, (k : Int)) := by unfold kBZ; rw [if_neg (by omega), elk]
   rw [ea] at HA
   refine wpO_eff rfl rfl fun K hK => sz ?_
   refine HA.o.mono ?_
   rintro e w2 ⟨V', R', rfl, k2, g⟩
   have MK2 : Hid (Mk w p x cs x.funcs.length x.tabs.length x.mems.length x.globs.length (k + 1) V.P w2) := by
    refine Mk.grown MK1.o.bx MK1.o.f MK1.o.q r1 r2 HST.o ?_ g rfl
    unfold kAE at k2 ⊢
    rw [HTK.o]
    exact k2
   have HSW : Hid (w2.cell? ⟨p, 9, none⟩ = some (.slice (some ⟨b, o, none⟩) x.insts.length c9) ∧ w2.rangeAt b (o + k * 18) e1 ∧ w2.rangeAt b (o + k * 18 + 12) e2) := ⟨(g.fr.cell (p := ⟨p, 9, none⟩) HNB.o.2.2.2 HNB.o.2.1).trans HCC.o.1, fun j v hv => (g.fr.cell (p := ⟨b, o + k * 18 + j, none⟩) HNB.o.2.2.1 HNB.o.1).trans (HCC.o.2.1 j v hv), fun j v hv => (g.fr.cell (p := ⟨b, o + k * 18 + 12 + j, none⟩) HNB.o.2.2.1 HNB.o.1).trans (HCC.o.2.2 j v hv)⟩
   clear HA g k2 elk ea
   refine hK _ _ (fun _ => HSW.o) ?_
   clear hK K
   refine rC ?_
   refine wpO_nil ?_
   go_wp2_with fail
   go_roundw
   case rel => exact ⟨k + 1, HLT.o, by go_num, MK2.o⟩
   exact meas HLT.o
 have hkn : k = x.insts.length := om
 subst hkn
 go_wp2_with fail
 go_ret2
 obtain ⟨V, R, hP, st, r1, r2⟩ := MK.o.ex
 subst hP
 exact .inr ⟨V, R, rfl, st, r1, MK.o.f, HM.o, MK.o.q⟩
end Go.Proofs.YthggdemiddjlgaaGreat
