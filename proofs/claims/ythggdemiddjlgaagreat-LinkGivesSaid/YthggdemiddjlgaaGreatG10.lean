/- Part 10 of the proof: lemmas and contracts of functions. No condition. -/
import Derived.Test.YthggdemiddjlgaaGreatG9
import Derived.Test.YthggdemiddjlgaaGreatG6
import Derived.Test.YthggdemiddjlgaaGreatG1
set_option maxRecDepth 100000
set_option maxHeartbeats 12800000
set_option linter.unusedVariables false
set_option linter.unusedSimpArgs false
set_option linter.unusedSectionVars false
namespace Go.Proofs.YthggdemiddjlgaaGreat
open Go.RowKit Go.Proofs.Tryz
structure LxW (x : Rx) : Prop where
 h : ∀ h ∈ x.hosts, h.ty.params.length ≤ 140737488351232 ∧ h.ty.results.length ≤ 140737488351232
 f : ∀ f ∈ x.funcs, f.ty.params.length ≤ 140737488351232 ∧ f.ty.results.length ≤ 140737488351232
 i : ∀ i ∈ x.insts, LtW i.m ∧ (i.a.funcs.length ≤ 140737488351232 ∧ i.a.tables.length ≤ 140737488351232 ∧ i.a.mems.length ≤ 140737488351232 ∧ i.a.globals.length ≤ 140737488351232 ∧ i.a.elems.length ≤ 140737488351232 ∧ i.a.datas.length ≤ 140737488351232)
structure LiB (x : Rx) : Prop where
 hl : x.hosts.length ≤ 20
 hb : ∀ h ∈ x.hosts, h.acts.length ≤ 20 ∧ h.ty.params.length + h.ty.results.length ≤ 40
 fl : x.funcs.length ≤ 40
 fb : ∀ f ∈ x.funcs, f.ty.params.length + f.ty.results.length ≤ 40
 tl : x.tabs.length ≤ 20
 ml : x.mems.length ≤ 20
 gl : x.globs.length ≤ 40
 il : x.insts.length ≤ 10
 ib : ∀ i ∈ x.insts, LtB i.m ∧ i.a.funcs.length + i.a.tables.length + i.a.mems.length + i.a.globals.length + i.a.elems.length + i.a.datas.length ≤ 400
def LiTo (x : Rx) (w : World) (e : Ending) (w' : World) : Prop := (∃ r, e = .returned (.bool r) ∧ (r = true → LiB x)) ∧ Fr No w w'
theorem kCa {α : Type} {p : α → Prop} {l : List α} {k : Nat} (hk : k < l.length) (h : ∀ a ∈ l.take k, p a) (h1 : p l[k]) : ∀ a ∈ l.take (k + 1), p a := by
 rw [List.take_succ_eq_append_getElem hk]
 intro a ha
 rcases List.mem_append.1 ha with h2 | h2
 · exact h a h2
 rw [List.mem_singleton.1 h2]; exact h1
theorem kHI {a b : Nat} (ha : a ≤ 140737488351232) (hb : b ≤ 140737488351232) : IntKind.i64.wrap ((a : Int) + (b : Int)) = ((a + b : Nat) : Int) := by
 rw [IntKind.wrap_i64]; omega
theorem kFn (x : Rx) {cs : LV} (w : World) (hx : tRx.rd w (· < w.heap.size) cs x) (hw : LxW x) :
    Calls prog 8 #[.agg cs.toArray] w (LiTo x w) := by
 obtain ⟨A0, c0, A1, c1, A2, c2, A3, c3, A4, c4, A5, c5, A6, c6, A7, c7, A8, c8, A9, c9, hcs, -, -, e0, -, -, -, -, -, -, -, -, e3, -, -, e4, -, -, e5, -, -, e6, -, -, -, -, -, -, -, -, e9⟩ := kBz hx
 have E0 := hid e0
 have E3 := hid e3
 have E9 := hid e9
 have HW := hid hw
 have F0 := hid ((Fr.refl No w).alloc (.cells cs.toArray 33))
 have B0 := hid (Blk.new w 33 cs.toArray)
 have HC : Hid (∀ (X : World) (p : Nat), Blk X p 33 cs.toArray → Ce X p 0 (.slice A0 x.hosts.length c0) ∧ Ce X p 3 (.slice A3 x.funcs.length c3) ∧ Ce X p 4 (.slice A4 x.tabs.length c4) ∧ Ce X p 5 (.slice A5 x.mems.length c5) ∧ Ce X p 6 (.slice A6 x.globs.length c6) ∧ Ce X p 9 (.slice A9 x.insts.length c9)) := fun X p b => by
  rw [hcs] at b
  exact ⟨b.cell 0, b.cell 3, b.cell 4, b.cell 5, b.cell 6, b.cell 9⟩
 have HL : Hid (cs.length = 10) := TyOk.len _ _ _ _ hx
 clear hx hw hcs e0 e3 e4 e5 e6 e9
 go_enter func8, ntmps8
 go_upto_region 1 with fail
 generalize w.alloc (.cells cs.toArray 33) = W at *
 obtain ⟨p, hp⟩ : ∃ p, p = w.heap.size := ⟨_, rfl⟩
 rw [← hp] at B0 ⊢
 have HP := hid hp
 clear hp
 have HX : Hid (∀ X, Fr No W X → Ce X p 0 (.slice A0 x.hosts.length c0) ∧ Ce X p 3 (.slice A3 x.funcs.length c3) ∧ Ce X p 4 (.slice A4 x.tabs.length c4) ∧ Ce X p 5 (.slice A5 x.mems.length c5) ∧ Ce X p 6 (.slice A6 x.globs.length c6) ∧ Ce X p 9 (.slice A9 x.insts.length c9)) := fun X f => HC.o X p (B0.o.fr f id)
 clear HC
 obtain ⟨y0, y1, y2, y3, y4, y5⟩ := HX.o _ (Fr.refl No W)
 by_cases h0 : 20 < x.hosts.length
 · have d0 : decide ((20 : Int) < (x.hosts.length : Nat)) = true := by simp; omega
   clear h0
   exact yy9
 have d0 : decide ((20 : Int) < (x.hosts.length : Nat)) = false := by simp; omega
 have H0 : Hid (x.hosts.length ≤ 20) := by unfold Hid; omega
 clear h0
 by_cases h1 : 40 < x.funcs.length
 · have d1 : decide ((40 : Int) < (x.funcs.length : Nat)) = true := by simp; omega
   clear h1
   exact yy9
 have d1 : decide ((40 : Int) < (x.funcs.length : Nat)) = false := by simp; omega
 have H1 : Hid (x.funcs.length ≤ 40) := by unfold Hid; omega
 clear h1
 by_cases h2 : 20 < x.tabs.length
 · have d2 : decide ((20 : Int) < (x.tabs.length : Nat)) = true := by simp; omega
   clear h2
   exact yy9
 have d2 : decide ((20 : Int) < (x.tabs.length : Nat)) = false := by simp; omega
 have H2 : Hid (x.tabs.length ≤ 20) := by unfold Hid; omega
 clear h2
 by_cases h3 : 20 < x.mems.length
 · have d3 : decide ((20 : Int) < (x.mems.length : Nat)) = true := by simp; omega
   clear h3
   exact yy9
 have d3 : decide ((20 : Int) < (x.mems.length : Nat)) = false := by simp; omega
 have H3 : Hid (x.mems.length ≤ 20) := by unfold Hid; omega
 clear h3
 by_cases h4 : 40 < x.globs.length
 · have d4 : decide ((40 : Int) < (x.globs.length : Nat)) = true := by simp; omega
   clear h4
   exact yy9
 have d4 : decide ((40 : Int) < (x.globs.length : Nat)) = false := by simp; omega
 have H4 : Hid (x.globs.length ≤ 40) := by unfold Hid; omega
 clear h4
 by_cases h5 : 10 < x.insts.length
 · have d5 : decide ((10 : Int) < (x.insts.length : Nat)) = true := by simp; omega
   clear h5
   exact yy9
 have d5 : decide ((10 : Int) < (x.insts.length : Nat)) = false := by simp; omega
 have H5 : Hid (x.insts.length ≤ 10) := by unfold Hid; omega
 clear h5
 go_wp2_with fail
 clear y0 y1 y2 y3 y4 y5 d0 d1 d2 d3 d4 d5
 go_loopw [3] (fun i wr => ∃ k : Nat, k ≤ x.hosts.length ∧ i = .int .i64 k ∧ Hid (Fr No W wr) ∧ Hid (∀ h ∈ x.hosts.take k, h.acts.length ≤ 20 ∧ h.ty.params.length + h.ty.results.length ≤ 40)) (fun i _ => x.hosts.length - (intOf i).toNat)
 case atStart => exact ⟨0, by omega, rfl, Fr.refl _ _, fun h hh => by simp at hh⟩
 case round =>
 obtain ⟨k, hk, rfl, F, HN⟩ := hrel
 obtain ⟨y0, y1, y2, y3, y4, y5⟩ := HX.o _ F.o
 have h20 := H0.o
 by_cases hlt : k < x.hosts.length
 · have d1 : decide ((k : Int) < (x.hosts.length : Nat)) = true := by simp; omega
   have i0 := nki k
   have i1 : (k : Int) < (x.hosts.length : Nat) := om
   have HLT : Hid (k + 1 ≤ x.hosts.length) := hlt
   have FW := ftr F0 F.o
   obtain ⟨b, o, P1, p1, P2, p2, P3, p3, eA, hbS, -, -, z2, z3, z4, -⟩ := kFU (els_up E0.o FW.o i2 i2) k hlt
   subst eA
   have hbl : b < wr.heap.size := ltl hbS FW.o.size
   have HAB := hid (HW.o.h _ (List.getElem_mem hlt))
   have HTK := hid (kCa (p := fun h : Ho => h.acts.length ≤ 20 ∧ h.ty.params.length + h.ty.results.length ≤ 40) hlt HN.o)
   generalize x.hosts[k] = f at z2 z3 z4 HAB HTK
   have HY : Hid (∀ X, Fr No wr X → Ce X p 0 (.slice (some ⟨b, o, none⟩) x.hosts.length c0) ∧ Ce X b (o + k * 5 + 2) (.slice P1 f.ty.params.length p1) ∧ Ce X b (o + k * 5 + 3) (.slice P2 f.ty.results.length p2) ∧ Ce X b (o + k * 5 + 4) (.slice P3 f.acts.length p3)) := fun X g =>
    ⟨(HX.o _ (F.o.trans g i3)).1, (g.cell (p := ⟨b, o + k * 5 + 2, none⟩) hbl id).trans z2, (g.cell (p := ⟨b, o + k * 5 + 3, none⟩) hbl id).trans z3, (g.cell (p := ⟨b, o + k * 5 + 4, none⟩) hbl id).trans z4⟩
   clear z2 z3 z4 hbl hbS hlt
   have FD := hid (F.o.trans (Fr.refl No wr).drew i3)
   have FDW := ftr F0 FD.o
   by_cases ha : 20 < f.acts.length
   · have d2 : decide ((20 : Int) < (f.acts.length : Nat)) = true := by simp; omega
     clear ha
     exact yy30
   have d2 : decide ((20 : Int) < (f.acts.length : Nat)) = false := by simp; omega
   have HA20 : Hid (f.acts.length ≤ 20) := by unfold Hid; omega
   have ew := kHI HAB.o.1 HAB.o.2
   clear ha
   by_cases hs : 40 < f.ty.params.length + f.ty.results.length
   · have d3 : decide ((40 : Int) < IntKind.i64.wrap ((f.ty.params.length : Nat) + (f.ty.results.length : Nat))) = true := by rw [ew]; simp; omega
     clear hs ew
     exact yy30
   have d3 : decide ((40 : Int) < IntKind.i64.wrap ((f.ty.params.length : Nat) + (f.ty.results.length : Nat))) = false := by rw [ew]; simp; omega
   have HS40 : Hid (f.ty.params.length + f.ty.results.length ≤ 40) := by unfold Hid; omega
   clear hs ew
   go_upto_region 6 with fail
   clear y0 y1 y2 y3 y4 y5
   refine rwO (Fr No wr) [] (List.range 28) [] (Fr.refl _ _).drew ?_
   refine rO HY.o ?_
   refine wpO_nil ?_
   go_wp2_with fail
   go_roundw
   case rel => exact ⟨k + 1, HLT.o, by go_num, FD.o, HTK.o ⟨HA20.o, HS40.o⟩⟩
   exact kAl HLT.o
 have hkn : k = x.hosts.length := om
 subst hkn
 rw [List.take_length] at HN
 have HN0 := hid HN.o
 obtain ⟨W1, hY⟩ : ∃ Y, Y = wr := ⟨_, rfl⟩
 subst hY
 have FW1 := hid F.o
 clear F hk hlt HN h20
 go_wp2_with fail
 clear y0 y1 y2 y3 y4 y5
 go_loopw [4] (fun i wr => ∃ k : Nat, k ≤ x.funcs.length ∧ i = .int .i64 k ∧ Hid (Fr No W wr) ∧ Hid (∀ f ∈ x.funcs.take k, f.ty.params.length + f.ty.results.length ≤ 40)) (fun i _ => x.funcs.length - (intOf i).toNat)
 case atStart => exact ⟨0, by omega, rfl, FW1.o, fun h hh => by simp at hh⟩
 case round =>
 obtain ⟨k, hk, rfl, F, HN⟩ := hrel
 obtain ⟨y0, y1, y2, y3, y4, y5⟩ := HX.o _ F.o
 have h40 := H1.o
 by_cases hlt : k < x.funcs.length
 · have d1 : decide ((k : Int) < (x.funcs.length : Nat)) = true := by simp; omega
   have i0 := nki k
   have i1 : (k : Int) < (x.funcs.length : Nat) := om
   have HLT : Hid (k + 1 ≤ x.funcs.length) := hlt
   have FW := ftr F0 F.o
   obtain ⟨b, o, P1, p1, P2, p2, eA, hbS, z0, z1, -⟩ := kFW (els_up E3.o FW.o i2 i2) k hlt
   subst eA
   have hbl : b < wr.heap.size := ltl hbS FW.o.size
   have HAB := hid (HW.o.f _ (List.getElem_mem hlt))
   have HTK := hid (kCa (p := fun f : Fi => f.ty.params.length + f.ty.results.length ≤ 40) hlt HN.o)
   generalize x.funcs[k] = f at z0 z1 HAB HTK
   have HY : Hid (∀ X, Fr No wr X → Ce X p 3 (.slice (some ⟨b, o, none⟩) x.funcs.length c3) ∧ Ce X b (o + k * 4) (.slice P1 f.ty.params.length p1) ∧ Ce X b (o + k * 4 + 1) (.slice P2 f.ty.results.length p2)) := fun X g =>
    ⟨(HX.o _ (F.o.trans g i3)).2.1, (g.cell (p := ⟨b, o + k * 4, none⟩) hbl id).trans z0, (g.cell (p := ⟨b, o + k * 4 + 1, none⟩) hbl id).trans z1⟩
   clear z0 z1 hbl hbS hlt
   have FD := hid (F.o.trans (Fr.refl No wr).drew i3)
   have FDW := ftr F0 FD.o
   have ew := kHI HAB.o.1 HAB.o.2
   by_cases hs : 40 < f.ty.params.length + f.ty.results.length
   · have d3 : decide ((40 : Int) < IntKind.i64.wrap ((f.ty.params.length : Nat) + (f.ty.results.length : Nat))) = true := by rw [ew]; simp; omega
     clear hs ew
     go_upto_region 11 with fail
     clear y0 y1 y2 y3 y4 y5
     refine rwO (Fr No wr) [] (List.range 18) [] (Fr.refl _ _).drew ?_
     refine rO HY.o ?_
     refine wpO_nil ?_
     go_wp2_with fail
     go_ret
     exact ⟨⟨false, rfl, fun e => by cases e⟩, FDW.o⟩
   have d3 : decide ((40 : Int) < IntKind.i64.wrap ((f.ty.params.length : Nat) + (f.ty.results.length : Nat))) = false := by rw [ew]; simp; omega
   have HS40 : Hid (f.ty.params.length + f.ty.results.length ≤ 40) := by unfold Hid; omega
   clear hs ew
   go_upto_region 11 with fail
   clear y0 y1 y2 y3 y4 y5
   refine rwO (Fr No wr) [] (List.range 18) [] (Fr.refl _ _).drew ?_
   refine rO HY.o ?_
   refine wpO_nil ?_
   go_wp2_with fail
   go_roundw
   case rel => exact ⟨k + 1, HLT.o, by go_num, FD.o, HTK.o HS40.o⟩
   exact kAl HLT.o
 have hkn : k = x.funcs.length := om
 subst hkn
 rw [List.take_length] at HN
 have HN1 := hid HN.o
 obtain ⟨W2, hY⟩ : ∃ Y, Y = wr := ⟨_, rfl⟩
 subst hY
 have FW2 := hid F.o
 clear F hk hlt HN h40
 go_wp2_with fail
 clear y0 y1 y2 y3 y4 y5
 go_loopw [5] (fun i wr => ∃ k : Nat, k ≤ x.insts.length ∧ i = .int .i64 k ∧ Hid (Fr No W wr) ∧ Hid (∀ i ∈ x.insts.take k, LtB i.m ∧ i.a.funcs.length + i.a.tables.length + i.a.mems.length + i.a.globals.length + i.a.elems.length + i.a.datas.length ≤ 400)) (fun i _ => x.insts.length - (intOf i).toNat)
 case atStart => exact ⟨0, by omega, rfl, FW2.o, fun h hh => by simp at hh⟩
 case round =>
 obtain ⟨k, hk, rfl, F, HN⟩ := hrel
 obtain ⟨y0, y1, y2, y3, y4, y5⟩ := HX.o _ F.o
 have h10 := H5.o
 by_cases hlt : k < x.insts.length
 · have d1 : decide ((k : Int) < (x.insts.length : Nat)) = true := by simp; omega
   have i0 := nki k
   have i1 : (k : Int) < (x.insts.length : Nat) := om
   have HLT : Hid (k + 1 ≤ x.insts.length) := hlt
   have FW := ftr F0 F.o
   have HIW := hid (HW.o.i _ (List.getElem_mem hlt))
   have HTK := hid (kCa (p := fun i : Ri => LtB i.m ∧ i.a.funcs.length + i.a.tables.length + i.a.mems.length + i.a.globals.length + i.a.elems.length + i.a.datas.length ≤ 400) hlt HN.o)
   obtain ⟨b, o, ds, eA, hb, hc, hr⟩ := (els_up E9.o FW.o i2 i2).at_ k hlt
   subst eA
   have hbl : b < wr.heap.size := ltl hb FW.o.size
   generalize x.insts[k] = t at *
   obtain ⟨e1, e2, rfl, hm, ha⟩ := hr
   have hm' : tMd.rd wr (· < w.heap.size) e1 t.m := hm
   have ha' : tAd.rd wr (· < w.heap.size) e2 t.a := ha
   have hl1 : e1.length = 12 := TyOk.len _ _ _ _ hm'
   have hl2 : e2.length = 6 := TyOk.len _ _ _ _ ha'
   have r1 : wr.rangeAt b (o + k * 18) e1 := fun j u hu => by
    exact yy27
   have r2 : wr.rangeAt b (o + k * 18 + 12) e2 := fun j u hu => by
    exact yy17
   have HM := hid hm'
   have HI1 : Hid ((prog.info? 55).map (·.size) = some e1.length) := by unfold Hid; rw [hl1]; kernel_rfl
   have HI2 : Hid ((prog.info? 100).map (·.size) = some e2.length) := by unfold Hid; rw [hl2]; kernel_rfl
   have HO2 : Hid (e2.all (·.oneCell') = true) := List.all_eq_true.2 ((inferInstance : kAG tAd).one _ _ _ _ ha')
   have HL2 := hid hl2
   have R2 := hid r2
   have R1 : Hid (∀ X, Fr No wr X → X.rangeAt b (o + k * 18) e1) := fun X f j v hv => (f.cell (p := ⟨b, o + k * 18 + j, none⟩) hbl id).trans (r1 j v hv)
   obtain ⟨a0, q0, a1, q1, a2, q2, a3, q3, a4, q4, a5, q5, he2, -⟩ := kBT ha'
   have HZ : Hid (∀ (X : World) (q : Nat), Blk X q 100 e2.toArray → Ce X q 0 (.slice a0 t.a.funcs.length q0) ∧ Ce X q 1 (.slice a1 t.a.tables.length q1) ∧ Ce X q 2 (.slice a2 t.a.mems.length q2) ∧ Ce X q 3 (.slice a3 t.a.globals.length q3) ∧ Ce X q 4 (.slice a4 t.a.elems.length q4) ∧ Ce X q 5 (.slice a5 t.a.datas.length q5)) := by
    intro X q b
    rw [he2] at b
    exact ⟨b.cell 0, b.cell 1, b.cell 2, b.cell 3, b.cell 4, b.cell 5⟩
   have F3 := hid ((Fr.refl No wr).alloc (.cells e2.toArray 100))
   have B3 := hid (Blk.new wr 100 e2.toArray)
   clear r1 r2 hm ha hm' ha' hl1 hl2 hc hb hbl hlt he2
   go_upto_region 16 with fail
   go_upto_region 17 with (first
    | (refine wpList_load_mid (by rfl) 100 _ (by rfl) b (o + k * 18 + 12) (by rfl) _ _ R2.o underlying100 (by rfl) HI2.o ?_)
    | (refine kAm (by rfl) 100 _ _ (by rfl) _ e2 (by rfl) (by rfl) HI2.o (Eq.trans (by rfl) HL2.o.symm) HO2.o ?_)
    | fail)
   simp only [Act.put]
   clear y0 y1 y2 y3 y4 y5
   obtain ⟨y0, y1, y2, y3, y4, y5⟩ := HX.o _ (F.o.trans F3.o i3)
   have HR := hid (R1.o _ F3.o)
   have HM3 := hid (kAO HM.o F3.o (fun k hk => ltl hk FW.o.size) i2)
   have F4 := ftr F F3.o
   have F5 := ftr F0 F4.o
   generalize wr.alloc (.cells e2.toArray 100) = W3 at *
   generalize wr.heap.size = q at *
   have HL7 := hid (kES t.m (ms := e1) W3 ((inferInstance : TyMore tMd).more _ _ _ _ _ HM3.o (fun k hk => ltl hk F5.o.size)) HIW.o.1)
   go_wp2_with (first
    | (refine wpList_load_mid (by rfl) 55 _ (by rfl) b (o + k * 18) (by rfl) _ _ HR.o underlying55 (by rfl) HI1.o ?_)
    | fail)
   refine HL7.o.mono ?_
   rintro e w4 ⟨⟨r, rfl, hr⟩, f4⟩
   have F6 := ftr F4 f4
   have F7 := ftr F0 F6.o
   obtain ⟨z0, z1, z2, z3, z4, z5⟩ := HZ.o _ _ (B3.o.fr f4 id)
   clear f4 y0 y1 y2 y3 y4 y5
   cases r with
   | false =>
    go_wp2_with fail
    go_ret
    exact ⟨⟨false, rfl, fun e => by cases e⟩, F7.o⟩
   | true =>
    have HLT7 := hid (hr rfl)
    obtain ⟨u0, u1, u2, u3, u4, u5⟩ := HIW.o.2
    clear hr
    by_cases hs : 400 < t.a.funcs.length + t.a.tables.length + t.a.mems.length + t.a.globals.length + t.a.elems.length + t.a.datas.length
    · have d4 : decide ((400 : Int) < (t.a.funcs.length : Nat) + (t.a.tables.length : Nat) + (t.a.mems.length : Nat) + (t.a.globals.length : Nat) + (t.a.elems.length : Nat) + (t.a.datas.length : Nat)) = true := by simp; omega
      clear hs
      go_wp2_with fail
      go_ret
      exact ⟨⟨false, rfl, fun e => by cases e⟩, F7.o⟩
    · have d4 : decide ((400 : Int) < (t.a.funcs.length : Nat) + (t.a.tables.length : Nat) + (t.a.mems.length : Nat) + (t.a.globals.length : Nat) + (t.a.elems.length : Nat) + (t.a.datas.length : Nat)) = false := by simp; omega
      have HS4 : Hid (t.a.funcs.length + t.a.tables.length + t.a.mems.length + t.a.globals.length + t.a.elems.length + t.a.datas.length ≤ 400) := by unfold Hid; omega
      clear hs
      go_wp2_with fail
      go_roundw
      case rel => exact ⟨k + 1, HLT.o, by go_num, F6.o, HTK.o ⟨HLT7.o, HS4.o⟩⟩
      exact kAl HLT.o
 have hkn : k = x.insts.length := om
 subst hkn
 rw [List.take_length] at HN
 go_wp2_with fail
 go_ret
 exact ⟨⟨true, rfl, fun _ => ⟨H0.o, HN0.o, H1.o, HN1.o, H2.o, H3.o, H4.o, H5.o, HN.o⟩⟩, F0.o.trans F.o i3⟩
def adL (a : Ad) (k : Int) : List Int := if k = 0 then a.funcs else if k = 1 then a.tables else if k = 2 then a.mems else if k = 3 then a.globals else []
def gvX (nm : ByteArray) (a : Ad) (e : Ex) : List Gv := match getI (adL a e.kind) e.index with
 | some v => [⟨nm, e.name, ⟨e.kind, v⟩⟩]
 | none => []
def gvL (nm : ByteArray) (a : Ad) (l : List Ex) : List Gv := l.flatMap (gvX nm a)
theorem kDn {nm : ByteArray} {a : Ad} {l : List Ex} {k : Nat} (h : k < l.length) : gvL nm a (l.take (k + 1)) = gvL nm a (l.take k) ++ gvX nm a l[k] := by
 unfold gvL
 rw [List.take_succ_eq_append_getElem h, List.flatMap_append]
 simp
theorem kHi (nm : ByteArray) (a : Ad) (e : Ex) : (gvX nm a e).length ≤ 1 := by
 unfold gvX
 split <;> simp
theorem kCz (nm : ByteArray) (a : Ad) (l : List Ex) : (gvL nm a l).length ≤ l.length := by
 induction l with
 | nil => simp [gvL]
 | cons e l ih =>
  have := kHi nm a e
  unfold gvL at *
  rw [List.flatMap_cons, List.length_append, List.length_cons]
  omega
def kHO (S : Nat → Prop) (l : List Int) (w : World) (e : Ending) (w' : World) : Prop := ∃ A c, e = .returned (.slice A l.length c) ∧ tI.els w' S A l ∧ Fr No w w'
theorem kGC (a : Ad) {ns : LV} (S : Nat → Prop) (k : Int) (w : World) (h : tAd.rd w S ns a) (hS : Lt S w) :
    Calls prog 45 #[.agg ns.toArray, .int .i64 k] w (kHO S (adL a k) w) := by
 obtain ⟨a0, q0, a1, q1, a2, q2, a3, q3, a4, q4, a5, q5, rfl, -, -, e0, -, -, e1, -, -, e2, -, -, e3, -⟩ := kBT h
 have F0 := hid ((Fr.refl No w).alloc (.cells #[.slice a0 a.funcs.length q0, .slice a1 a.tables.length q1, .slice a2 a.mems.length q2, .slice a3 a.globals.length q3, .slice a4 a.elems.length q4, .slice a5 a.datas.length q5] 100))
 have E0 := hid e0
 have E1 := hid e1
 have E2 := hid e2
 have E3 := hid e3
 have HS := hid hS
 clear h e0 e1 e2 e3 hS
 unfold adL
 by_cases k0 : k = 0
 · subst k0
   go_enter func45, ntmps45
   go_wp2
   go_ret
   exact ⟨_, _, rfl, els_up E0.o F0.o HS.o i2, F0.o⟩
 by_cases k1 : k = 1
 · subst k1
   go_enter func45, ntmps45
   go_wp2
   go_ret
   exact ⟨_, _, rfl, els_up E1.o F0.o HS.o i2, F0.o⟩
 by_cases k2 : k = 2
 · subst k2
   go_enter func45, ntmps45
   go_wp2
   go_ret
   exact ⟨_, _, rfl, els_up E2.o F0.o HS.o i2, F0.o⟩
 by_cases k3 : k = 3
 · subst k3
   go_enter func45, ntmps45
   go_wp2
   go_ret
   exact ⟨_, _, rfl, els_up E3.o F0.o HS.o i2, F0.o⟩
 rw [if_neg k0, if_neg k1, if_neg k2, if_neg k3]
 have d0 : (k == 0) = false := by simp [k0]
 have d1 : (k == 1) = false := by simp [k1]
 have d2 : (k == 2) = false := by simp [k2]
 have d3 : (k == 3) = false := by simp [k3]
 clear k0 k1 k2 k3
 go_enter func45, ntmps45
 go_wp2
 go_ret
 exact ⟨none, 0, rfl, .inl rfl, F0.o⟩
theorem kFj (a : Ad) {ns : LV} (S : Nat → Prop) (k : Int) (w : World) (h : tAd.rd w S ns a) (hS : Lt S w) :
    Calls prog 47 #[.agg ns.toArray, .int .i64 k] w (kHO S (adL a k) w) := by
 obtain ⟨a0, q0, a1, q1, a2, q2, a3, q3, a4, q4, a5, q5, rfl, -, -, e0, -, -, e1, -, -, e2, -, -, e3, -⟩ := kBT h
 have F0 := hid ((Fr.refl No w).alloc (.cells #[.slice a0 a.funcs.length q0, .slice a1 a.tables.length q1, .slice a2 a.mems.length q2, .slice a3 a.globals.length q3, .slice a4 a.elems.length q4, .slice a5 a.datas.length q5] 100))
 have E0 := hid e0
 have E1 := hid e1
 have E2 := hid e2
 have E3 := hid e3
 have HS := hid hS
 clear h e0 e1 e2 e3 hS
 unfold adL
 by_cases k0 : k = 0
 · subst k0
   go_enter func47, ntmps47
   go_wp2
   go_ret
   exact ⟨_, _, rfl, els_up E0.o F0.o HS.o i2, F0.o⟩
 by_cases k1 : k = 1
 · subst k1
   go_enter func47, ntmps47
   go_wp2
   go_ret
   exact ⟨_, _, rfl, els_up E1.o F0.o HS.o i2, F0.o⟩
 by_cases k2 : k = 2
 · subst k2
   go_enter func47, ntmps47
   go_wp2
   go_ret
   exact ⟨_, _, rfl, els_up E2.o F0.o HS.o i2, F0.o⟩
 by_cases k3 : k = 3
 · subst k3
   go_enter func47, ntmps47
   go_wp2
   go_ret
   exact ⟨_, _, rfl, els_up E3.o F0.o HS.o i2, F0.o⟩
 rw [if_neg k0, if_neg k1, if_neg k2, if_neg k3]
 have d0 : (k == 0) = false := by simp [k0]
 have d1 : (k == 1) = false := by simp [k1]
 have d2 : (k == 2) = false := by simp [k2]
 have d3 : (k == 3) = false := by simp [k3]
 clear k0 k1 k2 k3
 go_enter func47, ntmps47
 go_wp2
 go_ret
 exact ⟨none, 0, rfl, .inl rfl, F0.o⟩
def GvTo (l : List Gv) (w : World) (e : Ending) (w' : World) : Prop := ∃ A c, e = .returned (.slice A l.length c) ∧ tGv.els w' (· < w'.heap.size) A l ∧ Fr No w w'
abbrev q10x1 : Array Value := #[.slice none 0 0, .slice none 0 0, .slice none 0 0, .slice none 0 0, .slice none 0 0, .slice none 0 0, .slice none 0 0, .bool false, .int .i64 0, .slice none 0 0, .slice none 0 0, .slice none 0 0]
abbrev q10x2 : Array Value := #[.slice none 0 0, .slice none 0 0, .slice none 0 0, .slice none 0 0, .slice none 0 0, .slice none 0 0]
theorem kFt {w : World} {R : Nat → Prop} {V : Pl} {x : Rx} (h : StIn w R V x) (i : Int) (nm : ByteArray) (hn : x.insts.length ≤ 1000000) (hb : ∀ y ∈ x.insts, MdB y.m ∧ AdB y.a) (hnm : nm.size ≤ maxLen) :
    Calls prog 18 #[.pointer (some ⟨V.P, 0, none⟩), .int .i64 i, .string nm] w (GvTo (if (atD zRi x.insts i).2 = true then gvL nm (atD zRi x.insts i).1.a (atD zRi x.insts i).1.m.exports else []) w) := by
 have HA := hid (kGm h i hn hb)
 have HNM := hid hnm
 have HEX : Hid ((atD zRi x.insts i).1.m.exports.length ≤ 1048576) := (kBn (p := fun y : Ri => MdB y.m ∧ AdB y.a) (i := i) kDT hb).1.exports
 clear h hn hb hnm
 generalize (atD zRi x.insts i).2 = ok at *
 generalize (atD zRi x.insts i).1 = y at *
 obtain ⟨LX, hLX⟩ : ∃ l, l = (if ok = true then gvL nm y.a y.m.exports else []) := ⟨_, rfl⟩
 rw [← hLX]
 have HLX := hid hLX
 clear hLX
 go_enter func18, ntmps18
 go_wp2_with fail
 refine HA.o.mono ?_
 rintro e w1 ⟨ms, ns, rfl, hm, ha, f1⟩
 have HS1 : Hid (∀ k, Nw w w1 k → k < w1.heap.size) := fun k hk => hk.2
 have F1 := hid f1
 clear HA f1
 generalize Nw w w1 = S at *
 have hl1 : ms.length = 12 := TyOk.len _ _ _ _ hm
 have hl2 : ns.length = 6 := TyOk.len _ _ _ _ ha
 have HM := hid hm
 have HAd := hid ha
 have HL1 := hid hl1
 have HL2 := hid hl2
 have HI1 : Hid ((prog.info? 55).map (·.size) = some ms.length) := by unfold Hid; rw [hl1]; kernel_rfl
 have HI2 : Hid ((prog.info? 100).map (·.size) = some ns.length) := by unfold Hid; rw [hl2]; kernel_rfl
 have HO1 := hid (all_oneCell_toArray ((inferInstance : kAG tMd).one _ _ _ _ hm))
 have HO2 := hid (all_oneCell_toArray ((inferInstance : kAG tAd).one _ _ _ _ ha))
 have f2 := ((Fr.refl No w1).alloc (.cells q10x1 55)).alloc (.cells q10x2 100)
 have G0 := (Blk.new w1 55 q10x1).alloc (.cells q10x2 100)
 have G1 := Blk.new1 w1 (.cells q10x1 55) 100 q10x2
 have T0 : Hid (((w1.alloc (.cells q10x1 55)).alloc (.cells q10x2 100)).there w1.heap.size 0 ms.length) := by rw [hl1]; exact there_blk G0 rfl
 have T1 : Hid ((((w1.alloc (.cells q10x1 55)).alloc (.cells q10x2 100)).setCells w1.heap.size 0 ms).there (w1.heap.size + 1) 0 ns.length) := by rw [hl2]; exact World.there_setCells (there_blk G1 rfl) _ _ _
 have M1 := hid (World.rangeAt_setCells_apart (World.rangeAt_setCells_same ((w1.alloc (.cells q10x1 55)).alloc (.cells q10x2 100)) w1.heap.size 0 ms T0.o) (w1.heap.size + 1) 0 ns (.inl om))
 have M2 := hid (World.rangeAt_setCells_same (((w1.alloc (.cells q10x1 55)).alloc (.cells q10x2 100)).setCells w1.heap.size 0 ms) (w1.heap.size + 1) 0 ns T1.o)
 have F2 := hid (Fr.setCells' (a := w1) (M := No) (b := w1.heap.size + 1) (fun h => absurd h om) ns 0 _ (Fr.setCells' (a := w1) (M := No) (b := w1.heap.size) (fun h => absurd h om) ms 0 _ f2))
 have HQ : Hid (w1.heap.size + 1 < ((((w1.alloc (.cells q10x1 55)).alloc (.cells q10x2 100)).setCells w1.heap.size 0 ms).setCells (w1.heap.size + 1) 0 ns).heap.size) := by
  exact yy25
 clear hm ha hl1 hl2 f2 G0 G1
 go_upto_region 2 with (first
  | (refine wpList_store_mid (by rfl) 55 _ _ (by rfl) (w1.heap.size) 0 ms.toArray (by rfl) (by rfl) (by exact T0.o) (by exact HI1.o) (by exact HO1.o) ?_)
  | (refine wpList_store_mid (by rfl) 100 _ _ (by rfl) (w1.heap.size + 1) 0 ns.toArray (by rfl) (by rfl) (by exact T1.o) (by exact HI2.o) (by exact HO2.o) ?_)
  | fail)
 try simp only [Act.put]
 clear T0 T1
 generalize (((w1.alloc (.cells q10x1 55)).alloc (.cells q10x2 100)).setCells w1.heap.size 0 ms).setCells (w1.heap.size + 1) 0 ns = W at *
 have HM2 := hid (kAO HM.o F2.o HS1.o (fun _ h => h))
 have HA2 := hid (kAO HAd.o F2.o HS1.o (fun _ h => h))
 have HS2 : Hid (Lt S W) := fun k hk => ltl (HS1.o k hk) F2.o.size
 have FW := hid (F1.o.trans F2.o (fun _ _ h => h))
 clear HM HAd HS1 F1 F2 HO1 HO2 HL2
 obtain ⟨g, hg⟩ : ∃ g, g = w1.heap.size := ⟨_, rfl⟩
 rw [← hg] at M1 M2 HQ ⊢
 clear hg
 cases ok with
 | false =>
  have hLX := HLX.o
  rw [if_neg dc] at hLX
  subst hLX
  clear HLX
  go_wp2_with fail
  go_ret
  exact ⟨none, 0, rfl, .inl rfl, FW.o⟩
 | true =>
  have hLX := HLX.o
  rw [if_pos rfl] at hLX
  replace HLX := hid hLX
  clear hLX
  obtain ⟨_, _, _, _, _, _, _, _, _, _, _, _, A6, c6, _, _, _, _, _, _, hms, -, -, -, -, -, -, -, -, -, -, -, -, -, -, -, -, -, -, -, -, e6, -⟩ := kBS HM2.o
  have HMC : Hid (∀ X, Fr No W X → Ce X g 6 (.slice A6 y.m.exports.length c6)) := fun X f => (f.cell (p := ⟨g, 6, none⟩) (Nat.lt_of_succ_lt HQ.o) id).trans (by have h := M1.o 6 (.slice A6 y.m.exports.length c6) (by rw [hms]; rfl); rw [Nat.zero_add] at h; exact h)
  have E6 := hid e6
  have R2 : Hid (∀ X, Fr No W X → X.rangeAt (g + 1) 0 ns) := fun X f j v hv => (f.cell (p := ⟨g + 1, 0 + j, none⟩) HQ.o id).trans (M2.o j v hv)
  have ROW0 : Hid (tGv.row W W.heap.size Emp 94 (.slice none 0 0) []) := Ty.row.nil _ _ _ _
  have z := HMC.o W (Fr.refl _ _)
  have hex := HEX.o
  clear M1 M2 hms e6
  generalize y.m.exports = ex at *
  go_wp2_with fail
  clear z
  go_loopw [10, 26] (fun al i wr => ∃ k : Nat, k ≤ ex.length ∧ i = .int .i64 k ∧ Hid (tGv.row wr W.heap.size Emp 94 al (gvL nm y.a (ex.take k))) ∧ Hid (Fr No W wr)) (fun _ i _ => ex.length - (intOf i).toNat)
  case atStart => exact ⟨0, by omega, rfl, ROW0.o, Fr.refl _ _⟩
  case round =>
  clear ROW0
  obtain ⟨k, hk, rfl, ROW, F⟩ := hrel
  have z := HMC.o wr F.o
  have hex := HEX.o
  by_cases hlt : k < ex.length
  · have d1 : decide ((k : Int) < (ex.length : Nat)) = true := by simp; omega
    have i0 := nki k
    have i1 : (k : Int) < (ex.length : Nat) := om
    have HLT : Hid (k + 1 ≤ ex.length) := hlt
    obtain ⟨b, o, eA, hbS, z0, z1, z2, n0, n1, n2⟩ := kFX (els_up E6.o F.o HS2.o (fun _ h => h)) k hlt
    subst eA
    have HTK := hid (kDn (nm := nm) (a := y.a) hlt)
    have HLN : Hid ((gvL nm y.a (ex.take k)).length ≤ 1048576) := hid (by have := kCz nm y.a (ex.take k); rw [List.length_take] at this; omega)
    have HNN := hid (And.intro n0 n1)
    generalize ex[k] = t at z0 z1 z2 HTK HNN n2
    generalize gvL nm y.a (ex.take k) = xs at *
    have F3 := hid ((Fr.refl No wr).alloc (.cells #[.string t.name, .int .i64 t.kind, .int .i64 t.index] 110))
    have B3 := hid (Blk.new wr 110 #[.string t.name, .int .i64 t.kind, .int .i64 t.index])
    clear n0 n1 hbS hlt
    go_upto_region 8 with fail
    go_upto_region 8 with fail
    have FX3 := hid (F.o.trans F3.o (fun _ _ h => h))
    have HR3 := hid (R2.o _ FX3.o)
    have HA3 := hid (kAO HA2.o FX3.o HS2.o (fun _ h => h))
    have HS3 : Hid (∀ k, S k → k < (wr.alloc (.cells #[.string t.name, .int .i64 t.kind, .int .i64 t.index] 110)).heap.size) := fun k hk => ltl (HS2.o k hk) FX3.o.size
    have ROW3 : Hid (tGv.row (wr.alloc (.cells #[.string t.name, .int .i64 t.kind, .int .i64 t.index] 110)) W.heap.size Emp 94 u10 xs) := ROW.o.fr F3.o (fun _ h => h.elim) (fun _ _ x => x)
    clear z z0 z1 z2
    generalize wr.alloc (.cells #[.string t.name, .int .i64 t.kind, .int .i64 t.index] 110) = W3 at *
    obtain ⟨q, hq⟩ : ∃ q, q = wr.heap.size := ⟨_, rfl⟩
    rw [← hq] at B3 ⊢
    clear hq
    have z0 := B3.o.cell 0
    have z1 := B3.o.cell 1
    have z2 := B3.o.cell 2
    have HAA := hid (kGC y.a S t.kind W3 HA3.o HS3.o)
    go_wp2_with (first
     | (refine wpList_load_mid (by rfl) 100 _ (by rfl) (g + 1) 0 (by rfl) _ _ HR3.o underlying100 (by rfl) HI2.o ?_)
     | fail)
    refine HAA.o.mono ?_
    rintro e w4 ⟨A4, c4, rfl, el4, f4⟩
    have F4 := hid f4
    have FX4 := hid (FX3.o.trans f4 (fun _ _ h => h))
    have B4 := hid (B3.o.fr f4 id)
    have ROW4 : Hid (tGv.row w4 W.heap.size Emp 94 u10 xs) := ROW3.o.fr f4 (fun _ h => h.elim) (fun _ _ x => x)
    have HS4 : Hid (Lt S w4) := fun k hk => ltl (HS2.o k hk) FX4.o.size
    have EL4 := hid el4
    clear z0 z1 z2 f4 HAA el4 HR3 HA3 HS3
    have z0 := B4.o.cell 0
    have z1 := B4.o.cell 1
    have z2 := B4.o.cell 2
    obtain ⟨l, hl⟩ : ∃ l, l = adL y.a t.kind := ⟨_, rfl⟩
    rw [← hl] at EL4 ⊢
    have HGX : Hid (gvX nm y.a t = match getI l t.index with | some v => [⟨nm, t.name, ⟨t.kind, v⟩⟩] | none => []) := by rw [hl]; rfl
    clear hl
    by_cases h0 : 0 ≤ t.index
    case neg =>
     exact yy24
    by_cases h1 : t.index < l.length
    case neg =>
     exact yy19
    have d4 : decide (0 ≤ t.index) = true := by simpa using h0
    have d5 : decide (t.index < (l.length : Nat)) = true := by simpa using h1
    obtain ⟨j, hj⟩ := Int.eq_ofNat_of_zero_le h0
    have hjl : j < l.length := om
    have e : gvX nm y.a t = [⟨nm, t.name, ⟨t.kind, l[j]⟩⟩] := by rw [HGX.o, hj, kAp hjl]
    rw [e] at HTK
    obtain ⟨b5, o5, ds5, rfl, hb5, hc5, hr5⟩ := EL4.o.at_ j hjl
    obtain ⟨rfl, hw5⟩ := hr5
    have z5 : w4.cell? ⟨b5, o5 + j, none⟩ = some (.int .i64 l[j]) := by
     have h := hc5 0 _ rfl
     rwa [show o5 + (j * tI.size + 0) = o5 + j by show o5 + (j * 1 + 0) = _; omega] at h
    have HX5 : Hid (∀ X, Fr No w4 X → Ce X q 0 (.string t.name) ∧ Ce X q 1 (.int .i64 t.kind) ∧ Ce X q 2 (.int .i64 (j : Int)) ∧ Ce X b5 (o5 + j) (.int .i64 l[j])) := fun X f => ⟨(B4.o.fr f id).cell 0, (B4.o.fr f id).cell 1, ((B4.o.fr f id).cell 2).trans (by simp [hj]), (f.cell (p := ⟨b5, o5 + j, none⟩) (HS4.o b5 hb5) id).trans z5⟩
    have HMK := hid (fun (X : World) => kDY (w := X) (S := Emp) (a := ⟨nm, t.name, ⟨t.kind, l[j]⟩⟩) HNM.o HNN.o.1 HNN.o.2 hw5)
    have i2 : (0 : Int) ≤ (j : Int) := om
    have i3 : (j : Int) < (l.length : Nat) := om
    generalize l[j] = lv at *
    have HB5 : Hid (b5 < W.heap.size) := HS2.o b5 hb5
    clear hb5 hc5 hw5 z5 e h0 h1 hjl hj HGX EL4
    go_upto_region 10 with fail
    exact yy2
  · exact yy18
theorem kEu {w : World} {x : Rx} {cs : LV} (h : tRx.rd w (· < w.heap.size) cs x) (i : Int) (nm : ByteArray) (hb : ∀ y ∈ x.insts, MdB y.m ∧ AdB y.a) (hnm : nm.size ≤ maxLen) :
    Calls prog 19 #[.agg cs.toArray, .int .i64 i, .string nm] w (GvTo (if (atD zRi x.insts i).2 = true then gvL nm (atD zRi x.insts i).1.a (atD zRi x.insts i).1.m.exports else []) w) := by
 have F0 := hid ((Fr.refl No w).alloc (.cells cs.toArray 33))
 have HA := hid (kDk (kAO h F0.o (fun _ h => h) (fun _ h => h)) (fun k hk => ltl hk F0.o.size) i)
 have HNM := hid hnm
 have HEX : Hid ((atD zRi x.insts i).1.m.exports.length ≤ 1048576) := (kBn (p := fun y : Ri => MdB y.m ∧ AdB y.a) (i := i) kDT hb).1.exports
 have B0 := hid (Blk.new w 33 cs.toArray)
 have HL : Hid (cs.length = 10) := TyOk.len _ _ _ _ h
 have HI : Hid ((prog.info? 33).map (·.size) = some cs.length) := by unfold Hid; rw [HL.o]; kernel_rfl
 have HSS : Hid (∀ k, k < w.heap.size → k < (w.alloc (.cells cs.toArray 33)).heap.size) := fun k hk => ltl hk F0.o.size
 clear h hb hnm
 generalize (atD zRi x.insts i).2 = ok at *
 generalize (atD zRi x.insts i).1 = y at *
 obtain ⟨LX, hLX⟩ : ∃ l, l = (if ok = true then gvL nm y.a y.m.exports else []) := ⟨_, rfl⟩
 rw [← hLX]
 have HLX := hid hLX
 clear hLX
 go_enter func19, ntmps19
 go_upto_region 1 with fail
 have HR : Hid ((w.alloc (.cells cs.toArray 33)).rangeAt w.heap.size 0 cs) := by simpa [Hid] using rangeAt_blk B0.o
 generalize w.alloc (.cells cs.toArray 33) = W at *
 go_wp2_with (first
  | (refine wpList_load_mid (by rfl) 33 _ (by rfl) w.heap.size 0 (by rfl) _ _ HR.o underlying33 (by rfl) HI.o ?_)
  | fail)
 refine HA.o.mono ?_
 rintro e w1 ⟨ms, ns, rfl, hm, ha, f1⟩
 have HS1 : Hid (∀ k, k < w.heap.size → k < w1.heap.size) := fun k hk => ltl (HSS.o k hk) f1.size
 have F1 := hid (F0.o.trans f1 (fun _ _ h => h))
 clear HA f1 F0 HSS HR B0
 obtain ⟨S, hS⟩ : ∃ S : Nat → Prop, S = (fun k => k < w.heap.size) := ⟨_, rfl⟩
 replace HS1 : Hid (Lt S w1) := by rw [hS]; exact HS1
 rw [← hS] at hm ha
 clear hS
 have hl1 : ms.length = 12 := TyOk.len _ _ _ _ hm
 have hl2 : ns.length = 6 := TyOk.len _ _ _ _ ha
 have HM := hid hm
 have HAd := hid ha
 have HL1 := hid hl1
 have HL2 := hid hl2
 have HI1 : Hid ((prog.info? 55).map (·.size) = some ms.length) := by unfold Hid; rw [hl1]; kernel_rfl
 have HI2 : Hid ((prog.info? 100).map (·.size) = some ns.length) := by unfold Hid; rw [hl2]; kernel_rfl
 have HO1 := hid (all_oneCell_toArray ((inferInstance : kAG tMd).one _ _ _ _ hm))
 have HO2 := hid (all_oneCell_toArray ((inferInstance : kAG tAd).one _ _ _ _ ha))
 have f2 := ((Fr.refl No w1).alloc (.cells q10x1 55)).alloc (.cells q10x2 100)
 have G0 := (Blk.new w1 55 q10x1).alloc (.cells q10x2 100)
 have G1 := Blk.new1 w1 (.cells q10x1 55) 100 q10x2
 have T0 : Hid (((w1.alloc (.cells q10x1 55)).alloc (.cells q10x2 100)).there w1.heap.size 0 ms.length) := by rw [hl1]; exact there_blk G0 rfl
 have T1 : Hid ((((w1.alloc (.cells q10x1 55)).alloc (.cells q10x2 100)).setCells w1.heap.size 0 ms).there (w1.heap.size + 1) 0 ns.length) := by rw [hl2]; exact World.there_setCells (there_blk G1 rfl) _ _ _
 have M1 := hid (World.rangeAt_setCells_apart (World.rangeAt_setCells_same ((w1.alloc (.cells q10x1 55)).alloc (.cells q10x2 100)) w1.heap.size 0 ms T0.o) (w1.heap.size + 1) 0 ns (.inl om))
 have M2 := hid (World.rangeAt_setCells_same (((w1.alloc (.cells q10x1 55)).alloc (.cells q10x2 100)).setCells w1.heap.size 0 ms) (w1.heap.size + 1) 0 ns T1.o)
 have F2 := hid (Fr.setCells' (a := w1) (M := No) (b := w1.heap.size + 1) (fun h => absurd h om) ns 0 _ (Fr.setCells' (a := w1) (M := No) (b := w1.heap.size) (fun h => absurd h om) ms 0 _ f2))
 have HQ : Hid (w1.heap.size + 1 < ((((w1.alloc (.cells q10x1 55)).alloc (.cells q10x2 100)).setCells w1.heap.size 0 ms).setCells (w1.heap.size + 1) 0 ns).heap.size) := by
  exact yy25
 clear hm ha hl1 hl2 f2 G0 G1
 go_upto_region 2 with (first
  | (refine wpList_store_mid (by rfl) 55 _ _ (by rfl) (w1.heap.size) 0 ms.toArray (by rfl) (by rfl) (by exact T0.o) (by exact HI1.o) (by exact HO1.o) ?_)
  | (refine wpList_store_mid (by rfl) 100 _ _ (by rfl) (w1.heap.size + 1) 0 ns.toArray (by rfl) (by rfl) (by exact T1.o) (by exact HI2.o) (by exact HO2.o) ?_)
  | fail)
 try simp only [Act.put]
 clear T0 T1
 generalize (((w1.alloc (.cells q10x1 55)).alloc (.cells q10x2 100)).setCells w1.heap.size 0 ms).setCells (w1.heap.size + 1) 0 ns = W at *
 have HM2 := hid (kAO HM.o F2.o HS1.o (fun _ h => h))
 have HA2 := hid (kAO HAd.o F2.o HS1.o (fun _ h => h))
 have HS2 : Hid (Lt S W) := fun k hk => ltl (HS1.o k hk) F2.o.size
 have FW := hid (F1.o.trans F2.o (fun _ _ h => h))
 clear HM HAd HS1 F1 F2 HO1 HO2 HL2
 obtain ⟨g, hg⟩ : ∃ g, g = w1.heap.size := ⟨_, rfl⟩
 rw [← hg] at M1 M2 HQ ⊢
 clear hg
 cases ok with
 | false =>
  have hLX := HLX.o
  rw [if_neg dc] at hLX
  subst hLX
  clear HLX
  go_wp2_with fail
  go_ret
  exact ⟨none, 0, rfl, .inl rfl, FW.o⟩
 | true =>
  have hLX := HLX.o
  rw [if_pos rfl] at hLX
  replace HLX := hid hLX
  clear hLX
  obtain ⟨_, _, _, _, _, _, _, _, _, _, _, _, A6, c6, _, _, _, _, _, _, hms, -, -, -, -, -, -, -, -, -, -, -, -, -, -, -, -, -, -, -, -, e6, -⟩ := kBS HM2.o
  have HMC : Hid (∀ X, Fr No W X → Ce X g 6 (.slice A6 y.m.exports.length c6)) := fun X f => (f.cell (p := ⟨g, 6, none⟩) (Nat.lt_of_succ_lt HQ.o) id).trans (by have h := M1.o 6 (.slice A6 y.m.exports.length c6) (by rw [hms]; rfl); rw [Nat.zero_add] at h; exact h)
  have E6 := hid e6
  have R2 : Hid (∀ X, Fr No W X → X.rangeAt (g + 1) 0 ns) := fun X f j v hv => (f.cell (p := ⟨g + 1, 0 + j, none⟩) HQ.o id).trans (M2.o j v hv)
  have ROW0 : Hid (tGv.row W W.heap.size Emp 94 (.slice none 0 0) []) := Ty.row.nil _ _ _ _
  have z := HMC.o W (Fr.refl _ _)
  have hex := HEX.o
  clear M1 M2 hms e6
  generalize y.m.exports = ex at *
  go_wp2_with fail
  clear z
  go_loopw [10, 11] (fun al i wr => ∃ k : Nat, k ≤ ex.length ∧ i = .int .i64 k ∧ Hid (tGv.row wr W.heap.size Emp 94 al (gvL nm y.a (ex.take k))) ∧ Hid (Fr No W wr)) (fun _ i _ => ex.length - (intOf i).toNat)
  case atStart => exact ⟨0, by omega, rfl, ROW0.o, Fr.refl _ _⟩
  case round =>
  clear ROW0
  obtain ⟨k, hk, rfl, ROW, F⟩ := hrel
  have z := HMC.o wr F.o
  have hex := HEX.o
  by_cases hlt : k < ex.length
  · have d1 : decide ((k : Int) < (ex.length : Nat)) = true := by simp; omega
    have i0 := nki k
    have i1 : (k : Int) < (ex.length : Nat) := om
    have HLT : Hid (k + 1 ≤ ex.length) := hlt
    obtain ⟨b, o, eA, hbS, z0, z1, z2, n0, n1, n2⟩ := kFX (els_up E6.o F.o HS2.o (fun _ h => h)) k hlt
    subst eA
    have HTK := hid (kDn (nm := nm) (a := y.a) hlt)
    have HLN : Hid ((gvL nm y.a (ex.take k)).length ≤ 1048576) := hid (by have := kCz nm y.a (ex.take k); rw [List.length_take] at this; omega)
    have HNN := hid (And.intro n0 n1)
    generalize ex[k] = t at z0 z1 z2 HTK HNN n2
    generalize gvL nm y.a (ex.take k) = xs at *
    have F3 := hid ((Fr.refl No wr).alloc (.cells #[.string t.name, .int .i64 t.kind, .int .i64 t.index] 110))
    have B3 := hid (Blk.new wr 110 #[.string t.name, .int .i64 t.kind, .int .i64 t.index])
    clear n0 n1 hbS hlt
    go_upto_region 9 with fail
    go_upto_region 9 with fail
    have FX3 := hid (F.o.trans F3.o (fun _ _ h => h))
    have HR3 := hid (R2.o _ FX3.o)
    have HA3 := hid (kAO HA2.o FX3.o HS2.o (fun _ h => h))
    have HS3 : Hid (∀ k, S k → k < (wr.alloc (.cells #[.string t.name, .int .i64 t.kind, .int .i64 t.index] 110)).heap.size) := fun k hk => ltl (HS2.o k hk) FX3.o.size
    have ROW3 : Hid (tGv.row (wr.alloc (.cells #[.string t.name, .int .i64 t.kind, .int .i64 t.index] 110)) W.heap.size Emp 94 u10 xs) := ROW.o.fr F3.o (fun _ h => h.elim) (fun _ _ x => x)
    clear z z0 z1 z2
    generalize wr.alloc (.cells #[.string t.name, .int .i64 t.kind, .int .i64 t.index] 110) = W3 at *
    obtain ⟨q, hq⟩ : ∃ q, q = wr.heap.size := ⟨_, rfl⟩
    rw [← hq] at B3 ⊢
    clear hq
    have z0 := B3.o.cell 0
    have z1 := B3.o.cell 1
    have z2 := B3.o.cell 2
    have HAA := hid (kFj y.a S t.kind W3 HA3.o HS3.o)
    go_wp2_with (first
     | (refine wpList_load_mid (by rfl) 100 _ (by rfl) (g + 1) 0 (by rfl) _ _ HR3.o underlying100 (by rfl) HI2.o ?_)
     | fail)
    refine HAA.o.mono ?_
    rintro e w4 ⟨A4, c4, rfl, el4, f4⟩
    have F4 := hid f4
    have FX4 := hid (FX3.o.trans f4 (fun _ _ h => h))
    have B4 := hid (B3.o.fr f4 id)
    have ROW4 : Hid (tGv.row w4 W.heap.size Emp 94 u10 xs) := ROW3.o.fr f4 (fun _ h => h.elim) (fun _ _ x => x)
    have HS4 : Hid (Lt S w4) := fun k hk => ltl (HS2.o k hk) FX4.o.size
    have EL4 := hid el4
    clear z0 z1 z2 f4 HAA el4 HR3 HA3 HS3
    have z0 := B4.o.cell 0
    have z1 := B4.o.cell 1
    have z2 := B4.o.cell 2
    obtain ⟨l, hl⟩ : ∃ l, l = adL y.a t.kind := ⟨_, rfl⟩
    rw [← hl] at EL4 ⊢
    have HGX : Hid (gvX nm y.a t = match getI l t.index with | some v => [⟨nm, t.name, ⟨t.kind, v⟩⟩] | none => []) := by rw [hl]; rfl
    clear hl
    by_cases h0 : 0 ≤ t.index
    case neg =>
     exact yy24
    by_cases h1 : t.index < l.length
    case neg =>
     exact yy19
    have d4 : decide (0 ≤ t.index) = true := by simpa using h0
    have d5 : decide (t.index < (l.length : Nat)) = true := by simpa using h1
    obtain ⟨j, hj⟩ := Int.eq_ofNat_of_zero_le h0
    have hjl : j < l.length := om
    have e : gvX nm y.a t = [⟨nm, t.name, ⟨t.kind, l[j]⟩⟩] := by rw [HGX.o, hj, kAp hjl]
    rw [e] at HTK
    obtain ⟨b5, o5, ds5, rfl, hb5, hc5, hr5⟩ := EL4.o.at_ j hjl
    obtain ⟨rfl, hw5⟩ := hr5
    have z5 : w4.cell? ⟨b5, o5 + j, none⟩ = some (.int .i64 l[j]) := by
     have h := hc5 0 _ rfl
     rwa [show o5 + (j * tI.size + 0) = o5 + j by show o5 + (j * 1 + 0) = _; omega] at h
    have HX5 : Hid (∀ X, Fr No w4 X → Ce X q 0 (.string t.name) ∧ Ce X q 1 (.int .i64 t.kind) ∧ Ce X q 2 (.int .i64 (j : Int)) ∧ Ce X b5 (o5 + j) (.int .i64 l[j])) := fun X f => ⟨(B4.o.fr f id).cell 0, (B4.o.fr f id).cell 1, ((B4.o.fr f id).cell 2).trans (by simp [hj]), (f.cell (p := ⟨b5, o5 + j, none⟩) (HS4.o b5 hb5) id).trans z5⟩
    have HMK := hid (fun (X : World) => kDY (w := X) (S := Emp) (a := ⟨nm, t.name, ⟨t.kind, l[j]⟩⟩) HNM.o HNN.o.1 HNN.o.2 hw5)
    have i2 : (0 : Int) ≤ (j : Int) := om
    have i3 : (j : Int) < (l.length : Nat) := om
    generalize l[j] = lv at *
    have HB5 : Hid (b5 < W.heap.size) := HS2.o b5 hb5
    clear hb5 hc5 hw5 z5 e h0 h1 hjl hj HGX EL4
    go_upto_region 11 with fail
    exact yy2
  · exact yy18
structure RxK (x : Rx) : Prop where
 v : ∀ h ∈ x.hosts, ∀ a ∈ h.acts, a.vals.length * 16 ≤ 140737488351232
 t : ∀ t ∈ x.tabs, t.l.length ≤ 140737488351232
 m : ∀ m ∈ x.mems, m.b.length ≤ 140737488351232
theorem kIB {m : Md} (u : tMd.lw 140737488351232 m) : LtW m := by
 obtain ⟨u0, u1, u2, -, -, u5, u6, -, -, u9, u10, u11⟩ := u
 exact ⟨fun a ha => ⟨(u0.2.2 a ha).1.1, (u0.2.2 a ha).2.1⟩, fun a ha => ⟨(u1.2.2 a ha).1, (u1.2.2 a ha).2.1⟩, fun a ha => ⟨(u2.2.2 a ha).2.1.1, (u2.2.2 a ha).2.2.1⟩, fun a ha => (u5.2.2 a ha).2.1, fun a ha => (u6.2.2 a ha).1,
  fun a ha => ⟨(u9.2.2 a ha).2.2.1.1, fun l hl => ((u9.2.2 a ha).2.2.2.2.2.2 l hl).1⟩, fun a ha => ⟨(u10.2.2 a ha).2.2.2.1, (u10.2.2 a ha).2.2.1.1⟩, fun a ha => ⟨(u11.2.2 a ha).2.2.1, (u11.2.2 a ha).2.1⟩⟩
theorem kHJ {x : Rx} (u : tRx.lw 140737488351232 x) : LxW x ∧ RxK x := by
 obtain ⟨uh, -, -, uf, ut, um, -, -, -, ui⟩ := u
 exact ⟨⟨fun h hh => ⟨(uh.2.2 h hh).2.2.1.1.1, (uh.2.2 h hh).2.2.1.2.1⟩, fun f hf => ⟨(uf.2.2 f hf).1.1.1, (uf.2.2 f hf).1.2.1⟩, fun i hi => ⟨kIB (ui.2.2 i hi).1, by
     obtain ⟨a0, a1, a2, a3, a4, a5⟩ := (ui.2.2 i hi).2
     exact ⟨a0.1, a1.1, a2.1, a3.1, a4.1, a5.1⟩⟩⟩,
  ⟨fun h hh a ha => ((uh.2.2 h hh).2.2.2.2.2 a ha).2.1.2.1, fun t ht => (ut.2.2 t ht).2.1, fun m hm => (um.2.2 m hm).2.1⟩⟩
theorem LiB.rxB {x : Rx} (h : LiB x) (k : RxK x) : RxB x where
 hl := h.hl
 hb := fun a ha => ⟨by have := (h.hb a ha).2; omega, by have := (h.hb a ha).2; omega, by have := (h.hb a ha).1; omega, k.v a ha⟩
 fl := h.fl
 fb := fun f hf => ⟨by have := h.fb f hf; omega, by have := h.fb f hf; omega⟩
 tl := h.tl
 tb := k.t
 ml := h.ml
 mb := k.m
 gl := h.gl
 il := h.il
 ib := fun i hi => ⟨(h.ib i hi).1.md, by constructor <;> (have := (h.ib i hi).2; omega)⟩
theorem kBf (x : Rx) (a b c d : Nat) : (kAE x a b c d x.insts.length).insts = x.insts := by simp [kAE]
theorem kGq (d : Nat) (a b c e : Int) (w : World) : (Op.equalIn (d + 2) 57 (.agg #[.int .i64 a, .int .i64 b]) (.agg #[.int .i64 c, .int .i64 e])).run prog w = .ok (a == c && (b == e && true)) w :=
 kFG kr kr (kAr dc (kAS (kAu underlying34) rfl) (kAS (kAu underlying34) rfl) (run_equalIn_int w d _ _ _ _ _ underlying34)
  (kAr dc (kAS (kAu underlying3) rfl) (kAS (kAu underlying3) rfl) (run_equalIn_int w d _ _ _ _ _ underlying3) kDA))
theorem kFg {P : Program} {t : TypeId} {w : World} {cs : Array Value} {off n : Nat} (h : (isAgg t).run P w = .ok true w) (hi : (P.info? t).map (·.size) = some n) : (part t cs off).run P w = .ok (.agg (cs.extract off (off + n))) w := by
 obtain ⟨i, h1, h2⟩ := Option.map_eq_some_iff.1 hi
 exact kFf h h1 h2
theorem kEg {w : World} {cs : Array Value} (off : Nat) : (part 57 cs off).run prog w = .ok (.agg (cs.extract off (off + 2))) w :=
 kFg (kGl (fs := prog.fieldsOf 57) kr) kr
abbrev kCL (a0 : Gv) : Array Value := #[.string a0.mod, .string a0.name, .int .i64 a0.what.kind, .int .i64 a0.what.addr]
theorem kFh (g : Gv) (w : World) : (Op.equalIn 10000 94 (.agg (kCL g)) (.agg (kCL g))).run prog w = .ok true w := by
 have h := kFG (P := prog) (t := 94) (w := w) (d := 9999) (xs := (kCL g)) (ys := (kCL g)) kr kr
  (kAr dc (kAS (kBV underlying9) rfl) (kAS (kBV underlying9) rfl) (run_equalIn_string w 9998 _ _ _ underlying9)
  (kAr dc (kAS (kBV underlying9) rfl) (kAS (kBV underlying9) rfl) (run_equalIn_string w 9998 _ _ _ underlying9)
  (kAr dc (kEg 2) (kEg 2) (kGq 9997 g.what.kind g.what.addr g.what.kind g.what.addr w) kDA)))
 rw [h]
 simp
abbrev kJE : Array Value := #[.agg #[.slice none 0 0, .slice none 0 0, .slice none 0 0, .slice none 0 0, .slice none 0 0, .slice none 0 0, .slice none 0 0, .bool false, .int .i64 0, .slice none 0 0, .slice none 0 0, .slice none 0 0], .agg #[.slice none 0 0, .slice none 0 0, .slice none 0 0, .slice none 0 0, .slice none 0 0, .slice none 0 0], .bool false]
theorem kIX (i : Int) (w : World) : Calls prog 44 #[.pointer none, .int .i64 i] w fun e w' => e = .returned (.tuple kJE) ∧ Fr No w w' := by
 go_enter func44, ntmps44
 go_wp2
 refine bodyPost_ret (v := .tuple kJE) (by simp [results, Tryz.results44, go_sem]) rfl ⟨rfl, ?_⟩
 (first | exact Fr.refl _ _ | exact (Fr.refl No w).alloc _ | exact ((Fr.refl No w).alloc _).alloc _ | exact (((Fr.refl No w).alloc _).alloc _).alloc _)
theorem kFs (i : Int) (nm : ByteArray) (w : World) : Calls prog 18 #[.pointer none, .int .i64 i, .string nm] w fun e w' => e = .returned (.slice none 0 0) ∧ Fr No w w' := by
 go_enter func18, ntmps18
 go_wp2_with fail
 refine (kIX i w).mono ?_
 rintro e w1 ⟨rfl, f1⟩
 have F1 := hid f1
 clear f1
 go_wp2_with fail
 go_ret
 exact ⟨rfl, (F1.o.alloc _).alloc _⟩
theorem kFr (x : Rx) {cs : LV} (i : Int) (nm : ByteArray) (w : World) (hx : tRx.rd w (· < w.heap.size) cs x) (hw : LxW x) (hk : RxK x) (hnm : nm.size ≤ maxLen) :
    Calls prog 7 #[.agg cs.toArray, .int .i64 i, .string nm] w fun e w' => e = .returned (.bool true) ∧ Fr No w w' := by
 have HX := hid hx
 have HL : Hid (cs.length = 10) := TyOk.len _ _ _ _ hx
 have HI : Hid ((prog.info? 33).map (·.size) = some cs.length) := by unfold Hid; rw [HL.o]; kernel_rfl
 have HW := hid hw
 have HK := hid hk
 have HNM := hid hnm
 have F0 := hid ((Fr.refl No w).alloc (.cells cs.toArray 33))
 have B0 := hid (Blk.new w 33 cs.toArray)
 have HAL := hid (fun X => kEb X)
 clear hx hw hk
 go_enter func7, ntmps7
 go_upto_region 1 with fail
 generalize w.alloc (.cells cs.toArray 33) = W at *
 obtain ⟨p, hp⟩ : ∃ p, p = w.heap.size := ⟨_, rfl⟩
 rw [← hp] at B0 ⊢
 clear hp
 have HR : Hid (∀ X, Fr No W X → X.rangeAt p 0 cs) := fun X f => by simpa using rangeAt_blk (B0.o.fr f id)
 have HRD : Hid (∀ X, Fr No w X → tRx.rd X (· < X.heap.size) cs x) := fun X f => kAO HX.o f i2 (fun k hk => ltl hk f.size)
 have r0 := hid (HR.o W (Fr.refl _ _))
 have HLI := hid (kFn x (cs := cs) W (HRD.o W F0.o) HW.o)
 go_wp2_with (first
  | (refine wpList_load_mid (by rfl) 33 _ (by rfl) p 0 (by rfl) _ _ r0.o underlying33 (by rfl) HI.o ?_)
  | fail)
 clear r0
 refine HLI.o.mono ?_
 rintro e w1 ⟨⟨r, rfl, hr⟩, f1⟩
 have FW1 := hid f1
 have F1 := ftr F0 f1
 have HLB := hid hr
 clear f1 hr HLI
 cases r with
 | false =>
  exact yy37
 | true =>
  replace HLB := hid (HLB.o rfl)
  by_cases hl : 100 < nm.size
  · have d1 : decide ((100 : Int) < (nm.size : Nat)) = true := by simp; omega
    clear hl
    exact yy37
  have d1 : decide ((100 : Int) < (nm.size : Nat)) = false := by simp; omega
  clear hl
  have r1 := hid (HR.o w1 FW1.o)
  have HMA := hid (kGk x (cs := cs) w1 (HRD.o w1 F1.o) (HLB.o.rxB HK.o))
  go_wp2_with (first
   | (refine wpList_load_mid (by rfl) 33 _ (by rfl) p 0 (by rfl) _ _ r1.o underlying33 (by rfl) HI.o ?_)
   | fail)
  clear r1
  refine HMA.o.mono ?_
  rintro e w2 (⟨rfl, f2⟩ | ⟨V, R, rfl, st, hown, f2, -⟩)
  · have F2 := ftr F1 f2
    clear f2 HMA
    go_wp2_with fail
    refine (HAL.o _).mono ?_
    rintro e w3 ⟨rfl, f3⟩
    have F3 := ftr F2 f3
    clear f3
    go_wp2_with fail
    go_ret
    exact ⟨rfl, F3.o⟩
  have F2 := ftr F1 f2
  have FW2 := ftr FW1 f2
  have HST := hid st
  clear f2 st HMA hown
  go_wp2_with fail
  have HIB : Hid (∀ y ∈ x.insts, MdB y.m ∧ AdB y.a) := (HLB.o.rxB HK.o).ib
  have HIL := hid (HLB.o.il)
  have HG1 := hid (fun (X : World) (f : Fr No w2 X) => kFt (HST.o.frNo f) i nm (by rw [kBf]; have := HIL.o; omega) (by rw [kBf]; exact HIB.o) HNM.o)
  have HG2 := hid (fun (X : World) (f : Fr No w2 X) => kEu (HRD.o X (F2.o.trans f i3)) i nm HIB.o HNM.o)
  have HG0 := hid (fun (X : World) => kFs i nm X)
  simp only [kBf] at HG1
  have HLL : Hid ((if (atD zRi x.insts i).2 = true then gvL nm (atD zRi x.insts i).1.a (atD zRi x.insts i).1.m.exports else []).length ≤ 1048576) := by
   unfold Hid
   split
   · exact Nat.le_trans (kCz _ _ _) (kBn (p := fun y : Ri => MdB y.m ∧ AdB y.a) (i := i) kDT HIB.o).1.exports
   exact nz
  generalize (if (atD zRi x.insts i).2 = true then gvL nm (atD zRi x.insts i).1.a (atD zRi x.insts i).1.m.exports else []) = LX at HG1 HG2 HLL
  refine rwO (fun X => X.rangeAt p 0 cs) [] [0, 1, 2, 4, 5, 6, 3, 7, 8, 9] [3, 7] (HR.o _ (FW2.o.trans (Fr.refl _ _).drew i3)) ?_
  iterate 3 (refine kAY rfl rfl ?_; simp only [zA]; apply Exists.intro; refine ⟨fun X hX => ?_, ?_⟩; (clear hX; go_simp; exact stillUpon_value); simp only [zC, Act.put])
  refine kBO rfl rfl 33 _ rfl p 0 (by rfl) cs _ (fun X hX => hX) underlying33 (by rfl) HI.o ?_
  simp only [zA, zC, Act.put]
  iterate 2 (refine kAY rfl rfl ?_; simp only [zA]; apply Exists.intro; refine ⟨fun X hX => ?_, ?_⟩; (clear hX; go_simp; exact stillUpon_value); simp only [zC, Act.put])
  refine wpO_eff rfl rfl fun K hK => sz ?_
  refine (HG1.o _ (Fr.refl _ _).drew).mono ?_
  rintro e w3 ⟨A3, c3, rfl, e3, f3⟩
  have F3 := hid (((Fr.refl No w2).drew).trans f3 i3)
  refine hK _ _ (fun _ => HR.o _ (FW2.o.trans F3.o i3)) ?_
  clear hK K f3
  refine wpO_eff rfl rfl fun K hK => sz ?_
  refine (HG2.o _ F3.o).mono ?_
  rintro e w4 ⟨A4, c4, rfl, e4, f4⟩
  have F4 := ftr F3 f4
  have E3 := hid (els_up e3 f4 i2 (fun k hk => ltl hk f4.size))
  have E4 := hid e4
  refine hK _ _ (fun _ => HR.o _ (FW2.o.trans F4.o i3)) ?_
  clear hK K f4 e3 e4 HG1 HG2 F3
  iterate 2 (refine kAY rfl rfl ?_; simp only [zA]; apply Exists.intro; refine ⟨fun X hX => ?_, ?_⟩; (clear hX; go_simp; exact stillUpon_value); simp only [zC, Act.put])
  refine wpO_nil ?_
  go_wp2_with fail
  refine (HG0.o _).mono ?_
  rintro e w5 ⟨rfl, f5⟩
  have FX := hid (F2.o.trans (F4.o.trans f5 i3) i3)
  have E3' := hid (els_up E3.o f5 i2 i2)
  have E4' := hid (els_up E4.o f5 i2 i2)
  have HSZ : Hid (w4.heap.size ≤ w5.heap.size) := f5.size
  clear f5 E3 E4 HG0
  go_wp2_with fail
  go_loopw [11] (fun i wr => ∃ k : Nat, k ≤ LX.length ∧ i = .int .i64 k ∧ Hid (Fr No w5 wr)) (fun i _ => LX.length - (intOf i).toNat)
  case atStart => exact ⟨0, by omega, rfl, Fr.refl _ _⟩
  case round =>
  obtain ⟨k, hk, rfl, F⟩ := hrel
  have hll := HLL.o
  by_cases hlt : k < LX.length
  · have d1 : decide ((k : Int) < (LX.length : Nat)) = true := by simp; omega
    have i0 := nki k
    have i1 : (k : Int) < (LX.length : Nat) := om
    have HLT : Hid (k + 1 ≤ LX.length) := hlt
    obtain ⟨b, o, eA, hbS, z0, z1, z2, z3, -⟩ := kFV (els_up E3'.o F.o (fun k hk => ltl hk HSZ.o) i2) k hlt
    obtain ⟨b', o', eA', hbS', y0, y1, y2, y3, -⟩ := kFV (els_up E4'.o F.o (fun k hk => ltl hk HSZ.o) i2) k hlt
    subst eA eA'
    have hl1 : b < wr.heap.size := ltl hbS (Nat.le_trans HSZ.o F.o.size)
    have hl2 : b' < wr.heap.size := ltl hbS' (Nat.le_trans HSZ.o F.o.size)
    generalize LX[k] = g at z0 z1 z2 z3 y0 y1 y2 y3
    have q := fun X => kFh g X
    have HY : Hid (∀ X, Fr No wr X → Ce X b (o + k * 4) (.string g.mod) ∧ Ce X b (o + k * 4 + 1) (.string g.name) ∧ Ce X b (o + k * 4 + 2) (.int .i64 g.what.kind) ∧ Ce X b (o + k * 4 + 3) (.int .i64 g.what.addr) ∧ Ce X b' (o' + k * 4) (.string g.mod) ∧ Ce X b' (o' + k * 4 + 1) (.string g.name) ∧ Ce X b' (o' + k * 4 + 2) (.int .i64 g.what.kind) ∧ Ce X b' (o' + k * 4 + 3) (.int .i64 g.what.addr)) := fun X f =>
     ⟨(f.cell (p := ⟨b, o + k * 4, none⟩) hl1 id).trans z0, (f.cell (p := ⟨b, o + k * 4 + 1, none⟩) hl1 id).trans z1, (f.cell (p := ⟨b, o + k * 4 + 2, none⟩) hl1 id).trans z2, (f.cell (p := ⟨b, o + k * 4 + 3, none⟩) hl1 id).trans z3, (f.cell (p := ⟨b', o' + k * 4, none⟩) hl2 id).trans y0, (f.cell (p := ⟨b', o' + k * 4 + 1, none⟩) hl2 id).trans y1, (f.cell (p := ⟨b', o' + k * 4 + 2, none⟩) hl2 id).trans y2, (f.cell (p := ⟨b', o' + k * 4 + 3, none⟩) hl2 id).trans y3⟩
    clear z0 z1 z2 z3 y0 y1 y2 y3 hl1 hl2 hbS hbS' hlt
    have FD := hid (F.o.trans (Fr.refl No wr).drew i3)
    go_upto_region 12 with fail
    refine rwO (Fr No wr) [] (List.range 9) [] (Fr.refl _ _).drew ?_
    refine rO HY.o ?_
    refine wpO_nil ?_
    go_wp2_with fail
    go_roundw
    case rel => exact ⟨k + 1, HLT.o, by go_num, FD.o⟩
    exact kAl HLT.o
  · have hkn : k = LX.length := om
    subst hkn
    go_wp2_with fail
    refine (HAL.o _).mono ?_
    rintro e w6 ⟨rfl, f6⟩
    have F6 := hid (FX.o.trans (F.o.trans f6 i3) i3)
    clear f6
    go_wp2_with fail
    go_ret
    exact ⟨rfl, F6.o⟩
theorem kHZ (w : World) (v0 v1 v2 : Value) (x0 : Rx) (x1 : Int) (x2 : ByteArray) (y0 : tRx.rd w (· < w.heap.size) v0.cells.toList x0) (y1 : (Ty.int .i64).rd w (· < w.heap.size) v1.cells.toList x1) (y2 : Ty.str.rd w (· < w.heap.size) v2.cells.toList x2)
    (u0 : tRx.lw 140737488351232 x0) (_ : (Ty.int .i64).lw 140737488351232 x1) (_ : Ty.str.lw 140737488351232 x2) (hv0 : ∃ cs, v0 = .agg cs) (hv1 : ∃ n, v1 = .int .i64 n) (hv2 : ∃ s, v2 = .string s) :
    Calls prog 7 #[v0, v1, v2] w fun e w' => e = .returned (.bool true) ∧ Below w.heap.size w w' := by
 obtain ⟨cs, rfl⟩ := hv0
 obtain ⟨n, rfl⟩ := hv1
 obtain ⟨s, rfl⟩ := hv2
 obtain ⟨e1, b1⟩ := y1
 obtain ⟨e2, b2⟩ := y2
 simp only [Value.cells, List.cons.injEq, and_true, Value.int.injEq, Value.string.injEq, true_and] at e1 e2
 subst e1 e2
 have h0 : tRx.rd w (· < w.heap.size) cs.toList x0 := y0
 have h := kFr x0 (cs := cs.toList) n s w h0 (kHJ u0).1 (kHJ u0).2 b2
 rw [Array.toArray_toList] at h
 exact h.mono fun e w' h => ⟨h.1, h.2.below⟩
end Go.Proofs.YthggdemiddjlgaaGreat
