/- Part 13 of the proof: lemmas and contracts of functions. No condition. -/
import Derived.Test.YthggdemiddjlgaaGreatS12
import Derived.Test.YthggdemiddjlgaaGreatS11
import Derived.Test.YthggdemiddjlgaaGreatS10
import Derived.Test.YthggdemiddjlgaaGreatS6
import Derived.Test.YthggdemiddjlgaaGreatS2
import Derived.Test.YthggdemiddjlgaaGreatS1
set_option maxRecDepth 100000
set_option maxHeartbeats 12800000
set_option linter.unusedVariables false
set_option linter.unusedSimpArgs false
set_option linter.unusedSectionVars false
namespace Go.Proofs.YthggdemiddjlgaaGreat
open Go.RowKit Go.Proofs.Tryz
structure LxW (x : Rx) : Prop where
 h : ∀ h ∈ x.hosts, h.ty.params.length ≤ 140737488351232 ∧ h.ty.results.length ≤ 140737488351232
 f : ∀ f ∈ x.funcs, f.ty.params.length ≤ 140737488351232 ∧ f.ty.results.length ≤ 140737488351232
 i : ∀ i ∈ x.insts, LtW i.m ∧ (i.a.funcs.length ≤ 140737488351232 ∧ i.a.tables.length ≤ 140737488351232 ∧ i.a.mems.length ≤ 140737488351232 ∧ i.a.globals.length ≤ 140737488351232 ∧ i.a.elems.length ≤ 140737488351232 ∧ i.a.datas.length ≤ 140737488351232)
structure LiB (x : Rx) : Prop where
 hl : x.hosts.length ≤ 20
 hb : ∀ h ∈ x.hosts, h.acts.length ≤ 20 ∧ h.ty.params.length + h.ty.results.length ≤ 40
 fl : x.funcs.length ≤ 40
 fb : ∀ f ∈ x.funcs, f.ty.params.length + f.ty.results.length ≤ 40
 tl : x.tabs.length ≤ 20
 ml : x.mems.length ≤ 20
 gl : x.globs.length ≤ 40
 il : x.insts.length ≤ 10
 ib : ∀ i ∈ x.insts, LtB i.m ∧ i.a.funcs.length + i.a.tables.length + i.a.mems.length + i.a.globals.length + i.a.elems.length + i.a.datas.length ≤ 400
def LiTo (x : Rx) (w : World) (e : Ending) (w' : World) : Prop := (∃ r, e = .returned (.bool r) ∧ (r = true → LiB x)) ∧ Fr No w w'
theorem kCa {α : Type} {p : α → Prop} {l : List α} {k : Nat} (hk : k < l.length) (h : ∀ a ∈ l.take k, p a) (h1 : p l[k]) : ∀ a ∈ l.take (k + 1), p a := by
 rw [List.take_succ_eq_append_getElem hk]
 intro a ha
 rcases List.mem_append.1 ha with h2 | h2
 · exact h a h2
 rw [List.mem_singleton.1 h2]; exact h1
theorem kHI {a b : Nat} (ha : a ≤ 140737488351232) (hb : b ≤ 140737488351232) : IntKind.i64.wrap ((a : Int) + (b : Int)) = ((a + b : Nat) : Int) := by
 rw [IntKind.wrap_i64]; omega
theorem kFn (x : Rx) {cs : LV} (w : World) (hx : tRx.rd w (· < w.heap.size) cs x) (hw : LxW x) :
    Calls prog 8 #[.agg cs.toArray] w (LiTo x w) := by
 obtain ⟨A0, c0, A1, c1, A2, c2, A3, c3, A4, c4, A5, c5, A6, c6, A7, c7, A8, c8, A9, c9, hcs, -, -, e0, -, -, -, -, -, -, -, -, e3, -, -, e4, -, -, e5, -, -, e6, -, -, -, -, -, -, -, -, e9⟩ := kBz hx
 have E0 := hid e0
 have E3 := hid e3
 have E9 := hid e9
 have HW := hid hw
 have F0 := hid ((Fr.refl No w).alloc (.cells cs.toArray 33))
 have B0 := hid (Blk.new w 33 cs.toArray)
 have HC : Hid (∀ (X : World) (p : Nat), Blk X p 33 cs.toArray → Ce X p 0 (.slice A0 x.hosts.length c0) ∧ Ce X p 3 (.slice A3 x.funcs.length c3) ∧ Ce X p 4 (.slice A4 x.tabs.length c4) ∧ Ce X p 5 (.slice A5 x.mems.length c5) ∧ Ce X p 6 (.slice A6 x.globs.length c6) ∧ Ce X p 9 (.slice A9 x.insts.length c9)) := fun X p b => by
  rw [hcs] at b
  exact ⟨b.cell 0, b.cell 3, b.cell 4, b.cell 5, b.cell 6, b.cell 9⟩
 have HL : Hid (cs.length = 10) := TyOk.len _ _ _ _ hx
 clear hx hw hcs e0 e3 e4 e5 e6 e9
 go_enter func8, ntmps8
 go_upto_region 1 with fail
 generalize w.alloc (.cells cs.toArray 33) = W at *
 obtain ⟨p, hp⟩ : ∃ p, p = w.heap.size := ⟨_, rfl⟩
 rw [← hp] at B0 ⊢
 have HP := hid hp
 clear hp
 have HX : Hid (∀ X, Fr No W X → Ce X p 0 (.slice A0 x.hosts.length c0) ∧ Ce X p 3 (.slice A3 x.funcs.length c3) ∧ Ce X p 4 (.slice A4 x.tabs.length c4) ∧ Ce X p 5 (.slice A5 x.mems.length c5) ∧ Ce X p 6 (.slice A6 x.globs.length c6) ∧ Ce X p 9 (.slice A9 x.insts.length c9)) := fun X f => HC.o X p (B0.o.fr f id)
 clear HC
 obtain ⟨y0, y1, y2, y3, y4, y5⟩ := HX.o _ (Fr.refl No W)
 by_cases h0 : 20 < x.hosts.length
 · have d0 : decide ((20 : Int) < (x.hosts.length : Nat)) = true := by simp; omega
   clear h0
   exact yy8
 have d0 : decide ((20 : Int) < (x.hosts.length : Nat)) = false := by simp; omega
 have H0 : Hid (x.hosts.length ≤ 20) := by unfold Hid; omega
 clear h0
 by_cases h1 : 40 < x.funcs.length
 · have d1 : decide ((40 : Int) < (x.funcs.length : Nat)) = true := by simp; omega
   clear h1
   exact yy8
 have d1 : decide ((40 : Int) < (x.funcs.length : Nat)) = false := by simp; omega
 have H1 : Hid (x.funcs.length ≤ 40) := by unfold Hid; omega
 clear h1
 by_cases h2 : 20 < x.tabs.length
 · have d2 : decide ((20 : Int) < (x.tabs.length : Nat)) = true := by simp; omega
   clear h2
   exact yy8
 have d2 : decide ((20 : Int) < (x.tabs.length : Nat)) = false := by simp; omega
 have H2 : Hid (x.tabs.length ≤ 20) := by unfold Hid; omega
 clear h2
 by_cases h3 : 20 < x.mems.length
 · have d3 : decide ((20 : Int) < (x.mems.length : Nat)) = true := by simp; omega
   clear h3
   exact yy8
 have d3 : decide ((20 : Int) < (x.mems.length : Nat)) = false := by simp; omega
 have H3 : Hid (x.mems.length ≤ 20) := by unfold Hid; omega
 clear h3
 by_cases h4 : 40 < x.globs.length
 · have d4 : decide ((40 : Int) < (x.globs.length : Nat)) = true := by simp; omega
   clear h4
   exact yy8
 have d4 : decide ((40 : Int) < (x.globs.length : Nat)) = false := by simp; omega
 have H4 : Hid (x.globs.length ≤ 40) := by unfold Hid; omega
 clear h4
 by_cases h5 : 10 < x.insts.length
 · have d5 : decide ((10 : Int) < (x.insts.length : Nat)) = true := by simp; omega
   clear h5
   exact yy8
 have d5 : decide ((10 : Int) < (x.insts.length : Nat)) = false := by simp; omega
 have H5 : Hid (x.insts.length ≤ 10) := by unfold Hid; omega
 clear h5
 go_wp2_with fail
 clear y0 y1 y2 y3 y4 y5 d0 d1 d2 d3 d4 d5
 go_loopw [3] (fun i wr => ∃ k : Nat, k ≤ x.hosts.length ∧ i = .int .i64 k ∧ Hid (Fr No W wr) ∧ Hid (∀ h ∈ x.hosts.take k, h.acts.length ≤ 20 ∧ h.ty.params.length + h.ty.results.length ≤ 40)) (fun i _ => x.hosts.length - (intOf i).toNat)
 case atStart => exact ⟨0, by omega, rfl, Fr.refl _ _, fun h hh => by simp at hh⟩
 case round =>
 obtain ⟨k, hk, rfl, F, HN⟩ := hrel
 obtain ⟨y0, y1, y2, y3, y4, y5⟩ := HX.o _ F.o
 have h20 := H0.o
 by_cases hlt : k < x.hosts.length
 · have d1 : decide ((k : Int) < (x.hosts.length : Nat)) = true := by simp; omega
   have i0 := nki k
   have i1 : (k : Int) < (x.hosts.length : Nat) := om
   have HLT : Hid (k + 1 ≤ x.hosts.length) := hlt
   have FW := ftr F0 F.o
   obtain ⟨b, o, P1, p1, P2, p2, P3, p3, eA, hbS, -, -, z2, z3, z4, -⟩ := kFU (els_up E0.o FW.o i2 i2) k hlt
   subst eA
   have hbl : b < wr.heap.size := ltl hbS FW.o.size
   have HAB := hid (HW.o.h _ (List.getElem_mem hlt))
   have HTK := hid (kCa (p := fun h : Ho => h.acts.length ≤ 20 ∧ h.ty.params.length + h.ty.results.length ≤ 40) hlt HN.o)
   generalize x.hosts[k] = f at z2 z3 z4 HAB HTK
   have HY : Hid (∀ X, Fr No wr X → Ce X p 0 (.slice (some ⟨b, o, none⟩) x.hosts.length c0) ∧ Ce X b (o + k * 5 + 2) (.slice P1 f.ty.params.length p1) ∧ Ce X b (o + k * 5 + 3) (.slice P2 f.ty.results.length p2) ∧ Ce X b (o + k * 5 + 4) (.slice P3 f.acts.length p3)) := fun X g =>
    ⟨(HX.o _ (F.o.trans g i3)).1, (g.cell (p := ⟨b, o + k * 5 + 2, none⟩) hbl id).trans z2, (g.cell (p := ⟨b, o + k * 5 + 3, none⟩) hbl id).trans z3, (g.cell (p := ⟨b, o + k * 5 + 4, none⟩) hbl id).trans z4⟩
   clear z2 z3 z4 hbl hbS hlt
   have FD := hid (F.o.trans (Fr.refl No wr).drew i3)
   have FDW := ftr F0 FD.o
   by_cases ha : 20 < f.acts.length
   · have d2 : decide ((20 : Int) < (f.acts.length : Nat)) = true := by simp; omega
     clear ha
     exact yy34
   have d2 : decide ((20 : Int) < (f.acts.length : Nat)) = false := by simp; omega
   have HA20 : Hid (f.acts.length ≤ 20) := by unfold Hid; omega
   have ew := kHI HAB.o.1 HAB.o.2
   clear ha
   by_cases hs : 40 < f.ty.params.length + f.ty.results.length
   · have d3 : decide ((40 : Int) < IntKind.i64.wrap ((f.ty.params.length : Nat) + (f.ty.results.length : Nat))) = true := by rw [ew]; simp; omega
     clear hs ew
     exact yy34
   have d3 : decide ((40 : Int) < IntKind.i64.wrap ((f.ty.params.length : Nat) + (f.ty.results.length : Nat))) = false := by rw [ew]; simp; omega
   have HS40 : Hid (f.ty.params.length + f.ty.results.length ≤ 40) := by unfold Hid; omega
   clear hs ew
   go_upto_region 6 with fail
   clear y0 y1 y2 y3 y4 y5
   refine rwO (Fr No wr) [] (List.range 28) [] (Fr.refl _ _).drew ?_
   refine rO HY.o ?_
   refine wpO_nil ?_
   go_wp2_with fail
   go_roundw
   case rel => exact ⟨k + 1, HLT.o, by go_num, FD.o, HTK.o ⟨HA20.o, HS40.o⟩⟩
   exact meas0 HLT.o
 have hkn : k = x.hosts.length := om
 subst hkn
 rw [List.take_length] at HN
 have HN0 := hid HN.o
 obtain ⟨W1, hY⟩ : ∃ Y, Y = wr := ⟨_, rfl⟩
 subst hY
 have FW1 := hid F.o
 clear F hk hlt HN h20
 go_wp2_with fail
 clear y0 y1 y2 y3 y4 y5
 go_loopw [4] (fun i wr => ∃ k : Nat, k ≤ x.funcs.length ∧ i = .int .i64 k ∧ Hid (Fr No W wr) ∧ Hid (∀ f ∈ x.funcs.take k, f.ty.params.length + f.ty.results.length ≤ 40)) (fun i _ => x.funcs.length - (intOf i).toNat)
 case atStart => exact ⟨0, by omega, rfl, FW1.o, fun h hh => by simp at hh⟩
 case round =>
 obtain ⟨k, hk, rfl, F, HN⟩ := hrel
 obtain ⟨y0, y1, y2, y3, y4, y5⟩ := HX.o _ F.o
 have h40 := H1.o
 by_cases hlt : k < x.funcs.length
 · have d1 : decide ((k : Int) < (x.funcs.length : Nat)) = true := by simp; omega
   have i0 := nki k
   have i1 : (k : Int) < (x.funcs.length : Nat) := om
   have HLT : Hid (k + 1 ≤ x.funcs.length) := hlt
   have FW := ftr F0 F.o
   obtain ⟨b, o, P1, p1, P2, p2, eA, hbS, z0, z1, -⟩ := kFW (els_up E3.o FW.o i2 i2) k hlt
   subst eA
   have hbl : b < wr.heap.size := ltl hbS FW.o.size
   have HAB := hid (HW.o.f _ (List.getElem_mem hlt))
   have HTK := hid (kCa (p := fun f : Fi => f.ty.params.length + f.ty.results.length ≤ 40) hlt HN.o)
   generalize x.funcs[k] = f at z0 z1 HAB HTK
   have HY : Hid (∀ X, Fr No wr X → Ce X p 3 (.slice (some ⟨b, o, none⟩) x.funcs.length c3) ∧ Ce X b (o + k * 4) (.slice P1 f.ty.params.length p1) ∧ Ce X b (o + k * 4 + 1) (.slice P2 f.ty.results.length p2)) := fun X g =>
    ⟨(HX.o _ (F.o.trans g i3)).2.1, (g.cell (p := ⟨b, o + k * 4, none⟩) hbl id).trans z0, (g.cell (p := ⟨b, o + k * 4 + 1, none⟩) hbl id).trans z1⟩
   clear z0 z1 hbl hbS hlt
   have FD := hid (F.o.trans (Fr.refl No wr).drew i3)
   have FDW := ftr F0 FD.o
   have ew := kHI HAB.o.1 HAB.o.2
   by_cases hs : 40 < f.ty.params.length + f.ty.results.length
   · have d3 : decide ((40 : Int) < IntKind.i64.wrap ((f.ty.params.length : Nat) + (f.ty.results.length : Nat))) = true := by rw [ew]; simp; omega
     clear hs ew
     go_upto_region 11 with fail
     clear y0 y1 y2 y3 y4 y5
     refine rwO (Fr No wr) [] (List.range 18) [] (Fr.refl _ _).drew ?_
     refine rO HY.o ?_
     refine wpO_nil ?_
     go_wp2_with fail
     go_ret
     exact ⟨⟨false, rfl, fun e => by cases e⟩, FDW.o⟩
   have d3 : decide ((40 : Int) < IntKind.i64.wrap ((f.ty.params.length : Nat) + (f.ty.results.length : Nat))) = false := by rw [ew]; simp; omega
   have HS40 : Hid (f.ty.params.length + f.ty.results.length ≤ 40) := by unfold Hid; omega
   clear hs ew
   go_upto_region 11 with fail
   clear y0 y1 y2 y3 y4 y5
   refine rwO (Fr No wr) [] (List.range 18) [] (Fr.refl _ _).drew ?_
   refine rO HY.o ?_
   refine wpO_nil ?_
   go_wp2_with fail
   go_roundw
   case rel => exact ⟨k + 1, HLT.o, by go_num, FD.o, HTK.o HS40.o⟩
   exact meas0 HLT.o
 have hkn : k = x.funcs.length := om
 subst hkn
 rw [List.take_length] at HN
 have HN1 := hid HN.o
 obtain ⟨W2, hY⟩ : ∃ Y, Y = wr := ⟨_, rfl⟩
 subst hY
 have FW2 := hid F.o
 clear F hk hlt HN h40
 go_wp2_with fail
 clear y0 y1 y2 y3 y4 y5
 go_loopw [5] (fun i wr => ∃ k : Nat, k ≤ x.insts.length ∧ i = .int .i64 k ∧ Hid (Fr No W wr) ∧ Hid (∀ i ∈ x.insts.take k, LtB i.m ∧ i.a.funcs.length + i.a.tables.length + i.a.mems.length + i.a.globals.length + i.a.elems.length + i.a.datas.length ≤ 400)) (fun i _ => x.insts.length - (intOf i).toNat)
 case atStart => exact ⟨0, by omega, rfl, FW2.o, fun h hh => by simp at hh⟩
 case round =>
 obtain ⟨k, hk, rfl, F, HN⟩ := hrel
 obtain ⟨y0, y1, y2, y3, y4, y5⟩ := HX.o _ F.o
 have h10 := H5.o
 by_cases hlt : k < x.insts.length
 · have d1 : decide ((k : Int) < (x.insts.length : Nat)) = true := by simp; omega
   have i0 := nki k
   have i1 : (k : Int) < (x.insts.length : Nat) := om
   have HLT : Hid (k + 1 ≤ x.insts.length) := hlt
   have FW := ftr F0 F.o
   have HIW := hid (HW.o.i _ (List.getElem_mem hlt))
   have HTK := hid (kCa (p := fun i : Ri => LtB i.m ∧ i.a.funcs.length + i.a.tables.length + i.a.mems.length + i.a.globals.length + i.a.elems.length + i.a.datas.length ≤ 400) hlt HN.o)
   obtain ⟨b, o, ds, eA, hb, hc, hr⟩ := (els_up E9.o FW.o i2 i2).at_ k hlt
   subst eA
   have hbl : b < wr.heap.size := ltl hb FW.o.size
   generalize x.insts[k] = t at *
   obtain ⟨e1, e2, rfl, hm, ha⟩ := hr
   have hm' : tMd.rd wr (· < w.heap.size) e1 t.m := hm
   have ha' : tAd.rd wr (· < w.heap.size) e2 t.a := ha
   have hl1 : e1.length = 12 := TyOk.len _ _ _ _ hm'
   have hl2 : e2.length = 6 := TyOk.len _ _ _ _ ha'
   have r1 : wr.rangeAt b (o + k * 18) e1 := fun j u hu => by
    have := hc j u (by rw [List.getElem?_append_left (List.getElem?_eq_some_iff.1 hu).1]; exact hu)
    rwa [← Nat.add_assoc] at this
   have r2 : wr.rangeAt b (o + k * 18 + 12) e2 := fun j u hu => by
    exact yy35
   have HM := hid hm'
   have HI1 : Hid ((prog.info? 55).map (·.size) = some e1.length) := by unfold Hid; rw [hl1]; kernel_rfl
   have HI2 : Hid ((prog.info? 100).map (·.size) = some e2.length) := by unfold Hid; rw [hl2]; kernel_rfl
   have HO2 : Hid (e2.all (·.oneCell') = true) := List.all_eq_true.2 ((inferInstance : kAG tAd).one _ _ _ _ ha')
   have HL2 := hid hl2
   have R2 := hid r2
   have R1 : Hid (∀ X, Fr No wr X → X.rangeAt b (o + k * 18) e1) := fun X f j v hv => (f.cell (p := ⟨b, o + k * 18 + j, none⟩) hbl id).trans (r1 j v hv)
   obtain ⟨a0, q0, a1, q1, a2, q2, a3, q3, a4, q4, a5, q5, he2, -⟩ := kBT ha'
   have HZ : Hid (∀ (X : World) (q : Nat), Blk X q 100 e2.toArray → Ce X q 0 (.slice a0 t.a.funcs.length q0) ∧ Ce X q 1 (.slice a1 t.a.tables.length q1) ∧ Ce X q 2 (.slice a2 t.a.mems.length q2) ∧ Ce X q 3 (.slice a3 t.a.globals.length q3) ∧ Ce X q 4 (.slice a4 t.a.elems.length q4) ∧ Ce X q 5 (.slice a5 t.a.datas.length q5)) := by
    intro X q b
    rw [he2] at b
    exact ⟨b.cell 0, b.cell 1, b.cell 2, b.cell 3, b.cell 4, b.cell 5⟩
   have F3 := hid ((Fr.refl No wr).alloc (.cells e2.toArray 100))
   have B3 := hid (Blk.new wr 100 e2.toArray)
   clear r1 r2 hm ha hm' ha' hl1 hl2 hc hb hbl hlt he2
   go_upto_region 16 with fail
   go_upto_region 17 with (first
    | (refine wpList_load_mid (by rfl) 100 _ (by rfl) b (o + k * 18 + 12) (by rfl) _ _ R2.o underlying100 (by rfl) HI2.o ?_)
    | (refine kAm (by rfl) 100 _ _ (by rfl) _ e2 (by rfl) (by rfl) HI2.o (Eq.trans (by rfl) HL2.o.symm) HO2.o ?_)
    | fail)
   simp only [Act.put]
   clear y0 y1 y2 y3 y4 y5
   obtain ⟨y0, y1, y2, y3, y4, y5⟩ := HX.o _ (F.o.trans F3.o i3)
   have HR := hid (R1.o _ F3.o)
   have HM3 := hid (kAO HM.o F3.o (fun k hk => ltl hk FW.o.size) i2)
   have F4 := ftr F F3.o
   have F5 := ftr F0 F4.o
   generalize wr.alloc (.cells e2.toArray 100) = W3 at *
   generalize wr.heap.size = q at *
   have HL7 := hid (kES t.m (ms := e1) W3 ((inferInstance : TyMore tMd).more _ _ _ _ _ HM3.o (fun k hk => ltl hk F5.o.size)) HIW.o.1)
   go_wp2_with (first
    | (refine wpList_load_mid (by rfl) 55 _ (by rfl) b (o + k * 18) (by rfl) _ _ HR.o underlying55 (by rfl) HI1.o ?_)
    | fail)
   refine HL7.o.mono ?_
   rintro e w4 ⟨⟨r, rfl, hr⟩, f4⟩
   have F6 := ftr F4 f4
   have F7 := ftr F0 F6.o
   obtain ⟨z0, z1, z2, z3, z4, z5⟩ := HZ.o _ _ (B3.o.fr f4 id)
   clear f4 y0 y1 y2 y3 y4 y5
   cases r with
   | false =>
    go_wp2_with fail
    go_ret
    exact ⟨⟨false, rfl, fun e => by cases e⟩, F7.o⟩
   | true =>
    have HLT7 := hid (hr rfl)
    obtain ⟨u0, u1, u2, u3, u4, u5⟩ := HIW.o.2
    clear hr
    by_cases hs : 400 < t.a.funcs.length + t.a.tables.length + t.a.mems.length + t.a.globals.length + t.a.elems.length + t.a.datas.length
    · have d4 : decide ((400 : Int) < (t.a.funcs.length : Nat) + (t.a.tables.length : Nat) + (t.a.mems.length : Nat) + (t.a.globals.length : Nat) + (t.a.elems.length : Nat) + (t.a.datas.length : Nat)) = true := by simp; omega
      clear hs
      go_wp2_with fail
      go_ret
      exact ⟨⟨false, rfl, fun e => by cases e⟩, F7.o⟩
    · have d4 : decide ((400 : Int) < (t.a.funcs.length : Nat) + (t.a.tables.length : Nat) + (t.a.mems.length : Nat) + (t.a.globals.length : Nat) + (t.a.elems.length : Nat) + (t.a.datas.length : Nat)) = false := by simp; omega
      have HS4 : Hid (t.a.funcs.length + t.a.tables.length + t.a.mems.length + t.a.globals.length + t.a.elems.length + t.a.datas.length ≤ 400) := by unfold Hid; omega
      clear hs
      go_wp2_with fail
      go_roundw
      case rel => exact ⟨k + 1, HLT.o, by go_num, F6.o, HTK.o ⟨HLT7.o, HS4.o⟩⟩
      exact meas0 HLT.o
 have hkn : k = x.insts.length := om
 subst hkn
 rw [List.take_length] at HN
 go_wp2_with fail
 go_ret
 exact ⟨⟨true, rfl, fun _ => ⟨H0.o, HN0.o, H1.o, HN1.o, H2.o, H3.o, H4.o, H5.o, HN.o⟩⟩, F0.o.trans F.o i3⟩
structure RxK (x : Rx) : Prop where
 v : ∀ h ∈ x.hosts, ∀ a ∈ h.acts, a.vals.length * 16 ≤ 140737488351232
 t : ∀ t ∈ x.tabs, t.l.length ≤ 140737488351232
 m : ∀ m ∈ x.mems, m.b.length ≤ 140737488351232
theorem kIB {m : Md} (u : tMd.lw 140737488351232 m) : LtW m := by
 obtain ⟨u0, u1, u2, -, -, u5, u6, -, -, u9, u10, u11⟩ := u
 exact ⟨fun a ha => ⟨(u0.2.2 a ha).1.1, (u0.2.2 a ha).2.1⟩, fun a ha => ⟨(u1.2.2 a ha).1, (u1.2.2 a ha).2.1⟩, fun a ha => ⟨(u2.2.2 a ha).2.1.1, (u2.2.2 a ha).2.2.1⟩, fun a ha => (u5.2.2 a ha).2.1, fun a ha => (u6.2.2 a ha).1,
  fun a ha => ⟨(u9.2.2 a ha).2.2.1.1, fun l hl => ((u9.2.2 a ha).2.2.2.2.2.2 l hl).1⟩, fun a ha => ⟨(u10.2.2 a ha).2.2.2.1, (u10.2.2 a ha).2.2.1.1⟩, fun a ha => ⟨(u11.2.2 a ha).2.2.1, (u11.2.2 a ha).2.1⟩⟩
theorem kHJ {x : Rx} (u : tRx.lw 140737488351232 x) : LxW x ∧ RxK x := by
 obtain ⟨uh, -, -, uf, ut, um, -, -, -, ui⟩ := u
 exact ⟨⟨fun h hh => ⟨(uh.2.2 h hh).2.2.1.1.1, (uh.2.2 h hh).2.2.1.2.1⟩, fun f hf => ⟨(uf.2.2 f hf).1.1.1, (uf.2.2 f hf).1.2.1⟩, fun i hi => ⟨kIB (ui.2.2 i hi).1, by
     obtain ⟨a0, a1, a2, a3, a4, a5⟩ := (ui.2.2 i hi).2
     exact ⟨a0.1, a1.1, a2.1, a3.1, a4.1, a5.1⟩⟩⟩,
  ⟨fun h hh a ha => ((uh.2.2 h hh).2.2.2.2.2 a ha).2.1.2.1, fun t ht => (ut.2.2 t ht).2.1, fun m hm => (um.2.2 m hm).2.1⟩⟩
theorem LiB.rxB {x : Rx} (h : LiB x) (k : RxK x) : RxB x where
 hl := h.hl
 hb := fun a ha => ⟨by have := (h.hb a ha).2; omega, by have := (h.hb a ha).2; omega, by have := (h.hb a ha).1; omega, k.v a ha⟩
 fl := h.fl
 fb := fun f hf => ⟨by have := h.fb f hf; omega, by have := h.fb f hf; omega⟩
 tl := h.tl
 tb := k.t
 ml := h.ml
 mb := k.m
 gl := h.gl
 il := h.il
 ib := fun i hi => ⟨(h.ib i hi).1.md, by constructor <;> (have := (h.ib i hi).2; omega)⟩
theorem FnNew.els {w : World} {base : Nat} {A1 A2 : OA} {c1 c2 : Nat} {f : Fn} (h : FnNew w base A1 c1 A2 c2 f) : tI.els w (· < w.heap.size) A1 f.params ∧ tI.els w (· < w.heap.size) A2 f.results :=
 ⟨h.p.els' (fun _ h => h.elim) (fun g hg => by obtain ⟨_, _, hb⟩ := h.p.own hg; exact hb.lt), h.r.els' (fun _ h => h.elim) (fun g hg => by obtain ⟨_, _, hb⟩ := h.r.own hg; exact hb.lt)⟩
def FnVar (W : World) (f : Fn) (q : Nat) (A1 : OA) (c1 : Nat) (A2 : OA) (c2 : Nat) (X : World) : Prop :=
 Blk X q 78 #[.slice A1 f.params.length c1, .slice A2 f.results.length c2] ∧ tI.els X (· < X.heap.size) A1 f.params ∧ tI.els X (· < X.heap.size) A2 f.results ∧ Fr No W X
theorem FnVar.fr {W X X' : World} {f : Fn} {q c1 c2 : Nat} {A1 A2 : OA} (h : FnVar W f q A1 c1 A2 c2 X) (g : Fr No X X') : FnVar W f q A1 c1 A2 c2 X' :=
 ⟨h.1.fr g id, (h.2.1.fr g (fun _ hk => ⟨hk, fun x => x⟩)).more (fun _ hk => ltl hk g.size), (h.2.2.1.fr g (fun _ hk => ⟨hk, fun x => x⟩)).more (fun _ hk => ltl hk g.size), h.2.2.2.trans g i3⟩
theorem kJS {W X : World} {base : Nat} {f : Fn} {A1 A2 : OA} {c1 c2 : Nat} (h : FnNew X base A1 c1 A2 c2 f) (g : Fr No W X) : FnVar W f X.heap.size A1 c1 A2 c2 (X.alloc (.cells #[.slice A1 f.params.length c1, .slice A2 f.results.length c2] 78)) := by
 have F := (Fr.refl No X).alloc (.cells #[.slice A1 f.params.length c1, .slice A2 f.results.length c2] 78)
 refine ⟨Blk.new X _ _, ?_, ?_, g.alloc _⟩
 · exact (h.els.1.fr F (fun _ hk => ⟨hk, fun x => x⟩)).more (fun _ hk => ltl hk F.size)
 exact (h.els.2.fr F (fun _ hk => ⟨hk, fun x => x⟩)).more (fun _ hk => ltl hk F.size)
theorem fnVar_set {W X : World} {base q : Nat} {f : Fn} {A1 A2 : OA} {c1 c2 : Nat} (h : FnNew X base A1 c1 A2 c2 f) (hq : Blk X q 78 #[.slice none 0 0, .slice none 0 0]) (g : Fr No W X) (hb : q < base) (hw : W.heap.size ≤ q) : FnVar W f q A1 c1 A2 c2 ((X.setCell ⟨q, 0, none⟩ (.slice A1 f.params.length c1)).setCell ⟨q, 1, none⟩ (.slice A2 f.results.length c2)) := by
 have F := ((Fr.refl (One q) X).setCell ⟨q, 0, none⟩ (.slice A1 f.params.length c1) (fun _ => rfl)).setCell ⟨q, 1, none⟩ (.slice A2 f.results.length c2) (fun _ => rfl)
 refine ⟨?_, ?_, ?_, g.trans F (fun i hi h => by simp only [One] at h; omega)⟩
 · have := (hq.set_ 0 (.slice A1 f.params.length c1)).set_ 1 (.slice A2 f.results.length c2)
   simpa using this
 · exact (h.fr' F (fun k hk h => by simp only [One] at h; omega)).els.1
 exact (h.fr' F (fun k hk h => by simp only [One] at h; omega)).els.2
section
variable {w : World} {R : Nat → Prop} {V : Pl} {x : Rx}
theorem kJI (h : StIn w R V x) (im : Im) (addr : Int) (hn : x.tabs.length ≤ 1000000) (hk1 : (im.kind == 1) = true) :
    Calls prog 33 #[.pointer (some ⟨V.P, 0, none⟩), .agg #[.string im.mod, .string im.name, .int .i64 im.kind, .int .i64 im.func, .int .i64 im.table.elem, .int .i64 im.table.lim.min, .int .i64 im.table.lim.max, .bool im.table.lim.has, .int .i64 im.mem.min, .int .i64 im.mem.max, .bool im.mem.has, .int .i64 im.glob.val, .bool im.glob.mut_], .int .i64 addr] w fun e w' => e = .returned (.int .i64 (kFh x im.table addr)) ∧ Fr No w w' := by
 have F0 := hid ((Fr.refl No w).alloc (.cells #[.string im.mod, .string im.name, .int .i64 im.kind, .int .i64 im.func, .int .i64 im.table.elem, .int .i64 im.table.lim.min, .int .i64 im.table.lim.max, .bool im.table.lim.has, .int .i64 im.mem.min, .int .i64 im.mem.max, .bool im.mem.has, .int .i64 im.glob.val, .bool im.glob.mut_] 43))
 have G0 := hid (Blk.new w 43 #[.string im.mod, .string im.name, .int .i64 im.kind, .int .i64 im.func, .int .i64 im.table.elem, .int .i64 im.table.lim.min, .int .i64 im.table.lim.max, .bool im.table.lim.has, .int .i64 im.mem.min, .int .i64 im.mem.max, .bool im.mem.has, .int .i64 im.glob.val, .bool im.glob.mut_])
 have H0 := hid (h.frNo F0.o)
 have HG := hid (kEL H0.o addr hn)
 clear h
 cases hg : getI V.tp addr with
 | none =>
  have hx : getI x.tabs addr = none := by
   have := kDp H0.o.tl addr
   rw [hg] at this
   simpa using this.symm
  rw [kDo, hg] at HG
  rw [kFh, hx]
  exact yy40
 | some z =>
  obtain ⟨y, hx⟩ : ∃ y, getI x.tabs addr = some y := by
   have := kDp H0.o.tl addr
   rw [hg] at this
   cases hx : getI x.tabs addr with
   | none => rw [hx] at this; simp at this
   | some y => exact ⟨y, rfl⟩
  have hz := kDI hg
  have hy := kDI hx
  have hM := H0.o.tat _ z y hz.2 hy.2
  have HM := hid hM
  rw [kDo, hg] at HG
  rw [kFh, hx]
  simp only
  clear hx hg hz hy hM
  go_enter func33, ntmps33
  go_wp2_with fail
  refine HG.o.mono ?_
  rintro e w1 ⟨rfl, f1⟩
  have F1 := ftr F0 f1
  have G1 := hid (G0.o.fr f1 id)
  have M1 := hid (HM.o.fr f1 id id)
  clear HG f1 F0 G0 HM
  simp only [Option.map, ptrV]
  go_wp2_with fail
  have HX : Hid (∀ X, Fr No w1 X → Ce X w.heap.size 4 (.int .i64 im.table.elem) ∧ Ce X w.heap.size 5 (.int .i64 im.table.lim.min) ∧ Ce X w.heap.size 6 (.int .i64 im.table.lim.max) ∧ Ce X w.heap.size 7 (.bool im.table.lim.has)) := fun X f =>
   ⟨(G1.o.fr f id).cell 4, (G1.o.fr f id).cell 5, (G1.o.fr f id).cell 6, (G1.o.fr f id).cell 7⟩
  have HM := hid (fun (X : World) (f : Fr No w1 X) => M1.o.fr f id id)
  have HF := hid (fun (n : Int) (a b : Lim) (X : World) => kGo n a b X)
  cases he : (y.t.elem == im.table.elem) with
  | false =>
   have HE := hid he
   refine rwO (fun X => Ce X w.heap.size 4 (.int .i64 im.table.elem) ∧ Ce X w.heap.size 5 (.int .i64 im.table.lim.min) ∧ Ce X w.heap.size 6 (.int .i64 im.table.lim.max) ∧ Ce X w.heap.size 7 (.bool im.table.lim.has)) [] [0, 3, 4, 5, 1, 2, 6, 7, 8, 10, 13, 14, 15, 9, 11, 12, 16, 17, 18, 19] [1, 9, 11, 16] (HX.o _ (Fr.refl No _).drew) ?_
   repeat (first | refine oS ?_ | refine oX (fun X h => h) ?_)
   refine wpO_eff rfl rfl fun K hK => sz ?_
   refine (kFs (HM.o _ (Fr.refl No _).drew)).mono ?_
   rintro e w2 ⟨rfl, f2⟩
   have F2 := hid (((Fr.refl No w1).drew).trans f2 i3)
   refine hK _ _ (fun _ => HX.o _ F2.o) ?_
   clear hK K f2
   repeat (first | refine oS ?_ | refine oX (fun X h => h) ?_)
   refine kDC rfl rfl (HX.o _ F2.o) ?_
   simp only [zA, zC, Act.put]
   refine kDC rfl rfl (HX.o _ F2.o) ?_
   simp only [zA, zC, Act.put]
   repeat (first | refine oS ?_ | refine oX (fun X h => h) ?_)
   refine kDC rfl rfl (HX.o _ F2.o) ?_
   simp only [zA, zC, Act.put]
   repeat (first | refine oS ?_ | refine oX (fun X h => h) ?_)
   refine wpO_nil ?_
   have FF := ftr F1 F2.o
   clear HX HM HF F1 F2 G1 M1 he
   go_wp2
   go_ret
   exact ⟨by rw [HE.o]; rfl, FF.o⟩
  | true =>
   have HE := hid he
   refine rwO (fun X => Ce X w.heap.size 4 (.int .i64 im.table.elem) ∧ Ce X w.heap.size 5 (.int .i64 im.table.lim.min) ∧ Ce X w.heap.size 6 (.int .i64 im.table.lim.max) ∧ Ce X w.heap.size 7 (.bool im.table.lim.has)) [] [0, 3, 4, 5, 1, 2, 6, 7, 8, 10, 13, 14, 15, 9, 11, 12, 16, 17, 18, 19] [1, 9, 11, 16] (HX.o _ (Fr.refl No _).drew) ?_
   repeat (first | refine oS ?_ | refine oX (fun X h => h) ?_)
   refine wpO_eff rfl rfl fun K hK => sz ?_
   refine (kFs (HM.o _ (Fr.refl No _).drew)).mono ?_
   rintro e w2 ⟨rfl, f2⟩
   have F2 := hid (((Fr.refl No w1).drew).trans f2 i3)
   refine hK _ _ (fun _ => HX.o _ F2.o) ?_
   clear hK K f2
   repeat (first | refine oS ?_ | refine oX (fun X h => h) ?_)
   refine wpO_eff rfl rfl fun K hK => sz ?_
   refine (kJZ (HM.o _ F2.o)).mono ?_
   rintro e w3 ⟨rfl, rfl⟩
   refine hK _ _ (fun _ => HX.o _ F2.o) ?_
   clear hK K
   refine wpO_eff rfl rfl fun K hK => sz ?_
   refine (kFs (HM.o _ F2.o)).mono ?_
   rintro e w3 ⟨rfl, f3⟩
   have F3 := ftr F2 f3
   refine hK _ _ (fun _ => HX.o _ F3.o) ?_
   clear hK K f3
   repeat (first | refine oS ?_ | refine oX (fun X h => h) ?_)
   refine wpO_eff rfl rfl fun K hK => sz ?_
   refine (HF.o _ y.t.lim im.table.lim _).mono ?_
   rintro e w4 ⟨rfl, f4⟩
   have F4 := ftr F3 f4
   refine hK _ _ (fun _ => HX.o _ F4.o) ?_
   clear hK K f4
   repeat (first | refine oS ?_ | refine oX (fun X h => h) ?_)
   refine wpO_nil ?_
   have FF := ftr F1 F4.o
   clear HX HM HF F1 F2 F3 F4 G1 M1 he
   cases hf : kDX (y.l.length : Int) y.t.lim im.table.lim
   all_goals
    have HFF := hid hf
    clear hf
    go_wp2
    go_ret
    exact ⟨by rw [HE.o, HFF.o]; rfl, FF.o⟩
end
theorem kEe {α : Type} {f : SpV → α → SpV} (h : ∀ x a, (f x a).types = x.types) : ∀ (l : List α) (x : SpV), (l.foldl f x).types = x.types
 | [], _ => rfl
 | a :: l, x => by rw [List.foldl_cons, kEe h l, h]
theorem kFt (m : Md) : (SpV.of m).types = m.types := by
 unfold SpV.of
 rw [kEe (fun x a => by unfold SpV.exp; split <;> rfl)]
 unfold SpV.s7
 rw [kEe (f := SpV.elem) (fun x a => rfl)]
 unfold SpV.s6
 rw [kEe (f := SpV.glob) (fun x a => rfl)]
 show (SpV.s2 m).types = _
 unfold SpV.s2
 rw [kEe (f := SpV.bring) (fun x a => rfl)]
 rfl
def fnS (x : Rx) (t : Int) (m : Md) (addr : Int) : Int := if (atD zFn m.types t).2 = true then (if (atD zFi x.funcs addr).2 = true then (if fnEq (atD zFi x.funcs addr).1.ty (atD zFn m.types t).1 = true then 0 else 26) else 27) else 11
theorem MdIn.fr {w w' : World} {m : Md} {At Ai Af Ata Am Ag Ae Ael : OA} (h : MdIn w m At Ai Af Ata Am Ag Ae Ael) (f : Fr No w w') : MdIn w' m At Ai Af Ata Am Ag Ae Ael :=
 ⟨els_up h.types f i2 (fun k hk => ltl hk f.size), els_up h.imports f i2 (fun k hk => ltl hk f.size), els_up h.funcs f i2 (fun k hk => ltl hk f.size), els_up h.tables f i2 (fun k hk => ltl hk f.size), els_up h.mems f i2 (fun k hk => ltl hk f.size), els_up h.globals f i2 (fun k hk => ltl hk f.size), els_up h.exports f i2 (fun k hk => ltl hk f.size), els_up h.elems f i2 (fun k hk => ltl hk f.size),
  h.lt, h.li, h.lf, h.lta, h.lm, h.lg, h.le, h.lel, h.lit, h.lp, h.lgi, h.lii⟩
structure MdN (m : Md) (nt ni nf nta nm ng ne nel nd : Nat) (bst : Bool) (vst : Int) : Prop where
 t : m.types.length = nt
 i : m.imports.length = ni
 f : m.funcs.length = nf
 ta : m.tables.length = nta
 me : m.mems.length = nm
 g : m.globals.length = ng
 e : m.exports.length = ne
 el : m.elems.length = nel
 d : m.datas.length = nd
 b : m.hasStart = bst
 v : m.start = vst
 ld : m.datas.length ≤ 100
def FuB (x : Rx) : Prop := x.funcs.length ≤ 1000000 ∧ ∀ a ∈ x.funcs, a.ty.params.length * 8 ≤ 140737488351232 ∧ a.ty.results.length * 8 ≤ 140737488351232
section
variable {w : World} {R : Nat → Prop} {V : Pl} {x : Rx}
theorem kIX (h : StIn w R V x) (im : Im) (m : Md) (nt ni nf nta nm ng ne nel nd nc ct ci cf cta cm cg ce cel cd cc : Nat) (At Ai Af Ata Am Ag Ae Ael Ad Ac : OA) (bst : Bool) (vst : Int) (addr : Int) (hi : Hid (MdIn w m At Ai Af Ata Am Ag Ae Ael)) (hN : Hid (MdN m nt ni nf nta nm ng ne nel nd bst vst)) (hf : FuB x) :
    Calls prog 32 #[.pointer (some ⟨V.P, 0, none⟩), .agg #[.string im.mod, .string im.name, .int .i64 im.kind, .int .i64 im.func, .int .i64 im.table.elem, .int .i64 im.table.lim.min, .int .i64 im.table.lim.max, .bool im.table.lim.has, .int .i64 im.mem.min, .int .i64 im.mem.max, .bool im.mem.has, .int .i64 im.glob.val, .bool im.glob.mut_], .agg #[.slice At nt ct, .slice Ai ni ci, .slice Af nf cf, .slice Ata nta cta, .slice Am nm cm, .slice Ag ng cg, .slice Ae ne ce, .bool bst, .int .i64 vst, .slice Ael nel cel, .slice Ad nd cd, .slice Ac nc cc], .int .i64 addr] w fun e w' => e = .returned (.int .i64 (fnS x im.func m addr)) ∧ Fr No w w' := by
 have F0 := hid (((Fr.refl No w).alloc (.cells #[.string im.mod, .string im.name, .int .i64 im.kind, .int .i64 im.func, .int .i64 im.table.elem, .int .i64 im.table.lim.min, .int .i64 im.table.lim.max, .bool im.table.lim.has, .int .i64 im.mem.min, .int .i64 im.mem.max, .bool im.mem.has, .int .i64 im.glob.val, .bool im.glob.mut_] 43)).alloc (.cells #[.slice At nt ct, .slice Ai ni ci, .slice Af nf cf, .slice Ata nta cta, .slice Am nm cm, .slice Ag ng cg, .slice Ae ne ce, .bool bst, .int .i64 vst, .slice Ael nel cel, .slice Ad nd cd, .slice Ac nc cc] 55))
 have G0 := hid ((Blk.new w 43 #[.string im.mod, .string im.name, .int .i64 im.kind, .int .i64 im.func, .int .i64 im.table.elem, .int .i64 im.table.lim.min, .int .i64 im.table.lim.max, .bool im.table.lim.has, .int .i64 im.mem.min, .int .i64 im.mem.max, .bool im.mem.has, .int .i64 im.glob.val, .bool im.glob.mut_]).alloc (.cells #[.slice At nt ct, .slice Ai ni ci, .slice Af nf cf, .slice Ata nta cta, .slice Am nm cm, .slice Ag ng cg, .slice Ae ne ce, .bool bst, .int .i64 vst, .slice Ael nel cel, .slice Ad nd cd, .slice Ac nc cc] 55))
 have G1 := hid (Blk.new1 w (.cells #[.string im.mod, .string im.name, .int .i64 im.kind, .int .i64 im.func, .int .i64 im.table.elem, .int .i64 im.table.lim.min, .int .i64 im.table.lim.max, .bool im.table.lim.has, .int .i64 im.mem.min, .int .i64 im.mem.max, .bool im.mem.has, .int .i64 im.glob.val, .bool im.glob.mut_] 43) 55 #[.slice At nt ct, .slice Ai ni ci, .slice Af nf cf, .slice Ata nta cta, .slice Am nm cm, .slice Ag ng cg, .slice Ae ne ce, .bool bst, .int .i64 vst, .slice Ael nel cel, .slice Ad nd cd, .slice Ac nc cc])
 have HFU := hid (fun (X : World) (f : Fr No w X) => kJB (h.frNo f) addr hf.1 hf.2)
 have HLF : Hid ((atD zFi x.funcs addr).1.ty.params.length ≤ 140737488351232 ∧ (atD zFi x.funcs addr).1.ty.results.length ≤ 140737488351232) := by
  have := kBn (p := fun a : Fi => a.ty.params.length * 8 ≤ 140737488351232 ∧ a.ty.results.length * 8 ≤ 140737488351232) (d := zFi) (i := addr) ⟨by simp [zFi, zFn], by simp [zFi, zFn]⟩ hf.2
  exact ⟨by omega, by omega⟩
 have HLT : Hid ((atD zFn m.types im.func).1.params.length ≤ 140737488351232 ∧ (atD zFn m.types im.func).1.results.length ≤ 140737488351232) := by
  have := kBn (p := fun a : Fn => a.params.length * 8 ≤ 140737488351232 ∧ a.results.length * 8 ≤ 140737488351232) (d := zFn) (i := im.func) ⟨by simp [zFn], by simp [zFn]⟩ hi.o.lp
  exact ⟨by omega, by omega⟩
 have HLP : Hid (∀ f ∈ (SpV.of m).types, f.params.length * 8 ≤ 140737488351232 ∧ f.results.length * 8 ≤ 140737488351232) := by
  rw [kFt]
  exact hi.o.lp
 have HT1 : Hid ((SpV.of m).types.length ≤ 1000000) := by
  rw [kFt]
  exact Nat.le_trans hi.o.lt dc
 have HOFF : Hid (∀ X, Fr No w X → Calls prog 71 #[.agg #[.slice At nt ct, .slice Ai ni ci, .slice Af nf cf, .slice Ata nta cta, .slice Am nm cm, .slice Ag ng cg, .slice Ae ne ce, .bool bst, .int .i64 vst, .slice Ael nel cel, .slice Ad nd cd, .slice Ac nc cc]] X (OfTo m X)) := fun X f => by
  have n := hN.o
  have HOF := kJw X m nt ni nf nta nm ng ne nel nd nc At Ai Af Ata Am Ag Ae Ael Ad Ac ct ci cf cta cm cg ce cel cd cc (hi.o.fr f) n.t n.i n.f n.ta n.me n.g n.e n.el n.d (by rw [← n.t]; exact hi.o.lt) (by rw [← n.i]; exact hi.o.li) (by rw [← n.f]; exact hi.o.lf) (by rw [← n.ta]; exact hi.o.lta) (by rw [← n.me]; exact hi.o.lm) (by rw [← n.g]; exact hi.o.lg) (by rw [← n.e]; exact hi.o.le) (by rw [← n.el]; exact hi.o.lel) (by rw [← n.d]; exact n.ld)
  rw [← n.b, ← n.v]
  exact HOF
 obtain ⟨rx, hrx⟩ : ∃ r, r = fnS x im.func m addr := ⟨_, rfl⟩
 rw [← hrx]
 have HRX := hid hrx
 have HTY : Hid (∀ (base : Nat) (X : World) (p gx gs bi bd : Nat) (ST : Nat → Prop) (nI nD : Nat) (v0 v1 v2 v3 v4 v5 : Value), SpP base X p gx gs bi bd ST nI nD v0 v1 v2 v3 v4 v5 (SpV.of m) → Calls prog 72 #[.pointer (some ⟨p, 0, none⟩), .int .i64 im.func] X (TyTo (atD zFn m.types im.func).1 (atD zFn m.types im.func).2 X)) := by
  intro base X p gx gs bi bd ST nI nD v0 v1 v2 v3 v4 v5 hP
  have h := kJR base X p gx gs bi bd ST nI nD v0 v1 v2 v3 v4 v5 (SpV.of m) im.func HT1.o HLP.o hP
  rw [kFt] at h
  exact h
 clear h hi hN hf hrx HLP HT1
 unfold fnS at HRX
 generalize (atD zFn m.types im.func).1 = f at *
 generalize (atD zFn m.types im.func).2 = ok1 at *
 generalize (atD zFi x.funcs addr).1 = g at *
 generalize (atD zFi x.funcs addr).2 = ok2 at *
 go_enter func32, ntmps32
 go_upto_region 1 with fail
 have HX : Hid (∀ X, Fr No ((w.alloc (.cells #[.string im.mod, .string im.name, .int .i64 im.kind, .int .i64 im.func, .int .i64 im.table.elem, .int .i64 im.table.lim.min, .int .i64 im.table.lim.max, .bool im.table.lim.has, .int .i64 im.mem.min, .int .i64 im.mem.max, .bool im.mem.has, .int .i64 im.glob.val, .bool im.glob.mut_] 43)).alloc (.cells #[.slice At nt ct, .slice Ai ni ci, .slice Af nf cf, .slice Ata nta cta, .slice Am nm cm, .slice Ag ng cg, .slice Ae ne ce, .bool bst, .int .i64 vst, .slice Ael nel cel, .slice Ad nd cd, .slice Ac nc cc] 55)) X → Ce X (w.heap.size + 1) 0 (.slice At nt ct) ∧ Ce X (w.heap.size + 1) 1 (.slice Ai ni ci) ∧ Ce X (w.heap.size + 1) 2 (.slice Af nf cf) ∧ Ce X (w.heap.size + 1) 3 (.slice Ata nta cta) ∧ Ce X (w.heap.size + 1) 4 (.slice Am nm cm) ∧ Ce X (w.heap.size + 1) 5 (.slice Ag ng cg) ∧ Ce X (w.heap.size + 1) 6 (.slice Ae ne ce) ∧ Ce X (w.heap.size + 1) 7 (.bool bst) ∧ Ce X (w.heap.size + 1) 8 (.int .i64 vst) ∧ Ce X (w.heap.size + 1) 9 (.slice Ael nel cel) ∧ Ce X (w.heap.size + 1) 10 (.slice Ad nd cd) ∧ Ce X (w.heap.size + 1) 11 (.slice Ac nc cc) ∧ Ce X w.heap.size 3 (.int .i64 im.func)) := fun X f => by
  have h := G1.o.fr f id
  have h' := G0.o.fr f id
  exact ⟨h.cell 0, h.cell 1, h.cell 2, h.cell 3, h.cell 4, h.cell 5, h.cell 6, h.cell 7, h.cell 8, h.cell 9, h.cell 10, h.cell 11, h'.cell 3⟩
 clear G0 G1
 generalize (w.alloc (.cells #[.string im.mod, .string im.name, .int .i64 im.kind, .int .i64 im.func, .int .i64 im.table.elem, .int .i64 im.table.lim.min, .int .i64 im.table.lim.max, .bool im.table.lim.has, .int .i64 im.mem.min, .int .i64 im.mem.max, .bool im.mem.has, .int .i64 im.glob.val, .bool im.glob.mut_] 43)).alloc (.cells #[.slice At nt ct, .slice Ai ni ci, .slice Af nf cf, .slice Ata nta cta, .slice Am nm cm, .slice Ag ng cg, .slice Ae ne ce, .bool bst, .int .i64 vst, .slice Ael nel cel, .slice Ad nd cd, .slice Ac nc cc] 55) = W at *
 go_cut [9, 10] (fun p9 b10 wx => ∃ (q : Nat) (A1 : OA) (c1 : Nat) (A2 : OA) (c2 : Nat), p9 = .pointer (some ⟨q, 0, none⟩) ∧ b10 = .bool ok1 ∧ FnVar W f q A1 c1 A2 c2 wx)
 case first =>
  refine kFj (Fr No W) (.rd 0 (.rd 2 (.rd 3 (.alt 1 (.alt 4 (.rd 5 (.rd 6 (.rd 7 (.eff 8 (.eff 9 (.rd 10 .nil)))))) 8 (.eff 4 (.rd 5 (.rd 6 (.rd 7 (.eff 9 (.rd 10 .nil))))))) 8 (.eff 1 (.eff 4 (.rd 5 (.rd 6 (.rd 7 (.eff 9 (.rd 10 .nil))))))))))) kr kr kr rfl ((Fr.refl _ _).drew) ?_
  refine rT HX.o ?_
  refine kJG ?_ ?_
  · refine wpT_eff rfl rfl fun K hK => sz ?_
    refine (HOFF.o _ (F0.o.trans (Fr.refl No W).drew i3)).mono ?_
    rintro e w2 ⟨p, gx, gs, bi, bd, nI, nD, ST, v0, v1, v2, v3, v4, v5, rfl, hb, hs, f2⟩
    have F2 := hid (((Fr.refl No W).drew).trans f2 i3)
    have HP := hid (SpP.mk hb hs)
    clear hb hs f2
    refine hK _ _ (F2.o) ?_
    clear hK K
    refine kJG ?_ ?_
    · refine wpT_eff rfl rfl fun K hK => sz ?_
      refine (HTY.o _ w2 p gx gs bi bd ST nI nD v0 v1 v2 v3 v4 v5 HP.o).mono ?_
      rintro e w3 ⟨A1, c1, A2, c2, rfl, hn, f3⟩
      have HN := hid hn
      have F3 := ftr F2 f3
      clear hn f3
      refine hK _ _ (F3.o) ?_
      clear hK K
      refine rT HX.o ?_
      refine wpT_eff rfl rfl fun K hK => sz ?_
      refine hK _ _ (F3.o.alloc _) ?_
      clear hK K
      refine wpT_eff rfl rfl fun K hK => sz ?_
      refine hK _ _ (F3.o.alloc _) ?_
      clear hK K
      refine rT HX.o ?_
      refine wpT_nil ?_
      go_wp2_with fail
      go_meet
      exact ⟨_, A1, c1, A2, c2, rfl, rfl, kJS HN.o F3.o⟩
    refine wpT_eff rfl rfl fun K hK => sz ?_
    refine hK _ _ ((F2.o.alloc _)) ?_
    clear hK K
    have HPz := hid (HP.o.frNo ((Fr.refl No w2).alloc (.cells #[.slice none 0 0, .slice none 0 0] 78)))
    have Fz := hid (F2.o.alloc (.cells #[.slice none 0 0, .slice none 0 0] 78))
    have Gz := hid (Blk.new w2 78 #[.slice none 0 0, .slice none 0 0])
    have hge := F2.o.size
    have hsl : w2.heap.size < (w2.alloc (.cells #[.slice none 0 0, .slice none 0 0] 78)).heap.size := Gz.o.lt
    generalize hWz : w2.alloc (.cells #[.slice none 0 0, .slice none 0 0] 78) = Wz at *
    clear hWz
    clear F2 HP
    have F2 := Fz
    have HP := HPz
    refine wpT_eff rfl rfl fun K hK => sz ?_
    refine (HTY.o _ Wz p gx gs bi bd ST nI nD v0 v1 v2 v3 v4 v5 HP.o).mono ?_
    exact yy12
  · refine wpT_eff rfl rfl fun K hK => sz ?_
    refine hK _ _ (((Fr.refl No W).alloc _).drew) ?_
    clear hK K
    have Fz := hid ((Fr.refl No W).alloc (.cells #[.slice none 0 0, .slice none 0 0] 78)).drew
    have Gz := hid (Blk.new W 78 #[.slice none 0 0, .slice none 0 0]).drew
    have hge : W.heap.size ≤ W.heap.size := nr
    have hsl : W.heap.size < (W.alloc (.cells #[.slice none 0 0, .slice none 0 0] 78)).drew.heap.size := Gz.o.lt
    generalize hWz : (W.alloc (.cells #[.slice none 0 0, .slice none 0 0] 78)).drew = Wz at *
    clear hWz
    refine wpT_eff rfl rfl fun K hK => sz ?_
    refine (HOFF.o _ (F0.o.trans Fz.o i3)).mono ?_
    rintro e w2 ⟨p, gx, gs, bi, bd, nI, nD, ST, v0, v1, v2, v3, v4, v5, rfl, hb, hs, f2⟩
    have F2 := hid ((Fz.o).trans f2 i3)
    have HP := hid (SpP.mk hb hs)
    have FO := hid f2
    clear hb hs f2
    have Gz := hid (Gz.o.fr FO.o id)
    have hsl := ltl hsl FO.o.size
    refine hK _ _ (F2.o) ?_
    clear hK K
    refine wpT_eff rfl rfl fun K hK => sz ?_
    refine (HTY.o _ w2 p gx gs bi bd ST nI nD v0 v1 v2 v3 v4 v5 HP.o).mono ?_
    exact yy12
 obtain ⟨q, A1, c1, A2, c2, rfl, rfl, hvar⟩ := hcut
 have HV := hid hvar
 have FV := hid (F0.o.trans hvar.2.2.2 i3)
 clear hvar HOFF HTY HX
 cases ok1 with
 | false =>
  have hr := HRX.o
  rw [if_neg dc] at hr
  subst hr
  clear HRX
  go_wp2_with fail
  go_ret
  exact ⟨rfl, FV.o⟩
 | true =>
  have hr := HRX.o
  rw [if_pos rfl] at hr
  replace HRX := hid hr
  clear hr
  go_wp2_with fail
  refine (HFU.o _ FV.o).mono ?_
  rintro e w2 ⟨cs, rfl, hrd, f2⟩
  obtain ⟨B1, d1, B2, d2, rfl, -, -, k1, -, -, k2, -⟩ := kCe hrd
  have HV2 := hid (HV.o.fr f2)
  have FV2 := ftr FV f2
  have K1 := hid k1
  have K2 := hid k2
  clear hrd f2 k1 k2 HV FV
  cases ok2 with
  | false =>
   have hr := HRX.o
   rw [if_neg dc] at hr
   subst hr
   clear HRX
   go_wp2_with fail
   go_ret
   exact ⟨rfl, FV2.o.alloc _⟩
  | true =>
   have hr := HRX.o
   rw [if_pos rfl] at hr
   replace HRX := hid hr
   clear hr
   have F3 := hid ((Fr.refl No w2).alloc (.cells #[.slice B1 g.ty.params.length d1, .slice B2 g.ty.results.length d2, .int .i64 g.inst, .int .i64 g.index] 80))
   have HV3 := hid (HV2.o.fr F3.o)
   have FV3 := ftr FV2 F3.o
   have y0 := HV3.o.1.cell 0
   have y1 := HV3.o.1.cell 1
   have HSM := hid (kFb g.ty f B1 B2 A1 A2 d1 d2 c1 c2 (fun k => k < w2.heap.size) (fun k => k < (w2.alloc (.cells #[.slice B1 g.ty.params.length d1, .slice B2 g.ty.results.length d2, .int .i64 g.inst, .int .i64 g.index] 80)).heap.size) (w2.alloc (.cells #[.slice B1 g.ty.params.length d1, .slice B2 g.ty.results.length d2, .int .i64 g.inst, .int .i64 g.index] 80)) (fun k hk => ltl hk F3.o.size) (fun k hk => hk) (els_up K1.o F3.o (fun k hk => hk.2) (fun k hk => hk.2)) (els_up K2.o F3.o (fun k hk => hk.2) (fun k hk => hk.2)) HV3.o.2.1 HV3.o.2.2.1 HLF.o.1 HLF.o.2 HLT.o.1 HLT.o.2)
   go_wp2_with fail
   refine HSM.o.mono ?_
   rintro e w4 ⟨rfl, f4⟩
   have F4 := ftr FV3 f4
   clear f4 y0 y1 HSM
   have hr := HRX.o
   cases hfe : fnEq g.ty f
   all_goals
    rw [hfe] at hr
    first | (rw [if_neg dc] at hr) | (rw [if_pos rfl] at hr)
    subst hr
    clear hfe HRX
    go_wp2_with fail
    go_ret
    exact ⟨rfl, F4.o⟩
end
def chkS (x : Rx) (im : Im) (m : Md) (what : Et) : Int :=
 if im.kind ≠ what.kind ∨ im.kind < 0 ∨ 3 < im.kind then 26 else if im.kind = 0 then fnS x im.func m what.addr else if im.kind = 1 then kFh x im.table what.addr else if im.kind = 2 then kCj x im.mem what.addr else kCk x im.glob what.addr
structure ChB (x : Rx) : Prop where
 f : FuB x
 t : x.tabs.length ≤ 1000000
 m : x.mems.length ≤ 1000000
 g : x.globs.length ≤ 1000000
 b : ∀ m ∈ x.mems, m.b.length ≤ 1000000
section
variable {w : World} {R : Nat → Prop} {V : Pl} {x : Rx}
theorem kHZ (h : StIn w R V x) (im : Im) (m : Md) (what : Et) (nt ni nf nta nm ng ne nel nd nc ct ci cf cta cm cg ce cel cd cc : Nat) (At Ai Af Ata Am Ag Ae Ael Ad Ac : OA) (bst : Bool) (vst : Int) (hi : Hid (MdIn w m At Ai Af Ata Am Ag Ae Ael)) (hN : Hid (MdN m nt ni nf nta nm ng ne nel nd bst vst)) (hb : ChB x) :
    Calls prog 12 #[.pointer (some ⟨V.P, 0, none⟩), .agg #[.string im.mod, .string im.name, .int .i64 im.kind, .int .i64 im.func, .int .i64 im.table.elem, .int .i64 im.table.lim.min, .int .i64 im.table.lim.max, .bool im.table.lim.has, .int .i64 im.mem.min, .int .i64 im.mem.max, .bool im.mem.has, .int .i64 im.glob.val, .bool im.glob.mut_], .agg #[.slice At nt ct, .slice Ai ni ci, .slice Af nf cf, .slice Ata nta cta, .slice Am nm cm, .slice Ag ng cg, .slice Ae ne ce, .bool bst, .int .i64 vst, .slice Ael nel cel, .slice Ad nd cd, .slice Ac nc cc], .agg #[.int .i64 what.kind, .int .i64 what.addr]] w fun e w' => e = .returned (.int .i64 (chkS x im m what)) ∧ Fr No w w' := by
 have F0 := hid ((((Fr.refl No w).alloc (.cells #[.string im.mod, .string im.name, .int .i64 im.kind, .int .i64 im.func, .int .i64 im.table.elem, .int .i64 im.table.lim.min, .int .i64 im.table.lim.max, .bool im.table.lim.has, .int .i64 im.mem.min, .int .i64 im.mem.max, .bool im.mem.has, .int .i64 im.glob.val, .bool im.glob.mut_] 43)).alloc (.cells #[.slice At nt ct, .slice Ai ni ci, .slice Af nf cf, .slice Ata nta cta, .slice Am nm cm, .slice Ag ng cg, .slice Ae ne ce, .bool bst, .int .i64 vst, .slice Ael nel cel, .slice Ad nd cd, .slice Ac nc cc] 55)).alloc (.cells #[.int .i64 what.kind, .int .i64 what.addr] 57))
 by_cases hk : im.kind ≠ what.kind ∨ im.kind < 0 ∨ 3 < im.kind
 · have hr : chkS x im m what = 26 := by unfold chkS; rw [if_pos hk]
   rw [hr]
   clear h hi hN hb hr
   by_cases h1 : im.kind = what.kind
   · rw [← h1]
     rw [← h1] at F0
     by_cases h2 : im.kind < 0
     · have d1 : decide (im.kind < 0) = true := by simpa using h2
       clear hk h1 h2
       exact yy53
     have h3 : 3 < im.kind := om
     have d1 : decide (im.kind < 0) = false := by simpa using h2
     have d2 : decide (3 < im.kind) = true := by simpa using h3
     clear hk h1 h2 h3
     exact yy53
   have d1 : (im.kind == what.kind) = false := by simpa using h1
   have d2 : (im.kind != what.kind) = true := by simpa using h1
   clear hk h1
   exact yy53
 have hkw : im.kind = what.kind := om
 have hr : chkS x im m what = if im.kind = 0 then fnS x im.func m what.addr else if im.kind = 1 then kFh x im.table what.addr else if im.kind = 2 then kCj x im.mem what.addr else kCk x im.glob what.addr := by unfold chkS; rw [if_neg hk]
 rw [hr, ← hkw]
 rw [← hkw] at F0
 have d1 : decide (im.kind < 0) = false := by simp; omega
 have d2 : decide (3 < im.kind) = false := by simp; omega
 have hk2 : 0 ≤ im.kind ∧ im.kind ≤ 3 := om
 clear hr hkw hk
 by_cases h0 : im.kind = 0
 · rw [if_pos h0]
   have d3 : (im.kind == 0) = true := by simpa using h0
   have HF := hid (kIX (h.frNo F0.o) im m nt ni nf nta nm ng ne nel nd nc ct ci cf cta cm cg ce cel cd cc At Ai Af Ata Am Ag Ae Ael Ad Ac bst vst what.addr (hid (hi.o.fr F0.o)) hN hb.f)
   clear h hi hN hb h0 hk2
   go_enter func12, ntmps12
   go_wp2_with fail
   refine HF.o.mono ?_
   rintro e w1 ⟨rfl, f1⟩
   have F1 := ftr F0 f1
   clear f1 HF
   go_wp2_with fail
   go_ret
   exact ⟨rfl, F1.o⟩
 rw [if_neg h0]
 have d3 : (im.kind == 0) = false := by simpa using h0
 have HT : Hid (Calls prog 33 #[.pointer (some ⟨V.P, 0, none⟩), .agg #[.string im.mod, .string im.name, .int .i64 im.kind, .int .i64 im.func, .int .i64 im.table.elem, .int .i64 im.table.lim.min, .int .i64 im.table.lim.max, .bool im.table.lim.has, .int .i64 im.mem.min, .int .i64 im.mem.max, .bool im.mem.has, .int .i64 im.glob.val, .bool im.glob.mut_], .int .i64 what.addr] (((w.alloc (.cells #[.string im.mod, .string im.name, .int .i64 im.kind, .int .i64 im.func, .int .i64 im.table.elem, .int .i64 im.table.lim.min, .int .i64 im.table.lim.max, .bool im.table.lim.has, .int .i64 im.mem.min, .int .i64 im.mem.max, .bool im.mem.has, .int .i64 im.glob.val, .bool im.glob.mut_] 43)).alloc (.cells #[.slice At nt ct, .slice Ai ni ci, .slice Af nf cf, .slice Ata nta cta, .slice Am nm cm, .slice Ag ng cg, .slice Ae ne ce, .bool bst, .int .i64 vst, .slice Ael nel cel, .slice Ad nd cd, .slice Ac nc cc] 55)).alloc (.cells #[.int .i64 im.kind, .int .i64 what.addr] 57)) fun e w' => e = .returned (.int .i64 (if im.kind = 1 then kFh x im.table what.addr else if im.kind = 2 then kCj x im.mem what.addr else kCk x im.glob what.addr)) ∧ Fr No (((w.alloc (.cells #[.string im.mod, .string im.name, .int .i64 im.kind, .int .i64 im.func, .int .i64 im.table.elem, .int .i64 im.table.lim.min, .int .i64 im.table.lim.max, .bool im.table.lim.has, .int .i64 im.mem.min, .int .i64 im.mem.max, .bool im.mem.has, .int .i64 im.glob.val, .bool im.glob.mut_] 43)).alloc (.cells #[.slice At nt ct, .slice Ai ni ci, .slice Af nf cf, .slice Ata nta cta, .slice Am nm cm, .slice Ag ng cg, .slice Ae ne ce, .bool bst, .int .i64 vst, .slice Ael nel cel, .slice Ad nd cd, .slice Ac nc cc] 55)).alloc (.cells #[.int .i64 im.kind, .int .i64 what.addr] 57)) w') := by
  have H0 := h.frNo F0.o
  by_cases h1 : im.kind = 1
  · rw [if_pos h1]; exact kJI H0 im what.addr hb.t (by simpa using h1)
  rw [if_neg h1]
  by_cases h2 : im.kind = 2
  · rw [if_pos h2]; exact kCi H0 im what.addr hb.m hb.b (by simpa using h1) (by simpa using h2)
  rw [if_neg h2]
  exact kEr H0 im what.addr hb.g (by simpa using h1) (by simpa using h2)
 generalize (if im.kind = 1 then kFh x im.table what.addr else if im.kind = 2 then kCj x im.mem what.addr else kCk x im.glob what.addr) = r at *
 clear h hi hN hb h0 hk2
 go_enter func12, ntmps12
 go_wp2_with fail
 refine HT.o.mono ?_
 rintro e w1 ⟨rfl, f1⟩
 have F1 := ftr F0 f1
 clear f1 HT
 go_wp2_with fail
 go_ret
 exact ⟨rfl, F1.o⟩
end
theorem elEt : ElemOk prog 69 57 2 16 (.agg #[.int .i64 0, .int .i64 0]) := ElemOk.mk' underlying69 kr rfl dc
def kCL (l : List Gv) (g : Im → Et → Int) (im : Im) : Et × Int := if (lastF im.mod im.name l).2 = true then ((lastF im.mod im.name l).1, g im (lastF im.mod im.name l).1) else (⟨0, 0⟩, 25)
def kKA (g : Im → Et × Int) (ims : List Im) (w : World) (e : Ending) (w' : World) : Prop :=
 Fr No w w' ∧ ((∃ (k : Nat) (hk : k < ims.length), (∀ j (h : j < ims.length), j < k → (g ims[j]).2 = 0) ∧ (g ims[k]).2 ≠ 0 ∧ e = .returned (.tuple #[.slice none 0 0, .int .i64 (k : Int), .int .i64 (g ims[k]).2])) ∨
  ((∀ im ∈ ims, (g im).2 = 0) ∧ ∃ A c, ims.length ≤ c ∧ e = .returned (.tuple #[.slice A ims.length c, .int .i64 0, .int .i64 0]) ∧ tEt.els w' (· < w'.heap.size) A (ims.map fun im => (g im).1)))
theorem kJe {w : World} {S : Nat → Prop} {A : OA} {l : List Gv} (h : tGv.els w S A l) (md nm : ByteArray) : (Lit.int .i64 (lastF md nm l).1.kind).wf = true ∧ (Lit.int .i64 (lastF md nm l).1.addr).wf = true := by
 unfold lastF
 split
 · next g hg =>
   have hm : g ∈ l := by
    have := List.mem_of_find?_eq_some hg
    simpa using this
   obtain ⟨k, hk, rfl⟩ := List.getElem_of_mem hm
   obtain ⟨_, _, _, _, _, _, _, _, _, _, f2, f3⟩ := kFV h k hk
   exact ⟨f2, f3⟩
 exact ⟨rfl, rfl⟩
section
variable {w : World} {R : Nat → Prop} {V : Pl} {x : Rx}
theorem kIk (h : StIn w R V x) (m : Md) (nt ni nf nta nm ng ne nel nd nc ct ci cf cta cm cg ce cel cd cc : Nat) (At Ai Af Ata Am Ag Ae Ael Ad Ac : OA) (bst : Bool) (vst : Int) (l : List Gv) (B : OA) (cb : Nat) (hi : Hid (MdIn w m At Ai Af Ata Am Ag Ae Ael)) (hN : Hid (MdN m nt ni nf nta nm ng ne nel nd bst vst)) (hb : ChB x) (hl : l.length ≤ 1000000) (hE : tGv.els w (· < w.heap.size) B l) :
    Calls prog 14 #[.pointer (some ⟨V.P, 0, none⟩), .agg #[.slice At nt ct, .slice Ai ni ci, .slice Af nf cf, .slice Ata nta cta, .slice Am nm cm, .slice Ag ng cg, .slice Ae ne ce, .bool bst, .int .i64 vst, .slice Ael nel cel, .slice Ad nd cd, .slice Ac nc cc], .slice B l.length cb] w (kKA (kCL l fun im what => chkS x im m what) m.imports w) := by
 have F0 := hid ((Fr.refl No w).alloc (.cells #[.slice At nt ct, .slice Ai ni ci, .slice Af nf cf, .slice Ata nta cta, .slice Am nm cm, .slice Ag ng cg, .slice Ae ne ce, .bool bst, .int .i64 vst, .slice Ael nel cel, .slice Ad nd cd, .slice Ac nc cc] 55))
 have G0 := hid (Blk.new w 55 #[.slice At nt ct, .slice Ai ni ci, .slice Af nf cf, .slice Ata nta cta, .slice Am nm cm, .slice Ag ng cg, .slice Ae ne ce, .bool bst, .int .i64 vst, .slice Ael nel cel, .slice Ad nd cd, .slice Ac nc cc])
 have H := hid h
 have HE := hid hE
 have HLL := hid hl
 have HIL : Hid (m.imports.length ≤ 101) := hi.o.li
 have HIM := hid hi.o.imports
 have HCH := hid (fun (X : World) (f : Fr No w X) (im : Im) (what : Et) => kHZ (h.frNo f) im m what nt ni nf nta nm ng ne nel nd nc ct ci cf cta cm cg ce cel cd cc At Ai Af Ata Am Ag Ae Ael Ad Ac bst vst (hid (hi.o.fr f)) hN hb)
 have HNI := hid hN.o.i
 clear h hE hl hi hN hb
 generalize hg : (fun (im : Im) (what : Et) => chkS x im m what) = g at *
 have HG := hid (fun im what => congrFun (congrFun hg im) what)
 clear hg
 generalize m.imports = ims at *
 have hni := HNI.o
 subst hni
 go_enter func14, ntmps14
 go_upto_region 1 with fail
 have HX : Hid (∀ X, Fr No (w.alloc (.cells #[.slice At nt ct, .slice Ai ims.length ci, .slice Af nf cf, .slice Ata nta cta, .slice Am nm cm, .slice Ag ng cg, .slice Ae ne ce, .bool bst, .int .i64 vst, .slice Ael nel cel, .slice Ad nd cd, .slice Ac nc cc] 55)) X → Ce X w.heap.size 0 (.slice At nt ct) ∧ Ce X w.heap.size 1 (.slice Ai ims.length ci) ∧ Ce X w.heap.size 2 (.slice Af nf cf) ∧ Ce X w.heap.size 3 (.slice Ata nta cta) ∧ Ce X w.heap.size 4 (.slice Am nm cm) ∧ Ce X w.heap.size 5 (.slice Ag ng cg) ∧ Ce X w.heap.size 6 (.slice Ae ne ce) ∧ Ce X w.heap.size 7 (.bool bst) ∧ Ce X w.heap.size 8 (.int .i64 vst) ∧ Ce X w.heap.size 9 (.slice Ael nel cel) ∧ Ce X w.heap.size 10 (.slice Ad nd cd) ∧ Ce X w.heap.size 11 (.slice Ac nc cc)) := fun X f => by
  have h := G0.o.fr f id
  exact yy30
 clear G0
 have hil := HIL.o
 obtain ⟨y0, y1, y2, y3, y4, y5, y6, y7, y8, y9, y10, y11⟩ := HX.o _ (Fr.refl No _)
 generalize w.alloc (.cells #[.slice At nt ct, .slice Ai ims.length ci, .slice Af nf cf, .slice Ata nta cta, .slice Am nm cm, .slice Ag ng cg, .slice Ae ne ce, .bool bst, .int .i64 vst, .slice Ael nel cel, .slice Ad nd cd, .slice Ac nc cc] 55) = W at *
 go_wp2_with fail
 clear y0 y1 y2 y3 y4 y5 y6 y7 y8 y9 y10 y11
 have ROW0 : Hid (tEt.row W W.heap.size Emp 57 (.slice none 0 0) []) := Ty.row.nil _ _ _ _
 go_loopw [9, 18] (fun al i wr => ∃ k : Nat, k ≤ ims.length ∧ i = .int .i64 k ∧ Hid (tEt.row wr W.heap.size Emp 57 al ((ims.take k).map fun im => (kCL l g im).1)) ∧ Hid (∀ j (h : j < ims.length), j < k → (kCL l g ims[j]).2 = 0) ∧ Hid (Fr No W wr)) (fun _ i _ => ims.length - (intOf i).toNat)
 case atStart => exact ⟨0, by omega, rfl, ROW0.o, fun j h h' => by omega, Fr.refl _ _⟩
 case round =>
 clear ROW0
 obtain ⟨k, hk, rfl, ROW, HZ, F⟩ := hrel
 have hil := HIL.o
 by_cases hlt : k < ims.length
 · have d1 : decide ((k : Int) < (ims.length : Nat)) = true := by simp; omega
   have i0 := nki k
   have i1 : (k : Int) < (ims.length : Nat) := om
   have HLT := hid hlt
   have FW := ftr F0 F.o
   obtain ⟨b, o, eA, hbS, y0, y1, y2, y3, y4, y5, y6, y7, y8, y9, y10, y11, y12, -⟩ := kHM (els_up HIM.o FW.o i2 i2) k hlt
   subst eA
   obtain ⟨ri, hri⟩ : ∃ r, r = kCL l g ims[k] := ⟨_, rfl⟩
   have HRK : Hid (ri = kCL l g (ims[k]'HLT.o)) := hri
   have HTK : Hid ((ims.take (k + 1)).map (fun im => (kCL l g im).1) = (ims.take k).map (fun im => (kCL l g im).1) ++ [ri.1]) := by unfold Hid; rw [List.take_succ_eq_append_getElem hlt, List.map_append, hri]; rfl
   generalize ims[k] = im at y0 y1 y2 y3 y4 y5 y6 y7 y8 y9 y10 y11 y12 hri
   have HXL : Hid (((ims.take k).map (fun im => (kCL l g im).1)).length ≤ 101) := hid (by rw [List.length_map, List.length_take]; omega)
   generalize (ims.take k).map (fun im => (kCL l g im).1) = xs at *
   have F3 := hid ((Fr.refl No wr).alloc (.cells #[.string im.mod, .string im.name, .int .i64 im.kind, .int .i64 im.func, .int .i64 im.table.elem, .int .i64 im.table.lim.min, .int .i64 im.table.lim.max, .bool im.table.lim.has, .int .i64 im.mem.min, .int .i64 im.mem.max, .bool im.mem.has, .int .i64 im.glob.val, .bool im.glob.mut_] 43))
   have B3 := hid (Blk.new wr 43 #[.string im.mod, .string im.name, .int .i64 im.kind, .int .i64 im.func, .int .i64 im.table.elem, .int .i64 im.table.lim.min, .int .i64 im.table.lim.max, .bool im.table.lim.has, .int .i64 im.mem.min, .int .i64 im.mem.max, .bool im.mem.has, .int .i64 im.glob.val, .bool im.glob.mut_])
   clear hbS hlt
   go_upto_region 5 with fail
   have FX3 := ftr F F3.o
   have FX3w := ftr F0 FX3.o
   have ROW3 : Hid (tEt.row (wr.alloc (.cells #[.string im.mod, .string im.name, .int .i64 im.kind, .int .i64 im.func, .int .i64 im.table.elem, .int .i64 im.table.lim.min, .int .i64 im.table.lim.max, .bool im.table.lim.has, .int .i64 im.mem.min, .int .i64 im.mem.max, .bool im.mem.has, .int .i64 im.glob.val, .bool im.glob.mut_] 43)) W.heap.size Emp 57 u9 xs) := ROW.o.fr F3.o (fun _ h => h.elim) (fun _ _ x => x)
   clear y0 y1 y2 y3 y4 y5 y6 y7 y8 y9 y10 y11 y12 ROW
   generalize wr.alloc (.cells #[.string im.mod, .string im.name, .int .i64 im.kind, .int .i64 im.func, .int .i64 im.table.elem, .int .i64 im.table.lim.min, .int .i64 im.table.lim.max, .bool im.table.lim.has, .int .i64 im.mem.min, .int .i64 im.mem.max, .bool im.mem.has, .int .i64 im.glob.val, .bool im.glob.mut_] 43) = W3 at *
   obtain ⟨q, hq⟩ : ∃ q, q = wr.heap.size := ⟨_, rfl⟩
   rw [← hq] at B3 ⊢
   clear hq
   have z0 := B3.o.cell 0
   have z1 := B3.o.cell 1
   have HFI := hid (kDq l B cb im.mod im.name W3 HLL.o (els_up HE.o FX3w.o i2 (fun k hk => ltl hk FX3w.o.size)))
   have HWF := hid (kJe HE.o im.mod im.name)
   have HRI : Hid (ri = if (lastF im.mod im.name l).2 = true then ((lastF im.mod im.name l).1, g im (lastF im.mod im.name l).1) else (⟨0, 0⟩, 25)) := by rw [hri]; rfl
   clear hri
   generalize (lastF im.mod im.name l).1 = et at *
   generalize (lastF im.mod im.name l).2 = ok at *
   go_wp2_with fail
   refine HFI.o.mono ?_
   rintro e w4 ⟨rfl, f4⟩
   have FX4 := ftr FX3 f4
   have FX4w := ftr F0 FX4.o
   have ROW4 : Hid (tEt.row w4 W.heap.size Emp 57 u9 xs) := ROW3.o.fr f4 (fun _ h => h.elim) (fun _ _ x => x)
   have B4 := hid (B3.o.fr f4 id)
   have F5 := hid ((Fr.refl No w4).alloc (.cells #[.int .i64 et.kind, .int .i64 et.addr] 57))
   have B5 := hid (Blk.new w4 57 #[.int .i64 et.kind, .int .i64 et.addr])
   clear f4 HFI z0 z1 ROW3 B3 FX3 FX3w
   have FX5 := ftr FX4 F5.o
   have FX5w := ftr F0 FX5.o
   have ROW5 : Hid (tEt.row (w4.alloc (.cells #[.int .i64 et.kind, .int .i64 et.addr] 57)) W.heap.size Emp 57 u9 xs) := ROW4.o.fr F5.o (fun _ h => h.elim) (fun _ _ x => x)
   have B45 := hid (B4.o.fr F5.o id)
   cases ok with
   | false =>
    exact yy42
   | true =>
    have hr : ri = (et, g im et) := HRI.o.trans (if_pos rfl)
    have HR := hid hr
    clear hr HRI
    obtain ⟨t0, t1, t2, t3, t4, t5, t6, t7, t8, t9, t10, t11⟩ := HX.o _ FX5.o
    have z := B45.o
    go_upto_region 8 with fail
    clear ROW4 B4
    generalize w4.alloc (.cells #[.int .i64 et.kind, .int .i64 et.addr] 57) = W5 at *
    obtain ⟨q5, hq5⟩ : ∃ q, q = w4.heap.size := ⟨_, rfl⟩
    rw [← hq5] at B5 ⊢
    clear hq5
    have HC5 := hid (HCH.o W5 FX5w.o im et)
    rw [HG.o im et] at HC5
    have z0 := z.cell 0
    have z1 := z.cell 1
    have z2 := z.cell 2
    have z3 := z.cell 3
    have z4 := z.cell 4
    have z5 := z.cell 5
    have z6 := z.cell 6
    have z7 := z.cell 7
    have z8 := z.cell 8
    have z9 := z.cell 9
    have z10 := z.cell 10
    have z11 := z.cell 11
    have z12 := z.cell 12
    have v0 := B5.o.cell 0
    have v1 := B5.o.cell 1
    clear z
    generalize g im et = r at *
    go_wp2_with fail
    refine HC5.o.mono ?_
    rintro e w6 ⟨rfl, f6⟩
    have FX6 := ftr FX5 f6
    have FX6w := ftr F0 FX6.o
    have ROW6 : Hid (tEt.row w6 W.heap.size Emp 57 u9 xs) := ROW5.o.fr f6 (fun _ h => h.elim) (fun _ _ x => x)
    have B6 := hid (B5.o.fr f6 id)
    clear f6 HC5 z0 z1 z2 z3 z4 z5 z6 z7 z8 z9 z10 z11 z12 v0 v1 t0 t1 t2 t3 t4 t5 t6 t7 t8 t9 t10 t11 ROW5
    by_cases hr0 : r = 0
    case neg =>
     have d5 : (r == 0) = false := by simpa using hr0
     have d6 : (r != 0) = true := by simpa using hr0
     have HR0 := hid hr0
     clear hr0
     go_wp2_with fail
     go_ret3
     exact ⟨FX6w.o, .inl ⟨k, HLT.o, HZ.o, by rw [← HRK.o, HR.o]; exact HR0.o, by rw [← HRK.o, HR.o]; rfl⟩⟩
    have HR0 := hid hr0
    subst hr0
    have v0 := B6.o.cell 0
    have v1 := B6.o.cell 1
    have F7 := hid ((Fr.refl No w6).alloc (.cells #[.int .i64 et.kind, .int .i64 et.addr] 57))
    have FX7 := ftr FX6 F7.o
    have ROW7 : Hid (tEt.row (w6.alloc (.cells #[.int .i64 et.kind, .int .i64 et.addr] 57)) W.heap.size Emp 57 u9 xs) := ROW6.o.fr F7.o (fun _ h => h.elim) (fun _ _ x => x)
    have HMK := hid (fun (X : World) => kKC (w := X) (S := Emp) (a := et) HWF.o.1 HWF.o.2)
    have hrd := hid (kEQ w6 [.int .i64 et.kind, .int .i64 et.addr] 57)
    go_wp2_with (at_builtin; refine kAK (t := tEt) (P := prog) (base := W.heap.size) (S := Emp) (xs := xs) (ys := [et]) (dss := [[.int .i64 et.kind, .int .i64 et.addr]]) elEt rfl rfl rfl rfl ROW7.o (Css.one (HMK.o _)) hrd.o rfl (by have := HXL.o; simp; omega) (by have := HXL.o; simp; omega) (fun _ h => h.elim) FX7.o.size ?_; intro v1 w8 hr1 fr1 hv1; have ROW8 := hid hr1; have FX8 : Hid (Fr No W w8) := FX7.o.trans fr1 (fun i hi hh => by have h1 := (ROW7.o.own hh.symm).1; omega); clear hr1 fr1 hv1)
    go_roundw
    case rel =>
     refine ⟨k + 1, HLT.o, by go_num, by rw [HTK.o, HR.o]; exact ROW8.o, fun j h h' => ?_, FX8.o⟩
     rcases Nat.lt_or_ge j k with h1 | h1
     · exact HZ.o j h h1
     have e : j = k := om
     subst e
     rw [← HRK.o, HR.o]
    case measure => exact meas HLT.o
 have hkn : k = ims.length := om
 subst hkn
 rw [List.take_length] at ROW
 obtain ⟨A9, c9, rfl, hc9, -, el9⟩ := ROW.o.els (S' := (· < wr.heap.size)) (fun _ h => h.elim) (fun g hg => by obtain ⟨_, cs, hb⟩ := ROW.o.own hg; exact hb.lt)
 have EL9 := hid el9
 have HC9 : Hid (ims.length ≤ c9) := by rw [List.length_map] at hc9; exact hc9
 exact yy37
end
theorem kJh {α : Type} {t : Ty α} {w : World} {S : Nat → Prop} {A : OA} {xs : List α} (h : t.els w S A xs) (k : Nat) : t.els w S A (xs.take k) := by
 rcases h with rfl | ⟨b, o, e, hb, h⟩
 · exact .inl sm
 refine .inr ⟨b, o, e, hb, fun i x hx => h i x ?_⟩
 rw [List.getElem?_take] at hx
 split at hx
 · exact hx
 cases hx
theorem kJH {α : Type} {t : Ty α} {w : World} {S : Nat → Prop} {b o : Nat} {xs : List α} (h : t.els w S (some ⟨b, o, none⟩) xs) (k : Nat) (hk : k < xs.length) : t.els w S (some ⟨b, o + k * t.size, none⟩) [xs[k]] := by
 obtain ⟨b', o', ds, e, hb, hc, hr⟩ := h.at_ k hk
 injection e with e
 injection e with e1 e2
 subst e1 e2
 refine .inr ⟨b, o + k * t.size, rfl, hb, fun i x hx => ?_⟩
 have hi : i = 0 := by
  have := (List.getElem?_eq_some_iff.1 hx).1
  simp at this
  exact this
 subst hi
 simp only [List.getElem?_cons_zero, Option.some.injEq] at hx
 subst hx
 exact ⟨ds, fun j u hu => by have := hc j u hu; rwa [show o + k * t.size + (0 * t.size + j) = o + (k * t.size + j) by omega], hr⟩
theorem kJL {m n : ByteArray} {a l : List Gv} (h : (lastF m n l).2 = true) : lastF m n (a ++ l) = lastF m n l := by
 unfold lastF at *
 rw [List.reverse_append, List.find?_append]
 cases hf : l.reverse.find? (gvAt m n) with
 | none => rw [hf] at h; cases h
 | some g => rfl
theorem kGl {l : List Gv} {g : Im → Et → Int} {im : Im} (h : (kCL l g im).2 = 0) : (lastF im.mod im.name l).2 = true ∧ (kCL l g im).1 = (lastF im.mod im.name l).1 ∧ g im (kCL l g im).1 = 0 := by
 unfold kCL at *
 split at h
 · next hl => rw [if_pos hl]; exact ⟨hl, rfl, h⟩
 cases h
theorem kGm {a l : List Gv} {g : Im → Et → Int} {im : Im} (h : (kCL l g im).2 = 0) : kCL (a ++ l) g im = kCL l g im := by
 have h1 := (kGl h).1
 unfold kCL
 rw [kJL h1]
theorem kJW {x : Rx} {im : Im} {m : Md} {what : Et} (h : chkS x im m what = 0) : im.kind = what.kind := by
 unfold chkS at h
 split at h
 · cases h
 omega
theorem kFr (l : List Et) (A B : OA) (c d n n2 : Nat) (w : World) (hn : l.length = n) (hn2 : l.length = n2) (hA : tEt.els w (· < w.heap.size) A l) (hB : tEt.els w (· < w.heap.size) B l) (hl : l.length ≤ 1000000) :
    Calls prog 16 #[.slice A n c, .slice B n2 d] w fun e w' => e = .returned (.bool true) ∧ Fr No w w' := by
 subst hn hn2
 have HA := hid hA
 have HB := hid hB
 have HL := hid hl
 clear hA hB hl
 go_enter func16, ntmps16
 go_wp2_with fail
 go_loopw [5] (fun i wr => ∃ k : Nat, k ≤ l.length ∧ i = .int .i64 k ∧ Hid (Fr No w wr)) (fun i _ => l.length - (intOf i).toNat)
 case atStart => exact ⟨0, by omega, rfl, Fr.refl _ _⟩
 case round =>
 obtain ⟨k, hk, rfl, F⟩ := hrel
 have hll := HL.o
 by_cases hlt : k < l.length
 · have d1 : decide ((k : Int) < (l.length : Nat)) = true := by simp; omega
   have i0 := nki k
   have i1 : (k : Int) < (l.length : Nat) := om
   have HLT : Hid (k + 1 ≤ l.length) := hlt
   obtain ⟨b, o, eA, hbS, z0, z1, -⟩ := kHi (els_up HA.o F.o i2 i2) k hlt
   obtain ⟨b', o', eB, hbS', y0, y1, -⟩ := kHi (els_up HB.o F.o i2 i2) k hlt
   subst eA eB
   have hl1 : b < wr.heap.size := ltl hbS F.o.size
   have hl2 : b' < wr.heap.size := ltl hbS' F.o.size
   generalize l[k] = g at z0 z1 y0 y1
   have q := fun X => kJP g.kind g.addr g.kind g.addr X
   have HY : Hid (∀ X, Fr No wr X → Ce X b (o + k * 2) (.int .i64 g.kind) ∧ Ce X b (o + k * 2 + 1) (.int .i64 g.addr) ∧ Ce X b' (o' + k * 2) (.int .i64 g.kind) ∧ Ce X b' (o' + k * 2 + 1) (.int .i64 g.addr)) := fun X f =>
    ⟨(f.cell (p := ⟨b, o + k * 2, none⟩) hl1 id).trans z0, (f.cell (p := ⟨b, o + k * 2 + 1, none⟩) hl1 id).trans z1, (f.cell (p := ⟨b', o' + k * 2, none⟩) hl2 id).trans y0, (f.cell (p := ⟨b', o' + k * 2 + 1, none⟩) hl2 id).trans y1⟩
   clear z0 z1 y0 y1 hl1 hl2 hbS hbS' hlt
   have FD := hid (F.o.trans (Fr.refl No wr).drew i3)
   go_upto_region 6 with fail
   refine rwO (Fr No wr) [] (List.range 9) [] (Fr.refl _ _).drew ?_
   refine rO HY.o ?_
   refine wpO_nil ?_
   go_wp2_with fail
   go_roundw
   case rel => exact ⟨k + 1, HLT.o, by go_num, FD.o⟩
   exact meas0 HLT.o
 have hkn : k = l.length := om
 subst hkn
 go_wp2_with fail
 go_ret
 exact ⟨rfl, F.o⟩
theorem kJQ {x : Rx} (h : RxB x) (q : MkQ x x.tabs.length x.mems.length) : ChB (kAE x x.funcs.length x.tabs.length x.mems.length x.globs.length x.insts.length) where
 f := ⟨by have := h.fl; simp only [kAE, List.length_take]; omega, fun a ha => by
  simp only [kAE, List.take_length] at ha
  have := h.fb a ha
  exact ⟨by omega, by omega⟩⟩
 t := by have := h.tl; simp only [kAE, List.length_map, List.length_take]; omega
 m := by have := h.ml; simp only [kAE, List.length_map, List.length_take]; omega
 g := by have := h.gl; simp only [kAE, List.length_take]; omega
 b := fun m hm => by
  simp only [kAE] at hm
  obtain ⟨a, ha, rfl⟩ := List.mem_map.1 hm
  have := (q.m a ha).2.2
  omega
end Go.Proofs.YthggdemiddjlgaaGreat
