/- Part 13 of the proof: lemmas and contracts of functions. No condition. -/
import Derived.Test.YtdckghiipijobaaGreatQ12
import Derived.Test.YtdckghiipijobaaGreatQ8
import Derived.Test.YtdckghiipijobaaGreatQ1
set_option maxRecDepth 100000
set_option maxHeartbeats 12800000
set_option linter.unusedVariables false
set_option linter.unusedSimpArgs false
set_option linter.unusedSectionVars false
namespace Go.Proofs.YtdckghiipijobaaGreat
open Go.RowKit Go.Proofs.Tryz
def ClTo (R : Nat → Prop) (x : Rx) (w : World) (e : Ending) (w' : World) : Prop :=
 ∃ (V' : Pl) (R' : Nat → Prop), e = .returned (.pointer (some ⟨V'.P, 0, none⟩)) ∧ Ci w R w' R' V' x
abbrev xT (x : Rx) (k : Nat) : Rx := { hosts := x.hosts, counts := x.counts, calls := x.calls, funcs := x.funcs, tabs := x.tabs.take k, mems := [], globs := [], elems := [], datas := [], insts := [] }
abbrev xM (x : Rx) (k : Nat) : Rx := { hosts := x.hosts, counts := x.counts, calls := x.calls, funcs := x.funcs, tabs := x.tabs, mems := x.mems.take k, globs := [], elems := [], datas := [], insts := [] }
theorem meas {n k : Nat} (h : k < n) : n - (intOf (.int .i64 ((k + 1 : Nat) : Int))).toNat < n - (intOf (.int .i64 (k : Int))).toNat := by
 simp only [intOf, Int.toNat_natCast]
 omega
theorem kFc {w : World} {p q c : Nat} {t : Rt} (h : TabAt w p q c t.t.elem t.t.lim.min t.t.lim.max t.t.lim.has t.l) (hv : TvB t) : Calls prog 97 #[.pointer (some ⟨p, 0, none⟩)] w (CtTo t.t.elem t.t.lim.min t.t.lim.max t.t.lim.has t.l w) := by
 obtain ⟨h1, h2⟩ := hv
 have h3 : 0 ≤ t.t.lim.min := by
  unfold tbB tabB limB at h1
  simp at h1
  omega
 have e : t.t.lim.min = ((t.t.lim.min.toNat : Nat) : Int) := om
 unfold tbB at h1
 rw [e] at h h1 ⊢
 exact kEJ h h1 om
section
variable {w wr w1 : World} {R R1 : Nat → Prop} {V : Pl} {x : Rx} {v' : Value} {P : Nat}
theorem Ci.at_fu {xs : List Fi} (h : Ci w R wr R1 V x) (hP : V.P = P) (g : Fr No wr w1) (hr : tFi.row w1 wr.heap.size (Sd wr R1) 47 v' xs) : (∃ c, w1.cell? ⟨P, 3, none⟩ = some c) ∧ w1.frozen? ⟨P, 3, none⟩ = false ∧ Hid (∃ (V2 : Pl) (R2 : Nat → Prop), V2.P = P ∧ Ci w R (w1.setCell ⟨P, 3, none⟩ v') R2 V2 { x with funcs := xs }) := by
 subst hP
 have b := h.st.blk.fr g id
 exact ⟨⟨_, b.cell 3⟩, b.frozen 3, (h.put_fu g hr).elim fun R2 c => ⟨{ V with fu := v' }, R2, rfl, c⟩⟩
theorem Ci.at_gl {xs : List Rg} (h : Ci w R wr R1 V x) (hP : V.P = P) (g : Fr No wr w1) (hr : tRg.row w1 wr.heap.size (Sd wr R1) 180 v' xs) : (∃ c, w1.cell? ⟨P, 6, none⟩ = some c) ∧ w1.frozen? ⟨P, 6, none⟩ = false ∧ Hid (∃ (V2 : Pl) (R2 : Nat → Prop), V2.P = P ∧ Ci w R (w1.setCell ⟨P, 6, none⟩ v') R2 V2 { x with globs := xs }) := by
 subst hP
 have b := h.st.blk.fr g id
 exact ⟨⟨_, b.cell 6⟩, b.frozen 6, (h.put_gl g hr).elim fun R2 c => ⟨{ V with gl := v' }, R2, rfl, c⟩⟩
theorem Ci.at_el {xs : List Rs} (h : Ci w R wr R1 V x) (hP : V.P = P) (g : Fr No wr w1) (hr : tRs.row w1 wr.heap.size (Sd wr R1) 182 v' xs) : (∃ c, w1.cell? ⟨P, 7, none⟩ = some c) ∧ w1.frozen? ⟨P, 7, none⟩ = false ∧ Hid (∃ (V2 : Pl) (R2 : Nat → Prop), V2.P = P ∧ Ci w R (w1.setCell ⟨P, 7, none⟩ v') R2 V2 { x with elems := xs }) := by
 subst hP
 have b := h.st.blk.fr g id
 exact ⟨⟨_, b.cell 7⟩, b.frozen 7, (h.put_el g hr).elim fun R2 c => ⟨{ V with el := v' }, R2, rfl, c⟩⟩
theorem Ci.at_da {xs : List Rb} (h : Ci w R wr R1 V x) (hP : V.P = P) (g : Fr No wr w1) (hr : tRb.row w1 wr.heap.size (Sd wr R1) 184 v' xs) : (∃ c, w1.cell? ⟨P, 8, none⟩ = some c) ∧ w1.frozen? ⟨P, 8, none⟩ = false ∧ Hid (∃ (V2 : Pl) (R2 : Nat → Prop), V2.P = P ∧ Ci w R (w1.setCell ⟨P, 8, none⟩ v') R2 V2 { x with datas := xs }) := by
 subst hP
 have b := h.st.blk.fr g id
 exact ⟨⟨_, b.cell 8⟩, b.frozen 8, (h.put_da g hr).elim fun R2 c => ⟨{ V with da := v' }, R2, rfl, c⟩⟩
theorem Ci.at_is {xs : List Ri} (h : Ci w R wr R1 V x) (hP : V.P = P) (g : Fr No wr w1) (hr : tRi.row w1 wr.heap.size (Sd wr R1) 208 v' xs) : (∃ c, w1.cell? ⟨P, 9, none⟩ = some c) ∧ w1.frozen? ⟨P, 9, none⟩ = false ∧ Hid (∃ (V2 : Pl) (R2 : Nat → Prop), V2.P = P ∧ Ci w R (w1.setCell ⟨P, 9, none⟩ v') R2 V2 { x with insts := xs }) := by
 subst hP
 have b := h.st.blk.fr g id
 exact ⟨⟨_, b.cell 9⟩, b.frozen 9, (h.put_is g hr).elim fun R2 c => ⟨{ V with is := v' }, R2, rfl, c⟩⟩
end
abbrev kDZ (a0 a1 a2 : Option Addr) (a3 : Rx) (a4 a5 a6 : Nat) : Array Value := #[.slice a0 a3.hosts.length a4, .slice a1 a3.counts.length a5, .slice a2 a3.calls.length a6, .slice none 0 0, .slice none 0 0, .slice none 0 0, .slice none 0 0, .slice none 0 0, .slice none 0 0, .slice none 0 0]
theorem kDj {w : World} {R : Nat → Prop} {V : Pl} {x : Rx} {m : Nat} (h : StIn w R V x) (hi : Inv m x) (hm : m ≤ 1000) :
    Calls prog 29 #[.pointer (some ⟨V.P, 0, none⟩)] w (ClTo R x w) := by
 have H := hid h
 have HI := hid hi
 have HM := hid hm
 obtain ⟨A0, c0, v0, _, EL0⟩ := h.sl_ho
 have R0 := h.ho
 rw [v0] at R0
 have HR0 := hid R0
 clear R0
 obtain ⟨A1, c1, v1, _, EL1⟩ := h.sl_co
 have R1 := h.co
 rw [v1] at R1
 have HR1 := hid R1
 clear R1
 obtain ⟨A2, c2, v2, _, EL2⟩ := h.sl_ca
 obtain ⟨A3, c3, v3, _, EL3⟩ := h.sl_fu
 have R3 := h.fu
 rw [v3] at R3
 have HR3 := hid R3
 clear R3
 obtain ⟨A4, c4, v4, _, EL4⟩ := h.sl_ta
 obtain ⟨A5, c5, v5, _, EL5⟩ := h.sl_me
 obtain ⟨A6, c6, v6, _, EL6⟩ := h.sl_gl
 have R6 := h.gl
 rw [v6] at R6
 have HR6 := hid R6
 clear R6
 obtain ⟨A7, c7, v7, _, EL7⟩ := h.sl_el
 have R7 := h.el
 rw [v7] at R7
 have HR7 := hid R7
 clear R7
 obtain ⟨A8, c8, v8, _, EL8⟩ := h.sl_da
 have R8 := h.da
 rw [v8] at R8
 have HR8 := hid R8
 clear R8
 obtain ⟨A9, c9, v9, _, EL9⟩ := h.sl_is
 have R9 := h.is
 rw [v9] at R9
 have HR9 := hid R9
 clear R9
 have ht : (V.tp.map (·.1)).length = x.tabs.length := by rw [List.length_map, h.tl]
 have hme : (V.mp.map (·.1)).length = x.mems.length := by rw [List.length_map, h.ml]
 rw [ht] at v4
 rw [hme] at v5
 have HB : Hid (∀ X, Fr No w X → Ce X V.P 0 (.slice A0 x.hosts.length c0) ∧ Ce X V.P 1 (.slice A1 x.counts.length c1) ∧ Ce X V.P 2 (.slice A2 x.calls.length c2) ∧ Ce X V.P 3 (.slice A3 x.funcs.length c3) ∧ Ce X V.P 4 (.slice A4 x.tabs.length c4) ∧ Ce X V.P 5 (.slice A5 x.mems.length c5) ∧ Ce X V.P 6 (.slice A6 x.globs.length c6) ∧ Ce X V.P 7 (.slice A7 x.elems.length c7) ∧ Ce X V.P 8 (.slice A8 x.datas.length c8) ∧ Ce X V.P 9 (.slice A9 x.insts.length c9)) := fun X f => by
  have g := h.blk.fr f id
  exact ⟨(g.cell 0).trans (by rw [← v0]; rfl), (g.cell 1).trans (by rw [← v1]; rfl), (g.cell 2).trans (by rw [← v2]; rfl), (g.cell 3).trans (by rw [← v3]; rfl), (g.cell 4).trans (by rw [← v4]; rfl), (g.cell 5).trans (by rw [← v5]; rfl), (g.cell 6).trans (by rw [← v6]; rfl), (g.cell 7).trans (by rw [← v7]; rfl), (g.cell 8).trans (by rw [← v8]; rfl), (g.cell 9).trans (by rw [← v9]; rfl)⟩
 have HT4 := hid EL4
 have HT5 := hid EL5
 have HCA := hid EL2
 clear h hi hm ht hme EL0 EL1 EL2 EL3 EL4 EL5 EL6 EL7 EL8 EL9 v0 v1 v2 v3 v4 v5 v6 v7 v8 v9
 go_enter func29, ntmps29
 go_upto_region 3 with fail
 refine rwO (Fr No w) [] [0, 1, 2, 3, 5, 6, 7, 8, 10, 11, 12, 13, 4, 9, 14, 15, 16, 17] [4, 9, 14, 16] (Fr.refl No w).drew ?_
 have F := hid (Fr.refl No w).drew
 refine rO HB.o ?_
 refine wpO_eff rfl rfl fun K hK => sz ?_
 refine (kEz A0 c0 x.hosts (Sd w R) 0 w.drew (kEk HR0.o F.o) (fun k hk => hk.1) (by have := HI.o.hl; omega)).mono ?_
 rintro e w1 ⟨B0, d0, rfl, r0, f0⟩
 replace F := ftr F f0
 have S0 := hid r0
 clear f0 r0
 refine hK _ _ (fun _ => F.o) ?_
 clear hK K
 refine wpO_eff rfl rfl fun K hK => sz ?_
 refine (kHT A1 c1 x.counts (Sd w R) 0 w1 (kEk HR1.o F.o) (fun k hk => ltl hk.1 F.o.size) (by have := HI.o.hl; have := HI.o.cl; omega)).mono ?_
 rintro e w2 ⟨B1, d1, rfl, r1, f1⟩
 have F1 := ftr F f1
 have L0 := hid (fun g (e : (Value.slice B0 x.hosts.length d0).ownBlock = some g) => ltl (kAC S0.o e).lt f1.size)
 replace S0 := hid (S0.o.fr f1 (fun k hk => ⟨ltl hk.1 F.o.size, fun x => x⟩) (fun _ _ x => x))
 have L1 := hid (fun g (e : (Value.slice B1 x.counts.length d1).ownBlock = some g) => (kAC r1 e).lt)
 have S1 := hid (r1.more F.o.size i2)
 clear f1 r1
 refine hK _ _ (fun _ => F1.o) ?_
 clear hK K
 refine wpO_eff rfl rfl fun K hK => sz ?_
 refine (kGj A2 c2 x.calls (· < w.heap.size) w2 (HCA.o.fr F1.o (fun k hk => ⟨hk, fun x => x⟩)) (fun k hk => ltl hk F1.o.size) (by have := HI.o.ca; have := HM.o; omega) (fun c hc => by have := HI.o.cb c hc; omega)).mono ?_
 rintro e w3 ⟨B2, d2, rfl, r2, f2⟩
 have F2 := ftr F1 f2
 replace S0 := hid (S0.o.fr f2 (fun k hk => ⟨ltl hk.1 F1.o.size, fun x => x⟩) (fun _ _ x => x))
 replace S1 := hid (S1.o.fr f2 (fun k hk => ⟨ltl hk.1 F1.o.size, fun x => x⟩) (fun _ _ x => x))
 have S2 := hid r2
 clear f2 r2
 refine hK _ _ (fun _ => F2.o) ?_
 clear hK K
 refine rO HB.o ?_
 refine wpO_eff rfl rfl fun K hK => sz ?_
 have SX := hid (F2.o.alloc (.cells (kDZ B0 B1 B2 x d0 d1 d2) 135))
 have C4 : Hid (∃ (V4 : Pl) (R4 : Nat → Prop), V4.P = w3.heap.size ∧ Ci w R (w3.alloc (.cells (kDZ B0 B1 B2 x d0 d1 d2) 135)) R4 V4 { hosts := x.hosts, counts := x.counts, calls := x.calls, funcs := [], tabs := [], mems := [], globs := [], elems := [], datas := [], insts := [] }) := by
  have fa := (Fr.refl No w3).alloc (.cells (kDZ B0 B1 B2 x d0 d1 d2) 135)
  have z1 := F1.o.size
  have z2 := F2.o.size
  have z3 := fa.size
  have L2 : ∀ g, (Value.slice B2 x.calls.length d2).ownBlock = some g → g < w3.heap.size := fun g e => (kAC S2.o e).lt
  obtain ⟨R4, c4⟩ := Ci.box (R := R) SX.o H.o.low (Blk.new w3 135 (kDZ B0 B1 B2 x d0 d1 d2)) z2 ((S0.o.fr fa (fun k hk => ⟨ltl hk.1 z2, fun x => x⟩) (fun _ _ x => x)).more (Fr.refl No w).drew.size i2) (S1.o.fr fa (fun k hk => ⟨ltl hk.1 z2, fun x => x⟩) (fun _ _ x => x))
   ((S2.o.fr fa (fun k hk => ⟨hk.1.2, fun x => x⟩) (fun _ _ x => x)).more z1 (fun k hk => by
    obtain ⟨⟨hk1, hk2⟩, hk3⟩ := hk
    refine ⟨by omega, by omega, by omega, fun v hv e => ?_⟩
    simp only [List.mem_cons, List.not_mem_nil, or_false] at hv
    rcases hv with rfl | rfl | rfl
    · have := L0.o k e
      omega
    · have := L1.o k e
      omega
    · exact hk3 e))
  exact ⟨_, R4, rfl, c4⟩
 clear S0 S1 S2 L0 L1 F F1 F2 HCA
 generalize w3.alloc (.cells (kDZ B0 B1 B2 x d0 d1 d2) 135) = W4 at *
 generalize w3.heap.size = P at *
 refine hK _ _ (fun _ => SX.o) ?_
 clear hK K
 refine rO HB.o ?_
 refine wpO_nil ?_
 obtain ⟨V4, R4, hP4, c4⟩ := C4.o
 clear C4 SX
 have C4 := hid c4
 clear c4
 have s3 := (HB.o _ C4.o.f).2.2.2.1
 go_wp2_with fail
 refine (kFZ A3 c3 x.funcs (Sd W4 R4) 0 W4 (C4.o.src HR3.o) (fun k hk => hk.1) (by have := HI.o.fu; have := HM.o; omega)).mono ?_
 rintro e w5 ⟨B3, d3, rfl, r3, f3⟩
 obtain ⟨⟨_, k3⟩, z3, C5⟩ := C4.o.at_fu hP4 f3 r3
 clear r3 f3 s3
 go_upto_region 5 with fail
 clear k3 z3
 generalize w5.setCell ⟨P, 3, none⟩ (.slice B3 x.funcs.length d3) = W5 at *
 clear C4 hP4 V4 R4 W4
 obtain ⟨V5, R5, hP5, c5⟩ := C5.o
 clear C5
 have C5 : Hid (Ci w R W5 R5 V5 (xT x 0)) := c5
 clear c5
 have s4 := (HB.o _ C5.o.f).2.2.2.2.1
 go_wp2_with fail
 clear s4
 go_loopw [43] (fun i wr => ∃ (k : Nat) (V1 : Pl) (R1 : Nat → Prop), k ≤ x.tabs.length ∧ i = .int .i64 k ∧ V1.P = P ∧ Hid (Ci w R wr R1 V1 (xT x k))) (fun i _ => x.tabs.length - (intOf i).toNat)
 case atStart => exact ⟨0, V5, R5, by omega, rfl, hP5, C5.o⟩
 case round =>
 clear C5 hP5
 obtain ⟨k, V1, R1, hk, rfl, hP1, I⟩ := hrel
 by_cases hlt : k < x.tabs.length
 · obtain ⟨z, hz⟩ := kBi H.o.tl (List.getElem?_eq_getElem hlt)
   have HZ := hid ((H.o.tat k z x.tabs[k] hz (List.getElem?_eq_getElem hlt)).fr I.o.f id id)
   have hlv : k < (V.tp.map (·.1)).length := by rw [List.length_map, H.o.tl]; exact hlt
   have hzz : (V.tp.map (·.1))[k]'hlv = z.1 := by simp [(List.getElem?_eq_some_iff.1 hz).2]
   have HTV := hid (HI.o.tv _ (List.getElem_mem hlt))
   obtain ⟨b, o, hA, hbS, hcp⟩ := kGs HT4.o k hlv
   subst hA
   rw [hzz] at hcp
   clear hz hzz
   have hcp : wr.cell? ⟨b, o + k, none⟩ = some (.pointer (some ⟨z.1, 0, none⟩)) := (I.o.f.cell (p := ⟨b, o + k, none⟩) hbS id).trans hcp
   have i0 := nki k
   have i1 : (k : Int) < x.tabs.length := om
   have HLT := hid hlt
   go_upto_region 8 with fail
   clear hcp
   refine rwO (fun _ => True) [] (List.range 6) [4, 5] trivial ?_
   refine rC ?_
   refine wpO_eff rfl rfl fun K hK => sz ?_
   refine (kFc (HZ.o.fr (Fr.refl No wr).drew id id) HTV.o).mono ?_
   rintro e w2 ⟨p, q, c, rfl, t2, hp, hq, f2⟩
   have F2 := hid ((Fr.refl No wr).drew.trans f2 i3)
   have T2 := hid t2
   have hp : wr.heap.size ≤ p := Nat.le_trans (Fr.refl No wr).drew.size hp
   have hq : wr.heap.size ≤ q := Nat.le_trans (Fr.refl No wr).drew.size hq
   have K1 : Hid (StIn w2 (fun k => R1 k ∨ k = p ∨ k = q) V1 (xT x k)) := I.o.st.fr F2.o (fun _ _ m => m.elim) (fun k hk r => r.elim (fun r => r) (fun e => by omega)) (fun k r => .inl r) (fun k r => r.elim (fun r => ltl (I.o.st.low k r) F2.o.size) (fun e => e.elim (fun e => e ▸ t2.blk.lt) (fun e => e ▸ t2.own.lt)))
   subst hP1
   clear t2 f2
   refine hK _ _ (fun _ => trivial) ?_
   clear hK K
   refine wpO_eff rfl rfl fun K hK => sz ?_
   refine (kKS V1.P 4 (Sd w2 (fun k => R1 k ∨ k = p ∨ k = q)) V1.ta (V1.tp.map (·.1)) p w2 (K1.o.addIn_ta rfl (by have := HI.o.ta; have := HM.o; rw [List.length_map, I.o.st.tl]; simp; omega))).mono ?_
   intro e w3 ha
   obtain ⟨V', R', rfl, h2, h3⟩ := I.o.st.added_ta (z := (p, q, c)) (t := x.tabs[k]) F2.o T2.o hp hq ha
   have N := hid (I.o.grown h2 h3)
   have hPP := h3.P
   clear h2 h3 ha K1 T2 F2 HZ HTV
   refine hK _ _ (fun _ => trivial) ?_
   clear hK K
   refine rC ?_
   refine wpO_nil ?_
   go_wp2
   have hb : x.tabs.length ≤ 1000 := by have := HI.o.ta; have := HM.o; omega
   have e9 : wrap64 ((k : Int) + 1) = ((k + 1 : Nat) : Int) := by have := HLT.o; simp only [wrap64]; omega
   go_roundw
   case rel =>
    refine ⟨k + 1, V', R', HLT.o, by rw [e9], hPP, ?_⟩
    have e : x.tabs.take (k + 1) = x.tabs.take k ++ [x.tabs[k]'HLT.o] := List.take_succ_eq_append_getElem HLT.o
    unfold xT
    rw [e]
    exact N.o
   rw [e9]; exact meas HLT.o
 have hkn : k = x.tabs.length := om
 subst hkn
 have C6 : Hid (Ci w R wr R1 V1 (xM x 0)) := by
  have h := I.o
  unfold xT at h
  rw [List.take_length] at h
  exact h
 clear I hk
 obtain ⟨W6, hW⟩ : ∃ W, W = wr := ⟨_, rfl⟩
 subst hW
 have s5 := (HB.o _ C6.o.f).2.2.2.2.2.1
 go_wp2_with fail
 clear s5
 go_loopw [60] (fun i wr => ∃ (k : Nat) (V2 : Pl) (R2 : Nat → Prop), k ≤ x.mems.length ∧ i = .int .i64 k ∧ V2.P = P ∧ Hid (Ci w R wr R2 V2 (xM x k))) (fun i _ => x.mems.length - (intOf i).toNat)
 case atStart => exact ⟨0, V1, R1, by omega, rfl, hP1, C6.o⟩
 case round =>
 clear C6 hP1
 obtain ⟨k, V2, R2, hk, rfl, hP2, I⟩ := hrel
 by_cases hlt : k < x.mems.length
 · obtain ⟨z, hz⟩ := kBi H.o.ml (List.getElem?_eq_getElem hlt)
   have HZ := hid ((H.o.mat k z x.mems[k] hz (List.getElem?_eq_getElem hlt)).frNo I.o.f)
   have hlv : k < (V.mp.map (·.1)).length := by rw [List.length_map, H.o.ml]; exact hlt
   have hzz : (V.mp.map (·.1))[k]'hlv = z.1 := by simp [(List.getElem?_eq_some_iff.1 hz).2]
   have HTV := hid (HI.o.mv _ (List.getElem_mem hlt))
   obtain ⟨b, o, hA, hbS, hcp⟩ := kGs HT5.o k hlv
   subst hA
   rw [hzz] at hcp
   clear hz hzz
   have hcp : wr.cell? ⟨b, o + k, none⟩ = some (.pointer (some ⟨z.1, 0, none⟩)) := (I.o.f.cell (p := ⟨b, o + k, none⟩) hbS id).trans hcp
   have i0 := nki k
   have i1 : (k : Int) < x.mems.length := om
   have HLT := hid hlt
   go_upto_region 13 with fail
   clear hcp
   refine rwO (fun _ => True) [] (List.range 6) [4, 5] trivial ?_
   refine rC ?_
   refine wpO_eff rfl rfl fun K hK => sz ?_
   refine (kER (HZ.o.frNo (Fr.refl No wr).drew) HTV.o.1 HTV.o.2).mono ?_
   rintro e w2 ⟨p, q, c, rfl, t2, hp, hq, f2⟩
   have F2 := hid ((Fr.refl No wr).drew.trans f2 i3)
   have T2 := hid t2
   have hp : wr.heap.size ≤ p := Nat.le_trans (Fr.refl No wr).drew.size hp
   have hq : wr.heap.size ≤ q := Nat.le_trans (Fr.refl No wr).drew.size hq
   have K1 : Hid (StIn w2 (fun k => R2 k ∨ k = p ∨ k = q) V2 (xM x k)) := I.o.st.fr F2.o (fun _ _ m => m.elim) (fun k hk r => r.elim (fun r => r) (fun e => by omega)) (fun k r => .inl r) (fun k r => r.elim (fun r => ltl (I.o.st.low k r) F2.o.size) (fun e => e.elim (fun e => e ▸ t2.hp.lt) (fun e => e ▸ t2.own.bk.lt)))
   subst hP2
   clear t2 f2
   refine hK _ _ (fun _ => trivial) ?_
   clear hK K
   refine wpO_eff rfl rfl fun K hK => sz ?_
   refine (kKT V2.P 5 (Sd w2 (fun k => R2 k ∨ k = p ∨ k = q)) V2.me (V2.mp.map (·.1)) p w2 (K1.o.addIn_me rfl (by have := HI.o.me; have := HM.o; rw [List.length_map, I.o.st.ml]; simp; omega))).mono ?_
   intro e w3 ha
   obtain ⟨V', R', rfl, h2, h3⟩ := I.o.st.added_me (z := (p, q, c)) (t := x.mems[k]) F2.o T2.o hp hq ha
   have N := hid (I.o.grown h2 h3)
   have hPP := h3.P
   clear h2 h3 ha K1 T2 F2 HZ HTV
   refine hK _ _ (fun _ => trivial) ?_
   clear hK K
   refine rC ?_
   refine wpO_nil ?_
   go_wp2
   have hb : x.mems.length ≤ 1000 := by have := HI.o.me; have := HM.o; omega
   have e9 : wrap64 ((k : Int) + 1) = ((k + 1 : Nat) : Int) := by have := HLT.o; simp only [wrap64]; omega
   go_roundw
   case rel =>
    refine ⟨k + 1, V', R', HLT.o, by rw [e9], hPP, ?_⟩
    have e : x.mems.take (k + 1) = x.mems.take k ++ [x.mems[k]'HLT.o] := List.take_succ_eq_append_getElem HLT.o
    unfold xM
    rw [e]
    exact N.o
   rw [e9]; exact meas HLT.o
 have hkn : k = x.mems.length := om
 subst hkn
 have C6 : Hid (∃ (V2 : Pl) (R2 : Nat → Prop), V2.P = P ∧ Ci w R wr R2 V2 { hosts := x.hosts, counts := x.counts, calls := x.calls, funcs := x.funcs, tabs := x.tabs, mems := x.mems, globs := [], elems := [], datas := [], insts := [] }) := by
  have h := I.o
  unfold xM at h
  rw [List.take_length] at h
  exact ⟨V2, R2, hP2, h⟩
 clear I hk hlt hP2
 obtain ⟨V6, R6, hP6, q6⟩ := C6.o
 have D0 := hid q6
 clear q6 C6
 have s6 := (HB.o _ D0.o.f).2.2.2.2.2.2.1
 go_wp2_with fail
 refine (kFT A6 c6 x.globs (Sd wr R6) 0 wr (D0.o.src HR6.o) (fun k hk => hk.1) (by have := HI.o.gl; have := HM.o; omega)).mono ?_
 rintro e y0 ⟨B6, d6, rfl, r3, f3⟩
 obtain ⟨⟨_, k3⟩, z3, C6⟩ := D0.o.at_gl hP6 f3 r3
 clear r3 f3 s6
 go_upto_region 16 with fail
 clear k3 z3
 generalize y0.setCell ⟨P, 6, none⟩ (.slice B6 x.globs.length d6) = U0 at *
 clear D0 hP6
 obtain ⟨V7, R7, hP7, q7⟩ := C6.o
 have D1 := hid q7
 clear q7 C6
 have s7 := (HB.o _ D1.o.f).2.2.2.2.2.2.2.1
 go_wp2_with fail
 refine (kFA A7 c7 x.elems (Sd U0 R7) 0 U0 (D1.o.src HR7.o) (fun k hk => hk.1) (by have := HI.o.el; have := HM.o; omega)).mono ?_
 rintro e y1 ⟨B7, d7, rfl, r3, f3⟩
 obtain ⟨⟨_, k3⟩, z3, C6⟩ := D1.o.at_el hP7 f3 r3
 clear r3 f3 s7
 go_upto_region 17 with fail
 clear k3 z3
 generalize y1.setCell ⟨P, 7, none⟩ (.slice B7 x.elems.length d7) = U1 at *
 clear D1 hP7
 obtain ⟨V8, R8, hP8, q8⟩ := C6.o
 have D2 := hid q8
 clear q8 C6
 have s8 := (HB.o _ D2.o.f).2.2.2.2.2.2.2.2.1
 go_wp2_with fail
 refine (kFU A8 c8 x.datas (Sd U1 R8) 0 U1 (D2.o.src HR8.o) (fun k hk => hk.1) (by have := HI.o.da; have := HM.o; omega)).mono ?_
 rintro e y2 ⟨B8, d8, rfl, r3, f3⟩
 obtain ⟨⟨_, k3⟩, z3, C6⟩ := D2.o.at_da hP8 f3 r3
 clear r3 f3 s8
 go_upto_region 18 with fail
 clear k3 z3
 generalize y2.setCell ⟨P, 8, none⟩ (.slice B8 x.datas.length d8) = U2 at *
 clear D2 hP8
 obtain ⟨V9, R9, hP9, q9⟩ := C6.o
 have D3 := hid q9
 clear q9 C6
 have s9 := (HB.o _ D3.o.f).2.2.2.2.2.2.2.2.2
 go_wp2_with fail
 refine (kFR A9 c9 x.insts (Sd U2 R9) 0 U2 (D3.o.src HR9.o) (fun k hk => hk.1) (by have := HI.o.is; have := HM.o; omega)).mono ?_
 rintro e y3 ⟨B9, d9, rfl, r3, f3⟩
 obtain ⟨⟨_, k3⟩, z3, C6⟩ := D3.o.at_is hP9 f3 r3
 clear r3 f3 s9
 go_upto_region 19 with fail
 clear k3 z3
 generalize y3.setCell ⟨P, 9, none⟩ (.slice B9 x.insts.length d9) = U3 at *
 clear D3 hP9
 obtain ⟨V', R', hP', h⟩ := C6.o
 go_wp2
 go_ret
 subst hP'
 exact ⟨V', R', rfl, h⟩
def kAw (x : Rx) (acts : List At) : Rx := acts.foldl kEH x
theorem kCT {x : Rx} {acts : List At} {k : Nat} (h : k < acts.length) : kAw x (acts.take (k + 1)) = kEH (kAw x (acts.take k)) acts[k] := by
 rw [kAw, List.take_succ_eq_append_getElem h, List.foldl_append]
 rfl
theorem kCg {n : Nat} {x : Rx} {acts : List At} (h : Inv n x) (ha : ∀ a ∈ acts, AtB a) : ∀ k, k ≤ acts.length → Inv (n + k) (kAw x (acts.take k))
 | 0, _ => h
 | k + 1, hk => by
  rw [kCT (by omega : k < acts.length)]
  exact (kCg h ha k om).step _ (ha _ (List.getElem_mem _))
structure Gt (X0 : World) (R0 : Nat → Prop) (V0 : Pl) (p : Nat) (V : Pl) (R : Nat → Prop) (X : World) : Prop where
 fr : Fr (fun k => V0.own k ∨ k = p) X0 X
 up : ∀ k, k < X0.heap.size → R k → R0 k
 keep : ∀ k, R0 k → R k
 own : ∀ k, V.own k → V0.own k ∨ X0.heap.size ≤ k
section
variable {X0 X Y : World} {R0 R R' : Nat → Prop} {V0 V V' : Pl} {p : Nat}
theorem Gt.refl (X : World) (R : Nat → Prop) (V : Pl) (p : Nat) : Gt X R V p V R X := ⟨Fr.refl _ _, fun _ _ h => h, fun _ h => h, fun _ h => .inl h⟩
theorem Gt.no (h : Gt X0 R0 V0 p V R X) (f : Fr No X Y) : Gt X0 R0 V0 p V R Y := ⟨h.fr.trans f (fun _ _ m => m.elim), h.up, h.keep, h.own⟩
theorem Gt.grow (h : Gt X0 R0 V0 p V R X) (g : Grown X Y R R' V V') : Gt X0 R0 V0 p V' R' Y :=
 ⟨h.fr.trans g.fr (fun k hk o => .inl ((h.own k o).elim id (fun e => by omega))), fun k hk r => h.up k hk (g.up k (ltl hk h.fr.size) r), fun k r => g.keep k (h.keep k r),
  fun k o => (g.own k o).elim (h.own k) (fun e => .inr (Nat.le_trans h.fr.size e))⟩
theorem Gt.more (h : Gt X0 R0 V0 p V R X) (f : Fr No X Y) {q : Nat} (hq : X.heap.size ≤ q) : Gt X0 R0 V0 p V (fun k => R k ∨ k = q) Y :=
 ⟨h.fr.trans f (fun _ _ m => m.elim), fun k hk r => r.elim (h.up k hk) (fun e => by have := h.fr.size; omega), fun k r => .inl (h.keep k r), h.own⟩
theorem Gt.fr2 (h : Gt X0 R0 V0 p V R X) {q : Nat} (f : Fr (One q) X Y) (hq : q = p ∨ X0.heap.size ≤ q) : Gt X0 R0 V0 p V R Y :=
 ⟨h.fr.trans f (fun k hk e => by have e : k = q := e; exact hq.elim (fun h => .inr (e.trans h)) (fun h => by omega)), h.up, h.keep, h.own⟩
end
section
variable {w : World} {p q D : Nat} {x y : Rx} {cs ds : LV} {V Vc Vd : Pl} {R R' : Nat → Prop} {X Y : World} {s : Sh}
theorem Ci.beside (c : Ci X R Y R' Vc y) (h : StIn X R V x) : StIn Y R' V x := h.fr c.f (fun _ _ m => m.elim) c.up c.keep c.st.low
theorem Lp.cl (h : Lp w p x cs V R X) (c : Ci X R Y R' Vc y) : Lp w p x cs V R' Y :=
 ⟨⟨c.beside h.b.pr, kCC h.b.rf c.f (fun _ _ m => m.elim) c.up⟩, h.bx.fr c.f id, c.keep _ h.rp, h.np,
  fun k r => by
   by_cases hk : k < X.heap.size
   · exact h.lo k (c.up k hk r)
   have := h.fr.size; omega,
  h.fr.trans c.f i3⟩
theorem Gt.beside (g : Gt X R Vc q Vd R' Y) (hc : StIn X R Vc y) (hq : R q) (low : ∀ k, R' k → k < Y.heap.size) (h : StIn X R V x) (hd : ∀ k, Vc.own k → ¬ V.own k) (nq : ¬ V.own q) : StIn Y R' V x :=
 h.fr g.fr (fun k _ m => m.elim (fun o => ⟨hc.own k o, hd k o⟩) (fun e => e ▸ ⟨hq, nq⟩)) g.up g.keep low
theorem Lp.gt (h : Lp w p x cs V R X) (g : Gt X R Vc q Vd R' Y) (hc : StIn X R Vc y) (hq : R q) (low : ∀ k, R' k → k < Y.heap.size) (hd : ∀ k, Vc.own k → ¬ V.own k) (nq : ¬ V.own q) (pq : p ≠ q) (np : ¬ Vc.own p) : Lp w p x cs V R' Y :=
 ⟨⟨g.beside hc hq low h.b.pr hd nq, kCC h.b.rf g.fr (fun k _ m => m.elim (hc.own k) (fun e => e ▸ hq)) g.up⟩, h.bx.fr g.fr (fun m => m.elim np pq), g.keep _ h.rp, h.np,
  fun k r => by
   by_cases hk : k < X.heap.size
   · exact h.lo k (g.up k hk r)
   have := h.fr.size; omega,
  h.fr.trans g.fr (fun k hk m => by have := h.lo k (m.elim (hc.own k) (fun e => e ▸ hq)); omega)⟩
theorem StIn.box (h : StIn X R V x) (f : Fr No X Y) (hq : X.heap.size < Y.heap.size) : StIn Y (fun k => R k ∨ k = X.heap.size) V x :=
 h.fr f (fun _ _ m => m.elim) (fun k hk r => r.elim id (fun e => by omega)) (fun _ r => .inl r) (fun k r => r.elim (fun r => ltl (h.low k r) f.size) (fun e => by omega))
theorem Lp.other (h : Lp w p x cs V R X) (hc : StIn X R Vc x) (f : Fr No X Y) (bq : Blk Y X.heap.size 39 cs.toArray) : Lp w X.heap.size x cs Vc (fun k => R k ∨ k = X.heap.size) Y :=
 ⟨⟨hc.box f bq.lt, kCC h.b.rf f (fun _ _ m => m.elim) (fun k hk r => r.elim id (fun e => by omega))⟩, bq, .inr rfl, fun o => by have := hc.lt o; omega, fun k r => r.elim (h.lo k) (fun e => by have := h.fr.size; omega), h.fr.trans f i3⟩
structure Ws (X : World) (R : Nat → Prop) (D : Nat) (ds : LV) (s : Sh) : Prop where
 bd : Blk X D 83 ds.toArray
 rd : tSh.rd X (Sd X R) ds s
 nd : ¬ R D
theorem Ws.step {M : Nat → Prop} (h : Ws X R D ds s) (f : Fr M X Y) (hM : ∀ k, k < X.heap.size → M k → R k) (up : ∀ k, k < X.heap.size → R' k → R k) : Ws Y R' D ds s :=
 ⟨h.bd.fr f (fun m => h.nd (hM D h.bd.lt m)), kCC h.rd f hM up, fun r => h.nd (up D h.bd.lt r)⟩
theorem Ws.no (h : Ws X R D ds s) (f : Fr No X Y) : Ws Y R D ds s := h.step f (fun _ _ m => m.elim) (fun _ _ r => r)
theorem Ws.gt (h : Ws X R D ds s) (g : Gt X R Vc q Vd R' Y) (hc : StIn X R Vc y) (hq : R q) : Ws Y R' D ds s := h.step g.fr (fun k _ m => m.elim (hc.own k) (fun e => e ▸ hq)) g.up
theorem Ws.range (h : Ws X R D ds s) (f : Fr No X Y) : Y.rangeAt D 0 ds := by simpa using rangeAt_blk (h.bd.fr f id)
end
abbrev kAm : Array Value := #[.slice none 0 0, .slice none 0 0, .slice none 0 0, .slice none 0 0, .slice none 0 0, .slice none 0 0, .slice none 0 0, .slice none 0 0, .slice none 0 0, .slice none 0 0]
theorem kGJ (w : World) (v0 v1 v2 : Value) (hosts : List Ho) (la lb : List At) (y0 : tHo.slice.rd w (· < w.heap.size) v0.cells.toList hosts) (y1 : tAt.slice.rd w (· < w.heap.size) v1.cells.toList la) (y2 : tAt.slice.rd w (· < w.heap.size) v2.cells.toList lb)
    (u0 : tHo.slice.le 1048576 hosts) (u1 : tAt.slice.le 1048576 la) (u2 : tAt.slice.le 1048576 lb) (hv0 : ∃ a l c, v0 = .slice a l c) (hv1 : ∃ a l c, v1 = .slice a l c) (hv2 : ∃ a l c, v2 = .slice a l c) :
    Calls prog 5 #[v0, v1, v2] w fun e w' => e = .returned (.bool true) ∧ Below w.heap.size w w' := by
 obtain ⟨A, n0, c0, rfl⟩ := hv0
 obtain ⟨B, n1, d0, rfl⟩ := hv1
 obtain ⟨C, n2, k0, rfl⟩ := hv2
 obtain ⟨A', c', h1, hc, hcm, hh⟩ := y0
 simp only [Value.cells, List.cons.injEq, Value.slice.injEq, and_true] at h1
 obtain ⟨rfl, rfl, rfl⟩ := h1
 obtain ⟨B', d', h2, gc, gcm, ha⟩ := y1
 simp only [Value.cells, List.cons.injEq, Value.slice.injEq, and_true] at h2
 obtain ⟨rfl, rfl, rfl⟩ := h2
 obtain ⟨C', k', h3, jc, jcm, hb⟩ := y2
 simp only [Value.cells, List.cons.injEq, Value.slice.injEq, and_true] at h3
 obtain ⟨rfl, rfl, rfl⟩ := h3
 suffices h : Calls prog 5 #[.slice A hosts.length c0, .slice B la.length d0, .slice C lb.length k0] w fun e w' => e = .returned (.bool true) ∧ Fr No w w' from h.mono fun e w' ⟨h1, h2⟩ => ⟨h1, h2.below⟩
 have HH := hid hh
 have HA := hid ha
 have HB2 := hid hb
 have L1 : Hid (hosts.length ≤ 1048576) := u0.1
 have LA : Hid (la.length ≤ 1048576) := u1.1
 have LB : Hid (lb.length ≤ 1048576) := u2.1
 have HB : Hid (∀ x ∈ hosts, HoBu x) := fun x hx => kMr (u0.2 x hx)
 have U1 := hid u1.2
 have U2 := hid u2.2
 have HC := hid (And.intro hc hcm)
 have HI : Hid (∀ n, n = 10 → (prog.info? 39).map (·.size) = some n) := by rintro _ rfl; kernel_rfl
 have HIA : Hid (∀ n, n = 38 → (prog.info? 76).map (·.size) = some n) := by rintro _ rfl; kernel_rfl
 have HIS : Hid (∀ n, n = 6 → (prog.info? 83).map (·.size) = some n) := by rintro _ rfl; kernel_rfl
 clear hh ha hb u0 u1 u2 hc hcm gc gcm jc jcm
 go_enter func5, ntmps5
 go_wp2_with fail
 refine (kMu hosts la A B c0 d0 w HH.o HA.o L1.o LA.o).mono ?_
 rintro e w1 ⟨⟨r, rfl, hr⟩, f1⟩
 have F1 := hid f1
 have HR := hid hr
 clear hr f1
 cases r with
 | false =>
  go_wp2_with fail
  refine (kEZ _).mono ?_
  rintro e w2 ⟨rfl, f2⟩
  go_wp2_with fail
  go_ret
  exact ⟨rfl, F1.o.trans f2 i3⟩
 | true =>
 have FA := hid (HR.o rfl)
 clear HR
 go_wp2_with fail
 refine (kMu hosts lb A C c0 k0 w1 (kAA HH.o F1.o i2 (fun _ h => ltl h F1.o.size)) (kAA HB2.o F1.o i2 (fun _ h => ltl h F1.o.size)) L1.o LB.o).mono ?_
 rintro e w2 ⟨⟨r, rfl, hr⟩, f2⟩
 have F2 := ftr F1 f2
 have HR := hid hr
 clear hr f2
 cases r with
 | false =>
  go_wp2_with fail
  refine (kEZ _).mono ?_
  rintro e w3 ⟨rfl, f3⟩
  go_wp2_with fail
  go_ret
  exact ⟨rfl, F2.o.trans f3 i3⟩
 | true =>
 have FB := hid (HR.o rfl)
 clear HR
 have LA60 : Hid (la.length ≤ 60) := FA.o.1
 have LB60 : Hid (lb.length ≤ 60) := FB.o.1
 have HAB : Hid ((∀ a ∈ la, AtB a) ∧ ∀ a ∈ lb, AtB a) := by
  constructor
  · intro a ha
    obtain ⟨i, hi, rfl⟩ := List.getElem_of_mem ha
    obtain ⟨g, o, ds, -, -, -, hr⟩ := HA.o.at_ i hi
    obtain ⟨P1, p1, P2, p2, A1, c1, A2, c2, A3, c3, ms, ns, -, -, -, -, -, -, -, -, gw, -⟩ := kAg hr
    exact kOI (U1.o _ ha) (FA.o.2 _ ha) gw
  intro a ha
  obtain ⟨i, hi, rfl⟩ := List.getElem_of_mem ha
  obtain ⟨g, o, ds, -, -, -, hr⟩ := HB2.o.at_ i hi
  obtain ⟨P1, p1, P2, p2, A1, c1, A2, c2, A3, c3, ms, ns, -, -, -, -, -, -, -, -, gw, -⟩ := kAg hr
  exact kOI (U2.o _ ha) (FB.o.2 _ ha) gw
 clear U1 U2
 go_wp2_with fail
 refine (kHR A c0 hosts w2 (kAA HH.o F2.o i2 (fun _ h => ltl h F2.o.size)) (by have := L1.o; omega) HB.o).mono ?_
 rintro e w3 ⟨rfl, f3⟩
 have F3 := ftr F2 f3
 clear f3
 by_cases hm : mayB hosts = false
 · rw [hm]
   go_wp2_with fail
   refine (kEZ _).mono ?_
   rintro e w4 ⟨rfl, f4⟩
   go_wp2_with fail
   go_ret
   exact ⟨rfl, F3.o.trans f4 i3⟩
 have HM : Hid (mayB hosts = true) := by unfold Hid; simpa using hm
 rw [HM.o]
 clear hm
 go_wp2_with fail
 refine (kHd A c0 hosts (· < w.heap.size) w3 (kAA HH.o F3.o i2 i2) (fun k hk => ltl hk F3.o.size) (by have := L1.o; omega) (fun x hx => (HB.o x hx).1)).mono ?_
 rintro e w4 hN
 unfold kDf at hN
 rw [if_pos HM.o] at hN
 obtain ⟨V0, rfl, hst, hown, f4⟩ := hN
 have HST := hid hst
 have HOW := hid hown
 have F4 := ftr F3 f4
 clear hst hown f4
 obtain ⟨P0, hP0⟩ : ∃ q, q = V0.P := ⟨_, rfl⟩
 rw [← hP0]
 have HP0 := hid hP0
 clear hP0
 go_wp2_with fail
 refine (kMB A c0 hosts (· < w.heap.size) w4 (kAA HH.o F4.o i2 i2) (fun k hk => ltl hk F4.o.size) HC.o.1 HC.o.2 (by have h := HM.o; unfold mayB at h; simp only [Bool.and_eq_true, decide_eq_true_eq] at h; omega)).mono ?_
 rintro e w5 ⟨cs0, rfl, hrx, f5⟩
 have HL0 : Hid (cs0.length = 10) := TyOk.len _ _ _ _ hrx
 have HO0 : Hid (cs0.all (·.oneCell') = true) := List.all_eq_true.2 ((inferInstance : kAG tRx).one _ _ _ _ hrx)
 have F45 := hid f5
 have HRX := hid hrx
 clear hrx f5
 go_upto_region 5 with (first
  | (refine kAz (by rfl) 39 _ _ (by rfl) kAm cs0 (by rfl) (by rfl) (by exact HI.o _ HL0.o) (by rw [HL0.o]; rfl) (by exact HO0.o) ?_)
  | fail)
 have LP : Hid (Lp w w5.heap.size (sto0 hosts) cs0 V0 (fun k => V0.own k ∨ k = w5.heap.size) (w5.alloc (.cells cs0.toArray 39))) := by
  have BX := Blk.new w5 39 cs0.toArray
  have s1 := F4.o.size
  have s2 := F45.o.size
  have s3 := F3.o.size
  have o2 : ∀ k, V0.own k → k < w4.heap.size := fun k o => HST.o.low k o
  have o3 : ∀ k, V0.own k → w3.heap.size ≤ k := fun k o => HOW.o k o
  have fa := F45.o.alloc (.cells cs0.toArray 39)
  refine ⟨⟨HST.o.fr fa (fun _ _ m => m.elim) (fun k hk r => r.elim id (fun e => by omega)) (fun _ r => .inl r) (fun k r => r.elim (fun r => ltl (o2 k r) fa.size) (fun e => e ▸ BX.lt)), ?_⟩, BX, .inr rfl, fun o => by have := o2 _ o; omega, fun k r => r.elim (fun o => by have := o3 k o; omega) (fun e => by omega), F4.o.trans fa i3⟩
  refine kAH HRX.o ((Fr.refl No w5).alloc (.cells cs0.toArray 39)) ?_ ?_
  · rintro k (hk | ⟨-, hk⟩)
    · have : k < w.heap.size := hk
      omega
    exact hk
  rintro k (hk | ⟨h1, h2⟩)
  · have hk : k < w.heap.size := hk
    exact ⟨by have := BX.lt; omega, fun r => r.elim (fun o => by have := o3 k o; omega) (fun e => by omega)⟩
  exact ⟨by have := BX.lt; omega, fun r => r.elim (fun o => by have := o2 k o; omega) (fun e => by omega)⟩
 clear F1 F2 F3 F4 HRX HL0 HO0 F45 HST HOW
 have I0 := hid (inv0 HM.o HB.o)
 obtain ⟨x0, hx0⟩ : ∃ x, x = sto0 hosts := ⟨_, rfl⟩
 rw [← hx0] at LP I0
 generalize w5.alloc (.cells cs0.toArray 39) = X0 at *
 generalize w5.heap.size = p at *
 obtain ⟨R0, hR0⟩ : ∃ R, R = fun k => V0.own k ∨ k = p := ⟨_, rfl⟩
 rw [← hR0] at LP
 clear hR0 hx0 HH HB HC
 go_wp2_with fail
 go_loopw [9] (fun i wr => ∃ (k : Nat) (csa : LV) (Va : Pl) (Ra : Nat → Prop), k ≤ la.length ∧ i = .int .i64 k ∧ Va.P = P0 ∧ Hid (Lp w p (kAw x0 (la.take k)) csa Va Ra wr) ∧ Hid (Gt X0 R0 V0 p Va Ra wr)) (fun i _ => la.length - (intOf i).toNat)
 case atStart => exact ⟨0, cs0, V0, R0, by omega, rfl, HP0.o.symm, LP.o, Gt.refl _ _ _ _⟩
 case round =>
 obtain ⟨k, csa, Va, Ra, hk, rfl, hPa, LPa, GTa⟩ := hrel
 have HINa := hid (kCg (acts := la) I0.o HAB.o.1 k hk)
 have HNK : Hid (k ≤ 60) := by have := FA.o.1; unfold Hid; omega
 by_cases hlt : k < la.length
 · subst hPa
   have d1 : decide ((k : Int) < (la.length : Nat)) = true := by simp; omega
   have i0 := nki k
   have i1 : (k : Int) < (la.length : Nat) := om
   have HLT : Hid (k + 1 ≤ la.length) := hlt
   obtain ⟨g, o, ds, eB, hb, hc, hr⟩ := (kAA HA.o LPa.o.fr i2 i2).at_ k hlt
   subst eB
   obtain ⟨a, hac⟩ : ∃ a, a = la[k]'hlt := ⟨_, rfl⟩
   have hr2 : tAt.rd wr (fun x => x < w.heap.size) ds a := by rw [hac]; exact hr
   have HAC := hid (kCT (x := x0) hlt)
   rw [← hac] at HAC
   have AB := hid (HAB.o.1 a (by rw [hac]; exact List.getElem_mem hlt))
   have RA : Hid (∀ X, Fr Va.own wr X → X.rangeAt g (o + k * 38) ds) := fun X f j u hj => by
    have h := hc j u hj
    rw [show o + (k * tAt.size + j) = o + k * 38 + j by show o + (k * 38 + j) = _; omega] at h
    exact (f.cell (p := ⟨g, o + k * 38 + j, none⟩) (ltl hb LPa.o.fr.size) (fun o => by have h1 := LPa.o.lo g (LPa.o.b.pr.own g o); have h2 : g < w.heap.size := hb; omega)).trans h
   have RX : Hid (∀ X, Fr Va.own wr X → X.rangeAt p 0 csa) := fun X f => by simpa using rangeAt_blk (LPa.o.bx.fr f LPa.o.np)
   have DL : Hid (ds.length = 38) := TyOk.len _ _ _ _ hr2
   have CL : Hid (csa.length = 10) := TyOk.len _ _ _ _ LPa.o.b.rf
   have HPL : Hid (∀ (X : World) (Ra : Nat → Prop), Fr No wr X → Lp w p (kAw x0 (la.take k)) csa Va Ra X → Calls prog 11 #[.pointer (some ⟨Va.P, 0, none⟩), .agg csa.toArray, .agg ds.toArray] X (kAZ Ra Va (kAw x0 (la.take (k + 1))) X)) := fun X Ra f l => by
    rw [HAC.o]
    refine kKk l.b HINa.o (by have := HNK.o; have := LA60.o; omega) a (kAH hr2 f (fun k hk => ltl hk LPa.o.fr.size) (fun k hk => ⟨?_, fun r => ?_⟩)) AB.o
    · have h1 : k < w.heap.size := hk
      have := l.fr.size
      omega
    have h1 : k < w.heap.size := hk
    have := l.lo k r
    omega
   clear hc hr hr2 hac hb HAC AB hlt HINa
   go_upto_region 10 with fail
   go_cut [10, 11] (fun v8 v9 wx => ∃ (q : Nat) (cs2 : LV) (V2 : Pl) (R2 : Nat → Prop), v8 = .pointer (some ⟨q, 0, none⟩) ∧ v9 = .bool true ∧ V2.P = Va.P ∧ Hid (Lq w p q (kAw x0 (la.take (k + 1))) csa cs2 V2 R2 wx) ∧ Hid (Gt X0 R0 V0 p V2 R2 wx))
   case first =>
    refine kBu (Fr Va.own wr) (.rd 0 (.rd 1 (.rd 2 (.rd 3 (.rd 4 (.rd 5 (.alt 6 (.rd 7 (.rd 8 (.rd 9 (.eff 10 (.eff 11 (.rd 12 .nil)))))) 10 (.eff 6 (.rd 7 (.rd 8 (.rd 9 (.eff 11 (.rd 12 .nil))))))))))))) kr kr kr rfl (Fr.refl _ _).drew ?_
    refine rT tvv ?_
    refine kGX rfl rfl 39 _ rfl p 0 (by rfl) csa _ (fun X hX => RX.o X hX) underlying39 (by rfl) (HI.o _ CL.o) ?_
    simp only [zC, Act.put]
    refine rT tvv ?_
    refine kGX rfl rfl 76 _ rfl g (o + k * 38) (by rfl) ds _ (fun X hX => RA.o X hX) underlying76 (by rfl) (HIA.o _ DL.o) ?_
    simp only [zC, Act.put]
    clear RX RA
    refine kCl ?_ ?_
    · refine wpT_eff rfl rfl fun K hK => sz ?_
      refine (HPL.o _ Ra (Fr.refl No wr).drew (LPa.o.no (Fr.refl No wr).drew)).mono ?_
      rintro e Y ⟨V2, R2, cs2, rfl, hb, hg⟩
      have SY := hid (((Fr.refl Va.own wr).drew).trans hg.fr i3)
      have L0 := hid (LPa.o.no (Fr.refl No wr).drew)
      have HBB := hid hb
      have HG := hid hg
      have G2 := hid ((GTa.o.no (Fr.refl No wr).drew).grow hg)
      have HL2 : Hid (cs2.length = 10) := TyOk.len _ _ _ _ hb.rf
      have HO2 : Hid (cs2.all (·.oneCell') = true) := List.all_eq_true.2 ((inferInstance : kAG tRx).one _ _ _ _ hb.rf)
      clear hb hg
      refine hK _ _ (SY.o) ?_
      clear hK K
      refine rT tvv ?_
      refine wpT_eff rfl rfl fun K hK => sz ?_
      have BZ := hid (Blk.new Y 39 kAm)
      have SZ := hid (SY.o.alloc (.cells kAm 39))
      have FZ := hid ((Fr.refl No Y).alloc (.cells kAm 39))
      obtain ⟨q, hq⟩ : ∃ q, Y.heap.size = q := ⟨_, rfl⟩
      have LQ : Hid (wr.heap.size ≤ q ∧ Y.heap.size ≤ q) := hid (by have := SY.o.size; exact ⟨by omega, by omega⟩)
      rw [hq] at BZ ⊢
      clear hq
      generalize Y.alloc (.cells kAm 39) = Z at *
      refine hK _ _ (SZ.o) ?_
      clear hK K
      have HT : Hid (Z.there q 0 cs2.toArray.size) := by
       have h := there_blk (n := 10) BZ.o rfl
       exact yy47
      have HJ : Hid ((prog.info? 39).map (·.size) = some cs2.toArray.size) := HI.o _ (show cs2.toArray.size = 10 from HL2.o)
      have HO3 : Hid (cs2.toArray.all (·.oneCell') = true) := hid (by have := HO2.o; simpa using this)
      refine wpT_eff rfl rfl (fun K hK => ?_)
      simp only [zA]
      refine wp_store_mid 39 _ _ (by rfl) q 0 cs2.toArray (by rfl) (by rfl) HT.o HJ.o HO3.o ?_
      refine hK _ _ (Fr.setCells' (a := wr) (M := Va.own) (b := q) (fun h => absurd h (by have := LQ.o.1; omega)) cs2 0 Z SZ.o) ?_
      exact yy32
    · refine wpT_eff rfl rfl fun K hK => sz ?_
      have BZ := hid ((Blk.new wr 39 kAm).drew)
      have SZ := hid (((Fr.refl Va.own wr).alloc (.cells kAm 39)).drew)
      have FZ := hid (((Fr.refl No wr).alloc (.cells kAm 39)).drew)
      have L0 := hid (LPa.o.more FZ.o (q := wr.heap.size) nr BZ.o.lt)
      have G0 := hid (GTa.o.more FZ.o (q := wr.heap.size) nr)
      have NQ : Hid (¬ Va.own wr.heap.size ∧ p ≠ wr.heap.size) := ⟨fun o => by have := LPa.o.b.pr.low _ (LPa.o.b.pr.own _ o); omega, fun e => by have := LPa.o.bx.lt; omega⟩
      obtain ⟨q, hq⟩ : ∃ q, wr.heap.size = q := ⟨_, rfl⟩
      rw [hq] at BZ L0 G0 NQ ⊢
      have LQ : Hid (wr.heap.size ≤ q) := hid om
      have GS : Hid (X0.heap.size ≤ q) := hid (by have := GTa.o.fr.size; omega)
      clear hq
      generalize (wr.alloc (.cells kAm 39)).drew = Z at *
      refine hK _ _ (SZ.o) ?_
      clear hK K
      refine wpT_eff rfl rfl fun K hK => sz ?_
      refine (HPL.o _ _ FZ.o L0.o).mono ?_
      rintro e Y ⟨V2, R2, cs2, rfl, hb, hg⟩
      have SY := hid (SZ.o.trans hg.fr i3)
      have BY := hid (BZ.o.fr hg.fr NQ.o.1)
      have HBB := hid hb
      have HG := hid hg
      have G2 := hid (G0.o.grow hg)
      have HL2 : Hid (cs2.length = 10) := TyOk.len _ _ _ _ hb.rf
      have HO2 : Hid (cs2.all (·.oneCell') = true) := List.all_eq_true.2 ((inferInstance : kAG tRx).one _ _ _ _ hb.rf)
      clear hb hg
      refine hK _ _ (SY.o) ?_
      clear hK K
      refine rT tvv ?_
      have HT : Hid (Y.there q 0 cs2.toArray.size) := by
       have h := there_blk (n := 10) BY.o rfl
       exact yy47
      have HJ : Hid ((prog.info? 39).map (·.size) = some cs2.toArray.size) := HI.o _ (show cs2.toArray.size = 10 from HL2.o)
      have HO3 : Hid (cs2.toArray.all (·.oneCell') = true) := hid (by have := HO2.o; simpa using this)
      refine wpT_eff rfl rfl (fun K hK => ?_)
      simp only [zA]
      refine wp_store_mid 39 _ _ (by rfl) q 0 cs2.toArray (by rfl) (by rfl) HT.o HJ.o HO3.o ?_
      refine hK _ _ (Fr.setCells' (a := wr) (M := Va.own) (b := q) (fun h => absurd h (by have := LQ.o; omega)) cs2 0 Y SY.o) ?_
      exact yy38
   obtain ⟨q, cs2, V2, R2, rfl, rfl, hPa, LQ, GQ⟩ := hcut
   have RQ : wc.rangeAt q 0 cs2 := by simpa using rangeAt_blk LQ.o.bq
   have HL2 : Hid (cs2.length = 10) := TyOk.len _ _ _ _ LQ.o.b.rf
   have HT : Hid (wc.there p 0 cs2.toArray.size) := by
    have h := there_blk (n := 10) LQ.o.bx (show csa.toArray.size = 10 from CL.o)
    exact yy47
   have HJ : Hid ((prog.info? 39).map (·.size) = some cs2.toArray.size) := HI.o _ (show cs2.toArray.size = 10 from HL2.o)
   have HO3 : Hid (cs2.toArray.all (·.oneCell') = true) := hid (by
    have h : cs2.all (·.oneCell') = true := List.all_eq_true.2 ((inferInstance : kAG tRx).one _ _ _ _ LQ.o.b.rf)
    simpa using h)
   go_upto_region 9 with (first
    | (refine wpList_load_mid (by rfl) 39 _ (by rfl) q 0 (by rfl) _ _ RQ underlying39 (by rfl) (HI.o _ HL2.o) ?_)
    | (refine wpList_store_mid (by rfl) 39 _ _ (by rfl) p 0 cs2.toArray (by rfl) (by rfl) HT.o HJ.o HO3.o ?_)
    | fail)
   have LP2 : Hid (Lp w p (kAw x0 (la.take (k + 1))) cs2 V2 R2 (wc.setCells p 0 cs2)) := LQ.o.put
   have G2 := hid (GQ.o.fr2 (Fr.setCells' (M := One p) (b := p) (fun _ => rfl) cs2 0 wc (Fr.refl _ wc)) (.inl rfl))
   clear RQ HT HJ HO3 LQ LPa GQ GTa RA RX HPL
   have e9 : wrap64 ((k : Int) + 1) = ((k + 1 : Nat) : Int) := by have := HNK.o; simp only [wrap64]; omega
   generalize wc.setCells p 0 cs2 = W2 at *
   go_wp2
   go_roundw
   case rel => exact ⟨k + 1, cs2, V2, R2, HLT.o, by rw [e9], hPa, LP2.o, G2.o⟩
   rw [e9]; exact meas HLT.o
 have hkn : k = la.length := om
 subst hkn
 rw [List.take_length] at LPa HINa
 clear hk hlt HNK
 obtain ⟨Y1, hY⟩ : ∃ Y, Y = wr := ⟨_, rfl⟩
 subst hY
 obtain ⟨x1, hx1⟩ : ∃ x, x = kAw x0 la := ⟨_, rfl⟩
 rw [← hx1] at LPa HINa
 have CLa : Hid (csa.length = 10) := TyOk.len _ _ _ _ LPa.o.b.rf
 subst hPa
 clear hx1 GTa LP I0 HP0 FA HA
 go_wp2_with fail
 refine (kHH LPa.o.b.pr (HINa.o.sh (by have := LA60.o; omega))).mono ?_
 rintro e Y2 ⟨ds, rfl, hd, f2⟩
 have SL : Hid (ds.length = 6) := TyOk.len _ _ _ _ hd
 have SO : Hid (ds.all (·.oneCell') = true) := List.all_eq_true.2 ((inferInstance : kAG tSh).one _ _ _ _ hd)
 have FD := hid f2
 have HD := hid hd
 clear hd f2
 go_upto_region 13 with (first
  | (refine kAz (by rfl) 83 _ _ (by rfl) #[.slice none 0 0, .slice none 0 0, .slice none 0 0, .slice none 0 0, .slice none 0 0, .slice none 0 0] ds (by rfl) (by rfl) (by exact HIS.o _ SL.o) (by rw [SL.o]; rfl) (by exact SO.o) ?_)
  | fail)
 have fa := (Fr.refl No Y2).alloc (.cells ds.toArray 83)
 have WS : Hid (Ws (Y2.alloc (.cells ds.toArray 83)) Ra Y2.heap.size ds (kAi x1)) := by
  have BD := Blk.new Y2 83 ds.toArray
  have z1 := FD.o.size
  refine ⟨BD, kAH HD.o fa (fun k hk => hk.2) (fun k hk => ⟨ltl hk.2 fa.size, fun r => ?_⟩), fun r => ?_⟩
  · have h1 := LPa.o.b.pr.low k r
    have h2 := hk.1
    omega
  have h1 := LPa.o.b.pr.low _ r
  omega
 have LP1 := hid ((LPa.o.no FD.o).no fa)
 clear fa LPa FD HD SO
 generalize Y2.alloc (.cells ds.toArray 83) = Y3 at *
 generalize Y2.heap.size = D at *
 go_wp2_with fail
 refine (kDj LP1.o.b.pr HINa.o (by have := LA60.o; omega)).mono ?_
 rintro e Y4 ⟨Vc, Rc, rfl, ci⟩
 have LP2 := hid (LP1.o.cl ci)
 have WS2 := hid (WS.o.step ci.f (fun _ _ m => m.elim) ci.up)
 have SC := hid ci.st
 have N12 : Hid (∀ k, Vc.own k → ¬ Va.own k) := fun k o1 o2 => by have h1 := ci.own k o1; have h2 := LP1.o.b.pr.lt o2; omega
 have NP : Hid (¬ Vc.own p) := fun o => by have h1 := ci.own p o; have h2 := LP1.o.bx.lt; omega
 clear ci LP1 WS
 go_wp2_with fail
 refine (kDj LP2.o.b.pr HINa.o (by have := LA60.o; omega)).mono ?_
 rintro e Y5 ⟨Vd, Rd, rfl, di⟩
 have LP3 := hid (LP2.o.cl di)
 have WS3 := hid (WS2.o.step di.f (fun _ _ m => m.elim) di.up)
 have SC2 := hid (di.beside SC.o)
 have SD := hid di.st
 have N13 : Hid (∀ k, Vd.own k → ¬ Va.own k) := fun k o1 o2 => by have h1 := di.own k o1; have h2 := LP2.o.b.pr.lt o2; omega
 have N23 : Hid (∀ k, Vd.own k → ¬ Vc.own k) := fun k o1 o2 => by have h1 := di.own k o1; have h2 := SC.o.lt o2; omega
 have ND : Hid (¬ Vd.own p) := fun o => by have h1 := di.own p o; have h2 := LP2.o.bx.lt; omega
 clear di LP2 WS2 SC
 go_upto_region 15 with fail
 refine rwP (Fr No Y5) [] [0, 1, 2, 3, 4, 5, 6, 7, 9, 8, 10, 11, 12] [8, 10] (Fr.refl _ _).drew ?_
 refine rP tvv ?_
 refine kAp rfl rfl rfl 83 _ rfl D 0 (by rfl) ds _ (fun X hX => WS3.o.range hX) underlying83 (by rfl) (HIS.o _ SL.o) ?_
 simp only [zC, Act.put]
 refine kAE rfl rfl fun K hK => sz ?_
 refine (kHH (SC2.o.frNo (Fr.refl No Y5).drew) (HINa.o.sh (by have := LA60.o; omega))).mono ?_
 rintro e S5 ⟨es5, rfl, he, fs⟩
 have FS5 := hid (Fr.trans (Fr.refl No Y5).drew fs i3)
 have HE := hid he
 clear he fs
 refine hK _ _ (fun _ => FS5.o) ?_
 clear hK K
 refine kAE rfl rfl fun K hK => sz ?_
 have HSM := kIN (kAi x1) (kAi x1) es5 ds _ _ S5 HE.o ((WS3.o.no FS5.o).rd) (fun _ h => h.2) (fun _ h => h.1) (HINa.o.le (by have := LA60.o; omega)) (HINa.o.le (by have := LA60.o; omega))
 rw [kKh] at HSM
 refine HSM.mono ?_
 rintro e T5 ⟨rfl, fs⟩
 have FT5 := ftr FS5 fs
 clear fs HSM HE
 refine hK _ _ (fun _ => FT5.o) ?_
 clear hK K
 refine rP tvv ?_
 refine kAj ?_
 have LP4 := hid (LP3.o.no FT5.o)
 have WS4 := hid (WS3.o.no FT5.o)
 have SC3 := hid (SC2.o.frNo FT5.o)
 have SD2 := hid (SD.o.frNo FT5.o)
 clear LP3 WS3 SC2 SD FT5 FS5
 have RX : Hid (T5.rangeAt p 0 csa) := by simpa [Hid] using rangeAt_blk LP4.o.bx
 have XO : Hid (csa.all (·.oneCell') = true) := List.all_eq_true.2 ((inferInstance : kAG tRx).one _ _ _ _ LP4.o.b.rf)
 go_upto_region 18 with (first
  | (refine wpList_load_mid (by rfl) 39 _ (by rfl) p 0 (by rfl) _ _ (by exact RX.o) underlying39 (by rfl) (HI.o _ CLa.o) ?_)
  | (refine kAz (by rfl) 39 _ _ (by rfl) kAm csa (by rfl) (by rfl) (by exact HI.o _ CLa.o) (by rw [CLa.o]; rfl) (by exact XO.o) ?_)
  | fail)
 have fa := (Fr.refl No T5).alloc (.cells csa.toArray 39)
 have BQ := Blk.new T5 39 csa.toArray
 have LPc := hid (LP4.o.other SC3.o fa BQ)
 have LP5 := hid (LP4.o.more fa nr BQ.lt)
 have SD3 := hid (SD2.o.box fa BQ.lt)
 have SC4 := hid (SC3.o.box fa BQ.lt)
 have WS5 := hid (WS4.o.step (R' := fun k => Rd k ∨ k = T5.heap.size) fa (fun _ _ m => m.elim) (fun k hk r => r.elim id (fun e => by omega)))
 have NQ : Hid (p ≠ T5.heap.size ∧ ¬ Va.own T5.heap.size ∧ ¬ Vd.own T5.heap.size) := ⟨fun e => by have := LP4.o.bx.lt; omega, fun o => by have := LP4.o.b.pr.lt o; omega, fun o => by have := SD2.o.lt o; omega⟩
 clear fa BQ LP4 WS4 SC3 SD2 RX XO
 generalize T5.alloc (.cells csa.toArray 39) = X1 at *
 generalize T5.heap.size = pz at *
 obtain ⟨Rq, hRq⟩ : ∃ R, R = fun k => Rd k ∨ k = pz := ⟨_, rfl⟩
 have RQ : Hid (Rq pz) := by rw [hRq]; exact .inr rfl
 rw [← hRq] at LPc LP5 SD3 SC4 WS5
 clear hRq
 have I1 := hid HINa.o
 obtain ⟨Pc, hPc⟩ : ∃ z, z = Vc.P := ⟨_, rfl⟩
 rw [← hPc]
 have HPc := hid hPc
 clear hPc
 go_wp2_with fail
 go_loopw [16] (fun i wr => ∃ (k : Nat) (csb : LV) (Vb : Pl) (Rb : Nat → Prop), k ≤ lb.length ∧ i = .int .i64 k ∧ Vb.P = Pc ∧ Hid (Lp w pz (kAw x1 (lb.take k)) csb Vb Rb wr) ∧ Hid (Gt X1 Rq Vc pz Vb Rb wr)) (fun i _ => lb.length - (intOf i).toNat)
 case atStart => exact ⟨0, csa, Vc, Rq, by omega, rfl, HPc.o.symm, LPc.o, Gt.refl _ _ _ _⟩
 case round =>
 obtain ⟨k, csb, Vb, Rb, hk, rfl, hPb, LPb, GTb⟩ := hrel
 have HINb := hid (kCg (acts := lb) I1.o HAB.o.2 k hk)
 have HNK : Hid (k ≤ 60) := by have := FB.o.1; unfold Hid; omega
 by_cases hlt : k < lb.length
 · subst hPb
   have d1 : decide ((k : Int) < (lb.length : Nat)) = true := by simp; omega
   have i0 := nki k
   have i1 : (k : Int) < (lb.length : Nat) := om
   have HLT : Hid (k + 1 ≤ lb.length) := hlt
   obtain ⟨g, o, ds, eB, hb, hc, hr⟩ := (kAA HB2.o LPb.o.fr i2 i2).at_ k hlt
   subst eB
   obtain ⟨a, hac⟩ : ∃ a, a = lb[k]'hlt := ⟨_, rfl⟩
   have hr2 : tAt.rd wr (fun x => x < w.heap.size) ds a := by rw [hac]; exact hr
   have HAC := hid (kCT (x := x1) hlt)
   rw [← hac] at HAC
   have AB := hid (HAB.o.2 a (by rw [hac]; exact List.getElem_mem hlt))
   have RA : Hid (∀ X, Fr Vb.own wr X → X.rangeAt g (o + k * 38) ds) := fun X f j u hj => by
    have h := hc j u hj
    rw [show o + (k * tAt.size + j) = o + k * 38 + j by show o + (k * 38 + j) = _; omega] at h
    exact (f.cell (p := ⟨g, o + k * 38 + j, none⟩) (ltl hb LPb.o.fr.size) (fun o => by have h1 := LPb.o.lo g (LPb.o.b.pr.own g o); have h2 : g < w.heap.size := hb; omega)).trans h
   have RX : Hid (∀ X, Fr Vb.own wr X → X.rangeAt pz 0 csb) := fun X f => by simpa using rangeAt_blk (LPb.o.bx.fr f LPb.o.np)
   have DL : Hid (ds.length = 38) := TyOk.len _ _ _ _ hr2
   have CL : Hid (csb.length = 10) := TyOk.len _ _ _ _ LPb.o.b.rf
   have HPL : Hid (∀ (X : World) (Rb : Nat → Prop), Fr No wr X → Lp w pz (kAw x1 (lb.take k)) csb Vb Rb X → Calls prog 11 #[.pointer (some ⟨Vb.P, 0, none⟩), .agg csb.toArray, .agg ds.toArray] X (kAZ Rb Vb (kAw x1 (lb.take (k + 1))) X)) := fun X Rb f l => by
    rw [HAC.o]
    refine kKk l.b HINb.o (by have := HNK.o; have := LA60.o; omega) a (kAH hr2 f (fun k hk => ltl hk LPb.o.fr.size) (fun k hk => ⟨?_, fun r => ?_⟩)) AB.o
    · have h1 : k < w.heap.size := hk
      have := l.fr.size
      omega
    have h1 : k < w.heap.size := hk
    have := l.lo k r
    omega
   clear hc hr hr2 hac hb HAC AB hlt HINb
   go_upto_region 21 with fail
   go_cut [17, 18] (fun v8 v9 wx => ∃ (q : Nat) (cs2 : LV) (V2 : Pl) (R2 : Nat → Prop), v8 = .pointer (some ⟨q, 0, none⟩) ∧ v9 = .bool true ∧ V2.P = Vb.P ∧ Hid (Lq w pz q (kAw x1 (lb.take (k + 1))) csb cs2 V2 R2 wx) ∧ Hid (Gt X1 Rq Vc pz V2 R2 wx))
   case first =>
    refine kBu (Fr Vb.own wr) (.rd 0 (.rd 1 (.rd 2 (.rd 3 (.rd 4 (.rd 5 (.alt 6 (.rd 7 (.rd 8 (.rd 9 (.eff 10 (.eff 11 (.rd 12 .nil)))))) 10 (.eff 6 (.rd 7 (.rd 8 (.rd 9 (.eff 11 (.rd 12 .nil))))))))))))) kr kr kr rfl (Fr.refl _ _).drew ?_
    refine rT tvv ?_
    refine kGX rfl rfl 39 _ rfl pz 0 (by rfl) csb _ (fun X hX => RX.o X hX) underlying39 (by rfl) (HI.o _ CL.o) ?_
    simp only [zC, Act.put]
    refine rT tvv ?_
    refine kGX rfl rfl 76 _ rfl g (o + k * 38) (by rfl) ds _ (fun X hX => RA.o X hX) underlying76 (by rfl) (HIA.o _ DL.o) ?_
    simp only [zC, Act.put]
    clear RX RA
    refine kCl ?_ ?_
    · refine wpT_eff rfl rfl fun K hK => sz ?_
      refine (HPL.o _ Rb (Fr.refl No wr).drew (LPb.o.no (Fr.refl No wr).drew)).mono ?_
      rintro e Y ⟨V2, R2, cs2, rfl, hb, hg⟩
      have SY := hid (((Fr.refl Vb.own wr).drew).trans hg.fr i3)
      have L0 := hid (LPb.o.no (Fr.refl No wr).drew)
      have HBB := hid hb
      have HG := hid hg
      have G2 := hid ((GTb.o.no (Fr.refl No wr).drew).grow hg)
      have HL2 : Hid (cs2.length = 10) := TyOk.len _ _ _ _ hb.rf
      have HO2 : Hid (cs2.all (·.oneCell') = true) := List.all_eq_true.2 ((inferInstance : kAG tRx).one _ _ _ _ hb.rf)
      clear hb hg
      refine hK _ _ (SY.o) ?_
      clear hK K
      refine rT tvv ?_
      refine wpT_eff rfl rfl fun K hK => sz ?_
      have BZ := hid (Blk.new Y 39 kAm)
      have SZ := hid (SY.o.alloc (.cells kAm 39))
      have FZ := hid ((Fr.refl No Y).alloc (.cells kAm 39))
      obtain ⟨q, hq⟩ : ∃ q, Y.heap.size = q := ⟨_, rfl⟩
      have LQ : Hid (wr.heap.size ≤ q ∧ Y.heap.size ≤ q) := hid (by have := SY.o.size; exact ⟨by omega, by omega⟩)
      rw [hq] at BZ ⊢
      clear hq
      generalize Y.alloc (.cells kAm 39) = Z at *
      refine hK _ _ (SZ.o) ?_
      clear hK K
      have HT : Hid (Z.there q 0 cs2.toArray.size) := by
       have h := there_blk (n := 10) BZ.o rfl
       exact yy47
      have HJ : Hid ((prog.info? 39).map (·.size) = some cs2.toArray.size) := HI.o _ (show cs2.toArray.size = 10 from HL2.o)
      have HO3 : Hid (cs2.toArray.all (·.oneCell') = true) := hid (by have := HO2.o; simpa using this)
      refine wpT_eff rfl rfl (fun K hK => ?_)
      simp only [zA]
      refine wp_store_mid 39 _ _ (by rfl) q 0 cs2.toArray (by rfl) (by rfl) HT.o HJ.o HO3.o ?_
      refine hK _ _ (Fr.setCells' (a := wr) (M := Vb.own) (b := q) (fun h => absurd h (by have := LQ.o.1; omega)) cs2 0 Z SZ.o) ?_
      exact yy32
    · refine wpT_eff rfl rfl fun K hK => sz ?_
      have BZ := hid ((Blk.new wr 39 kAm).drew)
      have SZ := hid (((Fr.refl Vb.own wr).alloc (.cells kAm 39)).drew)
      have FZ := hid (((Fr.refl No wr).alloc (.cells kAm 39)).drew)
      have L0 := hid (LPb.o.more FZ.o (q := wr.heap.size) nr BZ.o.lt)
      have G0 := hid (GTb.o.more FZ.o (q := wr.heap.size) nr)
      have NQ : Hid (¬ Vb.own wr.heap.size ∧ pz ≠ wr.heap.size) := ⟨fun o => by have := LPb.o.b.pr.low _ (LPb.o.b.pr.own _ o); omega, fun e => by have := LPb.o.bx.lt; omega⟩
      obtain ⟨q, hq⟩ : ∃ q, wr.heap.size = q := ⟨_, rfl⟩
      rw [hq] at BZ L0 G0 NQ ⊢
      have LQ : Hid (wr.heap.size ≤ q) := hid om
      have GS : Hid (X1.heap.size ≤ q) := hid (by have := GTb.o.fr.size; omega)
      clear hq
      generalize (wr.alloc (.cells kAm 39)).drew = Z at *
      refine hK _ _ (SZ.o) ?_
      clear hK K
      refine wpT_eff rfl rfl fun K hK => sz ?_
      refine (HPL.o _ _ FZ.o L0.o).mono ?_
      rintro e Y ⟨V2, R2, cs2, rfl, hb, hg⟩
      have SY := hid (SZ.o.trans hg.fr i3)
      have BY := hid (BZ.o.fr hg.fr NQ.o.1)
      have HBB := hid hb
      have HG := hid hg
      have G2 := hid (G0.o.grow hg)
      have HL2 : Hid (cs2.length = 10) := TyOk.len _ _ _ _ hb.rf
      have HO2 : Hid (cs2.all (·.oneCell') = true) := List.all_eq_true.2 ((inferInstance : kAG tRx).one _ _ _ _ hb.rf)
      clear hb hg
      refine hK _ _ (SY.o) ?_
      clear hK K
      refine rT tvv ?_
      have HT : Hid (Y.there q 0 cs2.toArray.size) := by
       have h := there_blk (n := 10) BY.o rfl
       exact yy47
      have HJ : Hid ((prog.info? 39).map (·.size) = some cs2.toArray.size) := HI.o _ (show cs2.toArray.size = 10 from HL2.o)
      have HO3 : Hid (cs2.toArray.all (·.oneCell') = true) := hid (by have := HO2.o; simpa using this)
      refine wpT_eff rfl rfl (fun K hK => ?_)
      simp only [zA]
      refine wp_store_mid 39 _ _ (by rfl) q 0 cs2.toArray (by rfl) (by rfl) HT.o HJ.o HO3.o ?_
      refine hK _ _ (Fr.setCells' (a := wr) (M := Vb.own) (b := q) (fun h => absurd h (by have := LQ.o; omega)) cs2 0 Y SY.o) ?_
      exact yy38
   obtain ⟨q, cs2, V2, R2, rfl, rfl, hPb, LQ, GQ⟩ := hcut
   have RQ : wc.rangeAt q 0 cs2 := by simpa using rangeAt_blk LQ.o.bq
   have HL2 : Hid (cs2.length = 10) := TyOk.len _ _ _ _ LQ.o.b.rf
   have HT : Hid (wc.there pz 0 cs2.toArray.size) := by
    have h := there_blk (n := 10) LQ.o.bx (show csb.toArray.size = 10 from CL.o)
    exact yy47
   have HJ : Hid ((prog.info? 39).map (·.size) = some cs2.toArray.size) := HI.o _ (show cs2.toArray.size = 10 from HL2.o)
   have HO3 : Hid (cs2.toArray.all (·.oneCell') = true) := hid (by
    have h : cs2.all (·.oneCell') = true := List.all_eq_true.2 ((inferInstance : kAG tRx).one _ _ _ _ LQ.o.b.rf)
    simpa using h)
   go_upto_region 23 with (first
    | (refine wpList_load_mid (by rfl) 39 _ (by rfl) q 0 (by rfl) _ _ RQ underlying39 (by rfl) (HI.o _ HL2.o) ?_)
    | (refine wpList_store_mid (by rfl) 39 _ _ (by rfl) pz 0 cs2.toArray (by rfl) (by rfl) HT.o HJ.o HO3.o ?_)
    | fail)
   have LP2 : Hid (Lp w pz (kAw x1 (lb.take (k + 1))) cs2 V2 R2 (wc.setCells pz 0 cs2)) := LQ.o.put
   have G2 := hid (GQ.o.fr2 (Fr.setCells' (M := One pz) (b := pz) (fun _ => rfl) cs2 0 wc (Fr.refl _ wc)) (.inl rfl))
   clear RQ HT HJ HO3 LQ LPb GQ GTb RA RX HPL
   have e9 : wrap64 ((k : Int) + 1) = ((k + 1 : Nat) : Int) := by have := HNK.o; simp only [wrap64]; omega
   generalize wc.setCells pz 0 cs2 = W2 at *
   go_wp2
   go_roundw
   case rel => exact ⟨k + 1, cs2, V2, R2, HLT.o, by rw [e9], hPb, LP2.o, G2.o⟩
   rw [e9]; exact meas HLT.o
 have hkn : k = lb.length := om
 subst hkn
 rw [List.take_length] at LPb HINb
 clear hk hlt HNK
 obtain ⟨Y6, hY⟩ : ∃ Y, Y = wr := ⟨_, rfl⟩
 subst hY
 obtain ⟨x2, hx2⟩ : ∃ x, x = kAw x1 lb := ⟨_, rfl⟩
 rw [← hx2] at LPb HINb
 have HX2 := hid hx2
 subst hPb
 clear hx2 LPc
 have LP6 := hid (LP5.o.gt GTb.o SC4.o RQ.o LPb.o.b.pr.low N12.o NQ.o.2.1 NQ.o.1 NP.o)
 have WS6 := hid (WS5.o.gt GTb.o SC4.o RQ.o)
 have SD4 := hid (GTb.o.beside SC4.o RQ.o LPb.o.b.pr.low SD3.o (fun k o1 o2 => N23.o k o2 o1) NQ.o.2.2)
 have SC5 := hid LPb.o.b.pr
 have NN : Hid ((∀ k, Va.own k → ¬ Vb.own k) ∧ ∀ k, Va.own k → ¬ Vd.own k) := ⟨fun k o1 o2 => (GTb.o.own k o2).elim (fun o => N12.o k o o1) (fun h => by have := LP5.o.b.pr.lt o1; omega), fun k o1 o2 => N13.o k o2 o1⟩
 have NP2 : Hid (¬ Vb.own p ∧ ¬ Vd.own p) := ⟨fun o => (GTb.o.own p o).elim NP.o (fun h => by have := LP5.o.bx.lt; omega), ND.o⟩
 clear LP5 WS5 SD3 SC4 GTb LPb N12 N13 N23 NQ NP RQ
 go_upto_region 25 with fail
 refine rwP (Fr No Y6) [] [0, 2, 1, 3, 4, 5, 6, 8, 7, 9, 10, 11] [1, 3, 7, 9] (Fr.refl _ _).drew ?_
 refine rP tvv ?_
 refine kAp rfl rfl rfl 83 _ rfl D 0 (by rfl) ds _ (fun X hX => WS6.o.range hX) underlying83 (by rfl) (HIS.o _ SL.o) ?_
 simp only [zC, Act.put]
 refine kAE rfl rfl fun K hK => sz ?_
 refine (kHH (LP6.o.b.pr.frNo (Fr.refl No Y6).drew) (HINa.o.sh (by have := LA60.o; omega))).mono ?_
 rintro e S6 ⟨es6, rfl, he, fs⟩
 have FS6 := hid (Fr.trans (Fr.refl No Y6).drew fs i3)
 have HE := hid he
 clear he fs
 refine hK _ _ (fun _ => FS6.o) ?_
 clear hK K
 refine kAE rfl rfl fun K hK => sz ?_
 have HSM := kIN (kAi x1) (kAi x1) es6 ds _ _ S6 HE.o ((WS6.o.no FS6.o).rd) (fun _ h => h.2) (fun _ h => h.1) (HINa.o.le (by have := LA60.o; omega)) (HINa.o.le (by have := LA60.o; omega))
 rw [kKh] at HSM
 refine HSM.mono ?_
 rintro e T6 ⟨rfl, fs⟩
 have FT6 := ftr FS6 fs
 clear fs HSM HE
 refine hK _ _ (fun _ => FT6.o) ?_
 clear hK K
 refine rP tvv ?_
 refine kAp rfl rfl rfl 83 _ rfl D 0 (by rfl) ds _ (fun X hX => WS6.o.range hX) underlying83 (by rfl) (HIS.o _ SL.o) ?_
 simp only [zC, Act.put]
 refine kAE rfl rfl fun K hK => sz ?_
 refine (kHH (SD4.o.frNo FT6.o) (HINa.o.sh (by have := LA60.o; omega))).mono ?_
 rintro e S7 ⟨es7, rfl, he, fs⟩
 have FS7 := hid (Fr.trans FT6.o fs i3)
 have HE := hid he
 clear he fs
 refine hK _ _ (fun _ => FS7.o) ?_
 clear hK K
 refine kAE rfl rfl fun K hK => sz ?_
 have HSM := kIN (kAi x1) (kAi x1) es7 ds _ _ S7 HE.o ((WS6.o.no FS7.o).rd) (fun _ h => h.2) (fun _ h => h.1) (HINa.o.le (by have := LA60.o; omega)) (HINa.o.le (by have := LA60.o; omega))
 rw [kKh] at HSM
 refine HSM.mono ?_
 rintro e T7 ⟨rfl, fs⟩
 have FT7 := ftr FS7 fs
 clear fs HSM HE
 refine hK _ _ (fun _ => FT7.o) ?_
 clear hK K
 refine rP tvv ?_
 refine kAj ?_
 have LP7 := hid (LP6.o.no FT7.o)
 have WS7 := hid (WS6.o.no FT7.o)
 have SC6 := hid (SC5.o.frNo FT7.o)
 have SD5 := hid (SD4.o.frNo FT7.o)
 clear LP6 WS6 SC5 SD4 FT7 FT6 FS6 FS7
 generalize T7 = X2 at *
 obtain ⟨Ps, hPs⟩ : ∃ z, z = Va.P := ⟨_, rfl⟩
 rw [← hPs]
 have HPs := hid hPs
 clear hPs
 go_wp2_with fail
 go_loopw [19] (fun i wr => ∃ (k : Nat) (csc : LV) (Vc : Pl) (Rc : Nat → Prop), k ≤ lb.length ∧ i = .int .i64 k ∧ Vc.P = Ps ∧ Hid (Lp w p (kAw x1 (lb.take k)) csc Vc Rc wr) ∧ Hid (Gt X2 Rb Va p Vc Rc wr)) (fun i _ => lb.length - (intOf i).toNat)
 case atStart => exact ⟨0, csa, Va, Rb, by omega, rfl, HPs.o.symm, LP7.o, Gt.refl _ _ _ _⟩
 case round =>
 obtain ⟨k, csc, Vc, Rc, hk, rfl, hPc, LPc, GTc⟩ := hrel
 have HINc := hid (kCg (acts := lb) I1.o HAB.o.2 k hk)
 have HNK : Hid (k ≤ 60) := by have := FB.o.1; unfold Hid; omega
 by_cases hlt : k < lb.length
 · subst hPc
   have d1 : decide ((k : Int) < (lb.length : Nat)) = true := by simp; omega
   have i0 := nki k
   have i1 : (k : Int) < (lb.length : Nat) := om
   have HLT : Hid (k + 1 ≤ lb.length) := hlt
   obtain ⟨g, o, ds, eB, hb, hc, hr⟩ := (kAA HB2.o LPc.o.fr i2 i2).at_ k hlt
   subst eB
   obtain ⟨a, hac⟩ : ∃ a, a = lb[k]'hlt := ⟨_, rfl⟩
   have hr2 : tAt.rd wr (fun x => x < w.heap.size) ds a := by rw [hac]; exact hr
   have HAC := hid (kCT (x := x1) hlt)
   rw [← hac] at HAC
   have AB := hid (HAB.o.2 a (by rw [hac]; exact List.getElem_mem hlt))
   have RA : Hid (∀ X, Fr Vc.own wr X → X.rangeAt g (o + k * 38) ds) := fun X f j u hj => by
    have h := hc j u hj
    rw [show o + (k * tAt.size + j) = o + k * 38 + j by show o + (k * 38 + j) = _; omega] at h
    exact (f.cell (p := ⟨g, o + k * 38 + j, none⟩) (ltl hb LPc.o.fr.size) (fun o => by have h1 := LPc.o.lo g (LPc.o.b.pr.own g o); have h2 : g < w.heap.size := hb; omega)).trans h
   have RX : Hid (∀ X, Fr Vc.own wr X → X.rangeAt p 0 csc) := fun X f => by simpa using rangeAt_blk (LPc.o.bx.fr f LPc.o.np)
   have DL : Hid (ds.length = 38) := TyOk.len _ _ _ _ hr2
   have CL : Hid (csc.length = 10) := TyOk.len _ _ _ _ LPc.o.b.rf
   have HPL : Hid (∀ (X : World) (Rc : Nat → Prop), Fr No wr X → Lp w p (kAw x1 (lb.take k)) csc Vc Rc X → Calls prog 11 #[.pointer (some ⟨Vc.P, 0, none⟩), .agg csc.toArray, .agg ds.toArray] X (kAZ Rc Vc (kAw x1 (lb.take (k + 1))) X)) := fun X Rc f l => by
    rw [HAC.o]
    refine kKk l.b HINc.o (by have := HNK.o; have := LA60.o; omega) a (kAH hr2 f (fun k hk => ltl hk LPc.o.fr.size) (fun k hk => ⟨?_, fun r => ?_⟩)) AB.o
    · have h1 : k < w.heap.size := hk
      have := l.fr.size
      omega
    have h1 : k < w.heap.size := hk
    have := l.lo k r
    omega
   clear hc hr hr2 hac hb HAC AB hlt HINc
   go_upto_region 30 with fail
   go_cut [20, 21] (fun v8 v9 wx => ∃ (q : Nat) (cs2 : LV) (V2 : Pl) (R2 : Nat → Prop), v8 = .pointer (some ⟨q, 0, none⟩) ∧ v9 = .bool true ∧ V2.P = Vc.P ∧ Hid (Lq w p q (kAw x1 (lb.take (k + 1))) csc cs2 V2 R2 wx) ∧ Hid (Gt X2 Rb Va p V2 R2 wx))
   case first =>
    refine kBu (Fr Vc.own wr) (.rd 0 (.rd 1 (.rd 2 (.rd 3 (.rd 4 (.rd 5 (.alt 6 (.rd 7 (.rd 8 (.rd 9 (.eff 10 (.eff 11 (.rd 12 .nil)))))) 10 (.eff 6 (.rd 7 (.rd 8 (.rd 9 (.eff 11 (.rd 12 .nil))))))))))))) kr kr kr rfl (Fr.refl _ _).drew ?_
    refine rT tvv ?_
    refine kGX rfl rfl 39 _ rfl p 0 (by rfl) csc _ (fun X hX => RX.o X hX) underlying39 (by rfl) (HI.o _ CL.o) ?_
    simp only [zC, Act.put]
    refine rT tvv ?_
    refine kGX rfl rfl 76 _ rfl g (o + k * 38) (by rfl) ds _ (fun X hX => RA.o X hX) underlying76 (by rfl) (HIA.o _ DL.o) ?_
    simp only [zC, Act.put]
    clear RX RA
    refine kCl ?_ ?_
    · refine wpT_eff rfl rfl fun K hK => sz ?_
      refine (HPL.o _ Rc (Fr.refl No wr).drew (LPc.o.no (Fr.refl No wr).drew)).mono ?_
      rintro e Y ⟨V2, R2, cs2, rfl, hb, hg⟩
      have SY := hid (((Fr.refl Vc.own wr).drew).trans hg.fr i3)
      have L0 := hid (LPc.o.no (Fr.refl No wr).drew)
      have HBB := hid hb
      have HG := hid hg
      have G2 := hid ((GTc.o.no (Fr.refl No wr).drew).grow hg)
      have HL2 : Hid (cs2.length = 10) := TyOk.len _ _ _ _ hb.rf
      have HO2 : Hid (cs2.all (·.oneCell') = true) := List.all_eq_true.2 ((inferInstance : kAG tRx).one _ _ _ _ hb.rf)
      clear hb hg
      refine hK _ _ (SY.o) ?_
      clear hK K
      refine rT tvv ?_
      refine wpT_eff rfl rfl fun K hK => sz ?_
      have BZ := hid (Blk.new Y 39 kAm)
      have SZ := hid (SY.o.alloc (.cells kAm 39))
      have FZ := hid ((Fr.refl No Y).alloc (.cells kAm 39))
      obtain ⟨q, hq⟩ : ∃ q, Y.heap.size = q := ⟨_, rfl⟩
      have LQ : Hid (wr.heap.size ≤ q ∧ Y.heap.size ≤ q) := hid (by have := SY.o.size; exact ⟨by omega, by omega⟩)
      rw [hq] at BZ ⊢
      clear hq
      generalize Y.alloc (.cells kAm 39) = Z at *
      refine hK _ _ (SZ.o) ?_
      clear hK K
      have HT : Hid (Z.there q 0 cs2.toArray.size) := by
       have h := there_blk (n := 10) BZ.o rfl
       exact yy47
      have HJ : Hid ((prog.info? 39).map (·.size) = some cs2.toArray.size) := HI.o _ (show cs2.toArray.size = 10 from HL2.o)
      have HO3 : Hid (cs2.toArray.all (·.oneCell') = true) := hid (by have := HO2.o; simpa using this)
      refine wpT_eff rfl rfl (fun K hK => ?_)
      simp only [zA]
      refine wp_store_mid 39 _ _ (by rfl) q 0 cs2.toArray (by rfl) (by rfl) HT.o HJ.o HO3.o ?_
      refine hK _ _ (Fr.setCells' (a := wr) (M := Vc.own) (b := q) (fun h => absurd h (by have := LQ.o.1; omega)) cs2 0 Z SZ.o) ?_
      exact yy32
    · refine wpT_eff rfl rfl fun K hK => sz ?_
      have BZ := hid ((Blk.new wr 39 kAm).drew)
      have SZ := hid (((Fr.refl Vc.own wr).alloc (.cells kAm 39)).drew)
      have FZ := hid (((Fr.refl No wr).alloc (.cells kAm 39)).drew)
      have L0 := hid (LPc.o.more FZ.o (q := wr.heap.size) nr BZ.o.lt)
      have G0 := hid (GTc.o.more FZ.o (q := wr.heap.size) nr)
      have NQ : Hid (¬ Vc.own wr.heap.size ∧ p ≠ wr.heap.size) := ⟨fun o => by have := LPc.o.b.pr.low _ (LPc.o.b.pr.own _ o); omega, fun e => by have := LPc.o.bx.lt; omega⟩
      obtain ⟨q, hq⟩ : ∃ q, wr.heap.size = q := ⟨_, rfl⟩
      rw [hq] at BZ L0 G0 NQ ⊢
      have LQ : Hid (wr.heap.size ≤ q) := hid om
      have GS : Hid (X2.heap.size ≤ q) := hid (by have := GTc.o.fr.size; omega)
      clear hq
      generalize (wr.alloc (.cells kAm 39)).drew = Z at *
      refine hK _ _ (SZ.o) ?_
      clear hK K
      refine wpT_eff rfl rfl fun K hK => sz ?_
      refine (HPL.o _ _ FZ.o L0.o).mono ?_
      rintro e Y ⟨V2, R2, cs2, rfl, hb, hg⟩
      have SY := hid (SZ.o.trans hg.fr i3)
      have BY := hid (BZ.o.fr hg.fr NQ.o.1)
      have HBB := hid hb
      have HG := hid hg
      have G2 := hid (G0.o.grow hg)
      have HL2 : Hid (cs2.length = 10) := TyOk.len _ _ _ _ hb.rf
      have HO2 : Hid (cs2.all (·.oneCell') = true) := List.all_eq_true.2 ((inferInstance : kAG tRx).one _ _ _ _ hb.rf)
      clear hb hg
      refine hK _ _ (SY.o) ?_
      clear hK K
      refine rT tvv ?_
      have HT : Hid (Y.there q 0 cs2.toArray.size) := by
       have h := there_blk (n := 10) BY.o rfl
       exact yy47
      have HJ : Hid ((prog.info? 39).map (·.size) = some cs2.toArray.size) := HI.o _ (show cs2.toArray.size = 10 from HL2.o)
      have HO3 : Hid (cs2.toArray.all (·.oneCell') = true) := hid (by have := HO2.o; simpa using this)
      refine wpT_eff rfl rfl (fun K hK => ?_)
      simp only [zA]
      refine wp_store_mid 39 _ _ (by rfl) q 0 cs2.toArray (by rfl) (by rfl) HT.o HJ.o HO3.o ?_
      refine hK _ _ (Fr.setCells' (a := wr) (M := Vc.own) (b := q) (fun h => absurd h (by have := LQ.o; omega)) cs2 0 Y SY.o) ?_
      exact yy38
   obtain ⟨q, cs2, V2, R2, rfl, rfl, hPc, LQ, GQ⟩ := hcut
   have RQ : wc.rangeAt q 0 cs2 := by simpa using rangeAt_blk LQ.o.bq
   have HL2 : Hid (cs2.length = 10) := TyOk.len _ _ _ _ LQ.o.b.rf
   have HT : Hid (wc.there p 0 cs2.toArray.size) := by
    have h := there_blk (n := 10) LQ.o.bx (show csc.toArray.size = 10 from CL.o)
    exact yy47
   have HJ : Hid ((prog.info? 39).map (·.size) = some cs2.toArray.size) := HI.o _ (show cs2.toArray.size = 10 from HL2.o)
   have HO3 : Hid (cs2.toArray.all (·.oneCell') = true) := hid (by
    have h : cs2.all (·.oneCell') = true := List.all_eq_true.2 ((inferInstance : kAG tRx).one _ _ _ _ LQ.o.b.rf)
    simpa using h)
   go_upto_region 32 with (first
    | (refine wpList_load_mid (by rfl) 39 _ (by rfl) q 0 (by rfl) _ _ RQ underlying39 (by rfl) (HI.o _ HL2.o) ?_)
    | (refine wpList_store_mid (by rfl) 39 _ _ (by rfl) p 0 cs2.toArray (by rfl) (by rfl) HT.o HJ.o HO3.o ?_)
    | fail)
   have LP2 : Hid (Lp w p (kAw x1 (lb.take (k + 1))) cs2 V2 R2 (wc.setCells p 0 cs2)) := LQ.o.put
   have G2 := hid (GQ.o.fr2 (Fr.setCells' (M := One p) (b := p) (fun _ => rfl) cs2 0 wc (Fr.refl _ wc)) (.inl rfl))
   clear RQ HT HJ HO3 LQ LPc GQ GTc RA RX HPL
   have e9 : wrap64 ((k : Int) + 1) = ((k + 1 : Nat) : Int) := by have := HNK.o; simp only [wrap64]; omega
   generalize wc.setCells p 0 cs2 = W2 at *
   go_wp2
   go_roundw
   case rel => exact ⟨k + 1, cs2, V2, R2, HLT.o, by rw [e9], hPc, LP2.o, G2.o⟩
   rw [e9]; exact meas HLT.o
 have hkn : k = lb.length := om
 subst hkn
 rw [List.take_length] at LPc HINc
 clear hk hlt HNK
 obtain ⟨Y8, hY⟩ : ∃ Y, Y = wr := ⟨_, rfl⟩
 subst hY
 rw [← HX2.o] at LPc HINc
 subst hPc
 have WS8 := hid (WS7.o.gt GTc.o LP7.o.b.pr LP7.o.rp)
 have SD6 := hid (GTc.o.beside LP7.o.b.pr LP7.o.rp LPc.o.b.pr.low SD5.o NN.o.2 NP2.o.2)
 have SC7 := hid (GTc.o.beside LP7.o.b.pr LP7.o.rp LPc.o.b.pr.low SC6.o NN.o.1 NP2.o.1)
 have SS := hid LPc.o.b.pr
 have FW := hid LPc.o.fr
 clear LP7 WS7 SD5 SC6 GTc LPc
 go_upto_region 34 with fail
 refine rwP (Fr No Y8) [] [0, 2, 1, 3, 4, 5, 6, 8, 7, 9, 10, 11, 12, 13, 15, 14, 16, 17, 18, 19, 20, 21] [1, 3, 4, 7, 9, 10, 14, 16, 19] (Fr.refl _ _).drew ?_
 refine rP tvv ?_
 refine kAE rfl rfl fun K hK => sz ?_
 refine (kHH (SS.o.frNo (Fr.refl No Y8).drew) (HINc.o.sh (by have := LA60.o; have := LB60.o; omega))).mono ?_
 rintro e S10 ⟨es10, rfl, he, fs⟩
 have FS10 := hid (Fr.trans (Fr.refl No Y8).drew fs i3)
 have HE10 := hid he
 clear he fs
 refine hK _ _ (fun _ => FS10.o) ?_
 clear hK K
 refine kAE rfl rfl fun K hK => sz ?_
 refine (kHH (SC7.o.frNo FS10.o) (HINc.o.sh (by have := LA60.o; have := LB60.o; omega))).mono ?_
 rintro e S11 ⟨es11, rfl, he, fs⟩
 have FS11 := hid (Fr.trans FS10.o fs i3)
 have HE11 := hid he
 have HU11 := hid (kAH (S' := (· < S11.heap.size)) HE10.o fs (fun _ h => h.2) (fun _ h => ltl h.2 fs.size))
 clear he fs
 refine hK _ _ (fun _ => FS11.o) ?_
 clear hK K
 refine kAE rfl rfl fun K hK => sz ?_
 have HSM := kIN (kAi x2) (kAi x2) es10 es11 _ _ S11 HU11.o (TyMore.more _ _ _ _ _ HE11.o (fun _ h => h.2)) i2 i2 (HINc.o.le (by have := LA60.o; have := LB60.o; omega)) (HINc.o.le (by have := LA60.o; have := LB60.o; omega))
 rw [kKh] at HSM
 refine HSM.mono ?_
 rintro e T11 ⟨rfl, fs⟩
 have FT11 := ftr FS11 fs
 clear fs HSM
 refine hK _ _ (fun _ => FT11.o) ?_
 clear hK K
 refine rP tvv ?_
 refine kAE rfl rfl fun K hK => sz ?_
 refine (kHH (SS.o.frNo FT11.o) (HINc.o.sh (by have := LA60.o; have := LB60.o; omega))).mono ?_
 rintro e S20 ⟨es20, rfl, he, fs⟩
 have FS20 := hid (Fr.trans FT11.o fs i3)
 have HE20 := hid he
 clear he fs
 refine hK _ _ (fun _ => FS20.o) ?_
 clear hK K
 refine kAE rfl rfl fun K hK => sz ?_
 refine (kHH (SC7.o.frNo FS20.o) (HINc.o.sh (by have := LA60.o; have := LB60.o; omega))).mono ?_
 rintro e S21 ⟨es21, rfl, he, fs⟩
 have FS21 := hid (Fr.trans FS20.o fs i3)
 have HE21 := hid he
 have HU21 := hid (kAH (S' := (· < S21.heap.size)) HE20.o fs (fun _ h => h.2) (fun _ h => ltl h.2 fs.size))
 clear he fs
 refine hK _ _ (fun _ => FS21.o) ?_
 clear hK K
 refine kAE rfl rfl fun K hK => sz ?_
 have HSM := kEb (kAi x2) (kAi x2) es20 es21 _ _ S21 HU21.o (TyMore.more _ _ _ _ _ HE21.o (fun _ h => h.2)) i2 i2 (HINc.o.le (by have := LA60.o; have := LB60.o; omega)) (HINc.o.le (by have := LA60.o; have := LB60.o; omega))
 rw [kKh] at HSM
 refine HSM.mono ?_
 rintro e T21 ⟨rfl, fs⟩
 have FT21 := ftr FS21 fs
 clear fs HSM
 refine hK _ _ (fun _ => FT21.o) ?_
 clear hK K
 refine rP tvv ?_
 refine kAp rfl rfl rfl 83 _ rfl D 0 (by rfl) ds _ (fun X hX => WS8.o.range hX) underlying83 (by rfl) (HIS.o _ SL.o) ?_
 simp only [zC, Act.put]
 refine kAE rfl rfl fun K hK => sz ?_
 refine (kHH (SD6.o.frNo FT21.o) (I1.o.sh (by have := LA60.o; omega))).mono ?_
 rintro e S30 ⟨es30, rfl, he, fs⟩
 have FS30 := hid (Fr.trans FT21.o fs i3)
 have HE30 := hid he
 clear he fs
 refine hK _ _ (fun _ => FS30.o) ?_
 clear hK K
 refine kAE rfl rfl fun K hK => sz ?_
 have HSM := kIN (kAi x1) (kAi x1) es30 ds _ _ S30 HE30.o (WS8.o.no FS30.o).rd (fun _ h => h.2) (fun _ h => h.1) (I1.o.le (by have := LA60.o; omega)) (I1.o.le (by have := LA60.o; omega))
 rw [kKh] at HSM
 refine HSM.mono ?_
 rintro e T30 ⟨rfl, fs⟩
 have FT30 := ftr FS30 fs
 clear fs HSM
 refine hK _ _ (fun _ => FT30.o) ?_
 clear hK K
 refine rP tvv ?_
 refine kAE rfl rfl fun K hK => sz ?_
 refine (kEZ _).mono ?_
 rintro e Z9 ⟨rfl, fs⟩
 have F9 := ftr FT30 fs
 clear fs
 refine hK _ _ (fun _ => F9.o) ?_
 clear hK K
 refine rP tvv ?_
 refine kAj ?_
 go_wp2
 go_ret
 exact ⟨rfl, FW.o.trans F9.o i3⟩
end Go.Proofs.YtdckghiipijobaaGreat
