/- Part 7 of the proof: lemmas and contracts of functions. No condition. -/
import Derived.Test.YthggdemiddjlgaaGreatS2
import Derived.Test.YthggdemiddjlgaaGreatS6
import Derived.Test.YthggdemiddjlgaaGreatS1
set_option maxRecDepth 100000
set_option maxHeartbeats 12800000
set_option linter.unusedVariables false
set_option linter.unusedSimpArgs false
set_option linter.unusedSectionVars false
namespace Go.Proofs.YthggdemiddjlgaaGreat
open Go.RowKit Go.Proofs.Tryz
abbrev q7x3 (a0 a1 a2 a3 a4 a5 : Option Addr) (a6 : Ad) (a7 a8 a9 a10 a11 a12 : Nat) : Array Value := #[.slice a0 a6.funcs.length a7, .slice a1 a6.tables.length a8, .slice a2 a6.mems.length a9, .slice a3 a6.globals.length a10, .slice a4 a6.elems.length a11, .slice a5 a6.datas.length a12]
abbrev q7x4 (a0 a1 a2 a3 a4 a5 : Option Addr) (a6 : Ad) (a7 a8 a9 a10 a11 a12 : Nat) : List Value := [.slice a0 a6.funcs.length a7, .slice a1 a6.tables.length a8, .slice a2 a6.mems.length a9, .slice a3 a6.globals.length a10, .slice a4 a6.elems.length a11, .slice a5 a6.datas.length a12]
abbrev q7x7 : Array Value := #[.slice none 0 0, .slice none 0 0, .slice none 0 0, .slice none 0 0, .slice none 0 0, .slice none 0 0]
theorem kCD (a : Ad) {ms : LV} (S : Nat → Prop) (w : World) (h : tAd.rd w S ms a) (hS : Lt S w) (b0 : a.funcs.length * 8 ≤ 140737488351232) (b1 : a.tables.length * 8 ≤ 140737488351232) (b2 : a.mems.length * 8 ≤ 140737488351232) (b3 : a.globals.length * 8 ≤ 140737488351232) (b4 : a.elems.length * 8 ≤ 140737488351232) (b5 : a.datas.length * 8 ≤ 140737488351232) :
    Calls prog 70 #[.agg ms.toArray] w (kAN tAd a w) := by
 obtain ⟨P0, p0, P1, p1, P2, p2, P3, p3, P4, p4, P5, p5, rfl, -, -, h0, -, -, h1, -, -, h2, -, -, h3, -, -, h4, -, -, h5⟩ := kBT h
 have F0 := hid (((Fr.refl No w).alloc (.cells (q7x3 P0 P1 P2 P3 P4 P5 a p0 p1 p2 p3 p4 p5) 100)).alloc (.cells q7x7 100))
 have G0 := hid ((Blk.new w 100 (q7x3 P0 P1 P2 P3 P4 P5 a p0 p1 p2 p3 p4 p5)).alloc (.cells q7x7 100))
 have G1 := hid (Blk.new1 w (.cells (q7x3 P0 P1 P2 P3 P4 P5 a p0 p1 p2 p3 p4 p5) 100) 100 q7x7)
 have H0 := hid h0
 have HB0 := hid b0
 have H1 := hid h1
 have HB1 := hid b1
 have H2 := hid h2
 have HB2 := hid b2
 have H3 := hid h3
 have HB3 := hid b3
 have H4 := hid h4
 have HB4 := hid b4
 have H5 := hid h5
 have HB5 := hid b5
 have HS := hid hS
 clear h hS h0 b0 h1 b1 h2 b2 h3 b3 h4 b4 h5 b5
 go_enter func70, ntmps70
 go_upto_region 1 with fail
 generalize (w.alloc (.cells (q7x3 P0 P1 P2 P3 P4 P5 a p0 p1 p2 p3 p4 p5) 100)).alloc (.cells q7x7 100) = W at *
 have HSW : Hid (Lt S W) := fun k hk => ltl (HS.o k hk) F0.o.size
 have HX : Hid (∀ X, Fr No W X → Ce X w.heap.size 0 (.slice P0 a.funcs.length p0) ∧ Ce X w.heap.size 1 (.slice P1 a.tables.length p1) ∧ Ce X w.heap.size 2 (.slice P2 a.mems.length p2) ∧ Ce X w.heap.size 3 (.slice P3 a.globals.length p3) ∧ Ce X w.heap.size 4 (.slice P4 a.elems.length p4) ∧ Ce X w.heap.size 5 (.slice P5 a.datas.length p5)) := fun X g => ⟨(G0.o.fr g id).cell 0, (G0.o.fr g id).cell 1, (G0.o.fr g id).cell 2, (G0.o.fr g id).cell 3, (G0.o.fr g id).cell 4, (G0.o.fr g id).cell 5⟩
 refine rwO (fun X => Ce X w.heap.size 0 (.slice P0 a.funcs.length p0) ∧ Ce X w.heap.size 1 (.slice P1 a.tables.length p1) ∧ Ce X w.heap.size 2 (.slice P2 a.mems.length p2) ∧ Ce X w.heap.size 3 (.slice P3 a.globals.length p3) ∧ Ce X w.heap.size 4 (.slice P4 a.elems.length p4) ∧ Ce X w.heap.size 5 (.slice P5 a.datas.length p5)) [19] [0, 1, 3, 4, 6, 7, 9, 10, 12, 13, 15, 16, 2, 5, 8, 11, 14, 17, 18, 19] [2, 5, 8, 11, 14, 17, 19] (HX.o _ (Fr.refl No _).drew) ?_
 have FZ := hid (Fr.refl No W).drew
 refine rC ?_
 refine wpO_eff rfl rfl fun K hK => sz ?_
 refine (kAd P0 p0 a.funcs S _ (els_up H0.o (F0.o.trans FZ.o i3) HS.o i2) (fun k hk => ltl (HSW.o k hk) FZ.o.size) HB0.o).mono ?_
 rintro e w0 ⟨B0, d0, rfl, hr, f1⟩
 obtain ⟨l1, l2, el⟩ := kAe hr
 have E0 : Hid (a.funcs.length ≤ d0 ∧ d0 ≤ maxLen ∧ tI.els w0 (Nw W w0) B0 a.funcs) := ⟨l1, l2, kAv el (fun k o e hk => by subst e; obtain ⟨g1, _, g2⟩ := hr.own (g := k) (by have := hr; obtain ⟨css, _, ho⟩ := this; rcases ho.2 with ⟨hv, _⟩ | ⟨g, cap, cur, hv, _⟩; (cases hv); (injection hv with q1 _ _; injection q1 with q1; injection q1 with q1 _ _; subst q1; rfl)); exact ⟨Nat.le_trans FZ.o.size g1, g2.lt⟩)⟩
 replace FZ := ftr FZ f1
 clear f1 hr el l1 l2
 refine hK _ _ (fun _ => HX.o _ FZ.o) ?_
 clear hK K
 refine rC ?_
 refine wpO_eff rfl rfl fun K hK => sz ?_
 refine (kAd P1 p1 a.tables S _ (els_up H1.o (F0.o.trans FZ.o i3) HS.o i2) (fun k hk => ltl (HSW.o k hk) FZ.o.size) HB1.o).mono ?_
 rintro e w1 ⟨B1, d1, rfl, hr, f1⟩
 obtain ⟨l1, l2, el⟩ := kAe hr
 have E1 : Hid (a.tables.length ≤ d1 ∧ d1 ≤ maxLen ∧ tI.els w1 (Nw W w1) B1 a.tables) := ⟨l1, l2, kAv el (fun k o e hk => by subst e; obtain ⟨g1, _, g2⟩ := hr.own (g := k) (by have := hr; obtain ⟨css, _, ho⟩ := this; rcases ho.2 with ⟨hv, _⟩ | ⟨g, cap, cur, hv, _⟩; (cases hv); (injection hv with q1 _ _; injection q1 with q1; injection q1 with q1 _ _; subst q1; rfl)); exact ⟨Nat.le_trans FZ.o.size g1, g2.lt⟩)⟩
 replace E0 : Hid (a.funcs.length ≤ d0 ∧ d0 ≤ maxLen ∧ tI.els w1 (Nw W w1) B0 a.funcs) := ⟨E0.o.1, E0.o.2.1, els_up E0.o.2.2 f1 (fun k hk => hk.2) (fun k hk => ⟨hk.1, ltl hk.2 f1.size⟩)⟩
 replace FZ := ftr FZ f1
 clear f1 hr el l1 l2
 refine hK _ _ (fun _ => HX.o _ FZ.o) ?_
 clear hK K
 refine rC ?_
 refine wpO_eff rfl rfl fun K hK => sz ?_
 refine (kAd P2 p2 a.mems S _ (els_up H2.o (F0.o.trans FZ.o i3) HS.o i2) (fun k hk => ltl (HSW.o k hk) FZ.o.size) HB2.o).mono ?_
 rintro e w2 ⟨B2, d2, rfl, hr, f1⟩
 obtain ⟨l1, l2, el⟩ := kAe hr
 have E2 : Hid (a.mems.length ≤ d2 ∧ d2 ≤ maxLen ∧ tI.els w2 (Nw W w2) B2 a.mems) := ⟨l1, l2, kAv el (fun k o e hk => by subst e; obtain ⟨g1, _, g2⟩ := hr.own (g := k) (by have := hr; obtain ⟨css, _, ho⟩ := this; rcases ho.2 with ⟨hv, _⟩ | ⟨g, cap, cur, hv, _⟩; (cases hv); (injection hv with q1 _ _; injection q1 with q1; injection q1 with q1 _ _; subst q1; rfl)); exact ⟨Nat.le_trans FZ.o.size g1, g2.lt⟩)⟩
 replace E0 : Hid (a.funcs.length ≤ d0 ∧ d0 ≤ maxLen ∧ tI.els w2 (Nw W w2) B0 a.funcs) := ⟨E0.o.1, E0.o.2.1, els_up E0.o.2.2 f1 (fun k hk => hk.2) (fun k hk => ⟨hk.1, ltl hk.2 f1.size⟩)⟩
 replace E1 : Hid (a.tables.length ≤ d1 ∧ d1 ≤ maxLen ∧ tI.els w2 (Nw W w2) B1 a.tables) := ⟨E1.o.1, E1.o.2.1, els_up E1.o.2.2 f1 (fun k hk => hk.2) (fun k hk => ⟨hk.1, ltl hk.2 f1.size⟩)⟩
 replace FZ := ftr FZ f1
 clear f1 hr el l1 l2
 refine hK _ _ (fun _ => HX.o _ FZ.o) ?_
 clear hK K
 refine rC ?_
 refine wpO_eff rfl rfl fun K hK => sz ?_
 refine (kAd P3 p3 a.globals S _ (els_up H3.o (F0.o.trans FZ.o i3) HS.o i2) (fun k hk => ltl (HSW.o k hk) FZ.o.size) HB3.o).mono ?_
 rintro e w3 ⟨B3, d3, rfl, hr, f1⟩
 obtain ⟨l1, l2, el⟩ := kAe hr
 have E3 : Hid (a.globals.length ≤ d3 ∧ d3 ≤ maxLen ∧ tI.els w3 (Nw W w3) B3 a.globals) := ⟨l1, l2, kAv el (fun k o e hk => by subst e; obtain ⟨g1, _, g2⟩ := hr.own (g := k) (by have := hr; obtain ⟨css, _, ho⟩ := this; rcases ho.2 with ⟨hv, _⟩ | ⟨g, cap, cur, hv, _⟩; (cases hv); (injection hv with q1 _ _; injection q1 with q1; injection q1 with q1 _ _; subst q1; rfl)); exact ⟨Nat.le_trans FZ.o.size g1, g2.lt⟩)⟩
 replace E0 : Hid (a.funcs.length ≤ d0 ∧ d0 ≤ maxLen ∧ tI.els w3 (Nw W w3) B0 a.funcs) := ⟨E0.o.1, E0.o.2.1, els_up E0.o.2.2 f1 (fun k hk => hk.2) (fun k hk => ⟨hk.1, ltl hk.2 f1.size⟩)⟩
 replace E1 : Hid (a.tables.length ≤ d1 ∧ d1 ≤ maxLen ∧ tI.els w3 (Nw W w3) B1 a.tables) := ⟨E1.o.1, E1.o.2.1, els_up E1.o.2.2 f1 (fun k hk => hk.2) (fun k hk => ⟨hk.1, ltl hk.2 f1.size⟩)⟩
 replace E2 : Hid (a.mems.length ≤ d2 ∧ d2 ≤ maxLen ∧ tI.els w3 (Nw W w3) B2 a.mems) := ⟨E2.o.1, E2.o.2.1, els_up E2.o.2.2 f1 (fun k hk => hk.2) (fun k hk => ⟨hk.1, ltl hk.2 f1.size⟩)⟩
 replace FZ := ftr FZ f1
 clear f1 hr el l1 l2
 refine hK _ _ (fun _ => HX.o _ FZ.o) ?_
 clear hK K
 refine rC ?_
 refine wpO_eff rfl rfl fun K hK => sz ?_
 refine (kAd P4 p4 a.elems S _ (els_up H4.o (F0.o.trans FZ.o i3) HS.o i2) (fun k hk => ltl (HSW.o k hk) FZ.o.size) HB4.o).mono ?_
 rintro e w4 ⟨B4, d4, rfl, hr, f1⟩
 obtain ⟨l1, l2, el⟩ := kAe hr
 have E4 : Hid (a.elems.length ≤ d4 ∧ d4 ≤ maxLen ∧ tI.els w4 (Nw W w4) B4 a.elems) := ⟨l1, l2, kAv el (fun k o e hk => by subst e; obtain ⟨g1, _, g2⟩ := hr.own (g := k) (by have := hr; obtain ⟨css, _, ho⟩ := this; rcases ho.2 with ⟨hv, _⟩ | ⟨g, cap, cur, hv, _⟩; (cases hv); (injection hv with q1 _ _; injection q1 with q1; injection q1 with q1 _ _; subst q1; rfl)); exact ⟨Nat.le_trans FZ.o.size g1, g2.lt⟩)⟩
 replace E0 : Hid (a.funcs.length ≤ d0 ∧ d0 ≤ maxLen ∧ tI.els w4 (Nw W w4) B0 a.funcs) := ⟨E0.o.1, E0.o.2.1, els_up E0.o.2.2 f1 (fun k hk => hk.2) (fun k hk => ⟨hk.1, ltl hk.2 f1.size⟩)⟩
 replace E1 : Hid (a.tables.length ≤ d1 ∧ d1 ≤ maxLen ∧ tI.els w4 (Nw W w4) B1 a.tables) := ⟨E1.o.1, E1.o.2.1, els_up E1.o.2.2 f1 (fun k hk => hk.2) (fun k hk => ⟨hk.1, ltl hk.2 f1.size⟩)⟩
 replace E2 : Hid (a.mems.length ≤ d2 ∧ d2 ≤ maxLen ∧ tI.els w4 (Nw W w4) B2 a.mems) := ⟨E2.o.1, E2.o.2.1, els_up E2.o.2.2 f1 (fun k hk => hk.2) (fun k hk => ⟨hk.1, ltl hk.2 f1.size⟩)⟩
 replace E3 : Hid (a.globals.length ≤ d3 ∧ d3 ≤ maxLen ∧ tI.els w4 (Nw W w4) B3 a.globals) := ⟨E3.o.1, E3.o.2.1, els_up E3.o.2.2 f1 (fun k hk => hk.2) (fun k hk => ⟨hk.1, ltl hk.2 f1.size⟩)⟩
 replace FZ := ftr FZ f1
 clear f1 hr el l1 l2
 refine hK _ _ (fun _ => HX.o _ FZ.o) ?_
 clear hK K
 refine rC ?_
 refine wpO_eff rfl rfl fun K hK => sz ?_
 refine (kAd P5 p5 a.datas S _ (els_up H5.o (F0.o.trans FZ.o i3) HS.o i2) (fun k hk => ltl (HSW.o k hk) FZ.o.size) HB5.o).mono ?_
 rintro e w5 ⟨B5, d5, rfl, hr, f1⟩
 obtain ⟨l1, l2, el⟩ := kAe hr
 have E5 : Hid (a.datas.length ≤ d5 ∧ d5 ≤ maxLen ∧ tI.els w5 (Nw W w5) B5 a.datas) := ⟨l1, l2, kAv el (fun k o e hk => by subst e; obtain ⟨g1, _, g2⟩ := hr.own (g := k) (by have := hr; obtain ⟨css, _, ho⟩ := this; rcases ho.2 with ⟨hv, _⟩ | ⟨g, cap, cur, hv, _⟩; (cases hv); (injection hv with q1 _ _; injection q1 with q1; injection q1 with q1 _ _; subst q1; rfl)); exact ⟨Nat.le_trans FZ.o.size g1, g2.lt⟩)⟩
 replace E0 : Hid (a.funcs.length ≤ d0 ∧ d0 ≤ maxLen ∧ tI.els w5 (Nw W w5) B0 a.funcs) := ⟨E0.o.1, E0.o.2.1, els_up E0.o.2.2 f1 (fun k hk => hk.2) (fun k hk => ⟨hk.1, ltl hk.2 f1.size⟩)⟩
 replace E1 : Hid (a.tables.length ≤ d1 ∧ d1 ≤ maxLen ∧ tI.els w5 (Nw W w5) B1 a.tables) := ⟨E1.o.1, E1.o.2.1, els_up E1.o.2.2 f1 (fun k hk => hk.2) (fun k hk => ⟨hk.1, ltl hk.2 f1.size⟩)⟩
 replace E2 : Hid (a.mems.length ≤ d2 ∧ d2 ≤ maxLen ∧ tI.els w5 (Nw W w5) B2 a.mems) := ⟨E2.o.1, E2.o.2.1, els_up E2.o.2.2 f1 (fun k hk => hk.2) (fun k hk => ⟨hk.1, ltl hk.2 f1.size⟩)⟩
 replace E3 : Hid (a.globals.length ≤ d3 ∧ d3 ≤ maxLen ∧ tI.els w5 (Nw W w5) B3 a.globals) := ⟨E3.o.1, E3.o.2.1, els_up E3.o.2.2 f1 (fun k hk => hk.2) (fun k hk => ⟨hk.1, ltl hk.2 f1.size⟩)⟩
 replace E4 : Hid (a.elems.length ≤ d4 ∧ d4 ≤ maxLen ∧ tI.els w5 (Nw W w5) B4 a.elems) := ⟨E4.o.1, E4.o.2.1, els_up E4.o.2.2 f1 (fun k hk => hk.2) (fun k hk => ⟨hk.1, ltl hk.2 f1.size⟩)⟩
 replace FZ := ftr FZ f1
 clear f1 hr el l1 l2
 refine hK _ _ (fun _ => HX.o _ FZ.o) ?_
 clear hK K
 refine rC ?_
 have GZ := hid (G1.o.fr FZ.o id)
 refine wpO_eff rfl rfl (fun K hK => ?_)
 simp only [zA]
 refine wp_store_mid 100 _ _ (by rfl) (w.heap.size + 1) 0 #[.slice B0 a.funcs.length d0, .slice B1 a.tables.length d1, .slice B2 a.mems.length d2, .slice B3 a.globals.length d3, .slice B4 a.elems.length d4, .slice B5 a.datas.length d5] (by rfl) (by rfl) (there_blk GZ.o rfl) kr (by simp [Value.oneCell']) ?_
 refine hK _ _ (fun h => by cases h) ?_
 clear hK K
 refine wpO_nil ?_
 have FT := Fr.setCells' (a := w) (b := w.heap.size + 1) (M := No) (fun h => absurd h om) (q7x4 B0 B1 B2 B3 B4 B5 a d0 d1 d2 d3 d4 d5) 0 w5 (F0.o.trans FZ.o i3)
 have FY := Fr.setCells' (M := fun q => q = w.heap.size + 1) (b := w.heap.size + 1) (fun _ => rfl) (q7x4 B0 B1 B2 B3 B4 B5 a d0 d1 d2 d3 d4 d5) 0 w5 (Fr.refl _ w5)
 have RR := World.rangeAt_setCells_same w5 (w.heap.size + 1) 0 (q7x4 B0 B1 B2 B3 B4 B5 a d0 d1 d2 d3 d4 d5) (there_blk GZ.o rfl)
 have hG := G1.o.lt
 go_wp2
 refine bodyPost_ret (v := .agg (q7x4 B0 B1 B2 B3 B4 B5 a d0 d1 d2 d3 d4 d5).toArray) (kBK (fn := f70) (p := 2) (ty := 100) rfl _ _ (w.heap.size + 1) _ _ (by rfl) RR underlying100 (by rfl) kr) rfl ?_
 exact ⟨_, rfl, kKE (a := a) E0.o.1 E0.o.2.1 ((E0.o.2.2.fr FY (fun k hk => ⟨hk.2, by have := hk.1; omega⟩)).more (fun k hk => ⟨Nat.le_trans F0.o.size hk.1, ltl hk.2 FY.size⟩)) E1.o.1 E1.o.2.1 ((E1.o.2.2.fr FY (fun k hk => ⟨hk.2, by have := hk.1; omega⟩)).more (fun k hk => ⟨Nat.le_trans F0.o.size hk.1, ltl hk.2 FY.size⟩)) E2.o.1 E2.o.2.1 ((E2.o.2.2.fr FY (fun k hk => ⟨hk.2, by have := hk.1; omega⟩)).more (fun k hk => ⟨Nat.le_trans F0.o.size hk.1, ltl hk.2 FY.size⟩)) E3.o.1 E3.o.2.1 ((E3.o.2.2.fr FY (fun k hk => ⟨hk.2, by have := hk.1; omega⟩)).more (fun k hk => ⟨Nat.le_trans F0.o.size hk.1, ltl hk.2 FY.size⟩)) E4.o.1 E4.o.2.1 ((E4.o.2.2.fr FY (fun k hk => ⟨hk.2, by have := hk.1; omega⟩)).more (fun k hk => ⟨Nat.le_trans F0.o.size hk.1, ltl hk.2 FY.size⟩)) E5.o.1 E5.o.2.1 ((E5.o.2.2.fr FY (fun k hk => ⟨hk.2, by have := hk.1; omega⟩)).more (fun k hk => ⟨Nat.le_trans F0.o.size hk.1, ltl hk.2 FY.size⟩)), FT⟩
def EachTo {α : Type} (t : Ty α) (l : List α) (w : World) (e : Ending) (w' : World) : Prop :=
 ∃ (A : OA) (c : Nat), e = .returned (.slice A l.length c) ∧ l.length ≤ c ∧ c ≤ maxLen ∧ t.els w' (Nw w w') A l ∧ Fr No w w'
def Sv (w wr : World) (v : Value) (q : Nat) : Prop := Nw w wr q ∧ ¬ some q = v.ownBlock
section
variable {α : Type} {t : Ty α} [hok : TyOk t] [hm : TyMore t] {w wr w2 : World} {e : TypeId} {v : Value} {xs : List α} {x : α} {es : LV}
theorem kAw [hone : kAG t] {P : Program} {ts : TypeId} {bytes : Nat} {z : Value} {ops : Array Oper} {rest : List Oper} {o : Oper} {a : Act} {Q : Exit → Act → World → Prop} (E : ElemOk P ts e t.size bytes z) (F1 : Fr No w wr) (HR : t.row wr w.heap.size (Sv w wr v) e v xs) (f2 : Fr No wr w2) (hr : t.rd w2 (Nw wr w2) es x) (hl : xs.length ≤ 1048576) (hby : bytes ≤ 1000)
    (h : ∀ v3 w3, Fr No w w3 → t.row w3 w.heap.size (Sv w w3 v3) e v3 (xs ++ [x]) → wpList P ops Q rest (a.put o.dst v3) w3)
    (hgd : o.guard = none := by rfl) {s y : Operand} (ho : o.op = .call { callee := .builtin .append, args := #[s, y], argTypes := #[ts, ts] } := by rfl) (hs : a.eval s = v := by rfl) {cs : Nat} (hx : a.eval y = .slice (some ⟨w2.heap.size, 0, none⟩) 1 cs := by rfl) :
    wpList P ops Q (o :: rest) a (w2.alloc (.cells es.toArray e)) := by
 have FB := (Fr.refl No w2).alloc (.cells es.toArray e)
 have s1 := f2.size
 have s2 := F1.size
 have s3 := FB.size
 have OW : ∀ q, v.ownBlock = some q → w.heap.size ≤ q ∧ q < wr.heap.size := fun q hq => by
  obtain ⟨g1, _, g2⟩ := HR.own hq
  exact ⟨g1, g2.lt⟩
 have HRA := (HR.fr (f2.trans FB i3) (fun q hq => ⟨hq.1.2, fun x => x⟩) (fun _ _ x => x)).more (S' := Sv w w2 v) nr (fun q hq => ⟨⟨hq.1.1, by have := hq.1.2; omega⟩, hq.2⟩)
 have HRE : t.rd (w2.alloc (.cells es.toArray e)) (Sv w w2 v) es x := hm.more _ _ _ _ _ (hok.keep _ _ _ _ _ hr (fun p hp => FB.cell hp.2 id)) (fun q hq => ⟨⟨by have := hq.1; omega, hq.2⟩, fun e => by have := (OW q e.symm).2; have := hq.1; omega⟩)
 have hb : (xs.length + 1) * bytes ≤ 1048577 * 1000 := Nat.mul_le_mul om hby
 refine kAK (dss := [es]) (B2 := w2.heap.size + 1) E hgd ho hs hx HRA (Css.one HRE) (by simpa using kEQ w2 es e) rfl om om (fun q hq => ⟨ltl hq.1.2 s3, hq.2⟩) om fun v3 w3 hr3 fr3 hv3 => ?_
 have s4 := fr3.size
 refine h v3 w3 (((F1.trans f2 i3).trans FB i3).trans fr3 (fun i hi e => by have := (OW i e.symm).1; omega)) (hr3.more nr (fun q hq => ⟨⟨hq.1.1, by have := hq.1.2; omega⟩, fun e => ?_⟩))
 rcases hv3 with h | h
 · exact hq.2 (e.trans h)
 rw [h] at e
 have e2 := Option.some.inj e
 have e9 : (w2.alloc (.cells es.toArray ‹TypeId›)).heap.size = w2.heap.size + 1 := by simp
 have := hq.1.2
 omega
theorem eachEnd (HR : t.row wr w.heap.size (Sv w wr v) e v xs) : ∃ A c, v = .slice A xs.length c ∧ Hid (xs.length ≤ c ∧ c ≤ maxLen ∧ t.els wr (Nw w wr) A xs) := by
 obtain ⟨A, c, e, h⟩ := HR.els (S' := Nw w wr) (fun q hq => hq.1) (fun q hq => by obtain ⟨g1, _, g2⟩ := HR.own hq; exact ⟨g1, g2.lt⟩)
 exact ⟨A, c, e, h⟩
end
theorem kFI (A : OA) (c : Nat) (xs : List Fn) (S : Nat → Prop) (w : World) (h : tFn.els w S A xs) (hS : Lt S w) (hl : xs.length ≤ 1048576)
    (hT : ∀ (k : Nat) (hk : k < xs.length) (ds : LV) (X : World), Fr No w X → tFn.rd X S ds xs[k] → Calls prog 93 #[.agg ds.toArray] X (kAN tFn xs[k] X)) :
    Calls prog 92 #[.slice A xs.length c, .func (.func 93) #[] #[]] w (EachTo tFn xs w) := by
 have HE := hid h
 have HS := hid hS
 have HT := hid hT
 clear h hS hT
 go_enter func92, ntmps92
 go_wp2
 go_loopw [5, 10] (fun v i wr => ∃ k, k ≤ xs.length ∧ i = .int .i64 (k : Nat) ∧ Hid (Fr No w wr) ∧ Hid (tFn.row wr w.heap.size (Sv w wr v) 78 v (xs.take k))) (fun _ i _ => xs.length - (intOf i).toNat)
 case atStart => exact ⟨0, nz, rfl, Fr.refl _ _, Ty.row.nil _ _ _ _⟩
 obtain ⟨k, hk, rfl, F1, HR⟩ := hrel
 have i0 := nki k
 by_cases hlt : k < xs.length
 · obtain ⟨b, o, ds, rfl, hb, hc, hr⟩ := HE.o.at_ k hlt
   have hln : ds.length = 2 := TyOk.len _ _ _ _ hr
   have HLN := hid hln
   have RE : wr.rangeAt b (o + k * 2) ds := fun j u hu => (F1.o.cell (p := ⟨b, o + k * 2 + j, none⟩) (HS.o _ hb) id).trans (by have := hc j u hu; rwa [← Nat.add_assoc] at this)
   have HRD := hid hr
   have HI : Hid ((prog.info? 78).map (·.size) = some 2) := by unfold Hid; kernel_rfl
   have HON := hid (all_oneCell_toArray ((inferInstance : kAG tFn).one _ _ _ _ hr))
   have i1 : (k : Int) < xs.length := om
   clear hr hc hln
   go_upto_region 5 with (first | refine ldG underlying78 HI.o RE HLN.o ?_ | refine nwG HI.o rfl HLN.o (by simpa using HON.o) ?_ | fail)
   have FA0 := hid ((Fr.refl No wr).alloc (.cells ds.toArray 78))
   have FA := ftr F1 FA0.o
   have BN := hid (Blk.new wr 78 ds.toArray)
   generalize wr.alloc (.cells ds.toArray 78) = W1 at *
   have RQ : W1.rangeAt wr.heap.size 0 ds := kBJ BN.o
   have HC := hid (HT.o k hlt ds W1 FA.o (kAO HRD.o FA.o HS.o i2))
   go_wp2_with (first | refine ldG underlying78 HI.o RQ HLN.o ?_ | fail)
   refine HC.o.mono ?_
   rintro e w2 ⟨es, rfl, hr2, f2⟩
   clear HC RQ RE
   have hel : es.length = 2 := TyOk.len _ _ _ _ hr2
   have HEL := hid hel
   have hfs := kAq (ds := es) (Z := #[.slice none 0 0, .slice none 0 0]) (by rw [hel]; rfl)
   have HR2 := hid (TyMore.more _ _ _ _ hr2 (S' := Nw wr w2) (fun _ hk => ⟨Nat.le_trans FA0.o.size hk.1, hk.2⟩))
   have F2 := ftr FA0 f2
   clear hr2 f2
   go_wp2_with (first | (at_builtin; refine kAw elFn F1.o HR.o F2.o HR2.o so dc ?_; intro v3 w3 f3 hr3; have F3 := hid f3; have R3 := hid hr3; clear f3 hr3) | fail)
   exact yy7
 exact yy5
theorem kFM (A : OA) (c : Nat) (xs : List Cd) (S : Nat → Prop) (w : World) (h : tCd.els w S A xs) (hS : Lt S w) (hl : xs.length ≤ 1048576)
    (hT : ∀ (k : Nat) (hk : k < xs.length) (ds : LV) (X : World), Fr No w X → tCd.rd X S ds xs[k] → Calls prog 99 #[.agg ds.toArray] X (kAN tCd xs[k] X)) :
    Calls prog 98 #[.slice A xs.length c, .func (.func 99) #[] #[]] w (EachTo tCd xs w) := by
 have HE := hid h
 have HS := hid hS
 have HT := hid hT
 clear h hS hT
 go_enter func98, ntmps98
 go_wp2
 go_loopw [5, 10] (fun v i wr => ∃ k, k ≤ xs.length ∧ i = .int .i64 (k : Nat) ∧ Hid (Fr No w wr) ∧ Hid (tCd.row wr w.heap.size (Sv w wr v) 106 v (xs.take k))) (fun _ i _ => xs.length - (intOf i).toNat)
 case atStart => exact ⟨0, nz, rfl, Fr.refl _ _, Ty.row.nil _ _ _ _⟩
 obtain ⟨k, hk, rfl, F1, HR⟩ := hrel
 have i0 := nki k
 by_cases hlt : k < xs.length
 · obtain ⟨b, o, ds, rfl, hb, hc, hr⟩ := HE.o.at_ k hlt
   have hln : ds.length = 3 := TyOk.len _ _ _ _ hr
   have HLN := hid hln
   have RE : wr.rangeAt b (o + k * 3) ds := fun j u hu => (F1.o.cell (p := ⟨b, o + k * 3 + j, none⟩) (HS.o _ hb) id).trans (by have := hc j u hu; rwa [← Nat.add_assoc] at this)
   have HRD := hid hr
   have HI : Hid ((prog.info? 106).map (·.size) = some 3) := by unfold Hid; kernel_rfl
   have HON := hid (all_oneCell_toArray ((inferInstance : kAG tCd).one _ _ _ _ hr))
   have i1 : (k : Int) < xs.length := om
   clear hr hc hln
   go_upto_region 5 with (first | refine ldG underlying106 HI.o RE HLN.o ?_ | refine nwG HI.o rfl HLN.o (by simpa using HON.o) ?_ | fail)
   have FA0 := hid ((Fr.refl No wr).alloc (.cells ds.toArray 106))
   have FA := ftr F1 FA0.o
   have BN := hid (Blk.new wr 106 ds.toArray)
   generalize wr.alloc (.cells ds.toArray 106) = W1 at *
   have RQ : W1.rangeAt wr.heap.size 0 ds := kBJ BN.o
   have HC := hid (HT.o k hlt ds W1 FA.o (kAO HRD.o FA.o HS.o i2))
   go_wp2_with (first | refine ldG underlying106 HI.o RQ HLN.o ?_ | fail)
   refine HC.o.mono ?_
   rintro e w2 ⟨es, rfl, hr2, f2⟩
   clear HC RQ RE
   have hel : es.length = 3 := TyOk.len _ _ _ _ hr2
   have HEL := hid hel
   have hfs := kAq (ds := es) (Z := #[.int .i64 0, .slice none 0 0, .slice none 0 0]) (by rw [hel]; rfl)
   have HR2 := hid (TyMore.more _ _ _ _ hr2 (S' := Nw wr w2) (fun _ hk => ⟨Nat.le_trans FA0.o.size hk.1, hk.2⟩))
   have F2 := ftr FA0 f2
   clear hr2 f2
   go_wp2_with (first | (at_builtin; refine kAw elCd F1.o HR.o F2.o HR2.o so dc ?_; intro v3 w3 f3 hr3; have F3 := hid f3; have R3 := hid hr3; clear f3 hr3) | fail)
   exact yy7
 exact yy5
theorem kFH (A : OA) (c : Nat) (xs : List Gd) (S : Nat → Prop) (w : World) (h : tGd.els w S A xs) (hS : Lt S w) (hl : xs.length ≤ 1048576)
    (hT : ∀ (k : Nat) (hk : k < xs.length) (ds : LV) (X : World), Fr No w X → tGd.rd X S ds xs[k] → Calls prog 102 #[.agg ds.toArray] X (kAN tGd xs[k] X)) :
    Calls prog 101 #[.slice A xs.length c, .func (.func 102) #[] #[]] w (EachTo tGd xs w) := by
 have HE := hid h
 have HS := hid hS
 have HT := hid hT
 clear h hS hT
 go_enter func101, ntmps101
 go_wp2
 go_loopw [5, 10] (fun v i wr => ∃ k, k ≤ xs.length ∧ i = .int .i64 (k : Nat) ∧ Hid (Fr No w wr) ∧ Hid (tGd.row wr w.heap.size (Sv w wr v) 108 v (xs.take k))) (fun _ i _ => xs.length - (intOf i).toNat)
 case atStart => exact ⟨0, nz, rfl, Fr.refl _ _, Ty.row.nil _ _ _ _⟩
 obtain ⟨k, hk, rfl, F1, HR⟩ := hrel
 have i0 := nki k
 by_cases hlt : k < xs.length
 · obtain ⟨b, o, ds, rfl, hb, hc, hr⟩ := HE.o.at_ k hlt
   have hln : ds.length = 3 := TyOk.len _ _ _ _ hr
   have HLN := hid hln
   have RE : wr.rangeAt b (o + k * 3) ds := fun j u hu => (F1.o.cell (p := ⟨b, o + k * 3 + j, none⟩) (HS.o _ hb) id).trans (by have := hc j u hu; rwa [← Nat.add_assoc] at this)
   have HRD := hid hr
   have HI : Hid ((prog.info? 108).map (·.size) = some 3) := by unfold Hid; kernel_rfl
   have HON := hid (all_oneCell_toArray ((inferInstance : kAG tGd).one _ _ _ _ hr))
   have i1 : (k : Int) < xs.length := om
   clear hr hc hln
   go_upto_region 5 with (first | refine ldG underlying108 HI.o RE HLN.o ?_ | refine nwG HI.o rfl HLN.o (by simpa using HON.o) ?_ | fail)
   have FA0 := hid ((Fr.refl No wr).alloc (.cells ds.toArray 108))
   have FA := ftr F1 FA0.o
   have BN := hid (Blk.new wr 108 ds.toArray)
   generalize wr.alloc (.cells ds.toArray 108) = W1 at *
   have RQ : W1.rangeAt wr.heap.size 0 ds := kBJ BN.o
   have HC := hid (HT.o k hlt ds W1 FA.o (kAO HRD.o FA.o HS.o i2))
   go_wp2_with (first | refine ldG underlying108 HI.o RQ HLN.o ?_ | fail)
   refine HC.o.mono ?_
   rintro e w2 ⟨es, rfl, hr2, f2⟩
   clear HC RQ RE
   have hel : es.length = 3 := TyOk.len _ _ _ _ hr2
   have HEL := hid hel
   have hfs := kAq (ds := es) (Z := #[.int .i64 0, .bool false, .slice none 0 0]) (by rw [hel]; rfl)
   have HR2 := hid (TyMore.more _ _ _ _ hr2 (S' := Nw wr w2) (fun _ hk => ⟨Nat.le_trans FA0.o.size hk.1, hk.2⟩))
   have F2 := ftr FA0 f2
   clear hr2 f2
   go_wp2_with (first | (at_builtin; refine kAw elGd F1.o HR.o F2.o HR2.o so dc ?_; intro v3 w3 f3 hr3; have F3 := hid f3; have R3 := hid hr3; clear f3 hr3) | fail)
   exact yy7
 exact yy5
abbrev kKG : Array Value := #[.int .i64 0, .int .i64 0, .slice none 0 0, .int .i64 0, .slice none 0 0]
theorem kFJ (A : OA) (c : Nat) (xs : List El) (S : Nat → Prop) (w : World) (h : tEl.els w S A xs) (hS : Lt S w) (hl : xs.length ≤ 1048576)
    (hT : ∀ (k : Nat) (hk : k < xs.length) (ds : LV) (X : World), Fr No w X → tEl.rd X S ds xs[k] → Calls prog 104 #[.agg ds.toArray] X (kAN tEl xs[k] X)) :
    Calls prog 103 #[.slice A xs.length c, .func (.func 104) #[] #[]] w (EachTo tEl xs w) := by
 have HE := hid h
 have HS := hid hS
 have HT := hid hT
 clear h hS hT
 go_enter func103, ntmps103
 go_wp2
 go_loopw [5, 10] (fun v i wr => ∃ k, k ≤ xs.length ∧ i = .int .i64 (k : Nat) ∧ Hid (Fr No w wr) ∧ Hid (tEl.row wr w.heap.size (Sv w wr v) 112 v (xs.take k))) (fun _ i _ => xs.length - (intOf i).toNat)
 case atStart => exact ⟨0, nz, rfl, Fr.refl _ _, Ty.row.nil _ _ _ _⟩
 obtain ⟨k, hk, rfl, F1, HR⟩ := hrel
 have i0 := nki k
 by_cases hlt : k < xs.length
 · obtain ⟨b, o, ds, rfl, hb, hc, hr⟩ := HE.o.at_ k hlt
   have hln : ds.length = 5 := TyOk.len _ _ _ _ hr
   have HLN := hid hln
   have RE : wr.rangeAt b (o + k * 5) ds := fun j u hu => (F1.o.cell (p := ⟨b, o + k * 5 + j, none⟩) (HS.o _ hb) id).trans (by have := hc j u hu; rwa [← Nat.add_assoc] at this)
   have HRD := hid hr
   have HI : Hid ((prog.info? 112).map (·.size) = some 5) := by unfold Hid; kernel_rfl
   have HON := hid (all_oneCell_toArray ((inferInstance : kAG tEl).one _ _ _ _ hr))
   have i1 : (k : Int) < xs.length := om
   clear hr hc hln
   go_upto_region 5 with (first | refine ldG underlying112 HI.o RE HLN.o ?_ | refine nwG HI.o rfl HLN.o (by simpa using HON.o) ?_ | fail)
   have FA0 := hid ((Fr.refl No wr).alloc (.cells ds.toArray 112))
   have FA := ftr F1 FA0.o
   have BN := hid (Blk.new wr 112 ds.toArray)
   generalize wr.alloc (.cells ds.toArray 112) = W1 at *
   have RQ : W1.rangeAt wr.heap.size 0 ds := kBJ BN.o
   have HC := hid (HT.o k hlt ds W1 FA.o (kAO HRD.o FA.o HS.o i2))
   go_wp2_with (first | refine ldG underlying112 HI.o RQ HLN.o ?_ | fail)
   refine HC.o.mono ?_
   rintro e w2 ⟨es, rfl, hr2, f2⟩
   clear HC RQ RE
   have hel : es.length = 5 := TyOk.len _ _ _ _ hr2
   have HEL := hid hel
   have hfs := kAq (ds := es) (Z := kKG) (by rw [hel]; rfl)
   have HR2 := hid (TyMore.more _ _ _ _ hr2 (S' := Nw wr w2) (fun _ hk => ⟨Nat.le_trans FA0.o.size hk.1, hk.2⟩))
   have F2 := ftr FA0 f2
   clear hr2 f2
   go_wp2_with (first | (at_builtin; refine kAw elEl F1.o HR.o F2.o HR2.o so dc ?_; intro v3 w3 f3 hr3; have F3 := hid f3; have R3 := hid hr3; clear f3 hr3) | fail)
   exact yy7
 exact yy5
abbrev kDV : Array Value := #[.int .i64 0, .int .i64 0, .slice none 0 0, .slice none 0 0]
theorem kFK (A : OA) (c : Nat) (xs : List Da) (S : Nat → Prop) (w : World) (h : tDa.els w S A xs) (hS : Lt S w) (hl : xs.length ≤ 1048576)
    (hT : ∀ (k : Nat) (hk : k < xs.length) (ds : LV) (X : World), Fr No w X → tDa.rd X S ds xs[k] → Calls prog 107 #[.agg ds.toArray] X (kAN tDa xs[k] X)) :
    Calls prog 106 #[.slice A xs.length c, .func (.func 107) #[] #[]] w (EachTo tDa xs w) := by
 have HE := hid h
 have HS := hid hS
 have HT := hid hT
 clear h hS hT
 go_enter func106, ntmps106
 go_wp2
 go_loopw [5, 10] (fun v i wr => ∃ k, k ≤ xs.length ∧ i = .int .i64 (k : Nat) ∧ Hid (Fr No w wr) ∧ Hid (tDa.row wr w.heap.size (Sv w wr v) 114 v (xs.take k))) (fun _ i _ => xs.length - (intOf i).toNat)
 case atStart => exact ⟨0, nz, rfl, Fr.refl _ _, Ty.row.nil _ _ _ _⟩
 obtain ⟨k, hk, rfl, F1, HR⟩ := hrel
 have i0 := nki k
 by_cases hlt : k < xs.length
 · obtain ⟨b, o, ds, rfl, hb, hc, hr⟩ := HE.o.at_ k hlt
   have hln : ds.length = 4 := TyOk.len _ _ _ _ hr
   have HLN := hid hln
   have RE : wr.rangeAt b (o + k * 4) ds := fun j u hu => (F1.o.cell (p := ⟨b, o + k * 4 + j, none⟩) (HS.o _ hb) id).trans (by have := hc j u hu; rwa [← Nat.add_assoc] at this)
   have HRD := hid hr
   have HI : Hid ((prog.info? 114).map (·.size) = some 4) := by unfold Hid; kernel_rfl
   have HON := hid (all_oneCell_toArray ((inferInstance : kAG tDa).one _ _ _ _ hr))
   have i1 : (k : Int) < xs.length := om
   clear hr hc hln
   go_upto_region 5 with (first | refine ldG underlying114 HI.o RE HLN.o ?_ | refine nwG HI.o rfl HLN.o (by simpa using HON.o) ?_ | fail)
   have FA0 := hid ((Fr.refl No wr).alloc (.cells ds.toArray 114))
   have FA := ftr F1 FA0.o
   have BN := hid (Blk.new wr 114 ds.toArray)
   generalize wr.alloc (.cells ds.toArray 114) = W1 at *
   have RQ : W1.rangeAt wr.heap.size 0 ds := kBJ BN.o
   have HC := hid (HT.o k hlt ds W1 FA.o (kAO HRD.o FA.o HS.o i2))
   go_wp2_with (first | refine ldG underlying114 HI.o RQ HLN.o ?_ | fail)
   refine HC.o.mono ?_
   rintro e w2 ⟨es, rfl, hr2, f2⟩
   clear HC RQ RE
   have hel : es.length = 4 := TyOk.len _ _ _ _ hr2
   have HEL := hid hel
   have hfs := kAq (ds := es) (Z := kDV) (by rw [hel]; rfl)
   have HR2 := hid (TyMore.more _ _ _ _ hr2 (S' := Nw wr w2) (fun _ hk => ⟨Nat.le_trans FA0.o.size hk.1, hk.2⟩))
   have F2 := ftr FA0 f2
   clear hr2 f2
   go_wp2_with (first | (at_builtin; refine kAw elDa F1.o HR.o F2.o HR2.o so dc ?_; intro v3 w3 f3 hr3; have F3 := hid f3; have R3 := hid hr3; clear f3 hr3) | fail)
   exact yy7
 exact yy5
theorem kFL (A : OA) (c : Nat) (xs : List Cu) (S : Nat → Prop) (w : World) (h : tCu.els w S A xs) (hS : Lt S w) (hl : xs.length ≤ 1048576)
    (hT : ∀ (k : Nat) (hk : k < xs.length) (ds : LV) (X : World), Fr No w X → tCu.rd X S ds xs[k] → Calls prog 110 #[.agg ds.toArray] X (kAN tCu xs[k] X)) :
    Calls prog 109 #[.slice A xs.length c, .func (.func 110) #[] #[]] w (EachTo tCu xs w) := by
 have HE := hid h
 have HS := hid hS
 have HT := hid hT
 clear h hS hT
 go_enter func109, ntmps109
 go_wp2
 go_loopw [5, 10] (fun v i wr => ∃ k, k ≤ xs.length ∧ i = .int .i64 (k : Nat) ∧ Hid (Fr No w wr) ∧ Hid (tCu.row wr w.heap.size (Sv w wr v) 116 v (xs.take k))) (fun _ i _ => xs.length - (intOf i).toNat)
 case atStart => exact ⟨0, nz, rfl, Fr.refl _ _, Ty.row.nil _ _ _ _⟩
 obtain ⟨k, hk, rfl, F1, HR⟩ := hrel
 have i0 := nki k
 by_cases hlt : k < xs.length
 · obtain ⟨b, o, ds, rfl, hb, hc, hr⟩ := HE.o.at_ k hlt
   have hln : ds.length = 3 := TyOk.len _ _ _ _ hr
   have HLN := hid hln
   have RE : wr.rangeAt b (o + k * 3) ds := fun j u hu => (F1.o.cell (p := ⟨b, o + k * 3 + j, none⟩) (HS.o _ hb) id).trans (by have := hc j u hu; rwa [← Nat.add_assoc] at this)
   have HRD := hid hr
   have HI : Hid ((prog.info? 116).map (·.size) = some 3) := by unfold Hid; kernel_rfl
   have HON := hid (all_oneCell_toArray ((inferInstance : kAG tCu).one _ _ _ _ hr))
   have i1 : (k : Int) < xs.length := om
   clear hr hc hln
   go_upto_region 5 with (first | refine ldG underlying116 HI.o RE HLN.o ?_ | refine nwG HI.o rfl HLN.o (by simpa using HON.o) ?_ | fail)
   have FA0 := hid ((Fr.refl No wr).alloc (.cells ds.toArray 116))
   have FA := ftr F1 FA0.o
   have BN := hid (Blk.new wr 116 ds.toArray)
   generalize wr.alloc (.cells ds.toArray 116) = W1 at *
   have RQ : W1.rangeAt wr.heap.size 0 ds := kBJ BN.o
   have HC := hid (HT.o k hlt ds W1 FA.o (kAO HRD.o FA.o HS.o i2))
   go_wp2_with (first | refine ldG underlying116 HI.o RQ HLN.o ?_ | fail)
   refine HC.o.mono ?_
   rintro e w2 ⟨es, rfl, hr2, f2⟩
   clear HC RQ RE
   have hel : es.length = 3 := TyOk.len _ _ _ _ hr2
   have HEL := hid hel
   have hfs := kAq (ds := es) (Z := #[.int .i64 0, .string ⟨#[]⟩, .slice none 0 0]) (by rw [hel]; rfl)
   have HR2 := hid (TyMore.more _ _ _ _ hr2 (S' := Nw wr w2) (fun _ hk => ⟨Nat.le_trans FA0.o.size hk.1, hk.2⟩))
   have F2 := ftr FA0 f2
   clear hr2 f2
   go_wp2_with (first | (at_builtin; refine kAw elCu F1.o HR.o F2.o HR2.o so dc ?_; intro v3 w3 f3 hr3; have F3 := hid f3; have R3 := hid hr3; clear f3 hr3) | fail)
   exact yy7
 exact yy5
abbrev q7x5 : Array Value := #[.int .i64 0, .int .i64 0, .int .i64 0, .int .u64 0, .int .i64 0, .int .i64 0, .int .i64 0, .slice none 0 0, .slice none 0 0]
theorem kEU (A : OA) (c : Nat) (xs : List Ins) (S : Nat → Prop) (w : World) (h : tIns.els w S A xs) (hS : Lt S w) (hl : xs.length ≤ 1048576)
    (hT : ∀ (k : Nat) (hk : k < xs.length) (ds : LV) (X : World), Fr No w X → tIns.rd X S ds xs[k] → Calls prog 124 #[.agg ds.toArray] X (kAN tIns xs[k] X)) :
    Calls prog 123 #[.slice A xs.length c, .func (.func 124) #[] #[]] w (EachTo tIns xs w) := by
 have HE := hid h
 have HS := hid hS
 have HT := hid hT
 clear h hS hT
 go_enter func123, ntmps123
 go_wp2
 go_loopw [5, 10] (fun v i wr => ∃ k, k ≤ xs.length ∧ i = .int .i64 (k : Nat) ∧ Hid (Fr No w wr) ∧ Hid (tIns.row wr w.heap.size (Sv w wr v) 159 v (xs.take k))) (fun _ i _ => xs.length - (intOf i).toNat)
 case atStart => exact ⟨0, nz, rfl, Fr.refl _ _, Ty.row.nil _ _ _ _⟩
 obtain ⟨k, hk, rfl, F1, HR⟩ := hrel
 have i0 := nki k
 by_cases hlt : k < xs.length
 · obtain ⟨b, o, ds, rfl, hb, hc, hr⟩ := HE.o.at_ k hlt
   have hln : ds.length = 9 := TyOk.len _ _ _ _ hr
   have HLN := hid hln
   have RE : wr.rangeAt b (o + k * 9) ds := fun j u hu => (F1.o.cell (p := ⟨b, o + k * 9 + j, none⟩) (HS.o _ hb) id).trans (by have := hc j u hu; rwa [← Nat.add_assoc] at this)
   have HRD := hid hr
   have HI : Hid ((prog.info? 159).map (·.size) = some 9) := by unfold Hid; kernel_rfl
   have HON := hid (all_oneCell_toArray ((inferInstance : kAG tIns).one _ _ _ _ hr))
   have i1 : (k : Int) < xs.length := om
   clear hr hc hln
   go_upto_region 5 with (first | refine ldG underlying159 HI.o RE HLN.o ?_ | refine nwG HI.o rfl HLN.o (by simpa using HON.o) ?_ | fail)
   have FA0 := hid ((Fr.refl No wr).alloc (.cells ds.toArray 159))
   have FA := ftr F1 FA0.o
   have BN := hid (Blk.new wr 159 ds.toArray)
   generalize wr.alloc (.cells ds.toArray 159) = W1 at *
   have RQ : W1.rangeAt wr.heap.size 0 ds := kBJ BN.o
   have HC := hid (HT.o k hlt ds W1 FA.o (kAO HRD.o FA.o HS.o i2))
   go_wp2_with (first | refine ldG underlying159 HI.o RQ HLN.o ?_ | fail)
   refine HC.o.mono ?_
   rintro e w2 ⟨es, rfl, hr2, f2⟩
   clear HC RQ RE
   have hel : es.length = 9 := TyOk.len _ _ _ _ hr2
   have HEL := hid hel
   have hfs := kAq (ds := es) (Z := q7x5) (by rw [hel]; rfl)
   have HR2 := hid (TyMore.more _ _ _ _ hr2 (S' := Nw wr w2) (fun _ hk => ⟨Nat.le_trans FA0.o.size hk.1, hk.2⟩))
   have F2 := ftr FA0 f2
   clear hr2 f2
   go_wp2_with (first | (at_builtin; refine kAw kIf F1.o HR.o F2.o HR2.o so dc ?_; intro v3 w3 f3 hr3; have F3 := hid f3; have R3 := hid hr3; clear f3 hr3) | fail)
   exact yy7
 exact yy5
theorem kEm (a : Fn) {ms : LV} (S : Nat → Prop) (w : World) (h : tFn.rd w S ms a) (hS : Lt S w) (b0 : a.params.length * 8 ≤ 140737488351232) (b1 : a.results.length * 8 ≤ 140737488351232) :
    Calls prog 93 #[.agg ms.toArray] w (kAN tFn a w) := by
 obtain ⟨P0, p0, P1, p1, rfl, -, -, h0, -, -, h1⟩ := Fn_cells h
 have F0 := hid (((Fr.refl No w).alloc (.cells #[.slice P0 a.params.length p0, .slice P1 a.results.length p1] 78)).alloc (.cells #[.slice none 0 0, .slice none 0 0] 78))
 have G0 := hid ((Blk.new w 78 #[.slice P0 a.params.length p0, .slice P1 a.results.length p1]).alloc (.cells #[.slice none 0 0, .slice none 0 0] 78))
 have G1 := hid (Blk.new1 w (.cells #[.slice P0 a.params.length p0, .slice P1 a.results.length p1] 78) 78 #[.slice none 0 0, .slice none 0 0])
 have H0 := hid h0
 have HB0 := hid b0
 have H1 := hid h1
 have HB1 := hid b1
 have HS := hid hS
 clear h hS h0 b0 h1 b1
 go_enter func93, ntmps93
 go_upto_region 1 with fail
 generalize (w.alloc (.cells #[.slice P0 a.params.length p0, .slice P1 a.results.length p1] 78)).alloc (.cells #[.slice none 0 0, .slice none 0 0] 78) = W at *
 have HSW : Hid (Lt S W) := fun k hk => ltl (HS.o k hk) F0.o.size
 have HX : Hid (∀ X, Fr No W X → Ce X w.heap.size 0 (.slice P0 a.params.length p0) ∧ Ce X w.heap.size 1 (.slice P1 a.results.length p1)) := fun X g => ⟨(G0.o.fr g id).cell 0, (G0.o.fr g id).cell 1⟩
 refine rwO (fun X => Ce X w.heap.size 0 (.slice P0 a.params.length p0) ∧ Ce X w.heap.size 1 (.slice P1 a.results.length p1)) [7] [0, 1, 3, 4, 2, 5, 6, 7] [2, 5, 7] (HX.o _ (Fr.refl No _).drew) ?_
 have FZ := hid (Fr.refl No W).drew
 refine rC ?_
 refine wpO_eff rfl rfl fun K hK => sz ?_
 refine (kAi P0 p0 a.params S _ (els_up H0.o (F0.o.trans FZ.o i3) HS.o i2) (fun k hk => ltl (HSW.o k hk) FZ.o.size) HB0.o).mono ?_
 rintro e w0 ⟨B0, d0, rfl, hr, f1⟩
 obtain ⟨l1, l2, el⟩ := kAe hr
 have E0 : Hid (a.params.length ≤ d0 ∧ d0 ≤ maxLen ∧ tI.els w0 (Nw W w0) B0 a.params) := ⟨l1, l2, kAv el (fun k o e hk => by subst e; obtain ⟨g1, _, g2⟩ := hr.own (g := k) (by have := hr; obtain ⟨css, _, ho⟩ := this; rcases ho.2 with ⟨hv, _⟩ | ⟨g, cap, cur, hv, _⟩; (cases hv); (injection hv with q1 _ _; injection q1 with q1; injection q1 with q1 _ _; subst q1; rfl)); exact ⟨Nat.le_trans FZ.o.size g1, g2.lt⟩)⟩
 replace FZ := ftr FZ f1
 clear f1 hr el l1 l2
 refine hK _ _ (fun _ => HX.o _ FZ.o) ?_
 clear hK K
 refine rC ?_
 refine wpO_eff rfl rfl fun K hK => sz ?_
 refine (kAi P1 p1 a.results S _ (els_up H1.o (F0.o.trans FZ.o i3) HS.o i2) (fun k hk => ltl (HSW.o k hk) FZ.o.size) HB1.o).mono ?_
 rintro e w1 ⟨B1, d1, rfl, hr, f1⟩
 obtain ⟨l1, l2, el⟩ := kAe hr
 have E1 : Hid (a.results.length ≤ d1 ∧ d1 ≤ maxLen ∧ tI.els w1 (Nw W w1) B1 a.results) := ⟨l1, l2, kAv el (fun k o e hk => by subst e; obtain ⟨g1, _, g2⟩ := hr.own (g := k) (by have := hr; obtain ⟨css, _, ho⟩ := this; rcases ho.2 with ⟨hv, _⟩ | ⟨g, cap, cur, hv, _⟩; (cases hv); (injection hv with q1 _ _; injection q1 with q1; injection q1 with q1 _ _; subst q1; rfl)); exact ⟨Nat.le_trans FZ.o.size g1, g2.lt⟩)⟩
 replace E0 : Hid (a.params.length ≤ d0 ∧ d0 ≤ maxLen ∧ tI.els w1 (Nw W w1) B0 a.params) := ⟨E0.o.1, E0.o.2.1, els_up E0.o.2.2 f1 (fun k hk => hk.2) (fun k hk => ⟨hk.1, ltl hk.2 f1.size⟩)⟩
 replace FZ := ftr FZ f1
 clear f1 hr el l1 l2
 refine hK _ _ (fun _ => HX.o _ FZ.o) ?_
 clear hK K
 refine rC ?_
 have GZ := hid (G1.o.fr FZ.o id)
 refine wpO_eff rfl rfl (fun K hK => ?_)
 simp only [zA]
 refine wp_store_mid 78 _ _ (by rfl) (w.heap.size + 1) 0 #[.slice B0 a.params.length d0, .slice B1 a.results.length d1] (by rfl) (by rfl) (there_blk GZ.o rfl) kr (by simp [Value.oneCell']) ?_
 refine hK _ _ (fun h => by cases h) ?_
 clear hK K
 refine wpO_nil ?_
 have FT := Fr.setCells' (a := w) (b := w.heap.size + 1) (M := No) (fun h => absurd h om) [.slice B0 a.params.length d0, .slice B1 a.results.length d1] 0 w1 (F0.o.trans FZ.o i3)
 have FY := Fr.setCells' (M := fun q => q = w.heap.size + 1) (b := w.heap.size + 1) (fun _ => rfl) [.slice B0 a.params.length d0, .slice B1 a.results.length d1] 0 w1 (Fr.refl _ w1)
 have RR := World.rangeAt_setCells_same w1 (w.heap.size + 1) 0 [.slice B0 a.params.length d0, .slice B1 a.results.length d1] (there_blk GZ.o rfl)
 have hG := G1.o.lt
 go_wp2
 refine bodyPost_ret (v := .agg [.slice B0 a.params.length d0, .slice B1 a.results.length d1].toArray) (kBK (fn := f93) (p := 2) (ty := 78) rfl _ _ (w.heap.size + 1) _ _ (by rfl) RR underlying78 (by rfl) kr) rfl ?_
 exact ⟨_, rfl, kHN (a := a) E0.o.1 E0.o.2.1 ((E0.o.2.2.fr FY (fun k hk => ⟨hk.2, by have := hk.1; omega⟩)).more (fun k hk => ⟨Nat.le_trans F0.o.size hk.1, ltl hk.2 FY.size⟩)) E1.o.1 E1.o.2.1 ((E1.o.2.2.fr FY (fun k hk => ⟨hk.2, by have := hk.1; omega⟩)).more (fun k hk => ⟨Nat.le_trans F0.o.size hk.1, ltl hk.2 FY.size⟩)), FT⟩
def isFA (ops : Array Oper) (i : Nat) : Bool := match ops[i]? with
 | some o => (match o.op with | .fieldAddr _ _ _ => true | _ => false)
 | none => false
def SP (ops : Array Oper) (i : Nat) (S : World → Prop) : World → Prop := if isFA ops i then fun _ => True else S
def kAx (md : Region.Mode) (ops : Array Oper) (fins : List Nat) : List (Nat × Bool) → Array Bool → Bool
 | [], L => (Region.ready md ops L).isEmpty
 | (i, true) :: r, L => Region.free md ops L i && (Region.ready md ops L).contains i && !fins.contains i && (isFA ops i || fins.all (fun f => (ancs md ops f).getD i false)) && kAx md ops fins r (L.setIfInBounds i true)
 | (i, false) :: r, L => (Region.ready md ops L == [i]) && kAx md ops fins r (L.setIfInBounds i true)
section
variable {P : Program} {ops : Array Oper} {Q : Exit → Act → World → Prop} {md : Region.Mode} {S : World → Prop}
theorem kDP {fins : List Nat} {i : Nat} {oi : Oper} {v : Value} (hi : ops[i]? = some oi) (hsel : ∀ (j : Nat) (o : Oper) cs b, ops[j]? = some o → o.op ≠ .select cs b)
    (hQ : ∀ c a w, Q (.panic c) (a.put oi.dst v) w → Q (.panic c) a w) (hif : i ∉ fins) :
    ∀ (fuel : Nat) (L : Array Bool) (a : Act) (w : World), clo md ops L →
     (∀ j oj, ops[j]? = some oj → j ≠ i → L.getD j true = false → (∀ e ∈ oj.after, Region.binds md e = true → e.on ≠ i) → oi.apart ops oj = true) →
     i ∈ Region.ready md ops L → YieldsQ P ops (fun _ => True) oi v a → SL S fins L w →
     kBF P md ops Q S fins fuel (L.setIfInBounds i true) (a.put oi.dst v) w → kBF P md ops Q S fins (fuel + 1) L a w := by
 intro fuel
 induction fuel with
 | zero =>
  intro L a w hc _ hr hy hS H
  refine ⟨fun h => (by rw [h] at hr; cases hr), fun j hj => ?_⟩
  by_cases hji : j = i
  · subst hji; exact hy.wpOp hi trivial ⟨kBo _ hS, H⟩
  · have := ready_mono hj hji
    rw [H.1] at this
    cases this
 | succ fuel ih =>
  intro L a w hc hfree hr hy hS H
  refine ⟨fun h => (by rw [h] at hr; cases hr), fun j hj => ?_⟩
  by_cases hji : j = i
  · subst hji; exact hy.wpOp hi trivial ⟨kBo _ hS, H⟩
  · exact yy4
def wpP (P : Program) (ops : Array Oper) (Q : Exit → Act → World → Prop) (S : World → Prop) (fins : List Nat) : Bool → List (Nat × Bool) → Act → World → Prop
 | _, [], a, w => Q .normal a w
 | d, (i, true) :: r, a, w => ∃ o, ops[i]? = some o ∧ ∃ v, YieldsQ P ops (SP ops i S) o v a ∧ wpP P ops Q S fins d r (a.put o.dst v) w
 | d, (i, false) :: r, a, w => wpOp P ops Q i (fun a' w' => ((d || fins.contains i) = false → S w') ∧ wpP P ops Q S fins (d || fins.contains i) r a' w') a w
theorem kBc {fins : List Nat} (hsel : Region.noSelect ops = true) (hQ : ∀ c a a' w, Q (.panic c) a w → Q (.panic c) a' w) : ∀ (ord : List (Nat × Bool)) (d : Bool) (L : Array Bool) (a : Act) (w : World),
    clo md ops L → kAx md ops fins ord L = true → (d = true → ∃ f ∈ fins, L.getD f false = true) → SL S fins L w → wpP P ops Q S fins d ord a w → kBF P md ops Q S fins ord.length L a w
 | [], d, L, a, w, _, ho, _, _, h => ⟨by simpa [kAx] using ho, h⟩
 | (i, true) :: r, d, L, a, w, hc, ho, hd, hS, h => by
  obtain ⟨o, hi, v, hy, hn⟩ := h
  simp only [kAx, Bool.and_eq_true] at ho
  obtain ⟨⟨⟨⟨h1, h2⟩, h3⟩, h4⟩, h5⟩ := ho
  have hr : i ∈ Region.ready md ops L := by simpa using h2
  have hif : i ∉ fins := by simpa using h3
  have hnext := kBc hsel hQ r d _ _ w (clo_set hc hr) h5 (fun hdt => by obtain ⟨f, hf, hl⟩ := hd hdt; exact ⟨f, hf, getD_set_true hl⟩) (kBo _ hS) hn
  cases hfa : isFA ops i with
  | true =>
   unfold SP at hy
   rw [if_pos hfa] at hy
   exact kDP hi (Region.noSelect_spec hsel) (fun c a w hq => hQ c _ _ _ hq) hif r.length L a w hc (Region.free_spec hi h1) hr hy hS hnext
  | false =>
   unfold SP at hy
   rw [hfa] at hy h4
   refine kCG hi (Region.noSelect_spec hsel) (fun c a w hq => hQ c _ _ _ hq) hif ?_ r.length L a w hc (Region.free_spec hi h1) hr hy hS hnext
   intro f hf L' hc' hl'
   rw [Bool.false_or] at h4
   exact kDN hc' hl' i (List.all_eq_true.1 h4 f hf)
 | (i, false) :: r, d, L, a, w, hc, ho, hd, hS, h => by
  simp only [kAx, Bool.and_eq_true, beq_iff_eq] at ho
  obtain ⟨h1, h2⟩ := ho
  have hr : i ∈ Region.ready md ops L := by rw [h1]; simp
  refine ⟨fun h0 => (by rw [h0] at h1; cases h1), fun j hj => ?_⟩
  rw [h1] at hj
  have hji : j = i := by simpa using hj
  subst hji
  refine wpOp_mono (fun a' w' ⟨k1, k2⟩ => ?_) h
  have hin : (L.setIfInBounds j true).getD j false = true := by
   obtain ⟨h0, _⟩ := mem_ready.1 hr
   rcases Nat.lt_or_ge j L.size with h' | h'
   · simp [h']
   simp [Array.getElem?_eq_none h'] at h0
  have hSL : SL S fins (L.setIfInBounds j true) w' := by
   exact yy27
  refine ⟨hSL, kBc hsel hQ r _ _ a' w' (clo_set hc hr) h2 ?_ hSL k2⟩
  exact yy45
theorem kCA {id : Nat} {a : Act} {w : World} {l : List Oper} (S : World → Prop) (fins : List Nat) (ord : List (Nat × Bool)) (hm : P.follows .mixedOrders = true) (hs : Region.noSelect l.toArray = true)
    (ho : kAx .any l.toArray fins ord (Array.replicate l.toArray.size false) = true) (hl : ord.length = l.length) (hS : S w.drew) (h : wpP P l.toArray (NoPanic Q) S fins false ord a w.drew) :
    (Code.region id l.toArray true).wp P Q a w := by
 refine wp_region_noPanic (wp_region_any hm ?_)
 have hc : clo .any l.toArray (Array.replicate l.toArray.size false) := by
  exact yy25
 have := kBc (Q := NoPanic Q) (S := S) hs (fun _ _ _ _ h => h) ord false _ a w.drew hc ho (fun h => by cases h) (fun _ => hS) h
 rw [hl] at this
 have h2 := kBr _ _ _ _ this
 simpa using h2
theorem kAs {d : Bool} {fins : List Nat} {a : Act} {w : World} (h : Q .normal a w) : wpP P ops (NoPanic Q) S fins d [] a w := h
theorem kCf {d : Bool} {fins : List Nat} {i : Nat} {o : Oper} {r : List (Nat × Bool)} {a : Act} {w : World} (ho : ops[i]? = some o) (hf : isFA ops i = true) (hw : Region.wanted o (yielded ops a.tmps) = true)
    (h : ∃ v, (∀ X, kAT P X v ((execOp a.eval o).run P X)) ∧ wpP P ops Q S fins d r (a.put o.dst v) w) : wpP P ops Q S fins d ((i, true) :: r) a w := by
 obtain ⟨v, h1, h2⟩ := h
 exact ⟨o, ho, v, .inl ⟨hw, fun X _ => h1 X⟩, h2⟩
theorem kBN {d : Bool} {fins : List Nat} {i : Nat} {o : Oper} {r : List (Nat × Bool)} {a : Act} {w : World} (ho : ops[i]? = some o) (hf : isFA ops i = false) (hw : Region.wanted o (yielded ops a.tmps) = true)
    (h : ∃ v, (∀ X, S X → kAT P X v ((execOp a.eval o).run P X)) ∧ wpP P ops Q S fins d r (a.put o.dst v) w) : wpP P ops Q S fins d ((i, true) :: r) a w := by
 obtain ⟨v, h1, h2⟩ := h
 refine ⟨o, ho, v, .inl ⟨hw, fun X hX => h1 X ?_⟩, h2⟩
 unfold SP at hX
 rw [if_neg (by simp [hf])] at hX
 exact hX
theorem kBq {d : Bool} {fins : List Nat} {i : Nat} {op : Oper} {r : List (Nat × Bool)} {a : Act} {w : World} (ho : ops[i]? = some op) (hf : isFA ops i = false) (hw : Region.wanted op (yielded ops a.tmps) = true) (ty : TypeId) (x : Operand) (hop : op.op = .load ty x)
    (b q : Nat) (hx : a.eval x = .pointer (some ⟨b, q, none⟩)) (cs : LV) (dd : TypeDesc) (hc : ∀ X, S X → X.rangeAt b q cs) (hu : P.underlying ty = some dd) (hd : dd.isRow = true) (hi : (P.info? ty).map (·.size) = some cs.length)
    (h : wpP P ops Q S fins d r (a.put op.dst (.agg cs.toArray)) w) : wpP P ops Q S fins d ((i, true) :: r) a w :=
 kBN ho hf hw ⟨_, fun X hX => by unfold execOp; simp only [hop, hx, Instr.loadAt, Instr.sureAddr, Sem.run_bind, Sem.run_pure, Result.andThen_ok, run_loadVar_mid X b q ty cs dd (hc X hX) hu hd hi]; exact stillUpon_value, h⟩
theorem kAI {d : Bool} {fins : List Nat} {i : Nat} {o : Oper} {r : List (Nat × Bool)} {a : Act} {w : World} (ho : ops[i]? = some o) (hw : Region.wanted o (yielded ops a.tmps) = true)
    (h : ∀ K : Act → World → Prop, (∀ a' w', ((d || fins.contains i) = false → S w') → wpP P ops Q S fins (d || fins.contains i) r a' w' → K a' w') → o.wp P a w K Q) : wpP P ops Q S fins d ((i, false) :: r) a w := by
 show wpOp P ops Q i _ a w
 exact yy50
theorem rgP {id : Nat} {a : Act} {w : World} {l : List Oper} (S : World → Prop) (fins : List Nat) (ord : List (Nat × Bool)) (hS : S w.drew) (h : wpP P l.toArray (NoPanic Q) S fins false ord a w.drew) (hm : P.follows .mixedOrders = true := by kernel_rfl) (hs : Region.noSelect l.toArray = true := by kernel_rfl)
    (ho : kAx .any l.toArray fins ord (Array.replicate l.toArray.size false) = true := by kernel_rfl) (hl : ord.length = l.length := by rfl) : (Code.region id l.toArray true).wp P Q a w := kCA S fins ord hm hs ho hl hS h
theorem pF {d : Bool} {fins : List Nat} {i : Nat} {o : Oper} {r : List (Nat × Bool)} {a a' : Act} {w : World} {v : Value} (h : wpP P ops Q S fins d r a' w) (ho : ops[i]? = some o := by rfl) (hf : isFA ops i = true := by rfl) (hw : Region.wanted o (yielded ops a.tmps) = true := by rfl)
    (hv : ∀ X, kAT P X v ((execOp a.eval o).run P X) := by simp only [zA]; intro X; go_simp; exact stillUpon_value) (ha : a.put o.dst v = a' := by simp only [zA, zC, Act.put]; rfl) : wpP P ops Q S fins d ((i, true) :: r) a w :=
 kCf ho hf hw ⟨v, hv, ha ▸ h⟩
theorem pX {d : Bool} {fins : List Nat} {i : Nat} {o : Oper} {r : List (Nat × Bool)} {a a' : Act} {w : World} {v : Value} {F : World → Prop} (hF : ∀ X, S X → F X) (h : wpP P ops Q S fins d r a' w) (ho : ops[i]? = some o := by rfl) (hf : isFA ops i = false := by rfl) (hw : Region.wanted o (yielded ops a.tmps) = true := by rfl)
    (hv : ∀ X, F X → kAT P X v ((execOp a.eval o).run P X) := by simp only [zA]; intro X hX; (repeat (have := And.left hX; replace hX := And.right hX)); go_simp; exact stillUpon_value) (ha : a.put o.dst v = a' := by simp only [zA, zC, Act.put]; rfl) : wpP P ops Q S fins d ((i, true) :: r) a w :=
 kBN ho hf hw ⟨v, fun X hX => hv X (hF X hX), ha ▸ h⟩
end
theorem rP {A G H : Prop} (a : A) (g : G) (h : A → G → H := by intro a g; (repeat (first | refine pS ?_ | refine pF ?_ | refine pX a ?_)); exact g) : H := h a g
theorem rwP {P : Program} {Q : Exit → Act → World → Prop} {id : Nat} {a : Act} {w : World} {l : List Oper} {ord : List (Nat × Bool)} (S : World → Prop) (fins : List Nat) (n e : List Nat) (hS : S w.drew) (h : wpP P l.toArray (NoPanic Q) S fins false ord a w.drew) (hd : oq n e = ord := by simp only [oq, List.range, List.range.loop, List.map, List.contains, List.elem, Nat.reduceBEq, Bool.not_true, Bool.not_false]; rfl) (hm : P.follows .mixedOrders = true := by kernel_rfl) (hs : Region.noSelect l.toArray = true := by kernel_rfl)
 (ho : kAx .any l.toArray fins ord (Array.replicate l.toArray.size false) = true := by kernel_rfl) (hl : ord.length = l.length := by rfl) : (Code.region id l.toArray true).wp P Q a w := kCA S fins ord hm hs ho hl hS h
structure FLi where
 α : Type
 t : Ty α
 A : OA
 l : List α
 c : Nat
 ok : TyOk t
 more : TyMore t
abbrev FLi.on (i : FLi) (W X : World) : Prop := i.l.length ≤ i.c ∧ i.c ≤ maxLen ∧ i.t.els X (Nw W X) i.A i.l
def Its (W X : World) (L : List FLi) : Prop := ∀ (n : Nat) (i : FLi), L[n]? = some i → i.on W X
section
variable {w W X Y : World} {L : List FLi}
theorem Its.nil : Its W X [] := fun n i h => by simp at h
theorem Its.fr {M : Nat → Prop} (h : Its W X L) (f : Fr M X Y) (hM : ∀ k, W.heap.size ≤ k → ¬ M k) : Its W Y L := fun n i e => by
 obtain ⟨h1, h2, h3⟩ := h n i e
 have := i.ok
 have := i.more
 exact ⟨h1, h2, (h3.fr f (fun k hk => ⟨hk.2, hM k hk.1⟩)).more (fun k hk => ⟨hk.1, ltl hk.2 f.size⟩)⟩
theorem Its.no (h : Its W X L) (f : Fr No X Y) : Its W Y L := h.fr f (fun _ _ m => m)
theorem Its.push {α : Type} {t : Ty α} [ho : TyOk t] [hm : TyMore t] {A : OA} {l : List α} {c : Nat} (h : Its W X L) (f : Fr No X Y) (hx : W.heap.size ≤ X.heap.size) (h1 : l.length ≤ c) (h2 : c ≤ maxLen) (e : t.els Y (Nw X Y) A l) : Its W Y (⟨α, t, A, l, c, ho, hm⟩ :: L) := fun n i e1 => by
 cases n with
 | zero =>
  simp only [List.getElem?_cons_zero, Option.some.injEq] at e1
  subst e1
  exact ⟨h1, h2, e.more (fun k hk => ⟨Nat.le_trans hx hk.1, hk.2⟩)⟩
 | succ n => exact h.no f n i (by simpa using e1)
theorem Its.low (h : Its W X L) (hw : w.heap.size ≤ W.heap.size) : Its w X L := fun n i e => by
 obtain ⟨h1, h2, h3⟩ := h n i e
 have := i.more
 exact ⟨h1, h2, h3.more (fun k hk => ⟨Nat.le_trans hw hk.1, hk.2⟩)⟩
theorem Its.get (h : Its W X L) (n : Nat) {i : FLi} (e : L[n]? = some i) : i.on W X := h n i e
end
section
variable {α : Type} {t : Ty α} {w W : World} {x : α} {T : TypeId} {d : TypeDesc} {n q : Nat} {ds : LV} {fn : Func} {act : Act} {s : Tmp}
theorem kBu (hu : prog.underlying T = some d) (hi : (prog.info? T).map (·.size) = some n) (F : Fr No w W) (hq : w.heap.size ≤ q) (th : W.there q 0 n) (hl : ds.length = n) (hr : Fr (One q) W (W.setCells q 0 ds) → t.rd (W.setCells q 0 ds) (Nw w (W.setCells q 0 ds)) ds x)
    (hd : d.isRow = true := by rfl) (hf : fn.results = #[.cell s T] := by rfl) (hp : act.tmps.getD s undef = .pointer (some ⟨q, 0, none⟩) := by rfl) (hdd : act.defers = [] := by rfl) :
    bodyPost prog fn (kAN t x w) .ret act (W.setCells q 0 ds) := by
 have FT := Fr.setCells' (a := w) (b := q) (M := No) (fun h => absurd h om) ds 0 W F
 exact bodyPost_ret (v := .agg ds.toArray) (kBK hf _ _ q _ _ hp (World.rangeAt_setCells_same W q 0 ds (by rw [hl]; exact th)) hu hd (by rw [hl]; exact hi)) hdd ⟨ds, rfl, hr (Fr.setCells' (M := One q) (b := q) (fun _ => rfl) ds 0 W (Fr.refl _ W)), FT⟩
end
theorem EachTo.of_clone {α : Type} {t : Ty α} [TyOk t] [TyMore t] [kAQ t] {el : TypeId} {S : Nat → Prop} {l : List α} {w : World} {e : Ending} {w' : World} (h : kAZ t el S l w e w') : EachTo t l w e w' := by
 obtain ⟨A, c, h1, h2, h3⟩ := h
 obtain ⟨k1, k2, k3⟩ := kBW (w := w) h2 nr (Fr.refl No w') (fun _ _ _ x => x)
 exact ⟨A, c, h1, k1, k2, k3, h3⟩
def FnB (a : Fn) : Prop := a.params.length ≤ 1048576 ∧ a.results.length ≤ 1048576
def InsB (a : Ins) : Prop := a.types.length ≤ 1048576 ∧ a.labels.length ≤ 1048576
def kBb (l : List Ins) : Prop := l.length ≤ 1048576 ∧ ∀ i ∈ l, InsB i
def CdB (a : Cd) : Prop := a.locals.length ≤ 1048576 ∧ kBb a.body
def GdB (a : Gd) : Prop := kBb a.init
def ElB (a : El) : Prop := kBb a.off ∧ a.items.length ≤ 1048576 ∧ ∀ l ∈ a.items, kBb l
def DaB (a : Da) : Prop := kBb a.off ∧ a.bytes.length ≤ 1048576
def CuB (a : Cu) : Prop := a.bytes.length ≤ 1048576
abbrev q7x2 (a0 : Ins) (a1 a2 : Option Addr) (a3 a4 : Nat) : Array Value := #[.int .i64 a0.op, .int .i64 a0.a, .int .i64 a0.b, .int .u64 a0.n, .int .i64 a0.block.kind, .int .i64 a0.block.val, .int .i64 a0.block.index, .slice a1 a0.types.length a3, .slice a2 a0.labels.length a4]
theorem kEK (a : Ins) {ms : LV} (S : Nat → Prop) (w : World) (h : tIns.rd w S ms a) (hS : Lt S w) (hb : InsB a) :
    Calls prog 124 #[.agg ms.toArray] w (kAN tIns a w) := by
 obtain ⟨P0, p0, P1, p1, rfl, f0, f1, f2, f3, f4, f5, f6, h0_l, h0_c, h0, h1_l, h1_c, h1⟩ := kDO h
 have HC0 : Hid (∀ X, Fr No w X → Calls prog 89 #[.slice P0 a.types.length p0] X (EachTo (Ty.int .i64) a.types X)) := fun X f => (kAi P0 p0 a.types S X (els_up h0 f hS i2) (fun k hk => ltl (hS k hk) f.size) (by have := hb.1; omega)).mono (fun _ _ h => EachTo.of_clone h)
 have HC1 : Hid (∀ X, Fr No w X → Calls prog 111 #[.slice P1 a.labels.length p1] X (EachTo (Ty.int .i64) a.labels X)) := fun X f => (kAd P1 p1 a.labels S X (els_up h1 f hS i2) (fun k hk => ltl (hS k hk) f.size) (by have := hb.2; omega)).mono (fun _ _ h => EachTo.of_clone h)
 have F0 := hid (((Fr.refl No w).alloc (.cells (q7x2 a P0 P1 p0 p1) 159)).alloc (.cells q7x5 159))
 have G0 := hid ((Blk.new w 159 (q7x2 a P0 P1 p0 p1)).alloc (.cells q7x5 159))
 have G1 := hid (Blk.new1 w (.cells (q7x2 a P0 P1 p0 p1) 159) 159 q7x5)
 have HF := hid ((⟨f0, f1, f2, f3, f4, f5, f6⟩ : _ ∧ _ ∧ _ ∧ _ ∧ _ ∧ _ ∧ _))
 have HS := hid hS
 clear h hS h0_l h0_c h0 h1_l h1_c h1 f0 f1 f2 f3 f4 f5 f6
 go_enter func124, ntmps124
 go_upto_region 1 with fail
 have HW : Hid (((w.alloc (.cells (q7x2 a P0 P1 p0 p1) 159)).alloc (.cells q7x5 159)).heap.size = w.heap.size + 2) := by unfold Hid; simp
 generalize (w.alloc (.cells (q7x2 a P0 P1 p0 p1) 159)).alloc (.cells q7x5 159) = W at *
 have FZ := hid (Fr.refl No W)
 have HE := hid (Its.nil (W := W) (X := W))
 have HX : Hid (∀ X, Fr No W X → Ce X w.heap.size 7 (.slice P0 a.types.length p0) ∧ Ce X w.heap.size 8 (.slice P1 a.labels.length p1)) := fun X g => ⟨(G0.o.fr g id).cell 7, (G0.o.fr g id).cell 8⟩
 refine rwP (Fr No W) [7] [0, 1, 3, 4, 2, 6, 5, 7, 8, 9] [2, 5, 7, 9] (Fr.refl No _).drew ?_
 replace FZ := hid (Fr.refl No W).drew
 replace HE := hid (HE.o.no FZ.o)
 refine rP HX.o ?_
 refine kAI rfl rfl fun K hK => sz ?_
 refine (HC0.o _ (F0.o.trans FZ.o i3)).mono ?_
 rintro e w0 ⟨B0, d0, rfl, l1, l2, el, f1⟩
 replace HE := hid (HE.o.push f1 FZ.o.size l1 l2 el)
 replace FZ := ftr FZ f1
 clear f1 el l1 l2
 refine hK _ _ (fun _ => FZ.o) ?_
 clear hK K
 refine rP HX.o ?_
 refine kAI rfl rfl fun K hK => sz ?_
 refine (HC1.o _ (F0.o.trans FZ.o i3)).mono ?_
 rintro e w1 ⟨B1, d1, rfl, l1, l2, el, f1⟩
 replace HE := hid (HE.o.push f1 FZ.o.size l1 l2 el)
 replace FZ := ftr FZ f1
 clear f1 el l1 l2
 refine hK _ _ (fun _ => FZ.o) ?_
 clear hK K
 refine rP HX.o ?_
 replace G0 := hid (G0.o.fr FZ.o id)
 replace G1 := hid (G1.o.fr FZ.o id)
 have Y0 := G0.o
 have z := Y0.cell 7
 have u := Y0.frozen 7
 refine kAI rfl rfl fun K hK => sz ?_
 clear z u
 refine hK _ _ (fun h => by cases h) ?_
 clear hK K
 refine rP HX.o ?_
 have Y1 := Y0.set_ 7 (.slice B0 a.types.length d0)
 simp only [zC] at Y1
 have z := Y1.cell 8
 have u := Y1.frozen 8
 refine kAI rfl rfl fun K hK => sz ?_
 clear z u
 refine hK _ _ (fun h => by cases h) ?_
 clear hK K
 refine rP HX.o ?_
 clear Y0 Y1 HX
 refine kAs ?_
 have FS := (((Fr.refl (One w.heap.size) w1).setCell ⟨w.heap.size, 7, none⟩ (.slice B0 a.types.length d0) (fun _ => rfl)).setCell ⟨w.heap.size, 8, none⟩ (.slice B1 a.labels.length d1) (fun _ => rfl))
 replace G0 := ((G0.o.set_ 7 (.slice B0 a.types.length d0)).set_ 8 (.slice B1 a.labels.length d1))
 simp only [zC] at G0
 replace G0 := hid G0
 replace G1 := hid (G1.o.fr FS (fun e => by have e : w.heap.size + 1 = w.heap.size := e; omega))
 replace HE := hid (HE.o.fr FS (fun k hk e => by have e : k = w.heap.size := e; have := HW.o; omega))
 replace F0 := hid ((F0.o.trans FZ.o i3).trans FS (fun i hi h => by have h : i = w.heap.size := h; omega))
 have HWZ : Hid (W.heap.size ≤ ((w1.setCell ⟨w.heap.size, 7, none⟩ (.slice B0 a.types.length d0)).setCell ⟨w.heap.size, 8, none⟩ (.slice B1 a.labels.length d1)).heap.size) := Nat.le_trans FZ.o.size FS.size
 clear FS FZ
 generalize ((w1.setCell ⟨w.heap.size, 7, none⟩ (.slice B0 a.types.length d0)).setCell ⟨w.heap.size, 8, none⟩ (.slice B1 a.labels.length d1)) = Z1 at *
 have FZ := hid (Fr.refl No Z1)
 obtain ⟨ds, hds⟩ : ∃ ds : LV, ds = [.int .i64 a.op, .int .i64 a.a, .int .i64 a.b, .int .u64 a.n, .int .i64 a.block.kind, .int .i64 a.block.val, .int .i64 a.block.index, .slice B0 a.types.length d0, .slice B1 a.labels.length d1] := ⟨_, rfl⟩
 have RG : Z1.rangeAt w.heap.size 0 ds := by rw [hds]; exact kBJ G0.o
 have HDS := hid hds
 clear hds
 have HT : Hid (Z1.there (w.heap.size + 1) 0 9) := there_blk G1.o rfl
 have HI : Hid ((prog.info? 159).map (·.size) = some 9) := by unfold Hid; kernel_rfl
 have HL : Hid (ds.length = 9) := by rw [HDS.o]; rfl
 go_wp2_with (first | refine ldG underlying159 HI.o RG HL.o ?_ | refine stG HI.o HT.o HL.o (by rw [HDS.o]; rfl) ?_ | fail)
 refine kBu underlying159 HI.o F0.o om HT.o HL.o (fun FY => ?_)
 have hG := G1.o.lt
 have hWW := HW.o
 rw [HDS.o] at FY ⊢
 have E := (HE.o.fr FY (fun k hk e => by have e : k = w.heap.size + 1 := e; omega)).low (w := w) om
 have x1 := E.get 0 rfl
 have x0 := E.get 1 rfl
 exact kIT (a := a) HF.o.1 HF.o.2.1 HF.o.2.2.1 HF.o.2.2.2.1 HF.o.2.2.2.2.1 HF.o.2.2.2.2.2.1 HF.o.2.2.2.2.2.2 x0.1 x0.2.1 x0.2.2 x1.1 x1.2.1 x1.2.2
theorem kBR (A : OA) (c : Nat) (xs : List Ins) (S : Nat → Prop) (w : World) (h : tIns.els w S A xs) (hS : Lt S w) (hb : kBb xs) :
    Calls prog 100 #[.slice A xs.length c] w (EachTo tIns xs w) := by
 have HC := hid (kEU A c xs S w h hS hb.1 (fun k hk ds X f hr => kEK xs[k] S X hr (fun k hk => ltl (hS k hk) f.size) (hb.2 _ (List.getElem_mem hk))))
 clear h hS hb
 go_enter func100, ntmps100
 go_wp2_with fail
 refine HC.o.mono ?_
 rintro e w1 ⟨B, d, rfl, h1, h2, h3, h4⟩
 have HH := hid (And.intro h1 (And.intro h2 (And.intro h3 h4)))
 clear h1 h2 h3 h4 HC
 go_wp2
 go_ret
 exact ⟨B, d, rfl, HH.o.1, HH.o.2.1, HH.o.2.2.1, HH.o.2.2.2⟩
abbrev q7x9 (a0 : Cd) (a1 a2 : Option Addr) (a3 a4 : Nat) : Array Value := #[.int .i64 a0.type, .slice a1 a0.locals.length a3, .slice a2 a0.body.length a4]
theorem kEq (a : Cd) {ms : LV} (S : Nat → Prop) (w : World) (h : tCd.rd w S ms a) (hS : Lt S w) (hb : CdB a) :
    Calls prog 99 #[.agg ms.toArray] w (kAN tCd a w) := by
 obtain ⟨P0, p0, P1, p1, rfl, f0, h0_l, h0_c, h0, h1_l, h1_c, h1⟩ := kEH h
 have HC0 : Hid (∀ X, Fr No w X → Calls prog 89 #[.slice P0 a.locals.length p0] X (EachTo (Ty.int .i64) a.locals X)) := fun X f => (kAi P0 p0 a.locals S X (els_up h0 f hS i2) (fun k hk => ltl (hS k hk) f.size) (by have := hb.1; omega)).mono (fun _ _ h => EachTo.of_clone h)
 have HC1 : Hid (∀ X, Fr No w X → Calls prog 100 #[.slice P1 a.body.length p1] X (EachTo tIns a.body X)) := fun X f => kBR P1 p1 a.body S X (els_up h1 f hS i2) (fun k hk => ltl (hS k hk) f.size) hb.2
 have F0 := hid (((Fr.refl No w).alloc (.cells (q7x9 a P0 P1 p0 p1) 106)).alloc (.cells #[.int .i64 0, .slice none 0 0, .slice none 0 0] 106))
 have G0 := hid ((Blk.new w 106 (q7x9 a P0 P1 p0 p1)).alloc (.cells #[.int .i64 0, .slice none 0 0, .slice none 0 0] 106))
 have G1 := hid (Blk.new1 w (.cells (q7x9 a P0 P1 p0 p1) 106) 106 #[.int .i64 0, .slice none 0 0, .slice none 0 0])
 have HF := hid (And.intro f0 True.intro)
 have HS := hid hS
 clear h hS h0_l h0_c h0 h1_l h1_c h1 f0
 go_enter func99, ntmps99
 go_upto_region 1 with fail
 have HW : Hid (((w.alloc (.cells (q7x9 a P0 P1 p0 p1) 106)).alloc (.cells #[.int .i64 0, .slice none 0 0, .slice none 0 0] 106)).heap.size = w.heap.size + 2) := by unfold Hid; simp
 generalize (w.alloc (.cells (q7x9 a P0 P1 p0 p1) 106)).alloc (.cells #[.int .i64 0, .slice none 0 0, .slice none 0 0] 106) = W at *
 have FZ := hid (Fr.refl No W)
 have HE := hid (Its.nil (W := W) (X := W))
 have HX : Hid (∀ X, Fr No W X → Ce X w.heap.size 0 (.int .i64 a.type) ∧ Ce X w.heap.size 1 (.slice P0 a.locals.length p0) ∧ Ce X w.heap.size 2 (.slice P1 a.body.length p1)) := fun X g => ⟨(G0.o.fr g id).cell 0, (G0.o.fr g id).cell 1, (G0.o.fr g id).cell 2⟩
 refine rwP (Fr No W) [9] [0, 1, 2, 3, 5, 6, 4, 7, 8, 9] [4, 7, 9] (Fr.refl No _).drew ?_
 replace FZ := hid (Fr.refl No W).drew
 replace HE := hid (HE.o.no FZ.o)
 refine rP HX.o ?_
 refine kAI rfl rfl fun K hK => sz ?_
 refine (HC0.o _ (F0.o.trans FZ.o i3)).mono ?_
 rintro e w0 ⟨B0, d0, rfl, l1, l2, el, f1⟩
 replace HE := hid (HE.o.push f1 FZ.o.size l1 l2 el)
 replace FZ := ftr FZ f1
 clear f1 el l1 l2
 refine hK _ _ (fun _ => FZ.o) ?_
 clear hK K
 refine rP HX.o ?_
 refine kAI rfl rfl fun K hK => sz ?_
 refine (HC1.o _ (F0.o.trans FZ.o i3)).mono ?_
 rintro e w1 ⟨B1, d1, rfl, l1, l2, el, f1⟩
 replace HE := hid (HE.o.push f1 FZ.o.size l1 l2 el)
 replace FZ := ftr FZ f1
 clear f1 el l1 l2
 refine hK _ _ (fun _ => FZ.o) ?_
 clear hK K
 refine rP HX.o ?_
 replace G1 := hid (G1.o.fr FZ.o id)
 replace F0 := ftr F0 FZ.o
 refine kAI rfl rfl (fun K hK => ?_)
 simp only [List.getElem_toArray, List.getElem_cons_succ, List.getElem_cons_zero]
 refine wp_store_mid 106 _ _ (by rfl) (w.heap.size + 1) 0 #[.int .i64 a.type, .slice B0 a.locals.length d0, .slice B1 a.body.length d1] (by rfl) (by rfl) (there_blk G1.o rfl) kr (by simp [Value.oneCell']) ?_
 refine hK _ _ (fun h => by cases h) ?_
 clear hK K HX
 refine kAs ?_
 go_wp2
 refine kBu (n := 3) underlying106 kr F0.o om (there_blk G1.o rfl) rfl (fun FY => ?_)
 have hG := G1.o.lt
 have hWW := HW.o
 have E := (HE.o.fr FY (fun k hk e => by have e : k = w.heap.size + 1 := e; omega)).low (w := w) om
 have x1 := E.get 0 rfl
 have x0 := E.get 1 rfl
 exact kIx (a := a) HF.o.1 x0.1 x0.2.1 x0.2.2 x1.1 x1.2.1 x1.2.2
theorem kEl (a : Gd) {ms : LV} (S : Nat → Prop) (w : World) (h : tGd.rd w S ms a) (hS : Lt S w) (hb : GdB a) :
    Calls prog 102 #[.agg ms.toArray] w (kAN tGd a w) := by
 obtain ⟨P0, p0, rfl, f0, h0_l, h0_c, h0⟩ := kED h
 have HC0 : Hid (∀ X, Fr No w X → Calls prog 100 #[.slice P0 a.init.length p0] X (EachTo tIns a.init X)) := fun X f => kBR P0 p0 a.init S X (els_up h0 f hS i2) (fun k hk => ltl (hS k hk) f.size) hb
 have F0 := hid (((Fr.refl No w).alloc (.cells #[.int .i64 a.type.val, .bool a.type.mut_, .slice P0 a.init.length p0] 108)).alloc (.cells #[.int .i64 0, .bool false, .slice none 0 0] 108))
 have G0 := hid ((Blk.new w 108 #[.int .i64 a.type.val, .bool a.type.mut_, .slice P0 a.init.length p0]).alloc (.cells #[.int .i64 0, .bool false, .slice none 0 0] 108))
 have G1 := hid (Blk.new1 w (.cells #[.int .i64 a.type.val, .bool a.type.mut_, .slice P0 a.init.length p0] 108) 108 #[.int .i64 0, .bool false, .slice none 0 0])
 have HF := hid (And.intro f0 True.intro)
 have HS := hid hS
 clear h hS h0_l h0_c h0 f0
 go_enter func102, ntmps102
 go_upto_region 1 with fail
 have HW : Hid (((w.alloc (.cells #[.int .i64 a.type.val, .bool a.type.mut_, .slice P0 a.init.length p0] 108)).alloc (.cells #[.int .i64 0, .bool false, .slice none 0 0] 108)).heap.size = w.heap.size + 2) := by unfold Hid; simp
 generalize (w.alloc (.cells #[.int .i64 a.type.val, .bool a.type.mut_, .slice P0 a.init.length p0] 108)).alloc (.cells #[.int .i64 0, .bool false, .slice none 0 0] 108) = W at *
 have FZ := hid (Fr.refl No W)
 have HE := hid (Its.nil (W := W) (X := W))
 have HX : Hid (∀ X, Fr No W X → Ce X w.heap.size 0 (.int .i64 a.type.val) ∧ Ce X w.heap.size 1 (.bool a.type.mut_) ∧ Ce X w.heap.size 2 (.slice P0 a.init.length p0)) := fun X g => ⟨(G0.o.fr g id).cell 0, (G0.o.fr g id).cell 1, (G0.o.fr g id).cell 2⟩
 refine rwP (Fr No W) [6] (List.range 7) [4, 6] (Fr.refl No _).drew ?_
 replace FZ := hid (Fr.refl No W).drew
 replace HE := hid (HE.o.no FZ.o)
 refine rP HX.o ?_
 refine kAI rfl rfl fun K hK => sz ?_
 refine (HC0.o _ (F0.o.trans FZ.o i3)).mono ?_
 rintro e w0 ⟨B0, d0, rfl, l1, l2, el, f1⟩
 replace HE := hid (HE.o.push f1 FZ.o.size l1 l2 el)
 replace FZ := ftr FZ f1
 clear f1 el l1 l2
 refine hK _ _ (fun _ => FZ.o) ?_
 clear hK K
 refine rP HX.o ?_
 replace G1 := hid (G1.o.fr FZ.o id)
 replace F0 := ftr F0 FZ.o
 refine kAI rfl rfl (fun K hK => ?_)
 simp only [List.getElem_toArray, List.getElem_cons_succ, List.getElem_cons_zero]
 refine wp_store_mid 108 _ _ (by rfl) (w.heap.size + 1) 0 #[.int .i64 a.type.val, .bool a.type.mut_, .slice B0 a.init.length d0] (by rfl) (by rfl) (there_blk G1.o rfl) kr (by simp [Value.oneCell']) ?_
 refine hK _ _ (fun h => by cases h) ?_
 clear hK K HX
 refine kAs ?_
 go_wp2
 refine kBu (n := 3) underlying108 kr F0.o om (there_blk G1.o rfl) rfl (fun FY => ?_)
 have hG := G1.o.lt
 have hWW := HW.o
 have E := (HE.o.fr FY (fun k hk e => by have e : k = w.heap.size + 1 := e; omega)).low (w := w) om
 have x0 := E.get 0 rfl
 exact kIo (a := a) HF.o.1 x0.1 x0.2.1 x0.2.2
abbrev q7x8 (a0 : Da) (a1 a2 : Option Addr) (a3 a4 : Nat) : Array Value := #[.int .i64 a0.mode, .int .i64 a0.mem, .slice a1 a0.off.length a3, .slice a2 a0.bytes.length a4]
theorem kEo (a : Da) {ms : LV} (S : Nat → Prop) (w : World) (h : tDa.rd w S ms a) (hS : Lt S w) (hb : DaB a) :
    Calls prog 107 #[.agg ms.toArray] w (kAN tDa a w) := by
 obtain ⟨P0, p0, P1, p1, rfl, f0, f1, h0_l, h0_c, h0, h1_l, h1_c, h1⟩ := kEF h
 have HC0 : Hid (∀ X, Fr No w X → Calls prog 100 #[.slice P0 a.off.length p0] X (EachTo tIns a.off X)) := fun X f => kBR P0 p0 a.off S X (els_up h0 f hS i2) (fun k hk => ltl (hS k hk) f.size) hb.1
 have HC1 : Hid (∀ X, Fr No w X → Calls prog 108 #[.slice P1 a.bytes.length p1] X (EachTo (Ty.int .u8) a.bytes X)) := fun X f => (kCt P1 p1 a.bytes S X (els_up h1 f hS i2) (fun k hk => ltl (hS k hk) f.size) (by have := hb.2; omega)).mono (fun _ _ h => EachTo.of_clone h)
 have F0 := hid (((Fr.refl No w).alloc (.cells (q7x8 a P0 P1 p0 p1) 114)).alloc (.cells kDV 114))
 have G0 := hid ((Blk.new w 114 (q7x8 a P0 P1 p0 p1)).alloc (.cells kDV 114))
 have G1 := hid (Blk.new1 w (.cells (q7x8 a P0 P1 p0 p1) 114) 114 kDV)
 have HF := hid ((⟨f0, f1⟩ : _ ∧ _))
 have HS := hid hS
 clear h hS h0_l h0_c h0 h1_l h1_c h1 f0 f1
 go_enter func107, ntmps107
 go_upto_region 1 with fail
 have HW : Hid (((w.alloc (.cells (q7x8 a P0 P1 p0 p1) 114)).alloc (.cells kDV 114)).heap.size = w.heap.size + 2) := by unfold Hid; simp
 generalize (w.alloc (.cells (q7x8 a P0 P1 p0 p1) 114)).alloc (.cells kDV 114) = W at *
 have FZ := hid (Fr.refl No W)
 have HE := hid (Its.nil (W := W) (X := W))
 have HX : Hid (∀ X, Fr No W X → Ce X w.heap.size 2 (.slice P0 a.off.length p0) ∧ Ce X w.heap.size 3 (.slice P1 a.bytes.length p1)) := fun X g => ⟨(G0.o.fr g id).cell 2, (G0.o.fr g id).cell 3⟩
 refine rwP (Fr No W) [7] [0, 1, 3, 4, 2, 6, 5, 7, 8, 9] [2, 5, 7, 9] (Fr.refl No _).drew ?_
 replace FZ := hid (Fr.refl No W).drew
 replace HE := hid (HE.o.no FZ.o)
 refine rP HX.o ?_
 refine kAI rfl rfl fun K hK => sz ?_
 refine (HC0.o _ (F0.o.trans FZ.o i3)).mono ?_
 rintro e w0 ⟨B0, d0, rfl, l1, l2, el, f1⟩
 replace HE := hid (HE.o.push f1 FZ.o.size l1 l2 el)
 replace FZ := ftr FZ f1
 clear f1 el l1 l2
 refine hK _ _ (fun _ => FZ.o) ?_
 clear hK K
 refine rP HX.o ?_
 refine kAI rfl rfl fun K hK => sz ?_
 refine (HC1.o _ (F0.o.trans FZ.o i3)).mono ?_
 rintro e w1 ⟨B1, d1, rfl, l1, l2, el, f1⟩
 replace HE := hid (HE.o.push f1 FZ.o.size l1 l2 el)
 replace FZ := ftr FZ f1
 clear f1 el l1 l2
 refine hK _ _ (fun _ => FZ.o) ?_
 clear hK K
 refine rP HX.o ?_
 replace G0 := hid (G0.o.fr FZ.o id)
 replace G1 := hid (G1.o.fr FZ.o id)
 have Y0 := G0.o
 have z := Y0.cell 2
 have u := Y0.frozen 2
 refine kAI rfl rfl fun K hK => sz ?_
 clear z u
 refine hK _ _ (fun h => by cases h) ?_
 clear hK K
 refine rP HX.o ?_
 have Y1 := Y0.set_ 2 (.slice B0 a.off.length d0)
 simp only [zC] at Y1
 have z := Y1.cell 3
 have u := Y1.frozen 3
 refine kAI rfl rfl fun K hK => sz ?_
 clear z u
 refine hK _ _ (fun h => by cases h) ?_
 clear hK K
 refine rP HX.o ?_
 clear Y0 Y1 HX
 refine kAs ?_
 have FS := (((Fr.refl (One w.heap.size) w1).setCell ⟨w.heap.size, 2, none⟩ (.slice B0 a.off.length d0) (fun _ => rfl)).setCell ⟨w.heap.size, 3, none⟩ (.slice B1 a.bytes.length d1) (fun _ => rfl))
 replace G0 := ((G0.o.set_ 2 (.slice B0 a.off.length d0)).set_ 3 (.slice B1 a.bytes.length d1))
 simp only [zC] at G0
 replace G0 := hid G0
 replace G1 := hid (G1.o.fr FS (fun e => by have e : w.heap.size + 1 = w.heap.size := e; omega))
 replace HE := hid (HE.o.fr FS (fun k hk e => by have e : k = w.heap.size := e; have := HW.o; omega))
 replace F0 := hid ((F0.o.trans FZ.o i3).trans FS (fun i hi h => by have h : i = w.heap.size := h; omega))
 have HWZ : Hid (W.heap.size ≤ ((w1.setCell ⟨w.heap.size, 2, none⟩ (.slice B0 a.off.length d0)).setCell ⟨w.heap.size, 3, none⟩ (.slice B1 a.bytes.length d1)).heap.size) := Nat.le_trans FZ.o.size FS.size
 clear FS FZ
 generalize ((w1.setCell ⟨w.heap.size, 2, none⟩ (.slice B0 a.off.length d0)).setCell ⟨w.heap.size, 3, none⟩ (.slice B1 a.bytes.length d1)) = Z1 at *
 have FZ := hid (Fr.refl No Z1)
 obtain ⟨ds, hds⟩ : ∃ ds : LV, ds = [.int .i64 a.mode, .int .i64 a.mem, .slice B0 a.off.length d0, .slice B1 a.bytes.length d1] := ⟨_, rfl⟩
 have RG : Z1.rangeAt w.heap.size 0 ds := by rw [hds]; exact kBJ G0.o
 have HDS := hid hds
 clear hds
 have HT : Hid (Z1.there (w.heap.size + 1) 0 4) := there_blk G1.o rfl
 have HI : Hid ((prog.info? 114).map (·.size) = some 4) := by unfold Hid; kernel_rfl
 have HL : Hid (ds.length = 4) := by rw [HDS.o]; rfl
 go_wp2_with (first | refine ldG underlying114 HI.o RG HL.o ?_ | refine stG HI.o HT.o HL.o (by rw [HDS.o]; rfl) ?_ | fail)
 refine kBu underlying114 HI.o F0.o om HT.o HL.o (fun FY => ?_)
 have hG := G1.o.lt
 have hWW := HW.o
 rw [HDS.o] at FY ⊢
 have E := (HE.o.fr FY (fun k hk e => by have e : k = w.heap.size + 1 := e; omega)).low (w := w) om
 have x1 := E.get 0 rfl
 have x0 := E.get 1 rfl
 exact kIt (a := a) HF.o.1 HF.o.2 x0.1 x0.2.1 x0.2.2 x1.1 x1.2.1 x1.2.2
abbrev kKO (a0 : Cu) (a1 : Option Addr) (a2 : Nat) : Array Value := #[.int .i64 a0.after, .string a0.name, .slice a1 a0.bytes.length a2]
theorem kEp (a : Cu) {ms : LV} (S : Nat → Prop) (w : World) (h : tCu.rd w S ms a) (hS : Lt S w) (hb : CuB a) :
    Calls prog 110 #[.agg ms.toArray] w (kAN tCu a w) := by
 obtain ⟨P0, p0, rfl, f0, f1, h0_l, h0_c, h0⟩ := kEG h
 have HC0 : Hid (∀ X, Fr No w X → Calls prog 108 #[.slice P0 a.bytes.length p0] X (EachTo (Ty.int .u8) a.bytes X)) := fun X f => (kCt P0 p0 a.bytes S X (els_up h0 f hS i2) (fun k hk => ltl (hS k hk) f.size) (by have : a.bytes.length ≤ 1048576 := hb; omega)).mono (fun _ _ h => EachTo.of_clone h)
 have F0 := hid (((Fr.refl No w).alloc (.cells (kKO a P0 p0) 116)).alloc (.cells #[.int .i64 0, .string ⟨#[]⟩, .slice none 0 0] 116))
 have G0 := hid ((Blk.new w 116 (kKO a P0 p0)).alloc (.cells #[.int .i64 0, .string ⟨#[]⟩, .slice none 0 0] 116))
 have G1 := hid (Blk.new1 w (.cells (kKO a P0 p0) 116) 116 #[.int .i64 0, .string ⟨#[]⟩, .slice none 0 0])
 have HF := hid ((⟨f0, f1⟩ : _ ∧ _))
 have HS := hid hS
 clear h hS h0_l h0_c h0 f0 f1
 go_enter func110, ntmps110
 go_upto_region 1 with fail
 have HW : Hid (((w.alloc (.cells (kKO a P0 p0) 116)).alloc (.cells #[.int .i64 0, .string ⟨#[]⟩, .slice none 0 0] 116)).heap.size = w.heap.size + 2) := by unfold Hid; simp
 generalize (w.alloc (.cells (kKO a P0 p0) 116)).alloc (.cells #[.int .i64 0, .string ⟨#[]⟩, .slice none 0 0] 116) = W at *
 have FZ := hid (Fr.refl No W)
 have HE := hid (Its.nil (W := W) (X := W))
 have z := G0.o.cell 2
 go_wp2_with fail
 refine (HC0.o _ (F0.o.trans FZ.o i3)).mono ?_
 rintro e w0 ⟨B0, d0, rfl, l1, l2, el, f1⟩
 replace HE := hid (HE.o.push f1 FZ.o.size l1 l2 el)
 replace FZ := ftr FZ f1
 clear f1 el l1 l2
 clear z
 replace G0 := hid (G0.o.fr FZ.o id)
 replace G1 := hid (G1.o.fr FZ.o id)
 have z := G0.o.cell 2
 have u := G0.o.frozen 2
 go_upto_region 2 with fail
 clear z u
 have FS := ((Fr.refl (One w.heap.size) w0).setCell ⟨w.heap.size, 2, none⟩ (.slice B0 a.bytes.length d0) (fun _ => rfl))
 replace G0 := (G0.o.set_ 2 (.slice B0 a.bytes.length d0))
 simp only [zC] at G0
 replace G0 := hid G0
 replace G1 := hid (G1.o.fr FS (fun e => by have e : w.heap.size + 1 = w.heap.size := e; omega))
 replace HE := hid (HE.o.fr FS (fun k hk e => by have e : k = w.heap.size := e; have := HW.o; omega))
 replace F0 := hid ((F0.o.trans FZ.o i3).trans FS (fun i hi h => by have h : i = w.heap.size := h; omega))
 have HWZ : Hid (W.heap.size ≤ (w0.setCell ⟨w.heap.size, 2, none⟩ (.slice B0 a.bytes.length d0)).heap.size) := Nat.le_trans FZ.o.size FS.size
 clear FS FZ
 generalize (w0.setCell ⟨w.heap.size, 2, none⟩ (.slice B0 a.bytes.length d0)) = Z0 at *
 have FZ := hid (Fr.refl No Z0)
 obtain ⟨ds, hds⟩ : ∃ ds : LV, ds = [.int .i64 a.after, .string a.name, .slice B0 a.bytes.length d0] := ⟨_, rfl⟩
 have RG : Z0.rangeAt w.heap.size 0 ds := by rw [hds]; exact kBJ G0.o
 have HDS := hid hds
 clear hds
 have HT : Hid (Z0.there (w.heap.size + 1) 0 3) := there_blk G1.o rfl
 have HI : Hid ((prog.info? 116).map (·.size) = some 3) := by unfold Hid; kernel_rfl
 have HL : Hid (ds.length = 3) := by rw [HDS.o]; rfl
 go_wp2_with (first | refine ldG underlying116 HI.o RG HL.o ?_ | refine stG HI.o HT.o HL.o (by rw [HDS.o]; rfl) ?_ | fail)
 refine kBu underlying116 HI.o F0.o om HT.o HL.o (fun FY => ?_)
 have hG := G1.o.lt
 have hWW := HW.o
 rw [HDS.o] at FY ⊢
 have E := (HE.o.fr FY (fun k hk e => by have e : k = w.heap.size + 1 := e; omega)).low (w := w) om
 have x0 := E.get 0 rfl
 exact kIv (a := a) HF.o.1 HF.o.2 x0.1 x0.2.1 x0.2.2
theorem kDS (A : OA) (c : Nat) (xs : List (List Ins)) (S : Nat → Prop) (w : World) (h : tIns.slice.els w S A xs) (hS : Lt S w) (hl : xs.length ≤ 1048576) (hb : ∀ l ∈ xs, kBb l) :
    Calls prog 105 #[.slice A xs.length c, .func (.func 100) #[] #[]] w (EachTo tIns.slice xs w) := by
 have HE := hid h
 have HS := hid hS
 have HB := hid hb
 clear h hS hb
 go_enter func105, ntmps105
 go_wp2
 go_loopw [5, 10] (fun v i wr => ∃ k, k ≤ xs.length ∧ i = .int .i64 (k : Nat) ∧ Hid (Fr No w wr) ∧ Hid (tIns.slice.row wr w.heap.size (Sv w wr v) 104 v (xs.take k))) (fun _ i _ => xs.length - (intOf i).toNat)
 case atStart => exact ⟨0, nz, rfl, Fr.refl _ _, Ty.row.nil _ _ _ _⟩
 obtain ⟨k, hk, rfl, F1, HR⟩ := hrel
 have i0 := nki k
 by_cases hlt : k < xs.length
 · obtain ⟨b, o, ds, rfl, hb, hc, A1, c1, rfl, _, _, hr⟩ := HE.o.at_ k hlt
   have y : wr.cell? ⟨b, o + k, none⟩ = some (.slice A1 xs[k].length c1) := by
    have h1 := hc 0 _ rfl
    have e : o + (k * tIns.slice.size + 0) = o + k := by show o + (k * 1 + 0) = o + k; omega
    rw [e] at h1
    exact (F1.o.cell (p := ⟨b, o + k, none⟩) (HS.o _ hb) id).trans h1
   have i1 : (k : Int) < xs.length := om
   have HC := hid (kBR A1 c1 xs[k] S wr (els_up hr F1.o HS.o i2) (fun k hk => ltl (HS.o k hk) F1.o.size) (HB.o _ (List.getElem_mem hlt)))
   clear hr hc
   go_wp2_with fail
   refine HC.o.mono ?_
   rintro e w2 ⟨A2, c2, rfl, l1, l2, hr2, f2⟩
   clear HC y
   have HR2 : Hid (tIns.slice.rd w2 (Nw wr w2) [.slice A2 xs[k].length c2] xs[k]) := ⟨A2, c2, rfl, l1, l2, hr2⟩
   have F2 := hid f2
   clear hr2 f2 l1 l2
   go_wp2_with (first | (at_builtin; refine kAw (t := tIns.slice) kBl F1.o HR.o F2.o HR2.o so dc ?_; intro v3 w3 f3 hr3; have F3 := hid f3; have R3 := hid hr3; clear f3 hr3) | fail)
   exact yy7
 exact yy5
abbrev q7x6 (a0 : El) (a1 a2 : Option Addr) (a3 a4 : Nat) : Array Value := #[.int .i64 a0.mode, .int .i64 a0.table, .slice a1 a0.off.length a3, .int .i64 a0.type, .slice a2 a0.items.length a4]
theorem kEn (a : El) {ms : LV} (S : Nat → Prop) (w : World) (h : tEl.rd w S ms a) (hS : Lt S w) (hb : ElB a) :
    Calls prog 104 #[.agg ms.toArray] w (kAN tEl a w) := by
 obtain ⟨P0, p0, P1, p1, rfl, f0, f1, h0_l, h0_c, h0, f3, h1_l, h1_c, h1⟩ := kEE h
 have HC0 : Hid (∀ X, Fr No w X → Calls prog 100 #[.slice P0 a.off.length p0] X (EachTo tIns a.off X)) := fun X f => kBR P0 p0 a.off S X (els_up h0 f hS i2) (fun k hk => ltl (hS k hk) f.size) hb.1
 have HC1 : Hid (∀ X, Fr No w X → Calls prog 105 #[.slice P1 a.items.length p1, .func (.func 100) #[] #[]] X (EachTo tIns.slice a.items X)) := fun X f => kDS P1 p1 a.items S X (els_up h1 f hS i2) (fun k hk => ltl (hS k hk) f.size) hb.2.1 hb.2.2
 have F0 := hid (((Fr.refl No w).alloc (.cells (q7x6 a P0 P1 p0 p1) 112)).alloc (.cells kKG 112))
 have G0 := hid ((Blk.new w 112 (q7x6 a P0 P1 p0 p1)).alloc (.cells kKG 112))
 have G1 := hid (Blk.new1 w (.cells (q7x6 a P0 P1 p0 p1) 112) 112 kKG)
 have HF := hid ((⟨f0, f1, f3⟩ : _ ∧ _ ∧ _))
 have HS := hid hS
 clear h hS h0_l h0_c h0 h1_l h1_c h1 f0 f1 f3
 go_enter func104, ntmps104
 go_upto_region 1 with fail
 have HW : Hid (((w.alloc (.cells (q7x6 a P0 P1 p0 p1) 112)).alloc (.cells kKG 112)).heap.size = w.heap.size + 2) := by unfold Hid; simp
 generalize (w.alloc (.cells (q7x6 a P0 P1 p0 p1) 112)).alloc (.cells kKG 112) = W at *
 have FZ := hid (Fr.refl No W)
 have HE := hid (Its.nil (W := W) (X := W))
 have HX : Hid (∀ X, Fr No W X → Ce X w.heap.size 2 (.slice P0 a.off.length p0) ∧ Ce X w.heap.size 4 (.slice P1 a.items.length p1)) := fun X g => ⟨(G0.o.fr g id).cell 2, (G0.o.fr g id).cell 4⟩
 refine rwP (Fr No W) [7] [0, 1, 3, 4, 2, 6, 5, 7, 8, 9] [2, 5, 7, 9] (Fr.refl No _).drew ?_
 replace FZ := hid (Fr.refl No W).drew
 replace HE := hid (HE.o.no FZ.o)
 refine rP HX.o ?_
 refine kAI rfl rfl fun K hK => sz ?_
 refine (HC0.o _ (F0.o.trans FZ.o i3)).mono ?_
 rintro e w0 ⟨B0, d0, rfl, l1, l2, el, f1⟩
 replace HE := hid (HE.o.push f1 FZ.o.size l1 l2 el)
 replace FZ := ftr FZ f1
 clear f1 el l1 l2
 refine hK _ _ (fun _ => FZ.o) ?_
 clear hK K
 refine rP HX.o ?_
 refine kAI rfl rfl fun K hK => sz ?_
 refine (HC1.o _ (F0.o.trans FZ.o i3)).mono ?_
 rintro e w1 ⟨B1, d1, rfl, l1, l2, el, f1⟩
 replace HE := hid (HE.o.push f1 FZ.o.size l1 l2 el)
 replace FZ := ftr FZ f1
 clear f1 el l1 l2
 refine hK _ _ (fun _ => FZ.o) ?_
 clear hK K
 refine rP HX.o ?_
 replace G0 := hid (G0.o.fr FZ.o id)
 replace G1 := hid (G1.o.fr FZ.o id)
 have Y0 := G0.o
 have z := Y0.cell 2
 have u := Y0.frozen 2
 refine kAI rfl rfl fun K hK => sz ?_
 clear z u
 refine hK _ _ (fun h => by cases h) ?_
 clear hK K
 refine rP HX.o ?_
 have Y1 := Y0.set_ 2 (.slice B0 a.off.length d0)
 simp only [zC] at Y1
 have z := Y1.cell 4
 have u := Y1.frozen 4
 refine kAI rfl rfl fun K hK => sz ?_
 clear z u
 refine hK _ _ (fun h => by cases h) ?_
 clear hK K
 refine rP HX.o ?_
 clear Y0 Y1 HX
 refine kAs ?_
 have FS := (((Fr.refl (One w.heap.size) w1).setCell ⟨w.heap.size, 2, none⟩ (.slice B0 a.off.length d0) (fun _ => rfl)).setCell ⟨w.heap.size, 4, none⟩ (.slice B1 a.items.length d1) (fun _ => rfl))
 replace G0 := ((G0.o.set_ 2 (.slice B0 a.off.length d0)).set_ 4 (.slice B1 a.items.length d1))
 simp only [zC] at G0
 replace G0 := hid G0
 replace G1 := hid (G1.o.fr FS (fun e => by have e : w.heap.size + 1 = w.heap.size := e; omega))
 replace HE := hid (HE.o.fr FS (fun k hk e => by have e : k = w.heap.size := e; have := HW.o; omega))
 replace F0 := hid ((F0.o.trans FZ.o i3).trans FS (fun i hi h => by have h : i = w.heap.size := h; omega))
 have HWZ : Hid (W.heap.size ≤ ((w1.setCell ⟨w.heap.size, 2, none⟩ (.slice B0 a.off.length d0)).setCell ⟨w.heap.size, 4, none⟩ (.slice B1 a.items.length d1)).heap.size) := Nat.le_trans FZ.o.size FS.size
 clear FS FZ
 generalize ((w1.setCell ⟨w.heap.size, 2, none⟩ (.slice B0 a.off.length d0)).setCell ⟨w.heap.size, 4, none⟩ (.slice B1 a.items.length d1)) = Z1 at *
 have FZ := hid (Fr.refl No Z1)
 obtain ⟨ds, hds⟩ : ∃ ds : LV, ds = [.int .i64 a.mode, .int .i64 a.table, .slice B0 a.off.length d0, .int .i64 a.type, .slice B1 a.items.length d1] := ⟨_, rfl⟩
 have RG : Z1.rangeAt w.heap.size 0 ds := by rw [hds]; exact kBJ G0.o
 have HDS := hid hds
 clear hds
 have HT : Hid (Z1.there (w.heap.size + 1) 0 5) := there_blk G1.o rfl
 have HI : Hid ((prog.info? 112).map (·.size) = some 5) := by unfold Hid; kernel_rfl
 have HL : Hid (ds.length = 5) := by rw [HDS.o]; rfl
 go_wp2_with (first | refine ldG underlying112 HI.o RG HL.o ?_ | refine stG HI.o HT.o HL.o (by rw [HDS.o]; rfl) ?_ | fail)
 refine kBu underlying112 HI.o F0.o om HT.o HL.o (fun FY => ?_)
 have hG := G1.o.lt
 have hWW := HW.o
 rw [HDS.o] at FY ⊢
 have E := (HE.o.fr FY (fun k hk e => by have e : k = w.heap.size + 1 := e; omega)).low (w := w) om
 have x1 := E.get 0 rfl
 have x0 := E.get 1 rfl
 exact kIr (a := a) HF.o.1 HF.o.2.1 x0.1 x0.2.1 x0.2.2 HF.o.2.2 x1.1 x1.2.1 x1.2.2
structure MdB (a : Md) : Prop where
 types : a.types.length ≤ 1048576 ∧ ∀ x ∈ a.types, FnB x
 imports : a.imports.length ≤ 1048576
 funcs : a.funcs.length ≤ 1048576 ∧ ∀ x ∈ a.funcs, CdB x
 tables : a.tables.length ≤ 1048576
 mems : a.mems.length ≤ 1048576
 globals : a.globals.length ≤ 1048576 ∧ ∀ x ∈ a.globals, GdB x
 exports : a.exports.length ≤ 1048576
 elems : a.elems.length ≤ 1048576 ∧ ∀ x ∈ a.elems, ElB x
 datas : a.datas.length ≤ 1048576 ∧ ∀ x ∈ a.datas, DaB x
 customs : a.customs.length ≤ 1048576 ∧ ∀ x ∈ a.customs, CuB x
instance : kAQ tLim := by unfold tLim tLim0; infer_instance
instance : kAQ tTb := by unfold tTb tTb0; infer_instance
instance : kAQ tGl := by unfold tGl tGl0; infer_instance
instance : kAQ tIm := by unfold tIm tIm0; infer_instance
instance : kAQ tEx := by unfold tEx tEx0; infer_instance
abbrev q7x0 (a0 a1 a2 a3 a4 a5 a6 a7 a8 a9 : Option Addr) (a10 : Md) (a11 a12 a13 a14 a15 a16 a17 a18 a19 a20 : Nat) : Array Value := #[.slice a0 a10.types.length a11, .slice a1 a10.imports.length a12, .slice a2 a10.funcs.length a13, .slice a3 a10.tables.length a14, .slice a4 a10.mems.length a15, .slice a5 a10.globals.length a16, .slice a6 a10.exports.length a17, .bool a10.hasStart, .int .i64 a10.start, .slice a7 a10.elems.length a18, .slice a8 a10.datas.length a19, .slice a9 a10.customs.length a20]
abbrev q7x1 : Array Value := #[.slice none 0 0, .slice none 0 0, .slice none 0 0, .slice none 0 0, .slice none 0 0, .slice none 0 0, .slice none 0 0, .bool false, .int .i64 0, .slice none 0 0, .slice none 0 0, .slice none 0 0]
theorem kDs (a : Md) {ms : LV} (S : Nat → Prop) (w : World) (h : tMd.rd w S ms a) (hS : Lt S w) (hb : MdB a) :
    Calls prog 69 #[.agg ms.toArray] w (kAN tMd a w) := by
 obtain ⟨P0, p0, P1, p1, P2, p2, P3, p3, P4, p4, P5, p5, P6, p6, P7, p7, P8, p8, P9, p9, rfl, h0_l, h0_c, h0, h1_l, h1_c, h1, h2_l, h2_c, h2, h3_l, h3_c, h3, h4_l, h4_c, h4, h5_l, h5_c, h5, h6_l, h6_c, h6, f7, h7_l, h7_c, h7, h8_l, h8_c, h8, h9_l, h9_c, h9⟩ := kBS h
 have HC0 : Hid (∀ X, Fr No w X → Calls prog 92 #[.slice P0 a.types.length p0, .func (.func 93) #[] #[]] X (EachTo tFn a.types X)) := fun X f => kFI P0 p0 a.types S X (els_up h0 f hS i2) (fun k hk => ltl (hS k hk) f.size) hb.types.1 (fun k hk ds Y f2 hr => kEm a.types[k] S Y hr (fun k hk => ltl (hS k hk) (Nat.le_trans f.size f2.size)) (by have := (hb.types.2 _ (List.getElem_mem hk)).1; omega) (by have := (hb.types.2 _ (List.getElem_mem hk)).2; omega))
 have HC1 : Hid (∀ X, Fr No w X → Calls prog 94 #[.slice P1 a.imports.length p1] X (EachTo tIm a.imports X)) := fun X f => (kEY P1 p1 a.imports S X (els_up h1 f hS i2) (fun k hk => ltl (hS k hk) f.size) (by have := hb.imports; omega)).mono (fun _ _ h => EachTo.of_clone h)
 have HC2 : Hid (∀ X, Fr No w X → Calls prog 98 #[.slice P2 a.funcs.length p2, .func (.func 99) #[] #[]] X (EachTo tCd a.funcs X)) := fun X f => kFM P2 p2 a.funcs S X (els_up h2 f hS i2) (fun k hk => ltl (hS k hk) f.size) hb.funcs.1 (fun k hk ds Y f2 hr => kEq a.funcs[k] S Y hr (fun k hk => ltl (hS k hk) (Nat.le_trans f.size f2.size)) (hb.funcs.2 _ (List.getElem_mem hk)))
 have HC3 : Hid (∀ X, Fr No w X → Calls prog 95 #[.slice P3 a.tables.length p3] X (EachTo tTb a.tables X)) := fun X f => (kEX P3 p3 a.tables S X (els_up h3 f hS i2) (fun k hk => ltl (hS k hk) f.size) (by have := hb.tables; omega)).mono (fun _ _ h => EachTo.of_clone h)
 have HC4 : Hid (∀ X, Fr No w X → Calls prog 96 #[.slice P4 a.mems.length p4] X (EachTo tLim a.mems X)) := fun X f => (kDu P4 p4 a.mems S X (els_up h4 f hS i2) (fun k hk => ltl (hS k hk) f.size) (by have := hb.mems; omega)).mono (fun _ _ h => EachTo.of_clone h)
 have HC5 : Hid (∀ X, Fr No w X → Calls prog 101 #[.slice P5 a.globals.length p5, .func (.func 102) #[] #[]] X (EachTo tGd a.globals X)) := fun X f => kFH P5 p5 a.globals S X (els_up h5 f hS i2) (fun k hk => ltl (hS k hk) f.size) hb.globals.1 (fun k hk ds Y f2 hr => kEl a.globals[k] S Y hr (fun k hk => ltl (hS k hk) (Nat.le_trans f.size f2.size)) (hb.globals.2 _ (List.getElem_mem hk)))
 have HC6 : Hid (∀ X, Fr No w X → Calls prog 97 #[.slice P6 a.exports.length p6] X (EachTo tEx a.exports X)) := fun X f => (kEZ P6 p6 a.exports S X (els_up h6 f hS i2) (fun k hk => ltl (hS k hk) f.size) (by have := hb.exports; omega)).mono (fun _ _ h => EachTo.of_clone h)
 have HC7 : Hid (∀ X, Fr No w X → Calls prog 103 #[.slice P7 a.elems.length p7, .func (.func 104) #[] #[]] X (EachTo tEl a.elems X)) := fun X f => kFJ P7 p7 a.elems S X (els_up h7 f hS i2) (fun k hk => ltl (hS k hk) f.size) hb.elems.1 (fun k hk ds Y f2 hr => kEn a.elems[k] S Y hr (fun k hk => ltl (hS k hk) (Nat.le_trans f.size f2.size)) (hb.elems.2 _ (List.getElem_mem hk)))
 have HC8 : Hid (∀ X, Fr No w X → Calls prog 106 #[.slice P8 a.datas.length p8, .func (.func 107) #[] #[]] X (EachTo tDa a.datas X)) := fun X f => kFK P8 p8 a.datas S X (els_up h8 f hS i2) (fun k hk => ltl (hS k hk) f.size) hb.datas.1 (fun k hk ds Y f2 hr => kEo a.datas[k] S Y hr (fun k hk => ltl (hS k hk) (Nat.le_trans f.size f2.size)) (hb.datas.2 _ (List.getElem_mem hk)))
 have HC9 : Hid (∀ X, Fr No w X → Calls prog 109 #[.slice P9 a.customs.length p9, .func (.func 110) #[] #[]] X (EachTo tCu a.customs X)) := fun X f => kFL P9 p9 a.customs S X (els_up h9 f hS i2) (fun k hk => ltl (hS k hk) f.size) hb.customs.1 (fun k hk ds Y f2 hr => kEp a.customs[k] S Y hr (fun k hk => ltl (hS k hk) (Nat.le_trans f.size f2.size)) (hb.customs.2 _ (List.getElem_mem hk)))
 have F0 := hid (((Fr.refl No w).alloc (.cells (q7x0 P0 P1 P2 P3 P4 P5 P6 P7 P8 P9 a p0 p1 p2 p3 p4 p5 p6 p7 p8 p9) 55)).alloc (.cells q7x1 55))
 have G0 := hid ((Blk.new w 55 (q7x0 P0 P1 P2 P3 P4 P5 P6 P7 P8 P9 a p0 p1 p2 p3 p4 p5 p6 p7 p8 p9)).alloc (.cells q7x1 55))
 have G1 := hid (Blk.new1 w (.cells (q7x0 P0 P1 P2 P3 P4 P5 P6 P7 P8 P9 a p0 p1 p2 p3 p4 p5 p6 p7 p8 p9) 55) 55 q7x1)
 have HF := hid (And.intro f7 True.intro)
 have HS := hid hS
 clear h hS h0_l h0_c h0 h1_l h1_c h1 h2_l h2_c h2 h3_l h3_c h3 h4_l h4_c h4 h5_l h5_c h5 h6_l h6_c h6 h7_l h7_c h7 h8_l h8_c h8 h9_l h9_c h9 f7
 go_enter func69, ntmps69
 go_upto_region 1 with fail
 have HW : Hid (((w.alloc (.cells (q7x0 P0 P1 P2 P3 P4 P5 P6 P7 P8 P9 a p0 p1 p2 p3 p4 p5 p6 p7 p8 p9) 55)).alloc (.cells q7x1 55)).heap.size = w.heap.size + 2) := by unfold Hid; simp
 generalize (w.alloc (.cells (q7x0 P0 P1 P2 P3 P4 P5 P6 P7 P8 P9 a p0 p1 p2 p3 p4 p5 p6 p7 p8 p9) 55)).alloc (.cells q7x1 55) = W at *
 have FZ := hid (Fr.refl No W)
 have HE := hid (Its.nil (W := W) (X := W))
 have z := G0.o.cell 0
 go_wp2_with fail
 refine (HC0.o _ (F0.o.trans FZ.o i3)).mono ?_
 rintro e w0 ⟨B0, d0, rfl, l1, l2, el, f1⟩
 replace HE := hid (HE.o.push f1 FZ.o.size l1 l2 el)
 replace FZ := ftr FZ f1
 clear f1 el l1 l2
 clear z
 replace G0 := hid (G0.o.fr FZ.o id)
 replace G1 := hid (G1.o.fr FZ.o id)
 have z := G0.o.cell 0
 have u := G0.o.frozen 0
 go_upto_region 2 with fail
 clear z u
 have FS := ((Fr.refl (One w.heap.size) w0).setCell ⟨w.heap.size, 0, none⟩ (.slice B0 a.types.length d0) (fun _ => rfl))
 replace G0 := (G0.o.set_ 0 (.slice B0 a.types.length d0))
 simp only [zC] at G0
 replace G0 := hid G0
 replace G1 := hid (G1.o.fr FS (fun e => by have e : w.heap.size + 1 = w.heap.size := e; omega))
 replace HE := hid (HE.o.fr FS (fun k hk e => by have e : k = w.heap.size := e; have := HW.o; omega))
 replace F0 := hid ((F0.o.trans FZ.o i3).trans FS (fun i hi h => by have h : i = w.heap.size := h; omega))
 have HWZ : Hid (W.heap.size ≤ (w0.setCell ⟨w.heap.size, 0, none⟩ (.slice B0 a.types.length d0)).heap.size) := Nat.le_trans FZ.o.size FS.size
 clear FS FZ
 generalize (w0.setCell ⟨w.heap.size, 0, none⟩ (.slice B0 a.types.length d0)) = Z0 at *
 have FZ := hid (Fr.refl No Z0)
 have HX : Hid (∀ X, Fr No Z0 X → Ce X w.heap.size 1 (.slice P1 a.imports.length p1) ∧ Ce X w.heap.size 3 (.slice P3 a.tables.length p3) ∧ Ce X w.heap.size 4 (.slice P4 a.mems.length p4) ∧ Ce X w.heap.size 6 (.slice P6 a.exports.length p6)) := fun X g => ⟨(G0.o.fr g id).cell 1, (G0.o.fr g id).cell 3, (G0.o.fr g id).cell 4, (G0.o.fr g id).cell 6⟩
 refine rwP (Fr No Z0) [13] [0, 1, 3, 4, 6, 7, 9, 10, 2, 12, 5, 8, 11, 13, 14, 15, 16, 17, 18, 19] [2, 5, 8, 11, 13, 15, 17, 19] (Fr.refl No _).drew ?_
 replace FZ := hid (Fr.refl No Z0).drew
 replace HE := hid (HE.o.no FZ.o)
 refine rP HX.o ?_
 refine kAI rfl rfl fun K hK => sz ?_
 refine (HC1.o _ (F0.o.trans FZ.o i3)).mono ?_
 rintro e w1 ⟨B1, d1, rfl, l1, l2, el, f1⟩
 replace HE := hid (HE.o.push f1 (Nat.le_trans HWZ.o FZ.o.size) l1 l2 el)
 replace FZ := ftr FZ f1
 clear f1 el l1 l2
 refine hK _ _ (fun _ => FZ.o) ?_
 clear hK K
 refine rP HX.o ?_
 refine kAI rfl rfl fun K hK => sz ?_
 refine (HC3.o _ (F0.o.trans FZ.o i3)).mono ?_
 rintro e w3 ⟨B3, d3, rfl, l1, l2, el, f1⟩
 replace HE := hid (HE.o.push f1 (Nat.le_trans HWZ.o FZ.o.size) l1 l2 el)
 replace FZ := ftr FZ f1
 clear f1 el l1 l2
 refine hK _ _ (fun _ => FZ.o) ?_
 clear hK K
 refine rP HX.o ?_
 refine kAI rfl rfl fun K hK => sz ?_
 refine (HC4.o _ (F0.o.trans FZ.o i3)).mono ?_
 rintro e w4 ⟨B4, d4, rfl, l1, l2, el, f1⟩
 replace HE := hid (HE.o.push f1 (Nat.le_trans HWZ.o FZ.o.size) l1 l2 el)
 replace FZ := ftr FZ f1
 clear f1 el l1 l2
 refine hK _ _ (fun _ => FZ.o) ?_
 clear hK K
 refine rP HX.o ?_
 refine kAI rfl rfl fun K hK => sz ?_
 refine (HC6.o _ (F0.o.trans FZ.o i3)).mono ?_
 rintro e w6 ⟨B6, d6, rfl, l1, l2, el, f1⟩
 replace HE := hid (HE.o.push f1 (Nat.le_trans HWZ.o FZ.o.size) l1 l2 el)
 replace FZ := ftr FZ f1
 clear f1 el l1 l2
 refine hK _ _ (fun _ => FZ.o) ?_
 clear hK K
 refine rP HX.o ?_
 replace G0 := hid (G0.o.fr FZ.o id)
 replace G1 := hid (G1.o.fr FZ.o id)
 have Y1 := G0.o
 have z := Y1.cell 1
 have u := Y1.frozen 1
 refine kAI rfl rfl fun K hK => sz ?_
 clear z u
 refine hK _ _ (fun h => by cases h) ?_
 clear hK K
 refine rP HX.o ?_
 have Y3 := Y1.set_ 1 (.slice B1 a.imports.length d1)
 simp only [zC] at Y3
 have z := Y3.cell 3
 have u := Y3.frozen 3
 refine kAI rfl rfl fun K hK => sz ?_
 clear z u
 refine hK _ _ (fun h => by cases h) ?_
 clear hK K
 refine rP HX.o ?_
 have Y4 := Y3.set_ 3 (.slice B3 a.tables.length d3)
 simp only [zC] at Y4
 have z := Y4.cell 4
 have u := Y4.frozen 4
 refine kAI rfl rfl fun K hK => sz ?_
 clear z u
 refine hK _ _ (fun h => by cases h) ?_
 clear hK K
 refine rP HX.o ?_
 have Y6 := Y4.set_ 4 (.slice B4 a.mems.length d4)
 simp only [zC] at Y6
 have z := Y6.cell 6
 have u := Y6.frozen 6
 refine kAI rfl rfl fun K hK => sz ?_
 clear z u
 refine hK _ _ (fun h => by cases h) ?_
 clear hK K
 refine rP HX.o ?_
 clear Y1 Y3 Y4 Y6 HX
 refine kAs ?_
 have FS := (((((Fr.refl (One w.heap.size) w6).setCell ⟨w.heap.size, 1, none⟩ (.slice B1 a.imports.length d1) (fun _ => rfl)).setCell ⟨w.heap.size, 3, none⟩ (.slice B3 a.tables.length d3) (fun _ => rfl)).setCell ⟨w.heap.size, 4, none⟩ (.slice B4 a.mems.length d4) (fun _ => rfl)).setCell ⟨w.heap.size, 6, none⟩ (.slice B6 a.exports.length d6) (fun _ => rfl))
 replace G0 := ((((G0.o.set_ 1 (.slice B1 a.imports.length d1)).set_ 3 (.slice B3 a.tables.length d3)).set_ 4 (.slice B4 a.mems.length d4)).set_ 6 (.slice B6 a.exports.length d6))
 simp only [zC] at G0
 replace G0 := hid G0
 replace G1 := hid (G1.o.fr FS (fun e => by have e : w.heap.size + 1 = w.heap.size := e; omega))
 replace HE := hid (HE.o.fr FS (fun k hk e => by have e : k = w.heap.size := e; have := HW.o; omega))
 replace F0 := hid ((F0.o.trans FZ.o i3).trans FS (fun i hi h => by have h : i = w.heap.size := h; omega))
 have HWZ : Hid (W.heap.size ≤ ((((w6.setCell ⟨w.heap.size, 1, none⟩ (.slice B1 a.imports.length d1)).setCell ⟨w.heap.size, 3, none⟩ (.slice B3 a.tables.length d3)).setCell ⟨w.heap.size, 4, none⟩ (.slice B4 a.mems.length d4)).setCell ⟨w.heap.size, 6, none⟩ (.slice B6 a.exports.length d6)).heap.size) := Nat.le_trans HWZ.o (Nat.le_trans FZ.o.size FS.size)
 clear FS FZ
 generalize ((((w6.setCell ⟨w.heap.size, 1, none⟩ (.slice B1 a.imports.length d1)).setCell ⟨w.heap.size, 3, none⟩ (.slice B3 a.tables.length d3)).setCell ⟨w.heap.size, 4, none⟩ (.slice B4 a.mems.length d4)).setCell ⟨w.heap.size, 6, none⟩ (.slice B6 a.exports.length d6)) = Z6 at *
 have FZ := hid (Fr.refl No Z6)
 have z := G0.o.cell 2
 go_wp2_with fail
 refine (HC2.o _ (F0.o.trans FZ.o i3)).mono ?_
 rintro e w2 ⟨B2, d2, rfl, l1, l2, el, f1⟩
 replace HE := hid (HE.o.push f1 (Nat.le_trans HWZ.o FZ.o.size) l1 l2 el)
 replace FZ := ftr FZ f1
 clear f1 el l1 l2
 clear z
 replace G0 := hid (G0.o.fr FZ.o id)
 replace G1 := hid (G1.o.fr FZ.o id)
 have z := G0.o.cell 2
 have u := G0.o.frozen 2
 go_upto_region 4 with fail
 clear z u
 have FS := ((Fr.refl (One w.heap.size) w2).setCell ⟨w.heap.size, 2, none⟩ (.slice B2 a.funcs.length d2) (fun _ => rfl))
 replace G0 := (G0.o.set_ 2 (.slice B2 a.funcs.length d2))
 simp only [zC] at G0
 replace G0 := hid G0
 replace G1 := hid (G1.o.fr FS (fun e => by have e : w.heap.size + 1 = w.heap.size := e; omega))
 replace HE := hid (HE.o.fr FS (fun k hk e => by have e : k = w.heap.size := e; have := HW.o; omega))
 replace F0 := hid ((F0.o.trans FZ.o i3).trans FS (fun i hi h => by have h : i = w.heap.size := h; omega))
 have HWZ : Hid (W.heap.size ≤ (w2.setCell ⟨w.heap.size, 2, none⟩ (.slice B2 a.funcs.length d2)).heap.size) := Nat.le_trans HWZ.o (Nat.le_trans FZ.o.size FS.size)
 clear FS FZ
 generalize (w2.setCell ⟨w.heap.size, 2, none⟩ (.slice B2 a.funcs.length d2)) = Z2 at *
 have FZ := hid (Fr.refl No Z2)
 have z := G0.o.cell 5
 go_wp2_with fail
 refine (HC5.o _ (F0.o.trans FZ.o i3)).mono ?_
 rintro e w5 ⟨B5, d5, rfl, l1, l2, el, f1⟩
 replace HE := hid (HE.o.push f1 (Nat.le_trans HWZ.o FZ.o.size) l1 l2 el)
 replace FZ := ftr FZ f1
 clear f1 el l1 l2
 clear z
 replace G0 := hid (G0.o.fr FZ.o id)
 replace G1 := hid (G1.o.fr FZ.o id)
 have z := G0.o.cell 5
 have u := G0.o.frozen 5
 go_upto_region 5 with fail
 clear z u
 have FS := ((Fr.refl (One w.heap.size) w5).setCell ⟨w.heap.size, 5, none⟩ (.slice B5 a.globals.length d5) (fun _ => rfl))
 replace G0 := (G0.o.set_ 5 (.slice B5 a.globals.length d5))
 simp only [zC] at G0
 replace G0 := hid G0
 replace G1 := hid (G1.o.fr FS (fun e => by have e : w.heap.size + 1 = w.heap.size := e; omega))
 replace HE := hid (HE.o.fr FS (fun k hk e => by have e : k = w.heap.size := e; have := HW.o; omega))
 replace F0 := hid ((F0.o.trans FZ.o i3).trans FS (fun i hi h => by have h : i = w.heap.size := h; omega))
 have HWZ : Hid (W.heap.size ≤ (w5.setCell ⟨w.heap.size, 5, none⟩ (.slice B5 a.globals.length d5)).heap.size) := Nat.le_trans HWZ.o (Nat.le_trans FZ.o.size FS.size)
 clear FS FZ
 generalize (w5.setCell ⟨w.heap.size, 5, none⟩ (.slice B5 a.globals.length d5)) = Z5 at *
 have FZ := hid (Fr.refl No Z5)
 have z := G0.o.cell 9
 go_wp2_with fail
 refine (HC7.o _ (F0.o.trans FZ.o i3)).mono ?_
 rintro e w7 ⟨B7, d7, rfl, l1, l2, el, f1⟩
 replace HE := hid (HE.o.push f1 (Nat.le_trans HWZ.o FZ.o.size) l1 l2 el)
 replace FZ := ftr FZ f1
 clear f1 el l1 l2
 clear z
 replace G0 := hid (G0.o.fr FZ.o id)
 replace G1 := hid (G1.o.fr FZ.o id)
 have z := G0.o.cell 9
 have u := G0.o.frozen 9
 go_upto_region 6 with fail
 clear z u
 have FS := ((Fr.refl (One w.heap.size) w7).setCell ⟨w.heap.size, 9, none⟩ (.slice B7 a.elems.length d7) (fun _ => rfl))
 replace G0 := (G0.o.set_ 9 (.slice B7 a.elems.length d7))
 simp only [zC] at G0
 replace G0 := hid G0
 replace G1 := hid (G1.o.fr FS (fun e => by have e : w.heap.size + 1 = w.heap.size := e; omega))
 replace HE := hid (HE.o.fr FS (fun k hk e => by have e : k = w.heap.size := e; have := HW.o; omega))
 replace F0 := hid ((F0.o.trans FZ.o i3).trans FS (fun i hi h => by have h : i = w.heap.size := h; omega))
 have HWZ : Hid (W.heap.size ≤ (w7.setCell ⟨w.heap.size, 9, none⟩ (.slice B7 a.elems.length d7)).heap.size) := Nat.le_trans HWZ.o (Nat.le_trans FZ.o.size FS.size)
 clear FS FZ
 generalize (w7.setCell ⟨w.heap.size, 9, none⟩ (.slice B7 a.elems.length d7)) = Z7 at *
 have FZ := hid (Fr.refl No Z7)
 have z := G0.o.cell 10
 go_wp2_with fail
 refine (HC8.o _ (F0.o.trans FZ.o i3)).mono ?_
 rintro e w8 ⟨B8, d8, rfl, l1, l2, el, f1⟩
 replace HE := hid (HE.o.push f1 (Nat.le_trans HWZ.o FZ.o.size) l1 l2 el)
 replace FZ := ftr FZ f1
 clear f1 el l1 l2
 clear z
 replace G0 := hid (G0.o.fr FZ.o id)
 replace G1 := hid (G1.o.fr FZ.o id)
 have z := G0.o.cell 10
 have u := G0.o.frozen 10
 go_upto_region 7 with fail
 clear z u
 have FS := ((Fr.refl (One w.heap.size) w8).setCell ⟨w.heap.size, 10, none⟩ (.slice B8 a.datas.length d8) (fun _ => rfl))
 replace G0 := (G0.o.set_ 10 (.slice B8 a.datas.length d8))
 simp only [zC] at G0
 replace G0 := hid G0
 replace G1 := hid (G1.o.fr FS (fun e => by have e : w.heap.size + 1 = w.heap.size := e; omega))
 replace HE := hid (HE.o.fr FS (fun k hk e => by have e : k = w.heap.size := e; have := HW.o; omega))
 replace F0 := hid ((F0.o.trans FZ.o i3).trans FS (fun i hi h => by have h : i = w.heap.size := h; omega))
 have HWZ : Hid (W.heap.size ≤ (w8.setCell ⟨w.heap.size, 10, none⟩ (.slice B8 a.datas.length d8)).heap.size) := Nat.le_trans HWZ.o (Nat.le_trans FZ.o.size FS.size)
 clear FS FZ
 generalize (w8.setCell ⟨w.heap.size, 10, none⟩ (.slice B8 a.datas.length d8)) = Z8 at *
 have FZ := hid (Fr.refl No Z8)
 have z := G0.o.cell 11
 go_wp2_with fail
 refine (HC9.o _ (F0.o.trans FZ.o i3)).mono ?_
 rintro e w9 ⟨B9, d9, rfl, l1, l2, el, f1⟩
 replace HE := hid (HE.o.push f1 (Nat.le_trans HWZ.o FZ.o.size) l1 l2 el)
 replace FZ := ftr FZ f1
 clear f1 el l1 l2
 clear z
 replace G0 := hid (G0.o.fr FZ.o id)
 replace G1 := hid (G1.o.fr FZ.o id)
 have z := G0.o.cell 11
 have u := G0.o.frozen 11
 go_upto_region 8 with fail
 clear z u
 have FS := ((Fr.refl (One w.heap.size) w9).setCell ⟨w.heap.size, 11, none⟩ (.slice B9 a.customs.length d9) (fun _ => rfl))
 replace G0 := (G0.o.set_ 11 (.slice B9 a.customs.length d9))
 simp only [zC] at G0
 replace G0 := hid G0
 replace G1 := hid (G1.o.fr FS (fun e => by have e : w.heap.size + 1 = w.heap.size := e; omega))
 replace HE := hid (HE.o.fr FS (fun k hk e => by have e : k = w.heap.size := e; have := HW.o; omega))
 replace F0 := hid ((F0.o.trans FZ.o i3).trans FS (fun i hi h => by have h : i = w.heap.size := h; omega))
 have HWZ : Hid (W.heap.size ≤ (w9.setCell ⟨w.heap.size, 11, none⟩ (.slice B9 a.customs.length d9)).heap.size) := Nat.le_trans HWZ.o (Nat.le_trans FZ.o.size FS.size)
 clear FS FZ
 generalize (w9.setCell ⟨w.heap.size, 11, none⟩ (.slice B9 a.customs.length d9)) = Z9 at *
 have FZ := hid (Fr.refl No Z9)
 obtain ⟨ds, hds⟩ : ∃ ds : LV, ds = [.slice B0 a.types.length d0, .slice B1 a.imports.length d1, .slice B2 a.funcs.length d2, .slice B3 a.tables.length d3, .slice B4 a.mems.length d4, .slice B5 a.globals.length d5, .slice B6 a.exports.length d6, .bool a.hasStart, .int .i64 a.start, .slice B7 a.elems.length d7, .slice B8 a.datas.length d8, .slice B9 a.customs.length d9] := ⟨_, rfl⟩
 have RG : Z9.rangeAt w.heap.size 0 ds := by rw [hds]; exact kBJ G0.o
 have HDS := hid hds
 clear hds
 have HT : Hid (Z9.there (w.heap.size + 1) 0 12) := there_blk G1.o rfl
 have HI : Hid ((prog.info? 55).map (·.size) = some 12) := by unfold Hid; kernel_rfl
 have HL : Hid (ds.length = 12) := by rw [HDS.o]; rfl
 go_wp2_with (first | refine ldG underlying55 HI.o RG HL.o ?_ | refine stG HI.o HT.o HL.o (by rw [HDS.o]; rfl) ?_ | fail)
 refine kBu underlying55 HI.o F0.o om HT.o HL.o (fun FY => ?_)
 have hG := G1.o.lt
 have hWW := HW.o
 rw [HDS.o] at FY ⊢
 have E := (HE.o.fr FY (fun k hk e => by have e : k = w.heap.size + 1 := e; omega)).low (w := w) om
 have x9 := E.get 0 rfl
 have x8 := E.get 1 rfl
 have x7 := E.get 2 rfl
 have x5 := E.get 3 rfl
 have x2 := E.get 4 rfl
 have x6 := E.get 5 rfl
 have x4 := E.get 6 rfl
 have x3 := E.get 7 rfl
 have x1 := E.get 8 rfl
 have x0 := E.get 9 rfl
 exact kKB (a := a) x0.1 x0.2.1 x0.2.2 x1.1 x1.2.1 x1.2.2 x2.1 x2.2.1 x2.2.2 x3.1 x3.2.1 x3.2.2 x4.1 x4.2.1 x4.2.2 x5.1 x5.2.1 x5.2.2 x6.1 x6.2.1 x6.2.2 HF.o.1 x7.1 x7.2.1 x7.2.2 x8.1 x8.2.1 x8.2.2 x9.1 x9.2.1 x9.2.2
end Go.Proofs.YthggdemiddjlgaaGreat
