/- Part 10 of the proof: lemmas and contracts of functions. No condition. -/
import Derived.Test.YtdckghiipijobaaGreatQ9
import Derived.Test.YtdckghiipijobaaGreatQ7
import Derived.Test.YtdckghiipijobaaGreatQ1
set_option maxRecDepth 100000
set_option maxHeartbeats 12800000
set_option linter.unusedVariables false
set_option linter.unusedSimpArgs false
set_option linter.unusedSectionVars false
namespace Go.Proofs.YtdckghiipijobaaGreat
open Go.RowKit Go.Proofs.Tryz
theorem kGe {w : World} {S : Nat → Prop} {x : Rx} {cs : LV} (h : tRx.rd w S cs x) (hS : Lt S w)  (k : Nat) (hk : k < x.elems.length)  (hn : x.elems.length ≤ 1000000) :
    Calls prog 39 #[.agg cs.toArray, .int .i64 (k : Nat)] w (kCA S { x with elems := x.elems.set k ⟨[], true⟩ } w) := by
 obtain ⟨F0, G0, G1⟩ := bx0 w cs z10 39
 obtain ⟨A7, c7, e7, -, -, E7⟩ := kGu h
 obtain ⟨css, hcs, hrd⟩ := kAY E7 hS
 have HC := hid (And.intro hcs hrd)
 have H := hid h
 have HS := hid hS
 have HE7 := hid e7
 have HK := hid hk
 have i0 := nki k
 have i1 : (k : Int) < x.elems.length := om
 have d0 : decide ((k : Int) < 0) = false := by simp
 clear hk
 clear hcs hrd h hS e7 E7
 have HN := hid hn
 go_enter func39, ntmps39
 have z := G0.o.at_ HE7.o
 go_upto_region 4 with fail
 generalize ((w.alloc (.cells cs.toArray 39)).alloc (.cells z10 39)) = W at *
 have HSS : Hid (∀ k, S k → k < W.heap.size ∧ ¬ k = w.heap.size ∧ ¬ k = w.heap.size + 1 ∧ (S k ∨ w.heap.size ≤ k)) := fun k hk => ⟨ltl (HS.o k hk) F0.o.size, by have := HS.o k hk; omega, by have := HS.o k hk; omega, .inl hk⟩
 have HCW := hid (And.intro ((HC.o.1.fr F0.o (fun k hk => ⟨HS.o k hk, fun x => x⟩))) (HC.o.2.frNo F0.o))
 have HEW := hid (kEm (w := W) (S := S) (a := ⟨[], true⟩) (Al := none) (cl := 0) nz nz (.inl rfl))
 go_upto_region 5 with (first | (at_builtin; refine app0 elRs HCW.o (by have := HN.o; omega) dc (fun k hk => (HSS.o k hk).1) ?_; intro v1 w1 hr1 f1; have R1 := hid hr1; have FW1 := hid f1; clear hr1 f1 HCW z) | fail)
 have FT1 := ftr F0 FW1.o
 replace G0 := hid (G0.o.fr FW1.o id)
 replace G1 := hid (G1.o.fr FW1.o id)
 obtain ⟨gq, cg, hg, _⟩ := kBF R1.o (by have := HK.o; simp; omega)
 subst hg
 rw [List.nil_append] at R1
 have HT := hid (kBD R1.o k HK.o)
 have HO1 := hid (R1.o.own (g := gq) rfl)
 go_upto_region 6 with (first | (refine wpList_store_mid (by rfl) 189 _ _ (by rfl) gq (k * 2) #[.slice none 0 0, .bool true] (by rfl) (by rfl) HT.o kr (by simp [Value.oneCell']) ?_) | fail)
 have FG := hid (Fr.setCells' (M := fun q => q = gq) (a := w1) (b := gq) (fun _ => rfl) [.slice none 0 0, .bool true] (k * 2) w1 (Fr.refl _ w1))
 have R2 := hid (R1.o.set (w' := w1.setCells gq (k * 2) [.slice none 0 0, .bool true]) (ds := [.slice none 0 0, .bool true]) (x := ⟨[], true⟩) k HK.o ((inferInstance : TyOk tRs).keep _ _ _ _ _ (kAH HEW.o FW1.o (fun k hk => (HSS.o k hk).1) i2) (fun p hp => FG.o.cell (ltl (HSS.o _ hp).1 FW1.o.size) (fun e => by have := (HSS.o _ hp).1; have := HO1.o.1; omega))) (fun p hp => FG.o.cell (ltl (HSS.o _ hp).1 FW1.o.size) (fun e => by have := (HSS.o _ hp).1; have := HO1.o.1; omega)) (fun cur hb => Blk.setCells _ _ _ _ hb))
 have FW2 := hid (FW1.o.trans FG.o (fun q hq e => by have := HO1.o.1; omega))
 have NE : Hid (∀ (q : Nat) (t : TypeId) (cs : Array Value), Blk w1 q t cs → t ≠ 189 → ¬ q = gq) := fun q t cs hb hne => by obtain ⟨_, cs', h2⟩ := HO1.o; exact Blk.ne_ hb h2 hne
 replace G0 := hid (G0.o.fr FG.o (NE.o _ _ _ G0.o dc))
 replace G1 := hid (G1.o.fr FG.o (NE.o _ _ _ G1.o dc))
 clear NE R1 HT HEW FW1 FT1 HO1 FG
 generalize w1.setCells gq (k * 2) [.slice none 0 0, .bool true] = w2 at *
 have FT2 := ftr F0 FW2.o
 obtain ⟨A', c', e2, l1, l2, E2⟩ := R2.o.els (S' := fun k => S k ∨ (Value.slice (some ⟨gq, 0, none⟩) x.elems.length cg).ownBlock = some k) (fun _ h => .inl h) (fun g hg => .inr hg)
 have e3 : (x.elems.set k ⟨[], true⟩).length = x.elems.length := by simp
 have HR := hid (And.intro (And.intro l1 l2) (And.intro E2 (fun g (e : (Value.slice (some ⟨gq, 0, none⟩) x.elems.length cg).ownBlock = some g) => R2.o.own e)))
 rw [e3] at e2
 injection e2 with q1 q2 q3
 subst q1 q3
 clear R2 l1 l2 E2
 have y := G0.o.frozen 7
 have y' := G0.o.at_ HE7.o
 go_upto_region 7 with fail
 clear y y'
 obtain ⟨N0, N1, HL2, HO2⟩ := setf G0.o G1.o om H.o 7 (.slice (some ⟨gq, 0, none⟩) (x.elems.length) cg) rfl
 go_wp2_with (first | refine ldX N0.o HL2.o ?_ | refine stX N1.o rfl HL2.o HO2.o ?_ | fail)
 exact ryes1 (rcore (x' := { x with elems := x.elems.set k ⟨[], true⟩ }) (t := tRs) (ys := x.elems.set k ⟨[], true⟩) (fun f hB l m e => kNG H.o f HS.o hB l m e) H.o FT2.o G0.o G1.o om HR.o e3 HSS.o (by have := FW2.o.size; omega) F0.o.size dc)
theorem kGf {w : World} {S : Nat → Prop} {x : Rx} {cs : LV} (h : tRx.rd w S cs x) (hS : Lt S w)  (k : Nat) (hk : k < x.datas.length)  (hn : x.datas.length ≤ 1000000) :
    Calls prog 40 #[.agg cs.toArray, .int .i64 (k : Nat)] w (kCA S { x with datas := x.datas.set k ⟨[], true⟩ } w) := by
 obtain ⟨F0, G0, G1⟩ := bx0 w cs z10 39
 obtain ⟨A8, c8, e8, -, -, E8⟩ := kGt h
 obtain ⟨css, hcs, hrd⟩ := kAY E8 hS
 have HC := hid (And.intro hcs hrd)
 have H := hid h
 have HS := hid hS
 have HE8 := hid e8
 have HK := hid hk
 have i0 := nki k
 have i1 : (k : Int) < x.datas.length := om
 have d0 : decide ((k : Int) < 0) = false := by simp
 clear hk
 clear hcs hrd h hS e8 E8
 have HN := hid hn
 go_enter func40, ntmps40
 have z := G0.o.at_ HE8.o
 go_upto_region 4 with fail
 generalize ((w.alloc (.cells cs.toArray 39)).alloc (.cells z10 39)) = W at *
 have HSS : Hid (∀ k, S k → k < W.heap.size ∧ ¬ k = w.heap.size ∧ ¬ k = w.heap.size + 1 ∧ (S k ∨ w.heap.size ≤ k)) := fun k hk => ⟨ltl (HS.o k hk) F0.o.size, by have := HS.o k hk; omega, by have := HS.o k hk; omega, .inl hk⟩
 have HCW := hid (And.intro ((HC.o.1.fr F0.o (fun k hk => ⟨HS.o k hk, fun x => x⟩))) (HC.o.2.frNo F0.o))
 have HEW := hid (kEo (w := W) (S := S) (a := ⟨[], true⟩) (Ab := none) (cb := 0) nz nz (.inl rfl))
 go_upto_region 5 with (first | (at_builtin; refine app0 elRb HCW.o (by have := HN.o; omega) dc (fun k hk => (HSS.o k hk).1) ?_; intro v1 w1 hr1 f1; have R1 := hid hr1; have FW1 := hid f1; clear hr1 f1 HCW z) | fail)
 have FT1 := ftr F0 FW1.o
 replace G0 := hid (G0.o.fr FW1.o id)
 replace G1 := hid (G1.o.fr FW1.o id)
 obtain ⟨gq, cg, hg, _⟩ := kBF R1.o (by have := HK.o; simp; omega)
 subst hg
 rw [List.nil_append] at R1
 have HT := hid (kBD R1.o k HK.o)
 have HO1 := hid (R1.o.own (g := gq) rfl)
 go_upto_region 6 with (first | (refine wpList_store_mid (by rfl) 191 _ _ (by rfl) gq (k * 2) #[.slice none 0 0, .bool true] (by rfl) (by rfl) HT.o kr (by simp [Value.oneCell']) ?_) | fail)
 have FG := hid (Fr.setCells' (M := fun q => q = gq) (a := w1) (b := gq) (fun _ => rfl) [.slice none 0 0, .bool true] (k * 2) w1 (Fr.refl _ w1))
 have R2 := hid (R1.o.set (w' := w1.setCells gq (k * 2) [.slice none 0 0, .bool true]) (ds := [.slice none 0 0, .bool true]) (x := ⟨[], true⟩) k HK.o ((inferInstance : TyOk tRb).keep _ _ _ _ _ (kAH HEW.o FW1.o (fun k hk => (HSS.o k hk).1) i2) (fun p hp => FG.o.cell (ltl (HSS.o _ hp).1 FW1.o.size) (fun e => by have := (HSS.o _ hp).1; have := HO1.o.1; omega))) (fun p hp => FG.o.cell (ltl (HSS.o _ hp).1 FW1.o.size) (fun e => by have := (HSS.o _ hp).1; have := HO1.o.1; omega)) (fun cur hb => Blk.setCells _ _ _ _ hb))
 have FW2 := hid (FW1.o.trans FG.o (fun q hq e => by have := HO1.o.1; omega))
 have NE : Hid (∀ (q : Nat) (t : TypeId) (cs : Array Value), Blk w1 q t cs → t ≠ 191 → ¬ q = gq) := fun q t cs hb hne => by obtain ⟨_, cs', h2⟩ := HO1.o; exact Blk.ne_ hb h2 hne
 replace G0 := hid (G0.o.fr FG.o (NE.o _ _ _ G0.o dc))
 replace G1 := hid (G1.o.fr FG.o (NE.o _ _ _ G1.o dc))
 clear NE R1 HT HEW FW1 FT1 HO1 FG
 generalize w1.setCells gq (k * 2) [.slice none 0 0, .bool true] = w2 at *
 have FT2 := ftr F0 FW2.o
 obtain ⟨A', c', e2, l1, l2, E2⟩ := R2.o.els (S' := fun k => S k ∨ (Value.slice (some ⟨gq, 0, none⟩) x.datas.length cg).ownBlock = some k) (fun _ h => .inl h) (fun g hg => .inr hg)
 have e3 : (x.datas.set k ⟨[], true⟩).length = x.datas.length := by simp
 have HR := hid (And.intro (And.intro l1 l2) (And.intro E2 (fun g (e : (Value.slice (some ⟨gq, 0, none⟩) x.datas.length cg).ownBlock = some g) => R2.o.own e)))
 rw [e3] at e2
 injection e2 with q1 q2 q3
 subst q1 q3
 clear R2 l1 l2 E2
 have y := G0.o.frozen 8
 have y' := G0.o.at_ HE8.o
 go_upto_region 7 with fail
 clear y y'
 obtain ⟨N0, N1, HL2, HO2⟩ := setf G0.o G1.o om H.o 8 (.slice (some ⟨gq, 0, none⟩) (x.datas.length) cg) rfl
 go_wp2_with (first | refine ldX N0.o HL2.o ?_ | refine stX N1.o rfl HL2.o HO2.o ?_ | fail)
 exact ryes1 (rcore (x' := { x with datas := x.datas.set k ⟨[], true⟩ }) (t := tRb) (ys := x.datas.set k ⟨[], true⟩) (fun f hB l m e => kNF H.o f HS.o hB l m e) H.o FT2.o G0.o G1.o om HR.o e3 HSS.o (by have := FW2.o.size; omega) F0.o.size dc)
theorem kEu {w : World} {S : Nat → Prop} {x : Rx} {cs : LV} (h : tRx.rd w S cs x) (hS : Lt S w) (m : Rm) (B : OA) (d : Nat) (k : Nat) (hk : k < x.mems.length) (he : tRm.rd w S [.int .i64 m.lim.min, .int .i64 m.lim.max, .bool m.lim.has, .slice B m.b.length d] m) (hn : x.mems.length ≤ 1000000) :
    Calls prog 45 #[.agg cs.toArray, .int .i64 (k : Nat), .agg #[.int .i64 m.lim.min, .int .i64 m.lim.max, .bool m.lim.has, .slice B m.b.length d]] w (kCA S { x with mems := x.mems.set k m } w) := by
 obtain ⟨F0, G0, G1, G2⟩ := bx1 w cs #[.int .i64 m.lim.min, .int .i64 m.lim.max, .bool m.lim.has, .slice B m.b.length d] 143 z10 39
 obtain ⟨A5, c5, e5, -, -, E5⟩ := kKV h
 obtain ⟨css, hcs, hrd⟩ := kAY E5 hS
 have HC := hid (And.intro hcs hrd)
 have H := hid h
 have HS := hid hS
 have HE5 := hid e5
 have HK := hid hk
 have i0 := nki k
 have i1 : (k : Int) < x.mems.length := om
 have d0 : decide ((k : Int) < 0) = false := by simp
 clear hk
 have HE := hid he
 clear he
 clear hcs hrd h hS e5 E5
 have HN := hid hn
 go_enter func45, ntmps45
 have z := G0.o.at_ HE5.o
 go_upto_region 2 with fail
 generalize (((w.alloc (.cells cs.toArray 39)).alloc (.cells #[.int .i64 m.lim.min, .int .i64 m.lim.max, .bool m.lim.has, .slice B m.b.length d] 143)).alloc (.cells z10 39)) = W at *
 have HSS : Hid (∀ k, S k → k < W.heap.size ∧ ¬ k = w.heap.size ∧ ¬ k = w.heap.size + 1 + 1 ∧ (S k ∨ w.heap.size ≤ k)) := fun k hk => ⟨ltl (HS.o k hk) F0.o.size, by have := HS.o k hk; omega, by have := HS.o k hk; omega, .inl hk⟩
 have HCW := hid (And.intro ((HC.o.1.fr F0.o (fun k hk => ⟨HS.o k hk, fun x => x⟩))) (HC.o.2.frNo F0.o))
 have HEW := hid (kAH HE.o F0.o HS.o i2)
 go_upto_region 3 with (first | (at_builtin; refine app0 elRm HCW.o (by have := HN.o; omega) dc (fun k hk => (HSS.o k hk).1) ?_; intro v1 w1 hr1 f1; have R1 := hid hr1; have FW1 := hid f1; clear hr1 f1 HCW z) | fail)
 have FT1 := ftr F0 FW1.o
 replace G0 := hid (G0.o.fr FW1.o id)
 replace G1 := hid (G1.o.fr FW1.o id)
 replace G2 := hid (G2.o.fr FW1.o id)
 have z0_0 := G1.o.cell 0
 have z0_1 := G1.o.cell 1
 have z0_2 := G1.o.cell 2
 have z0_3 := G1.o.cell 3
 obtain ⟨gq, cg, hg, _⟩ := kBF R1.o (by have := HK.o; simp; omega)
 subst hg
 rw [List.nil_append] at R1
 have HT := hid (kBD R1.o k HK.o)
 have HO1 := hid (R1.o.own (g := gq) rfl)
 go_upto_region 4 with (first | (refine wpList_store_mid (by rfl) 143 _ _ (by rfl) gq (k * 4) #[.int .i64 m.lim.min, .int .i64 m.lim.max, .bool m.lim.has, .slice B m.b.length d] (by rfl) (by rfl) HT.o kr (by simp [Value.oneCell']) ?_) | fail)
 clear z0_0 z0_1 z0_2 z0_3
 have FG := hid (Fr.setCells' (M := fun q => q = gq) (a := w1) (b := gq) (fun _ => rfl) [.int .i64 m.lim.min, .int .i64 m.lim.max, .bool m.lim.has, .slice B m.b.length d] (k * 4) w1 (Fr.refl _ w1))
 have R2 := hid (R1.o.set (w' := w1.setCells gq (k * 4) [.int .i64 m.lim.min, .int .i64 m.lim.max, .bool m.lim.has, .slice B m.b.length d]) (ds := [.int .i64 m.lim.min, .int .i64 m.lim.max, .bool m.lim.has, .slice B m.b.length d]) (x := m) k HK.o ((inferInstance : TyOk tRm).keep _ _ _ _ _ (kAH HEW.o FW1.o (fun k hk => (HSS.o k hk).1) i2) (fun p hp => FG.o.cell (ltl (HSS.o _ hp).1 FW1.o.size) (fun e => by have := (HSS.o _ hp).1; have := HO1.o.1; omega))) (fun p hp => FG.o.cell (ltl (HSS.o _ hp).1 FW1.o.size) (fun e => by have := (HSS.o _ hp).1; have := HO1.o.1; omega)) (fun cur hb => Blk.setCells _ _ _ _ hb))
 have FW2 := hid (FW1.o.trans FG.o (fun q hq e => by have := HO1.o.1; omega))
 have NE : Hid (∀ (q : Nat) (t : TypeId) (cs : Array Value), Blk w1 q t cs → t ≠ 143 → ¬ q = gq) := fun q t cs hb hne => by obtain ⟨_, cs', h2⟩ := HO1.o; exact Blk.ne_ hb h2 hne
 replace G0 := hid (G0.o.fr FG.o (NE.o _ _ _ G0.o dc))
 replace G2 := hid (G2.o.fr FG.o (NE.o _ _ _ G2.o dc))
 clear NE R1 HT HEW FW1 FT1 HO1 FG G1
 generalize w1.setCells gq (k * 4) [.int .i64 m.lim.min, .int .i64 m.lim.max, .bool m.lim.has, .slice B m.b.length d] = w2 at *
 have FT2 := ftr F0 FW2.o
 obtain ⟨A', c', e2, l1, l2, E2⟩ := R2.o.els (S' := fun k => S k ∨ (Value.slice (some ⟨gq, 0, none⟩) x.mems.length cg).ownBlock = some k) (fun _ h => .inl h) (fun g hg => .inr hg)
 have e3 : (x.mems.set k m).length = x.mems.length := by simp
 have HR := hid (And.intro (And.intro l1 l2) (And.intro E2 (fun g (e : (Value.slice (some ⟨gq, 0, none⟩) x.mems.length cg).ownBlock = some g) => R2.o.own e)))
 rw [e3] at e2
 injection e2 with q1 q2 q3
 subst q1 q3
 clear R2 l1 l2 E2
 have y := G0.o.frozen 5
 have y' := G0.o.at_ HE5.o
 go_upto_region 5 with fail
 clear y y'
 obtain ⟨N0, N1, HL2, HO2⟩ := setf G0.o G2.o om H.o 5 (.slice (some ⟨gq, 0, none⟩) (x.mems.length) cg) rfl
 go_wp2_with (first | refine ldX N0.o HL2.o ?_ | refine stX N1.o rfl HL2.o HO2.o ?_ | fail)
 exact ryes1 (rcore (x' := { x with mems := x.mems.set k m }) (t := tRm) (ys := x.mems.set k m) (fun f hB l m e => kNI H.o f HS.o hB l m e) H.o FT2.o G0.o G2.o om HR.o e3 HSS.o (by have := FW2.o.size; omega) F0.o.size dc)
theorem kHV {w : World} {S : Nat → Prop} {x : Rx} {cs : LV} (h : tRx.rd w S cs x) (hS : Lt S w) (i : Int) (d0 : decide (i < 0) = true) :
    Calls prog 39 #[.agg cs.toArray, .int .i64 i] w (kCA S x w) := by
 obtain ⟨F0, G0, G1⟩ := bx0 w cs z10 39
 have H := hid h
 have HS := hid hS
 have HCL := hid (rx_one h)
 clear h hS
 go_enter func39, ntmps39
 exact yy25
theorem kHU {w : World} {S : Nat → Prop} {x : Rx} {cs : LV} (h : tRx.rd w S cs x) (hS : Lt S w) (i : Int) (d0 : decide (i < 0) = false) (d1 : decide ((x.elems.length : Int) ≤ i) = true) :
    Calls prog 39 #[.agg cs.toArray, .int .i64 i] w (kCA S x w) := by
 obtain ⟨F0, G0, G1⟩ := bx0 w cs z10 39
 have H := hid h
 have HS := hid hS
 have HCL := hid (rx_one h)
 clear h hS
 go_enter func39, ntmps39
 obtain ⟨A7, c7, e7, -⟩ := kGu H.o
 have z := G0.o.at_ e7
 clear e7
 exact yy25
theorem kHX {w : World} {S : Nat → Prop} {x : Rx} {cs : LV} (h : tRx.rd w S cs x) (hS : Lt S w) (i : Int) (d0 : decide (i < 0) = true) :
    Calls prog 40 #[.agg cs.toArray, .int .i64 i] w (kCA S x w) := by
 obtain ⟨F0, G0, G1⟩ := bx0 w cs z10 39
 have H := hid h
 have HS := hid hS
 have HCL := hid (rx_one h)
 clear h hS
 go_enter func40, ntmps40
 exact yy25
theorem kHW {w : World} {S : Nat → Prop} {x : Rx} {cs : LV} (h : tRx.rd w S cs x) (hS : Lt S w) (i : Int) (d0 : decide (i < 0) = false) (d1 : decide ((x.datas.length : Int) ≤ i) = true) :
    Calls prog 40 #[.agg cs.toArray, .int .i64 i] w (kCA S x w) := by
 obtain ⟨F0, G0, G1⟩ := bx0 w cs z10 39
 have H := hid h
 have HS := hid hS
 have HCL := hid (rx_one h)
 clear h hS
 go_enter func40, ntmps40
 obtain ⟨A8, c8, e8, -⟩ := kGt H.o
 have z := G0.o.at_ e8
 clear e8
 exact yy25
theorem kGd {w : World} {S : Nat → Prop} {x : Rx} {cs : LV} (h : tRx.rd w S cs x) (hS : Lt S w) (v : Vl) (i : Int) (d0 : decide (i < 0) = true) :
    Calls prog 38 #[.agg cs.toArray, .int .i64 i, .agg #[.int .i64 v.t, .int .u64 v.n]] w (RfTo S x (.bool false) w) := by
 obtain ⟨F0, G0, G1, G2⟩ := bx1 w cs #[.int .i64 v.t, .int .u64 v.n] 57 z10 39
 exact yy10
theorem kGc {w : World} {S : Nat → Prop} {x : Rx} {cs : LV} (h : tRx.rd w S cs x) (hS : Lt S w) (v : Vl) (i : Int) (d0 : decide (i < 0) = false) (d1 : decide ((x.globs.length : Int) ≤ i) = true) :
    Calls prog 38 #[.agg cs.toArray, .int .i64 i, .agg #[.int .i64 v.t, .int .u64 v.n]] w (RfTo S x (.bool false) w) := by
 obtain ⟨F0, G0, G1, G2⟩ := bx1 w cs #[.int .i64 v.t, .int .u64 v.n] 57 z10 39
 exact yy10
theorem kGb {w : World} {S : Nat → Prop} {x : Rx} {cs : LV} (h : tRx.rd w S cs x) (hS : Lt S w) (v : Vl) (y : Rg) (k : Nat) (hk : k < x.globs.length) (hy : x.globs[k]? = some y) (d3 : (v.t != y.t.val) = true) :
    Calls prog 38 #[.agg cs.toArray, .int .i64 (k : Nat), .agg #[.int .i64 v.t, .int .u64 v.n]] w (RfTo S x (.bool false) w) := by
 obtain ⟨F0, G0, G1, G2⟩ := bx1 w cs #[.int .i64 v.t, .int .u64 v.n] 57 z10 39
 have H := hid h
 have HS := hid hS
 have HCL := hid (rx_one h)
 obtain ⟨A6, c6, e6, -, -, EG6⟩ := Rx_g6 H.o
 have HE6 := hid e6
 clear e6
 have HK := hid hk
 have i0 := nki k
 have i1 : (k : Int) < x.globs.length := om
 have d0 : decide ((k : Int) < 0) = false := by simp
 clear hk
 obtain ⟨b, o, eA6, hb, yy0, -⟩ := kDO EG6 k HK.o
 have EA6 := hid eA6
 have hyy : x.globs[k]'HK.o = y := by
     exact yy66
 rw [hyy] at yy0
 have HY : Hid (∀ X, Fr No w X → Ce X b (o + k * 4) (.int .i64 y.t.val)) := fun X f0 => (f0.cell (p := ⟨b, o + k * 4, none⟩) (HS.o _ hb) id).trans yy0
 have i9 : decide (x.globs.length ≤ k) = false := by have := HK.o; simp; omega
 clear eA6 hyy yy0 hb hy
 clear h hS
 go_enter func38, ntmps38
 go_upto_region 1 with fail
 generalize (((w.alloc (.cells cs.toArray 39)).alloc (.cells #[.int .i64 v.t, .int .u64 v.n] 57)).alloc (.cells z10 39)) = W0 at *
 have HX : Hid (∀ X, Fr No W0 X → Ce X (w.heap.size + 1) 0 (.int .i64 v.t) ∧ Ce X (w.heap.size + 1) 1 (.int .u64 v.n) ∧ Ce X w.heap.size 6 (.slice (some ⟨b, o, none⟩) x.globs.length c6) ∧ Ce X b (o + k * 4) (.int .i64 y.t.val)) := fun X f => ⟨(G1.o.fr f id).cell 0, (G1.o.fr f id).cell 1, (by rw [← EA6.o]; exact (G0.o.fr f id).at_ HE6.o), HY.o _ (F0.o.trans f i3)⟩
 refine rwO (fun X => Ce X (w.heap.size + 1) 0 (.int .i64 v.t) ∧ Ce X (w.heap.size + 1) 1 (.int .u64 v.n) ∧ Ce X w.heap.size 6 (.slice (some ⟨b, o, none⟩) x.globs.length c6) ∧ Ce X b (o + k * 4) (.int .i64 y.t.val)) [] (List.range 26) [23] (HX.o _ (Fr.refl No _).drew) ?_
 refine rC ?_
 refine wpO_skipE rfl rfl (HX.o _ (Fr.refl No _).drew) ?_
 simp only [List.getElem_toArray, List.getElem_cons_succ, List.getElem_cons_zero, Act.put, List.setIfInBounds_toArray, List.set_cons_zero, List.set_cons_succ]
 refine rC ?_
 refine wpO_nil ?_
 replace F0 := hid F0.o.drew
 replace G0 := hid G0.o.drew
 replace G1 := hid G1.o.drew
 replace G2 := hid G2.o.drew
 clear HX
 generalize W0.drew = W at *
 go_upto_region 2 with fail
 exact yy13
theorem kGa {w : World} {S : Nat → Prop} {x : Rx} {cs : LV} (h : tRx.rd w S cs x) (hS : Lt S w) (v : Vl) (y : Rg) (k : Nat) (hk : k < x.globs.length) (hy : x.globs[k]? = some y) (d3 : (v.t != y.t.val) = false) (hv : vlB v = false) :
    Calls prog 38 #[.agg cs.toArray, .int .i64 (k : Nat), .agg #[.int .i64 v.t, .int .u64 v.n]] w (RfTo S x (.bool false) w) := by
 obtain ⟨F0, G0, G1, G2⟩ := bx1 w cs #[.int .i64 v.t, .int .u64 v.n] 57 z10 39
 have H := hid h
 have HS := hid hS
 have HCL := hid (rx_one h)
 have HV3 := hid hv
 clear hv
 obtain ⟨A6, c6, e6, -, -, EG6⟩ := Rx_g6 H.o
 have HE6 := hid e6
 clear e6
 have HK := hid hk
 have i0 := nki k
 have i1 : (k : Int) < x.globs.length := om
 have d0 : decide ((k : Int) < 0) = false := by simp
 clear hk
 obtain ⟨b, o, eA6, hb, yy0, -⟩ := kDO EG6 k HK.o
 have EA6 := hid eA6
 have hyy : x.globs[k]'HK.o = y := by
     exact yy66
 rw [hyy] at yy0
 have HY : Hid (∀ X, Fr No w X → Ce X b (o + k * 4) (.int .i64 y.t.val)) := fun X f0 => (f0.cell (p := ⟨b, o + k * 4, none⟩) (HS.o _ hb) id).trans yy0
 have i9 : decide (x.globs.length ≤ k) = false := by have := HK.o; simp; omega
 clear eA6 hyy yy0 hb hy
 clear h hS
 go_enter func38, ntmps38
 go_upto_region 1 with fail
 generalize (((w.alloc (.cells cs.toArray 39)).alloc (.cells #[.int .i64 v.t, .int .u64 v.n] 57)).alloc (.cells z10 39)) = W0 at *
 have HX : Hid (∀ X, Fr No W0 X → Ce X (w.heap.size + 1) 0 (.int .i64 v.t) ∧ Ce X (w.heap.size + 1) 1 (.int .u64 v.n) ∧ Ce X w.heap.size 6 (.slice (some ⟨b, o, none⟩) x.globs.length c6) ∧ Ce X b (o + k * 4) (.int .i64 y.t.val)) := fun X f => ⟨(G1.o.fr f id).cell 0, (G1.o.fr f id).cell 1, (by rw [← EA6.o]; exact (G0.o.fr f id).at_ HE6.o), HY.o _ (F0.o.trans f i3)⟩
 refine rwO (fun X => Ce X (w.heap.size + 1) 0 (.int .i64 v.t) ∧ Ce X (w.heap.size + 1) 1 (.int .u64 v.n) ∧ Ce X w.heap.size 6 (.slice (some ⟨b, o, none⟩) x.globs.length c6) ∧ Ce X b (o + k * 4) (.int .i64 y.t.val)) [] (List.range 26) [23] (HX.o _ (Fr.refl No _).drew) ?_
 refine rC ?_
 refine wpO_eff rfl rfl fun K hK => sz ?_
 refine (kBe v _).mono ?_
 rintro e W ⟨rfl, f3⟩
 rw [HV3.o]
 replace F0 := hid (F0.o.drew.trans f3 i3)
 replace G0 := hid (G0.o.drew.fr f3 id)
 replace G1 := hid (G1.o.drew.fr f3 id)
 replace G2 := hid (G2.o.drew.fr f3 id)
 refine hK _ _ (fun _ => HX.o _ ((Fr.refl No W0).drew.trans f3 i3)) ?_
 clear hK K f3
 refine rC ?_
 refine wpO_nil ?_
 clear HX
 go_upto_region 2 with fail
 exact yy13
theorem kFz {w : World} {S : Nat → Prop} {x : Rx} {cs : LV} (h : tRx.rd w S cs x) (hS : Lt S w) (v : Vl) (y : Rg) (k : Nat) (hk : k < x.globs.length) (he : tRg.rd w S [.int .i64 y.t.val, .bool y.t.mut_, .int .i64 v.t, .int .u64 v.n] ⟨y.t, v⟩) (hy : x.globs[k]? = some y) (d3 : (v.t != y.t.val) = false) (hv : vlB v = true) (hn : x.globs.length ≤ 1000000) :
    Calls prog 38 #[.agg cs.toArray, .int .i64 (k : Nat), .agg #[.int .i64 v.t, .int .u64 v.n]] w (RfTo S { x with globs := x.globs.set k ⟨y.t, v⟩ } (.bool true) w) := by
 obtain ⟨F0, G0, G1, G2⟩ := bx1 w cs #[.int .i64 v.t, .int .u64 v.n] 57 z10 39
 obtain ⟨A6, c6, e6, -, -, E6⟩ := Rx_g6 h
 obtain ⟨css, hcs, hrd⟩ := kAY E6 hS
 have HC := hid (And.intro hcs hrd)
 have H := hid h
 have HS := hid hS
 have HE6 := hid e6
 have HK := hid hk
 have i0 := nki k
 have i1 : (k : Int) < x.globs.length := om
 have d0 : decide ((k : Int) < 0) = false := by simp
 clear hk
 have HE := hid he
 clear he
 have HV3 := hid hv
 clear hv
 have EG6 := E6
 have HYY : Hid (x.globs[k]'HK.o = y) := by
     exact yy66
 obtain ⟨b, o, eA6, hb, yy0, -⟩ := kDO EG6 k HK.o
 have EA6 := hid eA6
 have hyy : x.globs[k]'HK.o = y := by
     exact yy66
 rw [hyy] at yy0
 have HY : Hid (∀ X, Fr No w X → Ce X b (o + k * 4) (.int .i64 y.t.val)) := fun X f0 => (f0.cell (p := ⟨b, o + k * 4, none⟩) (HS.o _ hb) id).trans yy0
 have i9 : decide (x.globs.length ≤ k) = false := by have := HK.o; simp; omega
 clear eA6 hyy yy0 hb hy
 clear hcs hrd h hS e6 E6
 have HN := hid hn
 go_enter func38, ntmps38
 go_upto_region 1 with fail
 generalize (((w.alloc (.cells cs.toArray 39)).alloc (.cells #[.int .i64 v.t, .int .u64 v.n] 57)).alloc (.cells z10 39)) = W0 at *
 have HX : Hid (∀ X, Fr No W0 X → Ce X (w.heap.size + 1) 0 (.int .i64 v.t) ∧ Ce X (w.heap.size + 1) 1 (.int .u64 v.n) ∧ Ce X w.heap.size 6 (.slice (some ⟨b, o, none⟩) x.globs.length c6) ∧ Ce X b (o + k * 4) (.int .i64 y.t.val)) := fun X f => ⟨(G1.o.fr f id).cell 0, (G1.o.fr f id).cell 1, (by rw [← EA6.o]; exact (G0.o.fr f id).at_ HE6.o), HY.o _ (F0.o.trans f i3)⟩
 refine rwO (fun X => Ce X (w.heap.size + 1) 0 (.int .i64 v.t) ∧ Ce X (w.heap.size + 1) 1 (.int .u64 v.n) ∧ Ce X w.heap.size 6 (.slice (some ⟨b, o, none⟩) x.globs.length c6) ∧ Ce X b (o + k * 4) (.int .i64 y.t.val)) [] (List.range 26) [23] (HX.o _ (Fr.refl No _).drew) ?_
 refine rC ?_
 refine wpO_eff rfl rfl fun K hK => sz ?_
 refine (kBe v _).mono ?_
 rintro e W ⟨rfl, f3⟩
 rw [HV3.o]
 replace F0 := hid (F0.o.drew.trans f3 i3)
 replace G0 := hid (G0.o.drew.fr f3 id)
 replace G1 := hid (G1.o.drew.fr f3 id)
 replace G2 := hid (G2.o.drew.fr f3 id)
 refine hK _ _ (fun _ => HX.o _ ((Fr.refl No W0).drew.trans f3 i3)) ?_
 clear hK K f3
 refine rC ?_
 refine wpO_nil ?_
 clear HX
 go_upto_region 4 with fail
 have HSS : Hid (∀ k, S k → k < W.heap.size ∧ ¬ k = w.heap.size ∧ ¬ k = w.heap.size + 1 + 1 ∧ (S k ∨ w.heap.size ≤ k)) := fun k hk => ⟨ltl (HS.o k hk) F0.o.size, by have := HS.o k hk; omega, by have := HS.o k hk; omega, .inl hk⟩
 have HCW := hid (And.intro ((HC.o.1.fr F0.o (fun k hk => ⟨HS.o k hk, fun x => x⟩))) (HC.o.2.frNo F0.o))
 have HEW := hid (kAH HE.o F0.o HS.o i2)
 have z := G0.o.at_ HE6.o
 go_upto_region 5 with (first | (at_builtin; refine app0 elRg HCW.o (by have := HN.o; omega) dc (fun k hk => (HSS.o k hk).1) ?_; intro v1 w1 hr1 f1; have R1 := hid hr1; have FW1 := hid f1; clear hr1 f1 HCW z) | fail)
 have FT1 := ftr F0 FW1.o
 replace G0 := hid (G0.o.fr FW1.o id)
 replace G1 := hid (G1.o.fr FW1.o id)
 replace G2 := hid (G2.o.fr FW1.o id)
 have z0_0 := G1.o.cell 0
 have z0_1 := G1.o.cell 1
 obtain ⟨gq, cg, hg, _⟩ := kBF R1.o (by have := HK.o; simp; omega)
 subst hg
 rw [List.nil_append] at R1
 have HT := hid (kBD R1.o k HK.o)
 have HO1 := hid (R1.o.own (g := gq) rfl)
 clear z0_0 z0_1
 obtain ⟨b2, o2, eb, hb2, u0, u1, -⟩ := kDO (Ty.row.els' (S' := (· < w1.heap.size)) R1.o (fun q hq => ltl (HSS.o q hq).1 FW1.o.size) (fun q hq => by obtain ⟨_, cs', hb⟩ := R1.o.own hq; exact hb.lt)) k HK.o
 injection eb with eb
 injection eb with q1 q2 _
 subst q1 q2
 rw [Nat.zero_add] at u0 u1
 rw [HYY.o] at u0 u1
 have HX : Hid (∀ X, Fr No w1 X → Ce X gq (k * 4) (.int .i64 y.t.val) ∧ Ce X gq (k * 4 + 1) (.bool y.t.mut_) ∧ Ce X (w.heap.size + 1) 0 (.int .i64 v.t) ∧ Ce X (w.heap.size + 1) 1 (.int .u64 v.n)) := fun X f => ⟨(f.cell (p := ⟨gq, k * 4, none⟩) hb2 id).trans u0, (f.cell (p := ⟨gq, k * 4 + 1, none⟩) hb2 id).trans u1, (G1.o.fr f id).cell 0, (G1.o.fr f id).cell 1⟩
 clear u0 u1
 refine rwO (fun X => Ce X gq (k * 4) (.int .i64 y.t.val) ∧ Ce X gq (k * 4 + 1) (.bool y.t.mut_) ∧ Ce X (w.heap.size + 1) 0 (.int .i64 v.t) ∧ Ce X (w.heap.size + 1) 1 (.int .u64 v.n)) [10] (List.range 11) [10] (HX.o _ (Fr.refl No _).drew) ?_
 replace F0 := F0
 replace FW1 := hid FW1.o.drew
 replace FT1 := hid FT1.o.drew
 replace G0 := hid G0.o.drew
 replace G2 := hid G2.o.drew
 replace HT : Hid (w1.drew.there gq (k * tRg.size) tRg.size) := HT.o
 replace HO1 : Hid (W.heap.size ≤ gq ∧ ∃ cs, Blk w1.drew gq 187 cs) := HO1.o
 replace R1 : Hid (tRg.row w1.drew W.heap.size S 187 (.slice (some ⟨gq, 0, none⟩) x.globs.length cg) x.globs) := R1.o
 clear HX hb2
 generalize w1.drew = w1 at *
 refine rC ?_
 refine wpO_eff rfl rfl (fun K hK => ?_)
 simp only [List.getElem_toArray, List.getElem_cons_succ, List.getElem_cons_zero]
 refine wp_store_mid 187 _ _ (by rfl) gq (k * 4) #[.int .i64 y.t.val, .bool y.t.mut_, .int .i64 v.t, .int .u64 v.n] (by rfl) (by rfl) HT.o kr (by simp [Value.oneCell']) ?_
 refine hK _ _ (fun h => by cases h) ?_
 clear hK K
 refine wpO_nil ?_
 have FG := hid (Fr.setCells' (M := fun q => q = gq) (a := w1) (b := gq) (fun _ => rfl) [.int .i64 y.t.val, .bool y.t.mut_, .int .i64 v.t, .int .u64 v.n] (k * 4) w1 (Fr.refl _ w1))
 have R2 := hid (R1.o.set (w' := w1.setCells gq (k * 4) [.int .i64 y.t.val, .bool y.t.mut_, .int .i64 v.t, .int .u64 v.n]) (ds := [.int .i64 y.t.val, .bool y.t.mut_, .int .i64 v.t, .int .u64 v.n]) (x := ⟨y.t, v⟩) k HK.o ((inferInstance : TyOk tRg).keep _ _ _ _ _ (kAH HEW.o FW1.o (fun k hk => (HSS.o k hk).1) i2) (fun p hp => FG.o.cell (ltl (HSS.o _ hp).1 FW1.o.size) (fun e => by have := (HSS.o _ hp).1; have := HO1.o.1; omega))) (fun p hp => FG.o.cell (ltl (HSS.o _ hp).1 FW1.o.size) (fun e => by have := (HSS.o _ hp).1; have := HO1.o.1; omega)) (fun cur hb => Blk.setCells _ _ _ _ hb))
 have FW2 := hid (FW1.o.trans FG.o (fun q hq e => by have := HO1.o.1; omega))
 have NE : Hid (∀ (q : Nat) (t : TypeId) (cs : Array Value), Blk w1 q t cs → t ≠ 187 → ¬ q = gq) := fun q t cs hb hne => by obtain ⟨_, cs', h2⟩ := HO1.o; exact Blk.ne_ hb h2 hne
 replace G0 := hid (G0.o.fr FG.o (NE.o _ _ _ G0.o dc))
 replace G2 := hid (G2.o.fr FG.o (NE.o _ _ _ G2.o dc))
 clear NE R1 HT HEW FW1 FT1 HO1 FG G1
 generalize w1.setCells gq (k * 4) [.int .i64 y.t.val, .bool y.t.mut_, .int .i64 v.t, .int .u64 v.n] = w2 at *
 have FT2 := ftr F0 FW2.o
 obtain ⟨A', c', e2, l1, l2, E2⟩ := R2.o.els (S' := fun k => S k ∨ (Value.slice (some ⟨gq, 0, none⟩) x.globs.length cg).ownBlock = some k) (fun _ h => .inl h) (fun g hg => .inr hg)
 have e3 : (x.globs.set k ⟨y.t, v⟩).length = x.globs.length := by simp
 have HR := hid (And.intro (And.intro l1 l2) (And.intro E2 (fun g (e : (Value.slice (some ⟨gq, 0, none⟩) x.globs.length cg).ownBlock = some g) => R2.o.own e)))
 rw [e3] at e2
 injection e2 with q1 q2 q3
 subst q1 q3
 clear R2 l1 l2 E2
 have y := G0.o.frozen 6
 have y' := G0.o.at_ HE6.o
 go_upto_region 7 with fail
 clear y y'
 obtain ⟨N0, N1, HL2, HO2⟩ := setf G0.o G2.o om H.o 6 (.slice (some ⟨gq, 0, none⟩) (x.globs.length) cg) rfl
 go_wp2_with (first | refine ldX N0.o HL2.o ?_ | refine stX N1.o rfl HL2.o HO2.o ?_ | fail)
 exact ryes (rcore (x' := { x with globs := x.globs.set k ⟨y.t, v⟩ }) (t := tRg) (ys := x.globs.set k ⟨y.t, v⟩) (fun f hB l m e => kNH H.o f HS.o hB l m e) H.o FT2.o G0.o G2.o om HR.o e3 HSS.o (by have := FW2.o.size; omega) F0.o.size dc)
def RaTo {α : Type} (t : Ty α) (S : Nat → Prop) (x : α) (ok : Bool) (w : World) (e : Ending) (w' : World) : Prop :=
 ∃ ds, e = .returned (.tuple #[.agg ds.toArray, .bool ok]) ∧ t.rd w' S ds x ∧ Fr No w w'
theorem kBN {w w' : World} {b o : Nat} {ds : LV} (h : w.rangeAt b o ds) (f : Fr No w w') (hb : b < w.heap.size) : w'.rangeAt b o ds := fun j v hv => (f.cell (p := ⟨b, o + j, none⟩) hb id).trans (h j v hv)
def zRm : Rm := ⟨⟨0, 0, false⟩, []⟩
theorem zFi_rdR (w : World) (S : Nat → Prop) : tFi.rd w S [.slice none 0 0, .slice none 0 0, .int .i64 0, .int .i64 0] zFi := Fi_mk (a := zFi) nz nz (.inl rfl) nz nz (.inl rfl) rfl rfl
theorem zRm_rdR (w : World) (S : Nat → Prop) : tRm.rd w S [.int .i64 0, .int .i64 0, .bool false, .slice none 0 0] zRm := kGv (a := zRm) rfl rfl nz nz (.inl rfl)
section
variable {α : Type} {t : Ty α} [TyOk t] [TyMore t] {w W : World} {S : Nat → Prop} {x : α} {T : TypeId} {d : TypeDesc} {n q : Nat} {ds : LV} {fn : Func} {act : Act} {s u : Tmp} {ok : Bool}
theorem rafin (hu : prog.underlying T = some d) (hi : (prog.info? T).map (·.size) = some n) (F : Fr No w W) (hq : w.heap.size ≤ q) (th : W.there q 0 n) (hl : ds.length = n) (hr : ∀ {X}, Fr No w X → t.rd X S ds x)
    (hd : d.isRow = true := by rfl) (hf : fn.results = #[.cell s T, .tmp u] := by rfl) (hp : act.tmps.getD s undef = .pointer (some ⟨q, 0, none⟩) := by rfl) (hv : act.tmps.getD u undef = .bool ok := by rfl) (hdd : act.defers = [] := by rfl) :
    bodyPost prog fn (RaTo t S x ok w) .ret act (W.setCells q 0 ds) := by
 have FT := Fr.setCells' (a := w) (b := q) (M := No) (fun h => absurd h om) ds 0 W F
 exact bodyPost_ret (v := .tuple #[.agg ds.toArray, .bool ok]) (by rw [← hv]; exact kCi hf _ _ q _ _ hp (World.rangeAt_setCells_same W q 0 ds (by rw [hl]; exact th)) hu hd (by rw [hl]; exact hi)) hdd ⟨ds, rfl, hr FT, FT⟩
end
abbrev q10x7 : Array Value := #[.slice none 0 0, .slice none 0 0, .int .i64 0, .int .i64 0]
theorem kKr {w : World} {S : Nat → Prop} {x : Rx} {cs : LV} (h : tRx.rd w S cs x) (hS : Lt S w) (i : Int) :
    Calls prog 47 #[.agg cs.toArray, .int .i64 i] w (RaTo tFi S (atD zFi x.funcs i).1 (atD zFi x.funcs i).2 w) := by
 obtain ⟨A, c, e, -, -, E⟩ := kKW h
 obtain ⟨F0, G0, G1⟩ := bx0 w cs q10x7 47
 have z := G0.o.at_ e
 have HI : Hid ((prog.info? 47).map (·.size) = some 4) := by unfold Hid; kernel_rfl
 have HS := hid hS
 clear h hS e
 rcases kBb x.funcs i with ⟨k, hk, rfl⟩ | hi | ⟨hi0, hi⟩
 · rw [kCh hk]
   have i0 := nki k
   have i1 : (k : Int) < x.funcs.length := om
   have d0 : decide ((k : Int) < 0) = false := by simp
   obtain ⟨b, o, ds, eA, hb, hc, hr⟩ := E.at_ k hk
   subst eA
   have HL : Hid (ds.length = 4) := TyOk.len _ _ _ _ hr
   have RQ : Hid (∀ {X}, Fr No w X → X.rangeAt b (o + k * 4) ds) := fun f => kBN (fun j u hu => by have := hc j u hu; rwa [← Nat.add_assoc] at this) f (HS.o _ hb)
   have HR := hid hr
   clear hc hr hb E
   go_enter func47, ntmps47
   go_upto_region 3 with fail
   generalize ((w.alloc (.cells cs.toArray 39)).alloc (.cells q10x7 47)) = W at *
   have HT : Hid (W.there (w.heap.size + 1) 0 4) := there_blk G1.o rfl
   go_wp2_with (first | refine ldG underlying47 HI.o (RQ.o F0.o) HL.o ?_ | refine stG HI.o HT.o HL.o (List.all_eq_true.2 ((inferInstance : kAG tFi).one _ _ _ _ HR.o)) ?_ | fail)
   exact rafin underlying47 HI.o F0.o om HT.o HL.o (fun f => kAH HR.o f HS.o i2)
 · rw [kBv (.inl hi)]
   have d0 : decide (i < 0) = true := by simp [hi]
   exact yy45
 rw [kBv (.inr hi)]
 have d0 : decide (i < 0) = false := by simp; omega
 have d1 : decide ((x.funcs.length : Int) ≤ i) = true := by simp; omega
 exact yy45
theorem kBd {w : World} {S : Nat → Prop} {x : Rx} {cs : LV} (h : tRx.rd w S cs x) (hS : Lt S w) (i : Int) :
    Calls prog 42 #[.agg cs.toArray, .int .i64 i] w (RaTo tRm S (atD zRm x.mems i).1 (atD zRm x.mems i).2 w) := by
 obtain ⟨A, c, e, -, -, E⟩ := kKV h
 obtain ⟨F0, G0, G1⟩ := bx0 w cs #[.int .i64 0, .int .i64 0, .bool false, .slice none 0 0] 143
 have z := G0.o.at_ e
 have HI : Hid ((prog.info? 143).map (·.size) = some 4) := by unfold Hid; kernel_rfl
 have HS := hid hS
 clear h hS e
 rcases kBb x.mems i with ⟨k, hk, rfl⟩ | hi | ⟨hi0, hi⟩
 · rw [kCh hk]
   have i0 := nki k
   have i1 : (k : Int) < x.mems.length := om
   have d0 : decide ((k : Int) < 0) = false := by simp
   obtain ⟨b, o, ds, eA, hb, hc, hr⟩ := E.at_ k hk
   subst eA
   have HL : Hid (ds.length = 4) := TyOk.len _ _ _ _ hr
   have RQ : Hid (∀ {X}, Fr No w X → X.rangeAt b (o + k * 4) ds) := fun f => kBN (fun j u hu => by have := hc j u hu; rwa [← Nat.add_assoc] at this) f (HS.o _ hb)
   have HR := hid hr
   clear hc hr hb E
   go_enter func42, ntmps42
   go_upto_region 3 with fail
   generalize ((w.alloc (.cells cs.toArray 39)).alloc (.cells #[.int .i64 0, .int .i64 0, .bool false, .slice none 0 0] 143)) = W at *
   have HT : Hid (W.there (w.heap.size + 1) 0 4) := there_blk G1.o rfl
   go_wp2_with (first | refine ldG underlying143 HI.o (RQ.o F0.o) HL.o ?_ | refine stG HI.o HT.o HL.o (List.all_eq_true.2 ((inferInstance : kAG tRm).one _ _ _ _ HR.o)) ?_ | fail)
   exact rafin underlying143 HI.o F0.o om HT.o HL.o (fun f => kAH HR.o f HS.o i2)
 · rw [kBv (.inl hi)]
   have d0 : decide (i < 0) = true := by simp [hi]
   exact yy41
 rw [kBv (.inr hi)]
 have d0 : decide (i < 0) = false := by simp; omega
 have d1 : decide ((x.mems.length : Int) ≤ i) = true := by simp; omega
 exact yy41
def HoBu (h : Ho) : Prop := HoBd h ∧ h.mod.size ≤ 1048576 ∧ h.name.size ≤ 1048576
theorem kHR (A : OA) (c : Nat) (hosts : List Ho) (w : World) (h : tHo.els w (· < w.heap.size) A hosts) (hl : hosts.length ≤ 1000000000) (hb : ∀ x ∈ hosts, HoBu x) :
    Calls prog 9 #[.slice A hosts.length c] w fun e w' => e = .returned (.bool (mayB hosts)) ∧ Fr No w w' := by
 by_cases hbig : 32 < hosts.length
 · rw [kHe hbig]
   have d1 : decide ((32 : Int) < (hosts.length : Int)) = true := by simp; omega
   go_enter func9, ntmps9
   go_wp2
   go_ret
   exact ⟨rfl, Fr.refl _ _⟩
 have d1 : decide ((32 : Int) < (hosts.length : Int)) = false := by simp; omega
 have HE := hid h
 have HB := hid hb
 have HBG := hid hbig
 clear h hb hbig
 go_enter func9, ntmps9
 go_wp2
 go_loopw [3] (fun i wr => ∃ k, k ≤ hosts.length ∧ i = .int .i64 (k : Nat) ∧ Hid (Fr No w wr) ∧ Hid (∀ (j : Nat) (hj : j < hosts.length), j < k → hoB hosts[j] = true)) (fun i _ => hosts.length - (intOf i).toNat)
 case atStart => exact ⟨0, nz, rfl, Fr.refl _ _, fun j _ h => absurd h (Nat.not_lt_zero j)⟩
 obtain ⟨k, hk, rfl, F1, HJ⟩ := hrel
 by_cases hlt : k < hosts.length
 · obtain ⟨b, o, A1, c1, A2, c2, A3, c3, rfl, hbb, y0, y1, y2, y3, y4, m1, m2, l1, l2, e1, l3, l4, e2, l5, l6, e3⟩ := kBa HE.o k hlt
   have bd := HB.o hosts[k] (List.getElem_mem hlt)
   replace y0 := (F1.o.cell (p := ⟨b, o + k * 5, none⟩) hbb id).trans y0
   replace y1 := (F1.o.cell (p := ⟨b, o + k * 5 + 1, none⟩) hbb id).trans y1
   replace y2 := (F1.o.cell (p := ⟨b, o + k * 5 + 2, none⟩) hbb id).trans y2
   replace y3 := (F1.o.cell (p := ⟨b, o + k * 5 + 3, none⟩) hbb id).trans y3
   replace y4 := (F1.o.cell (p := ⟨b, o + k * 5 + 4, none⟩) hbb id).trans y4
   have hR := kJf hosts[k] A1 A2 A3 c1 c2 c3 w.heap.size wr F1.o.size ⟨kAA e1 F1.o i2 i2, kAA e2 F1.o i2 i2, kAA e3 F1.o i2 i2, by have := bd.1.p; omega, by have := bd.1.r; omega, by have := bd.1.a; omega, m1, m2, fun a ha => by have := bd.1.v a ha; omega⟩ bd.2
   clear m1 m2 l1 l2 e1 l3 l4 e2 l5 l6 e3 bd
   cases hq : hoB hosts[k] with
   | false =>
    have HQ := hid (kLE hlt hq)
    rw [hq] at hR
    have HR := hid hR
    clear hR hq
    go_wp2_with fail
    refine HR.o.mono ?_
    rintro e w1 ⟨rfl, f1⟩
    have F2 := ftr F1 f1
    go_wp2
    go_ret
    exact ⟨rt_bool HQ.o.symm, F2.o⟩
   | true =>
    have HQ := hid hq
    rw [hq] at hR
    have HR := hid hR
    clear hR hq
    go_wp2_with fail
    refine HR.o.mono ?_
    rintro e w1 ⟨rfl, f1⟩
    have F2 := ftr F1 f1
    clear f1
    go_wp2
    go_roundw
    case rel =>
     refine ⟨k + 1, hlt, rfl, F2.o, fun j hj hjk => ?_⟩
     by_cases he : j = k
     · subst he; exact HQ.o
     exact HJ.o j hj om
    case measure => show hosts.length - ((k : Int) + 1).toNat < hosts.length - ((k : Int)).toNat; omega
 have HQ := hid (kJC (hosts := hosts) (by have := HBG.o; omega) (fun j hj => HJ.o j hj om))
 go_wp2
 go_ret
 exact ⟨rt_bool HQ.o.symm, F1.o⟩
abbrev kDB (a0 : Option Addr) (a1 : List Ho) (a2 : Nat) (a3 : World) : List Value := [.slice a0 a1.length a2, .slice (some ⟨a3.heap.size + 1, 0, none⟩) a1.length a1.length, .slice none 0 0, .slice none 0 0, .slice none 0 0, .slice none 0 0, .slice none 0 0, .slice none 0 0, .slice none 0 0, .slice none 0 0]
abbrev kBz : Array Value := #[.slice none 0 0, .slice none 0 0, .slice none 0 0, .slice none 0 0, .slice none 0 0, .slice none 0 0, .slice none 0 0, .slice none 0 0, .slice none 0 0, .slice none 0 0]
theorem kMB (A : OA) (c : Nat) (hosts : List Ho) (S : Nat → Prop) (w : World) (h : tHo.els w S A hosts) (hS : Lt S w) (hc : hosts.length ≤ c) (hc2 : c ≤ maxLen) (hl : hosts.length ≤ 1000000) :
    Calls prog 10 #[.slice A hosts.length c] w (kCA S (sto0 hosts) w) := by
 have F0 := hid (((Fr.refl No w).alloc (.cells kBz 39)).alloc (.cells (Array.replicate hosts.length (.int .i64 0)) 3))
 have G0 := hid ((Blk.new w 39 kBz).alloc (.cells (Array.replicate hosts.length (.int .i64 0)) 3))
 have G1 := hid (Blk.new1 w (.cells kBz 39) 3 (Array.replicate hosts.length (.int .i64 0)))
 have hmk := run_mk kFm rfl (w.alloc (.cells kBz 39)) .i64 .i64 hosts.length om dc
 rw [World.size_alloc] at hmk
 have n0 : (0 : Int) ≤ (hosts.length : Int) := om
 have HE := hid h
 have HS := hid hS
 have HC := hid (And.intro hc (And.intro hc2 hl))
 clear h hS hc hc2
 have HT : Hid (((w.alloc (.cells kBz 39)).alloc (.cells (Array.replicate hosts.length (.int .i64 0)) 3)).there w.heap.size 0 10) := there_blk G0.o rfl
 have HI : Hid ((prog.info? 39).map (·.size) = some 10) := by unfold Hid; kernel_rfl
 go_enter func10, ntmps10
 go_wp2_with (first
  | (refine wpList_store_mid (by rfl) 39 _ _ (by rfl) w.heap.size 0 #[.slice A hosts.length c, .slice (some ⟨w.heap.size + 1, 0, none⟩) hosts.length hosts.length, .slice none 0 0, .slice none 0 0, .slice none 0 0, .slice none 0 0, .slice none 0 0, .slice none 0 0, .slice none 0 0, .slice none 0 0] (by rfl) (by rfl) HT.o HI.o (by simp [Value.oneCell']) ?_)
  | fail)
 clear hmk
 generalize (w.alloc (.cells kBz 39)).alloc (.cells (Array.replicate hosts.length (.int .i64 0)) 3) = W at *
 have FT := Fr.setCells' (a := w) (b := w.heap.size) (M := No) (fun h => absurd h om) (kDB A hosts c w) 0 W F0.o
 have FY := Fr.setCells' (M := fun q => q = w.heap.size) (b := w.heap.size) (fun _ => rfl) (kDB A hosts c w) 0 W (Fr.refl _ W)
 have RR := World.rangeAt_setCells_same W w.heap.size 0 (kDB A hosts c w) HT.o
 have G2 := G1.o.fr FY om
 refine bodyPost_ret (v := .agg (kDB A hosts c w).toArray) (kAv (fn := f10) (p := 2) (ty := 39) rfl _ _ w.heap.size _ _ (by rfl) RR underlying39 (by rfl) HI.o) rfl ?_
 have EU : tI.els (W.setCells w.heap.size 0 (kDB A hosts c w)) (fun k => S k ∨ Nw w (W.setCells w.heap.size 0 (kDB A hosts c w)) k) (some ⟨w.heap.size + 1, 0, none⟩) (List.replicate hosts.length 0) := by
  refine .inr ⟨_, _, rfl, .inr ⟨by omega, G2.lt⟩, fun i x hx => ⟨[.int .i64 x], ?_, rfl, by rw [List.eq_of_mem_replicate (List.mem_of_getElem? hx)]; rfl⟩⟩
  have hi : i < hosts.length := by have := (List.getElem?_eq_some_iff.1 hx).1; simpa using this
  have e0 : x = 0 := List.eq_of_mem_replicate (List.mem_of_getElem? hx)
  intro j u hu
  cases j with
  | zero => simp at hu; subst hu; subst e0; rw [Nat.zero_add, Nat.add_zero, show tI.size = 1 from rfl, Nat.mul_one]; exact (G2.cell i).trans (by simp [hi])
  | succ j => simp at hu
 have hm := kCZ (w := W.setCells w.heap.size 0 (kDB A hosts c w)) (S := fun k => S k ∨ Nw w (W.setCells w.heap.size 0 (kDB A hosts c w)) k) (a := sto0 hosts) (Ahosts := A) (chosts := c) (Acounts := some ⟨w.heap.size + 1, 0, none⟩) (ccounts := hosts.length) (Acalls := none) (ccalls := 0) (Afuncs := none) (cfuncs := 0) (Atabs := none) (ctabs := 0) (Amems := none) (cmems := 0) (Aglobs := none) (cglobs := 0) (Aelems := none) (celems := 0) (Adatas := none) (cdatas := 0) (Ainsts := none) (cinsts := 0) HC.o.1 HC.o.2.1 (kAA HE.o FT HS.o (fun _ h => .inl h)) (by simp [sto0]) (by have := HC.o.2.2; simp only [maxLen]; omega) EU (Nat.zero_le 0) nz (.inl rfl) (Nat.zero_le 0) nz (.inl rfl) (Nat.zero_le 0) nz (.inl rfl) (Nat.zero_le 0) nz (.inl rfl) (Nat.zero_le 0) nz (.inl rfl) (Nat.zero_le 0) nz (.inl rfl) (Nat.zero_le 0) nz (.inl rfl) (Nat.zero_le 0) nz (.inl rfl)
 simp only [sto0, List.length_replicate] at hm
 exact ⟨_, rfl, hm, FT⟩
abbrev kDD (a0 a1 a2 a3 a4 a5 a6 a7 a8 : Option Addr) (a9 : Rx) (a10 a11 a12 a13 a14 a15 a16 a17 a18 a19 a20 : Nat) : List Value := [.slice a0 a9.hosts.length a10, .slice (some ⟨a11, 0, none⟩) a9.counts.length a12, .slice a1 (a9.calls.length + 1) a13, .slice a2 a9.funcs.length a14, .slice a3 a9.tabs.length a15, .slice a4 a9.mems.length a16, .slice a5 a9.globs.length a17, .slice a6 a9.elems.length a18, .slice a7 a9.datas.length a19, .slice a8 a9.insts.length a20]
abbrev kGp (a0 a1 a2 a3 a4 a5 a6 a7 a8 a9 : Option Addr) (a10 : Rx) (a11 a12 a13 a14 a15 a16 a17 a18 a19 a20 : Nat) : Array Value := #[.slice a0 a10.hosts.length a11, .slice a1 a10.counts.length a12, .slice a2 a10.calls.length a13, .slice a3 a10.funcs.length a14, .slice a4 a10.tabs.length a15, .slice a5 a10.mems.length a16, .slice a6 a10.globs.length a17, .slice a7 a10.elems.length a18, .slice a8 a10.datas.length a19, .slice a9 a10.insts.length a20]
theorem kJh {w : World} {S : Nat → Prop} {x : Rx} {cs : LV} (h : tRx.rd w S cs x) (hS : Lt S w) (hx : Nat) (hk : hx < x.counts.length) (args : List Vl) (A : OA) (c : Nat) (he : tCa.rd w S [.int .i64 (hx : Nat), .slice A args.length c] ⟨(hx : Int), args⟩) (v : Int) (hcv : x.counts[hx]? = some v) (hv : 0 ≤ v ∧ v ≤ 1000000) (hn : x.calls.length ≤ 1000000) (hn2 : x.counts.length ≤ 1000000) :
    Calls prog 129 #[.agg cs.toArray, .int .i64 (hx : Nat), .slice A args.length c] w (kCA S { x with calls := x.calls ++ [⟨(hx : Int), args⟩], counts := x.counts.set hx (v + 1) } w) := by
 obtain ⟨A0, c0, A1, c1, A2, c2, A3, c3, A4, c4, A5, c5, A6, c6, A7, c7, A8, c8, A9, c9, rfl, -⟩ := kAU h
 have F0 := hid (((Fr.refl No w).alloc (.cells (kGp A0 A1 A2 A3 A4 A5 A6 A7 A8 A9 x c0 c1 c2 c3 c4 c5 c6 c7 c8 c9) 39)).alloc (.cells kBz 39))
 have G0 := (Blk.new w 39 (kGp A0 A1 A2 A3 A4 A5 A6 A7 A8 A9 x c0 c1 c2 c3 c4 c5 c6 c7 c8 c9)).alloc (.cells kBz 39)
 have G1 := Blk.new (w.alloc (.cells (kGp A0 A1 A2 A3 A4 A5 A6 A7 A8 A9 x c0 c1 c2 c3 c4 c5 c6 c7 c8 c9) 39)) 39 kBz
 simp only [World.size_alloc] at G1
 replace G0 := hid G0
 replace G1 := hid G1
 obtain ⟨css, hcs, hrd⟩ := kAY (kAQ h).2.2 hS
 have HC := hid (And.intro hcs hrd)
 have H := hid h
 have HS := hid hS
 have HE := hid he
 clear he
 have HK := hid hk
 have HV := hid hv
 have HVV : Hid (x.counts[hx]'HK.o = v) := by
     have h1 := List.getElem?_eq_getElem HK.o
     rw [hcv] at h1
     exact (Option.some.inj h1).symm
 have HN2 := hid hn2
 have i0 := nki hx
 have i1 : (hx : Int) < x.counts.length := om
 obtain ⟨css2, hcs2, hrd2⟩ := kDy (kAJ H.o).2.2 (B := w.heap.size) HS.o
 have HC2 := hid (And.intro hcs2 hrd2)
 have v0 := HV.o.1
 have v1 := HV.o.2
 clear hcs2 hrd2 hv hk hcv hn2
 clear hcs hrd h hS
 have HN := hid hn
 go_enter func129, ntmps129
 go_upto_region 2 with fail
 generalize ((w.alloc (.cells (kGp A0 A1 A2 A3 A4 A5 A6 A7 A8 A9 x c0 c1 c2 c3 c4 c5 c6 c7 c8 c9) 39)).alloc (.cells kBz 39)) = W at *
 have HSS : Hid (∀ k, S k → k < W.heap.size ∧ ¬ k = w.heap.size ∧ ¬ k = w.heap.size + 1 ∧ (S k ∨ w.heap.size ≤ k)) := fun k hk => ⟨ltl (HS.o k hk) F0.o.size, by have := HS.o k hk; omega, by have := HS.o k hk; omega, .inl hk⟩
 have HCW := hid (And.intro ((HC.o.1.fr F0.o (fun k hk => ⟨HS.o k hk, fun x => x⟩))) (HC.o.2.frNo F0.o))
 have HEW := hid (kAH HE.o F0.o HS.o i2)
 have z := G0.o.cell 2
 go_upto_region 3 with (first | (at_builtin; refine wpList_appC (t := tCa) (P := prog) (base := W.heap.size) (S := S) (v := .slice none 0 0) (xs := []) (ys := x.calls) (dss := css) (B2 := w.heap.size) elCa rfl rfl rfl rfl (Ty.row.nil (t := tCa) W W.heap.size S 113) HCW.o.1 HCW.o.2 rfl so so (fun k hk => ⟨(HSS.o k hk).1, fun e => nomatch e⟩) nr ?_; intro v1 w1 hr1 fr1 hv1; have R1 := hid hr1; have FW1 := hid (own_frame (Ty.row.nil (t := tCa) W W.heap.size S 113) (Fr.refl No W) fr1 nr); clear hr1 fr1 hv1 HCW z) | fail)
 have FT1 := ftr F0 FW1.o
 replace G0 := hid (G0.o.fr FW1.o id)
 replace G1 := hid (G1.o.fr FW1.o id)
 have FXA := hid ((Fr.refl No w1).alloc (.cells #[.int .i64 (hx : Nat), .slice A args.length c] 113))
 have HER := hid (kAH HEW.o (FW1.o.alloc (.cells #[.int .i64 (hx : Nat), .slice A args.length c] 113)) (fun k hk => (HSS.o k hk).1) i2)
 go_upto_region 5 with (first | (at_builtin; refine wpList_appC (t := tCa) (P := prog) (base := W.heap.size) (S := S) (v := v1) (xs := [] ++ x.calls) (ys := [⟨(hx : Int), args⟩]) (dss := [[.int .i64 (hx : Nat), .slice A args.length c]]) (B2 := w1.heap.size + 1) elCa rfl rfl rfl rfl (R1.o.fr ((Fr.refl No w1).alloc (.cells #[.int .i64 (hx : Nat), .slice A args.length c] 113)) (fun k hk => ⟨ltl (HSS.o k hk).1 FW1.o.size, fun x => x⟩) (fun _ _ x => x)) (Css.one HER.o) (kFY w1 [.int .i64 (hx : Nat), .slice A args.length c] 113) rfl (by have := HN.o; simp; omega) (by have := HN.o; simp; omega) (fun k hk => ⟨ltl (HSS.o k hk).1 (by have := FW1.o.size; simp; omega), fun e => by have h1 := (HSS.o k hk).1; have h2 := (R1.o.own e.symm).1; omega⟩) (by have := FW1.o.size; simp; omega) ?_; intro v2 w2 hr2 fr2 hv2; have R2 := hid hr2; have FW2 := hid (own_frame (R1.o.fr ((Fr.refl No w1).alloc (.cells #[.int .i64 (hx : Nat), .slice A args.length c] 113)) (fun k hk => ⟨ltl (HSS.o k hk).1 FW1.o.size, fun x => x⟩) (fun _ _ x => x)) (FW1.o.alloc (.cells #[.int .i64 (hx : Nat), .slice A args.length c] 113)) fr2 nr); have FB2 := hid fr2; have HO1 := hid (fun g (e : v1.ownBlock = some g) => R1.o.own e); clear hr2 fr2 hv2 HER R1) | fail)
 have KG : Hid (∀ (g : Nat) (t : TypeId) (cs : Array Value), Blk w1 g t cs → t ≠ 113 → Blk w2 g t cs) := fun g t cs hb hne => (hb.fr FXA.o id).fr FB2.o (fun e => by obtain ⟨h1, cs', h2⟩ := HO1.o g e.symm; exact Blk.ne_ hb h2 hne rfl)
 replace G0 := hid (KG.o _ _ _ G0.o dc)
 replace G1 := hid (KG.o _ _ _ G1.o dc)
 clear KG FB2 HO1 FW1 FT1 FXA
 have FT2 := ftr F0 FW2.o
 have W2S := hid FW2.o.size
 have z := G0.o.cell 1
 go_upto_region 6 with (first | (at_builtin; refine wpList_appC (t := tI) (P := prog) (base := w2.heap.size) (S := Emp) (v := .slice none 0 0) (xs := []) (ys := x.counts) (dss := css2) (B2 := w.heap.size) kFm rfl rfl rfl rfl (Ty.row.nil (t := tI) w2 w2.heap.size Emp 3) (HC2.o.1 _ _) (HC2.o.2.frNo FT2.o) rfl (by have := HN2.o; simp; omega) (by have := HN2.o; simp; omega) (fun _ h => h.elim) nr ?_; intro v3 w3 hr3 fr3 hv3; have R3 := hid hr3; have FW3 := hid (own_frame (Ty.row.nil (t := tI) w2 w2.heap.size Emp 3) (Fr.refl No w2) fr3 nr); clear hr3 fr3 hv3 z) | fail)
 replace G0 := hid (G0.o.fr FW3.o id)
 replace G1 := hid (G1.o.fr FW3.o id)
 replace R2 := hid (R2.o.fr FW3.o (fun k hk => ⟨ltl (HSS.o k hk).1 W2S.o, fun x => x⟩) (fun _ _ x => x))
 have FT3 := ftr FT2 FW3.o
 have W3S := hid FW3.o.size
 rw [List.nil_append] at R3
 obtain ⟨gq, cg, hg, _⟩ := kBF R3.o (by have := HK.o; omega)
 subst hg
 have HT := kBD R3.o hx HK.o
 have HO3 := hid (R3.o.own (g := gq) rfl)
 obtain ⟨b', o', ds, eb, _, hc, hr⟩ := (Ty.row.els' (S' := fun _ => True) R3.o tvv tvv).at_ hx HK.o
 injection eb with eb
 injection eb with q1 q2 _
 subst q1 q2
 obtain ⟨rfl, wfv⟩ := hr
 have u0 : w3.cell? ⟨gq, hx, none⟩ = some (.int .i64 v) := by have := hc 0 _ rfl; rw [HVV.o] at this; simpa [show tI.size = 1 from rfl] using this
 have u1 : w3.frozen? ⟨gq, hx, none⟩ = false := by have := (HT 0 dc).2; simpa [show tI.size = 1 from rfl] using this
 clear HT hc FW3 FW2 FT2 wfv
 go_upto_region 7 with fail
 have FG := hid ((Fr.refl (fun q => q = gq) w3).setCell ⟨gq, hx, none⟩ (.int .i64 (v + 1)) (fun _ => rfl))
 have WF : (Lit.int .i64 (v + 1)).wf = true := by
  have h1 := wrap64_wf (v + 1)
  have h2 := HV.o
  rwa [show wrap64 (v + 1) = v + 1 by simp only [wrap64]; omega] at h1
 have R4 := hid (R3.o.set (w' := w3.setCell ⟨gq, hx, none⟩ (.int .i64 (v + 1))) (ds := [.int .i64 (v + 1)]) (x := v + 1) hx HK.o ⟨rfl, WF⟩ (fun p hp => hp.elim) (fun cur hb => by show Blk _ gq _ (setA cur (hx * 1) [.int .i64 (v + 1)]); rw [Nat.mul_one]; exact hb.set_ hx _))
 have NE : Hid (∀ (q : Nat) (t : TypeId) (cs : Array Value), Blk w3 q t cs → t ≠ 3 → ¬ q = gq) := fun q t cs hb hne => by obtain ⟨_, cs', h2⟩ := HO3.o; exact Blk.ne_ hb h2 hne
 replace G0 := hid (G0.o.fr FG.o (NE.o _ _ _ G0.o dc))
 replace G1 := hid (G1.o.fr FG.o (NE.o _ _ _ G1.o dc))
 replace R2 := hid (R2.o.fr FG.o (fun k hk => ⟨ltl (HSS.o k hk).1 (Nat.le_trans W2S.o (Nat.le_trans nr W3S.o)), fun e => by have := (HSS.o k hk).1; have := W2S.o; have := HO3.o.1; omega⟩) (fun q hq => by obtain ⟨_, cs', hb⟩ := R2.o.own hq; exact NE.o _ _ _ hb dc))
 have FT4 := hid (FT3.o.setCell ⟨gq, hx, none⟩ (.int .i64 (v + 1)) (fun h => absurd h (by have := HO3.o.1; have := W2S.o; have := F0.o.size; show ¬ gq < _; omega)))
 clear u0 u1 R3 HO3 NE FT3 WF FG
 generalize w3.setCell ⟨gq, hx, none⟩ (.int .i64 (v + 1)) = w4 at *
 obtain ⟨A', c', e2, l1, l2, E2⟩ := R2.o.els (S' := fun k => S k ∨ v2.ownBlock = some k) (fun _ h => .inl h) (fun g hg => .inr hg)
 have e3 : ([] ++ x.calls ++ [(⟨(hx : Int), args⟩ : Ca)]).length = x.calls.length + 1 := by simp
 rw [e3] at e2 l1
 have HW2 := hid (fun g (e : v2.ownBlock = some g) => R2.o.own e)
 subst e2
 have HE2 := hid E2
 have HL := hid (And.intro l1 l2)
 obtain ⟨A9', c9', e5, m1, m2, E5⟩ := R4.o.els (S' := fun k => k = gq) (fun _ h => h.elim) (fun g hg => (show gq = g by simpa [Value.ownBlock] using hg).symm)
 have HW4 := hid (R4.o.own (g := gq) rfl)
 have W4S : Hid (W.heap.size ≤ w4.heap.size) := by have := HW4.o.1; obtain ⟨_, q3⟩ := HW4.o.2; have := q3.lt; have := W2S.o; show W.heap.size ≤ w4.heap.size; omega
 rw [List.length_set] at m1
 injection e5 with q1 q2 q3
 subst q1 q3
 have HE5 := hid E5
 have HL5 := hid (And.intro m1 m2)
 clear R2 R4 E2 E5 l1 l2 e3 m1 m2 q2
 have y := G0.o.frozen 2
 have y' := G0.o.cell 2
 have z := G0.o.frozen 1
 have z' := G0.o.cell 1
 go_upto_region 9 with fail
 clear y y' z z'
 have N0 := hid ((G0.o.set_ 2 (.slice A' (x.calls.length + 1) c')).set_ 1 (.slice (some ⟨gq, 0, none⟩) x.counts.length cg))
 have N1 := hid ((G1.o.far (p := ⟨w.heap.size, 2, none⟩) (by show w.heap.size + 1 ≠ w.heap.size; omega) (.slice A' (x.calls.length + 1) c')).far (p := ⟨w.heap.size, 1, none⟩) (by show w.heap.size + 1 ≠ w.heap.size; omega) (.slice (some ⟨gq, 0, none⟩) x.counts.length cg))
 have FT5 := hid ((FT4.o.setCell ⟨w.heap.size, 2, none⟩ (.slice A' (x.calls.length + 1) c') (fun h => absurd h (by show ¬ w.heap.size < _; omega))).setCell ⟨w.heap.size, 1, none⟩ (.slice (some ⟨gq, 0, none⟩) x.counts.length cg) (fun h => absurd h (by show ¬ w.heap.size < _; omega)))
 have FX5 := hid (((Fr.refl (Two (w.heap.size) (w.heap.size + 1)) w4).setCell ⟨w.heap.size, 2, none⟩ (.slice A' (x.calls.length + 1) c') (fun _ => .inl rfl)).setCell ⟨w.heap.size, 1, none⟩ (.slice (some ⟨gq, 0, none⟩) x.counts.length cg) (fun _ => .inl rfl))
 have GT := hid (And.intro G0.o G1.o)
 clear G0 G1 FT4
 generalize (w4.setCell ⟨w.heap.size, 2, none⟩ (.slice A' (x.calls.length + 1) c')).setCell ⟨w.heap.size, 1, none⟩ (.slice (some ⟨gq, 0, none⟩) x.counts.length cg) = W5 at *

 have RQ : W5.rangeAt (w.heap.size) 0 (kDD A0 A' A3 A4 A5 A6 A7 A8 A9 x c0 gq cg c' c3 c4 c5 c6 c7 c8 c9) := rangeAt_blk N0.o
 have HT : Hid (W5.there (w.heap.size + 1) 0 10) := there_blk N1.o rfl
 have HI : Hid ((prog.info? 39).map (·.size) = some 10) := by unfold Hid; kernel_rfl
 go_wp2_with (first
  | (refine wpList_load_mid (by rfl) 39 _ (by rfl) (w.heap.size) 0 (by rfl) _ _ RQ underlying39 (by rfl) HI.o ?_)
  | (refine wpList_store_mid (by rfl) 39 _ _ (by rfl) (w.heap.size + 1) 0 #[.slice A0 x.hosts.length c0, .slice (some ⟨gq, 0, none⟩) x.counts.length cg, .slice A' (x.calls.length + 1) c', .slice A3 x.funcs.length c3, .slice A4 x.tabs.length c4, .slice A5 x.mems.length c5, .slice A6 x.globs.length c6, .slice A7 x.elems.length c7, .slice A8 x.datas.length c8, .slice A9 x.insts.length c9] (by rfl) (by rfl) HT.o HI.o (by simp [Value.oneCell']) ?_)
  | fail)
 have FT6 := Fr.setCells' (a := w) (b := w.heap.size + 1) (M := No) (fun h => absurd h om) (kDD A0 A' A3 A4 A5 A6 A7 A8 A9 x c0 gq cg c' c3 c4 c5 c6 c7 c8 c9) 0 W5 FT5.o
 have FX6 := Fr.setCells' (a := w4) (b := w.heap.size + 1) (M := Two (w.heap.size) (w.heap.size + 1)) (fun _ => .inr rfl) (kDD A0 A' A3 A4 A5 A6 A7 A8 A9 x c0 gq cg c' c3 c4 c5 c6 c7 c8 c9) 0 W5 FX5.o
 have RR := World.rangeAt_setCells_same W5 (w.heap.size + 1) 0 (kDD A0 A' A3 A4 A5 A6 A7 A8 A9 x c0 gq cg c' c3 c4 c5 c6 c7 c8 c9) HT.o
 have HQ := HE2.o.fr FX6 (fun k hk => by rcases hk with hk | hk; (obtain ⟨h1, h2, h3, -⟩ := HSS.o k hk; refine ⟨ltl h1 W4S.o, ?_⟩; rintro (h | h); exact h2 h; exact h3 h); (obtain ⟨q1, q2, q3⟩ := HW2.o k hk; refine ⟨q3.lt, ?_⟩; rintro (rfl | rfl); (exact Blk.ne_ q3 GT.o.1 dc rfl); exact Blk.ne_ q3 GT.o.2 dc rfl))
 have HQ5 := HE5.o.fr FX6 (fun k hk => by subst hk; obtain ⟨q1, q2, q3⟩ := HW4.o; refine ⟨q3.lt, ?_⟩; rintro (h | h); (exact Blk.ne_ q3 GT.o.1 dc h); exact Blk.ne_ q3 GT.o.2 dc h)
 refine bodyPost_ret (v := .agg (kDD A0 A' A3 A4 A5 A6 A7 A8 A9 x c0 gq cg c' c3 c4 c5 c6 c7 c8 c9).toArray) (kAv (fn := f129) (p := 6) (ty := 39) rfl _ _ (w.heap.size + 1) _ _ (by rfl) RR underlying39 (by rfl) HI.o) rfl ?_
 have HP := kHz (ys := x.calls ++ [(⟨(hx : Int), args⟩ : Ca)]) (S' := fun k => S k ∨ Nw w (W5.setCells (w.heap.size + 1) 0 (kDD A0 A' A3 A4 A5 A6 A7 A8 A9 x c0 gq cg c' c3 c4 c5 c6 c7 c8 c9)) k) (A := A') (c := c') H.o FT6 HS.o (fun _ h => .inl h) (by have := HL.o; simp; omega) HL.o.2 (HQ.more (fun k hk => hk.elim (fun hk => (HSS.o k hk).2.2.2.elim .inl (fun h => .inr ⟨h, by have := (HSS.o k hk).1; have := W4S.o; have := FX6.size; omega⟩)) (fun hk => .inr (by obtain ⟨q1, q2, q3⟩ := HW2.o k hk; have := F0.o.size; have := FX6.size; exact ⟨by omega, ltl q3.lt this⟩))))
 have HP2 := kGk (x := { x with calls := x.calls ++ [(⟨(hx : Int), args⟩ : Ca)] }) (ys := x.counts.set hx (v + 1)) (S' := fun k => S k ∨ Nw w (W5.setCells (w.heap.size + 1) 0 (kDD A0 A' A3 A4 A5 A6 A7 A8 A9 x c0 gq cg c' c3 c4 c5 c6 c7 c8 c9)) k) (A := some ⟨gq, 0, none⟩) (c := cg) HP (Fr.refl No _) (fun k hk => hk.elim (fun h => ltl (HS.o k h) FT6.size) (fun h => h.2)) i2 (by have := HL5.o.1; simp; omega) HL5.o.2 (HQ5.more (fun k hk => by subst hk; obtain ⟨q1, q2, q3⟩ := HW4.o; exact .inr ⟨by have := F0.o.size; have := W2S.o; omega, ltl q3.lt FX6.size⟩))
 simp only [List.length_append, List.length_singleton, List.length_set] at HP2
 exact ⟨_, rfl, HP2, FT6⟩
theorem i_at {w : World} {S : Nat → Prop} {A : OA} {l : List Int} (h : tI.els w S A l) (i : Nat) (hi : i < l.length) : ∃ (b o : Nat), A = some ⟨b, o, none⟩ ∧ S b ∧ w.cell? ⟨b, o + i, none⟩ = some (.int .i64 l[i]) ∧ (Lit.int .i64 l[i]).wf = true := by
 obtain ⟨b, o, ds, rfl, hb, hc, hr⟩ := h.at_ i hi
 obtain ⟨rfl, hw⟩ := hr
 have := hc 0 _ rfl
 have e : tI.size = 1 := rfl
 exact yy70
abbrev kGT (a0 a1 a2 a3 a4 a5 : Option Addr) (a6 : Ad) (a7 a8 a9 a10 a11 a12 : Nat) : Array Value := #[.slice a0 a6.funcs.length a7, .slice a1 a6.tables.length a8, .slice a2 a6.mems.length a9, .slice a3 a6.globals.length a10, .slice a4 a6.elems.length a11, .slice a5 a6.datas.length a12]
abbrev kGS (a0 a1 a2 a3 a4 a5 : Option Addr) (a6 : Ad) (a7 a8 a9 a10 a11 a12 : Nat) : List Value := [.slice a0 a6.funcs.length a7, .slice a1 a6.tables.length a8, .slice a2 a6.mems.length a9, .slice a3 a6.globals.length a10, .slice a4 a6.elems.length a11, .slice a5 a6.datas.length a12]
abbrev kFd : Array Value := #[.slice none 0 0, .slice none 0 0, .slice none 0 0, .slice none 0 0, .slice none 0 0, .slice none 0 0]
theorem kEK (a : Ad) {ms : LV} (S : Nat → Prop) (w : World) (h : tAd.rd w S ms a) (hS : Lt S w) (b0 : a.funcs.length * 8 ≤ 140737488351232) (b1 : a.tables.length * 8 ≤ 140737488351232) (b2 : a.mems.length * 8 ≤ 140737488351232) (b3 : a.globals.length * 8 ≤ 140737488351232) (b4 : a.elems.length * 8 ≤ 140737488351232) (b5 : a.datas.length * 8 ≤ 140737488351232) :
    Calls prog 88 #[.agg ms.toArray] w (kAa tAd a w) := by
 obtain ⟨P0, p0, P1, p1, P2, p2, P3, p3, P4, p4, P5, p5, rfl, -, -, h0, -, -, h1, -, -, h2, -, -, h3, -, -, h4, -, -, h5⟩ := kDE h
 have F0 := hid (((Fr.refl No w).alloc (.cells (kGT P0 P1 P2 P3 P4 P5 a p0 p1 p2 p3 p4 p5) 73)).alloc (.cells kFd 73))
 have G0 := hid ((Blk.new w 73 (kGT P0 P1 P2 P3 P4 P5 a p0 p1 p2 p3 p4 p5)).alloc (.cells kFd 73))
 have G1 := hid (Blk.new1 w (.cells (kGT P0 P1 P2 P3 P4 P5 a p0 p1 p2 p3 p4 p5) 73) 73 kFd)
 have H0 := hid h0
 have HB0 := hid b0
 have H1 := hid h1
 have HB1 := hid b1
 have H2 := hid h2
 have HB2 := hid b2
 have H3 := hid h3
 have HB3 := hid b3
 have H4 := hid h4
 have HB4 := hid b4
 have H5 := hid h5
 have HB5 := hid b5
 have HS := hid hS
 clear h hS h0 b0 h1 b1 h2 b2 h3 b3 h4 b4 h5 b5
 go_enter func88, ntmps88
 go_upto_region 1 with fail
 generalize (w.alloc (.cells (kGT P0 P1 P2 P3 P4 P5 a p0 p1 p2 p3 p4 p5) 73)).alloc (.cells kFd 73) = W at *
 have HSW : Hid (Lt S W) := fun k hk => ltl (HS.o k hk) F0.o.size
 have HX : Hid (∀ X, Fr No W X → Ce X w.heap.size 0 (.slice P0 a.funcs.length p0) ∧ Ce X w.heap.size 1 (.slice P1 a.tables.length p1) ∧ Ce X w.heap.size 2 (.slice P2 a.mems.length p2) ∧ Ce X w.heap.size 3 (.slice P3 a.globals.length p3) ∧ Ce X w.heap.size 4 (.slice P4 a.elems.length p4) ∧ Ce X w.heap.size 5 (.slice P5 a.datas.length p5)) := fun X g => ⟨(G0.o.fr g id).cell 0, (G0.o.fr g id).cell 1, (G0.o.fr g id).cell 2, (G0.o.fr g id).cell 3, (G0.o.fr g id).cell 4, (G0.o.fr g id).cell 5⟩
 refine rwO (fun X => Ce X w.heap.size 0 (.slice P0 a.funcs.length p0) ∧ Ce X w.heap.size 1 (.slice P1 a.tables.length p1) ∧ Ce X w.heap.size 2 (.slice P2 a.mems.length p2) ∧ Ce X w.heap.size 3 (.slice P3 a.globals.length p3) ∧ Ce X w.heap.size 4 (.slice P4 a.elems.length p4) ∧ Ce X w.heap.size 5 (.slice P5 a.datas.length p5)) [19] [0, 1, 3, 4, 6, 7, 9, 10, 12, 13, 15, 16, 2, 5, 8, 11, 14, 17, 18, 19] [2, 5, 8, 11, 14, 17, 19] (HX.o _ (Fr.refl No _).drew) ?_
 have FZ := hid (Fr.refl No W).drew
 refine rC ?_
 refine wpO_eff rfl rfl fun K hK => sz ?_
 refine (kBP P0 p0 a.funcs S _ (kAA H0.o (F0.o.trans FZ.o i3) HS.o i2) (fun k hk => ltl (HSW.o k hk) FZ.o.size) HB0.o).mono ?_
 rintro e w0 ⟨B0, d0, rfl, hr, f1⟩
 obtain ⟨l1, l2, el⟩ := kBK hr
 have E0 : Hid (a.funcs.length ≤ d0 ∧ d0 ≤ maxLen ∧ tI.els w0 (Nw W w0) B0 a.funcs) := ⟨l1, l2, kBp el (fun k o e hk => by subst e; obtain ⟨g1, _, g2⟩ := hr.own (g := k) (by have := hr; obtain ⟨css, _, ho⟩ := this; rcases ho.2 with ⟨hv, _⟩ | ⟨g, cap, cur, hv, _⟩; (cases hv); (injection hv with q1 _ _; injection q1 with q1; injection q1 with q1 _ _; subst q1; rfl)); exact ⟨Nat.le_trans FZ.o.size g1, g2.lt⟩)⟩
 replace FZ := ftr FZ f1
 clear f1 hr el l1 l2
 refine hK _ _ (fun _ => HX.o _ FZ.o) ?_
 clear hK K
 refine rC ?_
 refine wpO_eff rfl rfl fun K hK => sz ?_
 refine (kBP P1 p1 a.tables S _ (kAA H1.o (F0.o.trans FZ.o i3) HS.o i2) (fun k hk => ltl (HSW.o k hk) FZ.o.size) HB1.o).mono ?_
 rintro e w1 ⟨B1, d1, rfl, hr, f1⟩
 obtain ⟨l1, l2, el⟩ := kBK hr
 have E1 : Hid (a.tables.length ≤ d1 ∧ d1 ≤ maxLen ∧ tI.els w1 (Nw W w1) B1 a.tables) := ⟨l1, l2, kBp el (fun k o e hk => by subst e; obtain ⟨g1, _, g2⟩ := hr.own (g := k) (by have := hr; obtain ⟨css, _, ho⟩ := this; rcases ho.2 with ⟨hv, _⟩ | ⟨g, cap, cur, hv, _⟩; (cases hv); (injection hv with q1 _ _; injection q1 with q1; injection q1 with q1 _ _; subst q1; rfl)); exact ⟨Nat.le_trans FZ.o.size g1, g2.lt⟩)⟩
 replace E0 : Hid (a.funcs.length ≤ d0 ∧ d0 ≤ maxLen ∧ tI.els w1 (Nw W w1) B0 a.funcs) := ⟨E0.o.1, E0.o.2.1, kAA E0.o.2.2 f1 (fun k hk => hk.2) (fun k hk => ⟨hk.1, ltl hk.2 f1.size⟩)⟩
 replace FZ := ftr FZ f1
 clear f1 hr el l1 l2
 refine hK _ _ (fun _ => HX.o _ FZ.o) ?_
 clear hK K
 refine rC ?_
 refine wpO_eff rfl rfl fun K hK => sz ?_
 refine (kBP P2 p2 a.mems S _ (kAA H2.o (F0.o.trans FZ.o i3) HS.o i2) (fun k hk => ltl (HSW.o k hk) FZ.o.size) HB2.o).mono ?_
 rintro e w2 ⟨B2, d2, rfl, hr, f1⟩
 obtain ⟨l1, l2, el⟩ := kBK hr
 have E2 : Hid (a.mems.length ≤ d2 ∧ d2 ≤ maxLen ∧ tI.els w2 (Nw W w2) B2 a.mems) := ⟨l1, l2, kBp el (fun k o e hk => by subst e; obtain ⟨g1, _, g2⟩ := hr.own (g := k) (by have := hr; obtain ⟨css, _, ho⟩ := this; rcases ho.2 with ⟨hv, _⟩ | ⟨g, cap, cur, hv, _⟩; (cases hv); (injection hv with q1 _ _; injection q1 with q1; injection q1 with q1 _ _; subst q1; rfl)); exact ⟨Nat.le_trans FZ.o.size g1, g2.lt⟩)⟩
 replace E0 : Hid (a.funcs.length ≤ d0 ∧ d0 ≤ maxLen ∧ tI.els w2 (Nw W w2) B0 a.funcs) := ⟨E0.o.1, E0.o.2.1, kAA E0.o.2.2 f1 (fun k hk => hk.2) (fun k hk => ⟨hk.1, ltl hk.2 f1.size⟩)⟩
 replace E1 : Hid (a.tables.length ≤ d1 ∧ d1 ≤ maxLen ∧ tI.els w2 (Nw W w2) B1 a.tables) := ⟨E1.o.1, E1.o.2.1, kAA E1.o.2.2 f1 (fun k hk => hk.2) (fun k hk => ⟨hk.1, ltl hk.2 f1.size⟩)⟩
 replace FZ := ftr FZ f1
 clear f1 hr el l1 l2
 refine hK _ _ (fun _ => HX.o _ FZ.o) ?_
 clear hK K
 refine rC ?_
 refine wpO_eff rfl rfl fun K hK => sz ?_
 refine (kBP P3 p3 a.globals S _ (kAA H3.o (F0.o.trans FZ.o i3) HS.o i2) (fun k hk => ltl (HSW.o k hk) FZ.o.size) HB3.o).mono ?_
 rintro e w3 ⟨B3, d3, rfl, hr, f1⟩
 obtain ⟨l1, l2, el⟩ := kBK hr
 have E3 : Hid (a.globals.length ≤ d3 ∧ d3 ≤ maxLen ∧ tI.els w3 (Nw W w3) B3 a.globals) := ⟨l1, l2, kBp el (fun k o e hk => by subst e; obtain ⟨g1, _, g2⟩ := hr.own (g := k) (by have := hr; obtain ⟨css, _, ho⟩ := this; rcases ho.2 with ⟨hv, _⟩ | ⟨g, cap, cur, hv, _⟩; (cases hv); (injection hv with q1 _ _; injection q1 with q1; injection q1 with q1 _ _; subst q1; rfl)); exact ⟨Nat.le_trans FZ.o.size g1, g2.lt⟩)⟩
 replace E0 : Hid (a.funcs.length ≤ d0 ∧ d0 ≤ maxLen ∧ tI.els w3 (Nw W w3) B0 a.funcs) := ⟨E0.o.1, E0.o.2.1, kAA E0.o.2.2 f1 (fun k hk => hk.2) (fun k hk => ⟨hk.1, ltl hk.2 f1.size⟩)⟩
 replace E1 : Hid (a.tables.length ≤ d1 ∧ d1 ≤ maxLen ∧ tI.els w3 (Nw W w3) B1 a.tables) := ⟨E1.o.1, E1.o.2.1, kAA E1.o.2.2 f1 (fun k hk => hk.2) (fun k hk => ⟨hk.1, ltl hk.2 f1.size⟩)⟩
 replace E2 : Hid (a.mems.length ≤ d2 ∧ d2 ≤ maxLen ∧ tI.els w3 (Nw W w3) B2 a.mems) := ⟨E2.o.1, E2.o.2.1, kAA E2.o.2.2 f1 (fun k hk => hk.2) (fun k hk => ⟨hk.1, ltl hk.2 f1.size⟩)⟩
 replace FZ := ftr FZ f1
 clear f1 hr el l1 l2
 refine hK _ _ (fun _ => HX.o _ FZ.o) ?_
 clear hK K
 refine rC ?_
 refine wpO_eff rfl rfl fun K hK => sz ?_
 refine (kBP P4 p4 a.elems S _ (kAA H4.o (F0.o.trans FZ.o i3) HS.o i2) (fun k hk => ltl (HSW.o k hk) FZ.o.size) HB4.o).mono ?_
 rintro e w4 ⟨B4, d4, rfl, hr, f1⟩
 obtain ⟨l1, l2, el⟩ := kBK hr
 have E4 : Hid (a.elems.length ≤ d4 ∧ d4 ≤ maxLen ∧ tI.els w4 (Nw W w4) B4 a.elems) := ⟨l1, l2, kBp el (fun k o e hk => by subst e; obtain ⟨g1, _, g2⟩ := hr.own (g := k) (by have := hr; obtain ⟨css, _, ho⟩ := this; rcases ho.2 with ⟨hv, _⟩ | ⟨g, cap, cur, hv, _⟩; (cases hv); (injection hv with q1 _ _; injection q1 with q1; injection q1 with q1 _ _; subst q1; rfl)); exact ⟨Nat.le_trans FZ.o.size g1, g2.lt⟩)⟩
 replace E0 : Hid (a.funcs.length ≤ d0 ∧ d0 ≤ maxLen ∧ tI.els w4 (Nw W w4) B0 a.funcs) := ⟨E0.o.1, E0.o.2.1, kAA E0.o.2.2 f1 (fun k hk => hk.2) (fun k hk => ⟨hk.1, ltl hk.2 f1.size⟩)⟩
 replace E1 : Hid (a.tables.length ≤ d1 ∧ d1 ≤ maxLen ∧ tI.els w4 (Nw W w4) B1 a.tables) := ⟨E1.o.1, E1.o.2.1, kAA E1.o.2.2 f1 (fun k hk => hk.2) (fun k hk => ⟨hk.1, ltl hk.2 f1.size⟩)⟩
 replace E2 : Hid (a.mems.length ≤ d2 ∧ d2 ≤ maxLen ∧ tI.els w4 (Nw W w4) B2 a.mems) := ⟨E2.o.1, E2.o.2.1, kAA E2.o.2.2 f1 (fun k hk => hk.2) (fun k hk => ⟨hk.1, ltl hk.2 f1.size⟩)⟩
 replace E3 : Hid (a.globals.length ≤ d3 ∧ d3 ≤ maxLen ∧ tI.els w4 (Nw W w4) B3 a.globals) := ⟨E3.o.1, E3.o.2.1, kAA E3.o.2.2 f1 (fun k hk => hk.2) (fun k hk => ⟨hk.1, ltl hk.2 f1.size⟩)⟩
 replace FZ := ftr FZ f1
 clear f1 hr el l1 l2
 refine hK _ _ (fun _ => HX.o _ FZ.o) ?_
 clear hK K
 refine rC ?_
 refine wpO_eff rfl rfl fun K hK => sz ?_
 refine (kBP P5 p5 a.datas S _ (kAA H5.o (F0.o.trans FZ.o i3) HS.o i2) (fun k hk => ltl (HSW.o k hk) FZ.o.size) HB5.o).mono ?_
 rintro e w5 ⟨B5, d5, rfl, hr, f1⟩
 obtain ⟨l1, l2, el⟩ := kBK hr
 have E5 : Hid (a.datas.length ≤ d5 ∧ d5 ≤ maxLen ∧ tI.els w5 (Nw W w5) B5 a.datas) := ⟨l1, l2, kBp el (fun k o e hk => by subst e; obtain ⟨g1, _, g2⟩ := hr.own (g := k) (by have := hr; obtain ⟨css, _, ho⟩ := this; rcases ho.2 with ⟨hv, _⟩ | ⟨g, cap, cur, hv, _⟩; (cases hv); (injection hv with q1 _ _; injection q1 with q1; injection q1 with q1 _ _; subst q1; rfl)); exact ⟨Nat.le_trans FZ.o.size g1, g2.lt⟩)⟩
 replace E0 : Hid (a.funcs.length ≤ d0 ∧ d0 ≤ maxLen ∧ tI.els w5 (Nw W w5) B0 a.funcs) := ⟨E0.o.1, E0.o.2.1, kAA E0.o.2.2 f1 (fun k hk => hk.2) (fun k hk => ⟨hk.1, ltl hk.2 f1.size⟩)⟩
 replace E1 : Hid (a.tables.length ≤ d1 ∧ d1 ≤ maxLen ∧ tI.els w5 (Nw W w5) B1 a.tables) := ⟨E1.o.1, E1.o.2.1, kAA E1.o.2.2 f1 (fun k hk => hk.2) (fun k hk => ⟨hk.1, ltl hk.2 f1.size⟩)⟩
 replace E2 : Hid (a.mems.length ≤ d2 ∧ d2 ≤ maxLen ∧ tI.els w5 (Nw W w5) B2 a.mems) := ⟨E2.o.1, E2.o.2.1, kAA E2.o.2.2 f1 (fun k hk => hk.2) (fun k hk => ⟨hk.1, ltl hk.2 f1.size⟩)⟩
 replace E3 : Hid (a.globals.length ≤ d3 ∧ d3 ≤ maxLen ∧ tI.els w5 (Nw W w5) B3 a.globals) := ⟨E3.o.1, E3.o.2.1, kAA E3.o.2.2 f1 (fun k hk => hk.2) (fun k hk => ⟨hk.1, ltl hk.2 f1.size⟩)⟩
 replace E4 : Hid (a.elems.length ≤ d4 ∧ d4 ≤ maxLen ∧ tI.els w5 (Nw W w5) B4 a.elems) := ⟨E4.o.1, E4.o.2.1, kAA E4.o.2.2 f1 (fun k hk => hk.2) (fun k hk => ⟨hk.1, ltl hk.2 f1.size⟩)⟩
 replace FZ := ftr FZ f1
 clear f1 hr el l1 l2
 refine hK _ _ (fun _ => HX.o _ FZ.o) ?_
 clear hK K
 refine rC ?_
 have GZ := hid (G1.o.fr FZ.o id)
 refine wpO_eff rfl rfl (fun K hK => ?_)
 simp only [zA]
 refine wp_store_mid 73 _ _ (by rfl) (w.heap.size + 1) 0 #[.slice B0 a.funcs.length d0, .slice B1 a.tables.length d1, .slice B2 a.mems.length d2, .slice B3 a.globals.length d3, .slice B4 a.elems.length d4, .slice B5 a.datas.length d5] (by rfl) (by rfl) (there_blk GZ.o rfl) kr (by simp [Value.oneCell']) ?_
 refine hK _ _ (fun h => by cases h) ?_
 clear hK K
 refine wpO_nil ?_
 have FT := Fr.setCells' (a := w) (b := w.heap.size + 1) (M := No) (fun h => absurd h om) (kGS B0 B1 B2 B3 B4 B5 a d0 d1 d2 d3 d4 d5) 0 w5 (F0.o.trans FZ.o i3)
 have FY := Fr.setCells' (M := fun q => q = w.heap.size + 1) (b := w.heap.size + 1) (fun _ => rfl) (kGS B0 B1 B2 B3 B4 B5 a d0 d1 d2 d3 d4 d5) 0 w5 (Fr.refl _ w5)
 have RR := World.rangeAt_setCells_same w5 (w.heap.size + 1) 0 (kGS B0 B1 B2 B3 B4 B5 a d0 d1 d2 d3 d4 d5) (there_blk GZ.o rfl)
 have hG := G1.o.lt
 go_wp2
 refine bodyPost_ret (v := .agg (kGS B0 B1 B2 B3 B4 B5 a d0 d1 d2 d3 d4 d5).toArray) (kAv (fn := f88) (p := 2) (ty := 73) rfl _ _ (w.heap.size + 1) _ _ (by rfl) RR underlying73 (by rfl) kr) rfl ?_
 exact ⟨_, rfl, kJN (a := a) E0.o.1 E0.o.2.1 ((E0.o.2.2.fr FY (fun k hk => ⟨hk.2, by have := hk.1; omega⟩)).more (fun k hk => ⟨Nat.le_trans F0.o.size hk.1, ltl hk.2 FY.size⟩)) E1.o.1 E1.o.2.1 ((E1.o.2.2.fr FY (fun k hk => ⟨hk.2, by have := hk.1; omega⟩)).more (fun k hk => ⟨Nat.le_trans F0.o.size hk.1, ltl hk.2 FY.size⟩)) E2.o.1 E2.o.2.1 ((E2.o.2.2.fr FY (fun k hk => ⟨hk.2, by have := hk.1; omega⟩)).more (fun k hk => ⟨Nat.le_trans F0.o.size hk.1, ltl hk.2 FY.size⟩)) E3.o.1 E3.o.2.1 ((E3.o.2.2.fr FY (fun k hk => ⟨hk.2, by have := hk.1; omega⟩)).more (fun k hk => ⟨Nat.le_trans F0.o.size hk.1, ltl hk.2 FY.size⟩)) E4.o.1 E4.o.2.1 ((E4.o.2.2.fr FY (fun k hk => ⟨hk.2, by have := hk.1; omega⟩)).more (fun k hk => ⟨Nat.le_trans F0.o.size hk.1, ltl hk.2 FY.size⟩)) E5.o.1 E5.o.2.1 ((E5.o.2.2.fr FY (fun k hk => ⟨hk.2, by have := hk.1; omega⟩)).more (fun k hk => ⟨Nat.le_trans F0.o.size hk.1, ltl hk.2 FY.size⟩)), FT⟩
def EachTo {α : Type} (t : Ty α) (l : List α) (w : World) (e : Ending) (w' : World) : Prop :=
 ∃ (A : OA) (c : Nat), e = .returned (.slice A l.length c) ∧ l.length ≤ c ∧ c ≤ maxLen ∧ t.els w' (Nw w w') A l ∧ Fr No w w'
def Sv (w wr : World) (v : Value) (q : Nat) : Prop := Nw w wr q ∧ ¬ some q = v.ownBlock
section
variable {α : Type} {t : Ty α} [hok : TyOk t] [hm : TyMore t] {w wr w2 : World} {e : TypeId} {v : Value} {xs : List α} {x : α} {es : LV}
theorem kCF [hone : kAG t] {P : Program} {ts : TypeId} {bytes : Nat} {z : Value} {ops : Array Oper} {rest : List Oper} {o : Oper} {a : Act} {Q : Exit → Act → World → Prop} (E : ElemOk P ts e t.size bytes z) (F1 : Fr No w wr) (HR : t.row wr w.heap.size (Sv w wr v) e v xs) (f2 : Fr No wr w2) (hr : t.rd w2 (Nw wr w2) es x) (hl : xs.length ≤ 1048576) (hby : bytes ≤ 1000)
    (h : ∀ v3 w3, Fr No w w3 → t.row w3 w.heap.size (Sv w w3 v3) e v3 (xs ++ [x]) → wpList P ops Q rest (a.put o.dst v3) w3)
    (hgd : o.guard = none := by rfl) {s y : Operand} (ho : o.op = .call { callee := .builtin .append, args := #[s, y], argTypes := #[ts, ts] } := by rfl) (hs : a.eval s = v := by rfl) {cs : Nat} (hx : a.eval y = .slice (some ⟨w2.heap.size, 0, none⟩) 1 cs := by rfl) :
    wpList P ops Q (o :: rest) a (w2.alloc (.cells es.toArray e)) := by
 have FB := (Fr.refl No w2).alloc (.cells es.toArray e)
 have s1 := f2.size
 have s2 := F1.size
 have s3 := FB.size
 have OW : ∀ q, v.ownBlock = some q → w.heap.size ≤ q ∧ q < wr.heap.size := fun q hq => by
  obtain ⟨g1, _, g2⟩ := HR.own hq
  exact ⟨g1, g2.lt⟩
 have HRA := (HR.fr (f2.trans FB i3) (fun q hq => ⟨hq.1.2, fun x => x⟩) (fun _ _ x => x)).more (S' := Sv w w2 v) nr (fun q hq => ⟨⟨hq.1.1, by have := hq.1.2; omega⟩, hq.2⟩)
 have HRE : t.rd (w2.alloc (.cells es.toArray e)) (Sv w w2 v) es x := hm.more _ _ _ _ _ (hok.keep _ _ _ _ _ hr (fun p hp => FB.cell hp.2 id)) (fun q hq => ⟨⟨by have := hq.1; omega, hq.2⟩, fun e => by have := (OW q e.symm).2; have := hq.1; omega⟩)
 have hb : (xs.length + 1) * bytes ≤ 1048577 * 1000 := Nat.mul_le_mul om hby
 refine wpList_appC (dss := [es]) (B2 := w2.heap.size + 1) E hgd ho hs hx HRA (Css.one HRE) (by simpa using kFY w2 es e) rfl om om (fun q hq => ⟨ltl hq.1.2 s3, hq.2⟩) om fun v3 w3 hr3 fr3 hv3 => ?_
 have s4 := fr3.size
 refine h v3 w3 (((F1.trans f2 i3).trans FB i3).trans fr3 (fun i hi e => by have := (OW i e.symm).1; omega)) (hr3.more nr (fun q hq => ⟨⟨hq.1.1, by have := hq.1.2; omega⟩, fun e => ?_⟩))
 rcases hv3 with h | h
 · exact hq.2 (e.trans h)
 rw [h] at e
 have e2 := Option.some.inj e
 have e9 : (w2.alloc (.cells es.toArray ‹TypeId›)).heap.size = w2.heap.size + 1 := by simp
 have := hq.1.2
 omega
theorem eachEnd (HR : t.row wr w.heap.size (Sv w wr v) e v xs) : ∃ A c, v = .slice A xs.length c ∧ Hid (xs.length ≤ c ∧ c ≤ maxLen ∧ t.els wr (Nw w wr) A xs) := by
 obtain ⟨A, c, e, h⟩ := HR.els (S' := Nw w wr) (fun q hq => hq.1) (fun q hq => by obtain ⟨g1, _, g2⟩ := HR.own hq; exact ⟨g1, g2.lt⟩)
 exact ⟨A, c, e, h⟩
end
theorem kKK (A : OA) (c : Nat) (xs : List Fn) (S : Nat → Prop) (w : World) (h : tFn.els w S A xs) (hS : Lt S w) (hl : xs.length ≤ 1048576)
    (hT : ∀ (k : Nat) (hk : k < xs.length) (ds : LV) (X : World), Fr No w X → tFn.rd X S ds xs[k] → Calls prog 162 #[.agg ds.toArray] X (kAa tFn xs[k] X)) :
    Calls prog 161 #[.slice A xs.length c, .func (.func 162) #[] #[]] w (EachTo tFn xs w) := by
 have HE := hid h
 have HS := hid hS
 have HT := hid hT
 clear h hS hT
 go_enter func161, ntmps161
 go_wp2
 go_loopw [5, 10] (fun v i wr => ∃ k, k ≤ xs.length ∧ i = .int .i64 (k : Nat) ∧ Hid (Fr No w wr) ∧ Hid (tFn.row wr w.heap.size (Sv w wr v) 45 v (xs.take k))) (fun _ i _ => xs.length - (intOf i).toNat)
 case atStart => exact ⟨0, nz, rfl, Fr.refl _ _, Ty.row.nil _ _ _ _⟩
 obtain ⟨k, hk, rfl, F1, HR⟩ := hrel
 have i0 := nki k
 by_cases hlt : k < xs.length
 · obtain ⟨b, o, ds, rfl, hb, hc, hr⟩ := HE.o.at_ k hlt
   have hln : ds.length = 2 := TyOk.len _ _ _ _ hr
   have HLN := hid hln
   have RE : wr.rangeAt b (o + k * 2) ds := fun j u hu => (F1.o.cell (p := ⟨b, o + k * 2 + j, none⟩) (HS.o _ hb) id).trans (by have := hc j u hu; rwa [← Nat.add_assoc] at this)
   have HRD := hid hr
   have HI : Hid ((prog.info? 45).map (·.size) = some 2) := by unfold Hid; kernel_rfl
   have HON := hid (all_oneCell_toArray ((inferInstance : kAG tFn).one _ _ _ _ hr))
   have i1 : (k : Int) < xs.length := om
   clear hr hc hln
   go_upto_region 5 with (first | refine ldG underlying45 HI.o RE HLN.o ?_ | refine nwG HI.o rfl HLN.o (by simpa using HON.o) ?_ | fail)
   have FA0 := hid ((Fr.refl No wr).alloc (.cells ds.toArray 45))
   have FA := ftr F1 FA0.o
   have BN := hid (Blk.new wr 45 ds.toArray)
   generalize wr.alloc (.cells ds.toArray 45) = W1 at *
   have RQ : W1.rangeAt wr.heap.size 0 ds := rangeAt_blk BN.o
   have HC := hid (HT.o k hlt ds W1 FA.o (kAH HRD.o FA.o HS.o i2))
   go_wp2_with (first | refine ldG underlying45 HI.o RQ HLN.o ?_ | fail)
   refine HC.o.mono ?_
   rintro e w2 ⟨es, rfl, hr2, f2⟩
   clear HC RQ RE
   have hel : es.length = 2 := TyOk.len _ _ _ _ hr2
   have HEL := hid hel
   have hfs := kBj (ds := es) (Z := #[.slice none 0 0, .slice none 0 0]) (by rw [hel]; rfl)
   have HR2 := hid (TyMore.more _ _ _ _ hr2 (S' := Nw wr w2) (fun _ hk => ⟨Nat.le_trans FA0.o.size hk.1, hk.2⟩))
   have F2 := ftr FA0 f2
   clear hr2 f2
   go_wp2_with (first | (at_builtin; refine kCF elFn F1.o HR.o F2.o HR2.o so dc ?_; intro v3 w3 f3 hr3; have F3 := hid f3; have R3 := hid hr3; clear f3 hr3) | fail)
   exact yy16
 exact yy15
theorem kKO (A : OA) (c : Nat) (xs : List Cd) (S : Nat → Prop) (w : World) (h : tCd.els w S A xs) (hS : Lt S w) (hl : xs.length ≤ 1048576)
    (hT : ∀ (k : Nat) (hk : k < xs.length) (ds : LV) (X : World), Fr No w X → tCd.rd X S ds xs[k] → Calls prog 168 #[.agg ds.toArray] X (kAa tCd xs[k] X)) :
    Calls prog 167 #[.slice A xs.length c, .func (.func 168) #[] #[]] w (EachTo tCd xs w) := by
 have HE := hid h
 have HS := hid hS
 have HT := hid hT
 clear h hS hT
 go_enter func167, ntmps167
 go_wp2
 go_loopw [5, 10] (fun v i wr => ∃ k, k ≤ xs.length ∧ i = .int .i64 (k : Nat) ∧ Hid (Fr No w wr) ∧ Hid (tCd.row wr w.heap.size (Sv w wr v) 301 v (xs.take k))) (fun _ i _ => xs.length - (intOf i).toNat)
 case atStart => exact ⟨0, nz, rfl, Fr.refl _ _, Ty.row.nil _ _ _ _⟩
 obtain ⟨k, hk, rfl, F1, HR⟩ := hrel
 have i0 := nki k
 by_cases hlt : k < xs.length
 · obtain ⟨b, o, ds, rfl, hb, hc, hr⟩ := HE.o.at_ k hlt
   have hln : ds.length = 3 := TyOk.len _ _ _ _ hr
   have HLN := hid hln
   have RE : wr.rangeAt b (o + k * 3) ds := fun j u hu => (F1.o.cell (p := ⟨b, o + k * 3 + j, none⟩) (HS.o _ hb) id).trans (by have := hc j u hu; rwa [← Nat.add_assoc] at this)
   have HRD := hid hr
   have HI : Hid ((prog.info? 301).map (·.size) = some 3) := by unfold Hid; kernel_rfl
   have HON := hid (all_oneCell_toArray ((inferInstance : kAG tCd).one _ _ _ _ hr))
   have i1 : (k : Int) < xs.length := om
   clear hr hc hln
   go_upto_region 5 with (first | refine ldG underlying301 HI.o RE HLN.o ?_ | refine nwG HI.o rfl HLN.o (by simpa using HON.o) ?_ | fail)
   have FA0 := hid ((Fr.refl No wr).alloc (.cells ds.toArray 301))
   have FA := ftr F1 FA0.o
   have BN := hid (Blk.new wr 301 ds.toArray)
   generalize wr.alloc (.cells ds.toArray 301) = W1 at *
   have RQ : W1.rangeAt wr.heap.size 0 ds := rangeAt_blk BN.o
   have HC := hid (HT.o k hlt ds W1 FA.o (kAH HRD.o FA.o HS.o i2))
   go_wp2_with (first | refine ldG underlying301 HI.o RQ HLN.o ?_ | fail)
   refine HC.o.mono ?_
   rintro e w2 ⟨es, rfl, hr2, f2⟩
   clear HC RQ RE
   have hel : es.length = 3 := TyOk.len _ _ _ _ hr2
   have HEL := hid hel
   have hfs := kBj (ds := es) (Z := #[.int .i64 0, .slice none 0 0, .slice none 0 0]) (by rw [hel]; rfl)
   have HR2 := hid (TyMore.more _ _ _ _ hr2 (S' := Nw wr w2) (fun _ hk => ⟨Nat.le_trans FA0.o.size hk.1, hk.2⟩))
   have F2 := ftr FA0 f2
   clear hr2 f2
   go_wp2_with (first | (at_builtin; refine kCF elCd F1.o HR.o F2.o HR2.o so dc ?_; intro v3 w3 f3 hr3; have F3 := hid f3; have R3 := hid hr3; clear f3 hr3) | fail)
   exact yy16
 exact yy15
theorem kKJ (A : OA) (c : Nat) (xs : List Gd) (S : Nat → Prop) (w : World) (h : tGd.els w S A xs) (hS : Lt S w) (hl : xs.length ≤ 1048576)
    (hT : ∀ (k : Nat) (hk : k < xs.length) (ds : LV) (X : World), Fr No w X → tGd.rd X S ds xs[k] → Calls prog 171 #[.agg ds.toArray] X (kAa tGd xs[k] X)) :
    Calls prog 170 #[.slice A xs.length c, .func (.func 171) #[] #[]] w (EachTo tGd xs w) := by
 have HE := hid h
 have HS := hid hS
 have HT := hid hT
 clear h hS hT
 go_enter func170, ntmps170
 go_wp2
 go_loopw [5, 10] (fun v i wr => ∃ k, k ≤ xs.length ∧ i = .int .i64 (k : Nat) ∧ Hid (Fr No w wr) ∧ Hid (tGd.row wr w.heap.size (Sv w wr v) 306 v (xs.take k))) (fun _ i _ => xs.length - (intOf i).toNat)
 case atStart => exact ⟨0, nz, rfl, Fr.refl _ _, Ty.row.nil _ _ _ _⟩
 obtain ⟨k, hk, rfl, F1, HR⟩ := hrel
 have i0 := nki k
 by_cases hlt : k < xs.length
 · obtain ⟨b, o, ds, rfl, hb, hc, hr⟩ := HE.o.at_ k hlt
   have hln : ds.length = 3 := TyOk.len _ _ _ _ hr
   have HLN := hid hln
   have RE : wr.rangeAt b (o + k * 3) ds := fun j u hu => (F1.o.cell (p := ⟨b, o + k * 3 + j, none⟩) (HS.o _ hb) id).trans (by have := hc j u hu; rwa [← Nat.add_assoc] at this)
   have HRD := hid hr
   have HI : Hid ((prog.info? 306).map (·.size) = some 3) := by unfold Hid; kernel_rfl
   have HON := hid (all_oneCell_toArray ((inferInstance : kAG tGd).one _ _ _ _ hr))
   have i1 : (k : Int) < xs.length := om
   clear hr hc hln
   go_upto_region 5 with (first | refine ldG underlying306 HI.o RE HLN.o ?_ | refine nwG HI.o rfl HLN.o (by simpa using HON.o) ?_ | fail)
   have FA0 := hid ((Fr.refl No wr).alloc (.cells ds.toArray 306))
   have FA := ftr F1 FA0.o
   have BN := hid (Blk.new wr 306 ds.toArray)
   generalize wr.alloc (.cells ds.toArray 306) = W1 at *
   have RQ : W1.rangeAt wr.heap.size 0 ds := rangeAt_blk BN.o
   have HC := hid (HT.o k hlt ds W1 FA.o (kAH HRD.o FA.o HS.o i2))
   go_wp2_with (first | refine ldG underlying306 HI.o RQ HLN.o ?_ | fail)
   refine HC.o.mono ?_
   rintro e w2 ⟨es, rfl, hr2, f2⟩
   clear HC RQ RE
   have hel : es.length = 3 := TyOk.len _ _ _ _ hr2
   have HEL := hid hel
   have hfs := kBj (ds := es) (Z := #[.int .i64 0, .bool false, .slice none 0 0]) (by rw [hel]; rfl)
   have HR2 := hid (TyMore.more _ _ _ _ hr2 (S' := Nw wr w2) (fun _ hk => ⟨Nat.le_trans FA0.o.size hk.1, hk.2⟩))
   have F2 := ftr FA0 f2
   clear hr2 f2
   go_wp2_with (first | (at_builtin; refine kCF elGd F1.o HR.o F2.o HR2.o so dc ?_; intro v3 w3 f3 hr3; have F3 := hid f3; have R3 := hid hr3; clear f3 hr3) | fail)
   exact yy16
 exact yy15
theorem kKL (A : OA) (c : Nat) (xs : List El) (S : Nat → Prop) (w : World) (h : tEl.els w S A xs) (hS : Lt S w) (hl : xs.length ≤ 1048576)
    (hT : ∀ (k : Nat) (hk : k < xs.length) (ds : LV) (X : World), Fr No w X → tEl.rd X S ds xs[k] → Calls prog 173 #[.agg ds.toArray] X (kAa tEl xs[k] X)) :
    Calls prog 172 #[.slice A xs.length c, .func (.func 173) #[] #[]] w (EachTo tEl xs w) := by
 have HE := hid h
 have HS := hid hS
 have HT := hid hT
 clear h hS hT
 go_enter func172, ntmps172
 go_wp2
 go_loopw [5, 10] (fun v i wr => ∃ k, k ≤ xs.length ∧ i = .int .i64 (k : Nat) ∧ Hid (Fr No w wr) ∧ Hid (tEl.row wr w.heap.size (Sv w wr v) 311 v (xs.take k))) (fun _ i _ => xs.length - (intOf i).toNat)
 case atStart => exact ⟨0, nz, rfl, Fr.refl _ _, Ty.row.nil _ _ _ _⟩
 obtain ⟨k, hk, rfl, F1, HR⟩ := hrel
 have i0 := nki k
 by_cases hlt : k < xs.length
 · obtain ⟨b, o, ds, rfl, hb, hc, hr⟩ := HE.o.at_ k hlt
   have hln : ds.length = 5 := TyOk.len _ _ _ _ hr
   have HLN := hid hln
   have RE : wr.rangeAt b (o + k * 5) ds := fun j u hu => (F1.o.cell (p := ⟨b, o + k * 5 + j, none⟩) (HS.o _ hb) id).trans (by have := hc j u hu; rwa [← Nat.add_assoc] at this)
   have HRD := hid hr
   have HI : Hid ((prog.info? 311).map (·.size) = some 5) := by unfold Hid; kernel_rfl
   have HON := hid (all_oneCell_toArray ((inferInstance : kAG tEl).one _ _ _ _ hr))
   have i1 : (k : Int) < xs.length := om
   clear hr hc hln
   go_upto_region 5 with (first | refine ldG underlying311 HI.o RE HLN.o ?_ | refine nwG HI.o rfl HLN.o (by simpa using HON.o) ?_ | fail)
   have FA0 := hid ((Fr.refl No wr).alloc (.cells ds.toArray 311))
   have FA := ftr F1 FA0.o
   have BN := hid (Blk.new wr 311 ds.toArray)
   generalize wr.alloc (.cells ds.toArray 311) = W1 at *
   have RQ : W1.rangeAt wr.heap.size 0 ds := rangeAt_blk BN.o
   have HC := hid (HT.o k hlt ds W1 FA.o (kAH HRD.o FA.o HS.o i2))
   go_wp2_with (first | refine ldG underlying311 HI.o RQ HLN.o ?_ | fail)
   refine HC.o.mono ?_
   rintro e w2 ⟨es, rfl, hr2, f2⟩
   clear HC RQ RE
   have hel : es.length = 5 := TyOk.len _ _ _ _ hr2
   have HEL := hid hel
   have hfs := kBj (ds := es) (Z := #[.int .i64 0, .int .i64 0, .slice none 0 0, .int .i64 0, .slice none 0 0]) (by rw [hel]; rfl)
   have HR2 := hid (TyMore.more _ _ _ _ hr2 (S' := Nw wr w2) (fun _ hk => ⟨Nat.le_trans FA0.o.size hk.1, hk.2⟩))
   have F2 := ftr FA0 f2
   clear hr2 f2
   go_wp2_with (first | (at_builtin; refine kCF elEl F1.o HR.o F2.o HR2.o so dc ?_; intro v3 w3 f3 hr3; have F3 := hid f3; have R3 := hid hr3; clear f3 hr3) | fail)
   exact yy16
 exact yy15
theorem kKM (A : OA) (c : Nat) (xs : List Da) (S : Nat → Prop) (w : World) (h : tDa.els w S A xs) (hS : Lt S w) (hl : xs.length ≤ 1048576)
    (hT : ∀ (k : Nat) (hk : k < xs.length) (ds : LV) (X : World), Fr No w X → tDa.rd X S ds xs[k] → Calls prog 176 #[.agg ds.toArray] X (kAa tDa xs[k] X)) :
    Calls prog 175 #[.slice A xs.length c, .func (.func 176) #[] #[]] w (EachTo tDa xs w) := by
 have HE := hid h
 have HS := hid hS
 have HT := hid hT
 clear h hS hT
 go_enter func175, ntmps175
 go_wp2
 go_loopw [5, 10] (fun v i wr => ∃ k, k ≤ xs.length ∧ i = .int .i64 (k : Nat) ∧ Hid (Fr No w wr) ∧ Hid (tDa.row wr w.heap.size (Sv w wr v) 316 v (xs.take k))) (fun _ i _ => xs.length - (intOf i).toNat)
 case atStart => exact ⟨0, nz, rfl, Fr.refl _ _, Ty.row.nil _ _ _ _⟩
 obtain ⟨k, hk, rfl, F1, HR⟩ := hrel
 have i0 := nki k
 by_cases hlt : k < xs.length
 · obtain ⟨b, o, ds, rfl, hb, hc, hr⟩ := HE.o.at_ k hlt
   have hln : ds.length = 4 := TyOk.len _ _ _ _ hr
   have HLN := hid hln
   have RE : wr.rangeAt b (o + k * 4) ds := fun j u hu => (F1.o.cell (p := ⟨b, o + k * 4 + j, none⟩) (HS.o _ hb) id).trans (by have := hc j u hu; rwa [← Nat.add_assoc] at this)
   have HRD := hid hr
   have HI : Hid ((prog.info? 316).map (·.size) = some 4) := by unfold Hid; kernel_rfl
   have HON := hid (all_oneCell_toArray ((inferInstance : kAG tDa).one _ _ _ _ hr))
   have i1 : (k : Int) < xs.length := om
   clear hr hc hln
   go_upto_region 5 with (first | refine ldG underlying316 HI.o RE HLN.o ?_ | refine nwG HI.o rfl HLN.o (by simpa using HON.o) ?_ | fail)
   have FA0 := hid ((Fr.refl No wr).alloc (.cells ds.toArray 316))
   have FA := ftr F1 FA0.o
   have BN := hid (Blk.new wr 316 ds.toArray)
   generalize wr.alloc (.cells ds.toArray 316) = W1 at *
   have RQ : W1.rangeAt wr.heap.size 0 ds := rangeAt_blk BN.o
   have HC := hid (HT.o k hlt ds W1 FA.o (kAH HRD.o FA.o HS.o i2))
   go_wp2_with (first | refine ldG underlying316 HI.o RQ HLN.o ?_ | fail)
   refine HC.o.mono ?_
   rintro e w2 ⟨es, rfl, hr2, f2⟩
   clear HC RQ RE
   have hel : es.length = 4 := TyOk.len _ _ _ _ hr2
   have HEL := hid hel
   have hfs := kBj (ds := es) (Z := #[.int .i64 0, .int .i64 0, .slice none 0 0, .slice none 0 0]) (by rw [hel]; rfl)
   have HR2 := hid (TyMore.more _ _ _ _ hr2 (S' := Nw wr w2) (fun _ hk => ⟨Nat.le_trans FA0.o.size hk.1, hk.2⟩))
   have F2 := ftr FA0 f2
   clear hr2 f2
   go_wp2_with (first | (at_builtin; refine kCF elDa F1.o HR.o F2.o HR2.o so dc ?_; intro v3 w3 f3 hr3; have F3 := hid f3; have R3 := hid hr3; clear f3 hr3) | fail)
   exact yy16
 exact yy15
theorem kKN (A : OA) (c : Nat) (xs : List Cu) (S : Nat → Prop) (w : World) (h : tCu.els w S A xs) (hS : Lt S w) (hl : xs.length ≤ 1048576)
    (hT : ∀ (k : Nat) (hk : k < xs.length) (ds : LV) (X : World), Fr No w X → tCu.rd X S ds xs[k] → Calls prog 178 #[.agg ds.toArray] X (kAa tCu xs[k] X)) :
    Calls prog 177 #[.slice A xs.length c, .func (.func 178) #[] #[]] w (EachTo tCu xs w) := by
 have HE := hid h
 have HS := hid hS
 have HT := hid hT
 clear h hS hT
 go_enter func177, ntmps177
 go_wp2
 go_loopw [5, 10] (fun v i wr => ∃ k, k ≤ xs.length ∧ i = .int .i64 (k : Nat) ∧ Hid (Fr No w wr) ∧ Hid (tCu.row wr w.heap.size (Sv w wr v) 320 v (xs.take k))) (fun _ i _ => xs.length - (intOf i).toNat)
 case atStart => exact ⟨0, nz, rfl, Fr.refl _ _, Ty.row.nil _ _ _ _⟩
 obtain ⟨k, hk, rfl, F1, HR⟩ := hrel
 have i0 := nki k
 by_cases hlt : k < xs.length
 · obtain ⟨b, o, ds, rfl, hb, hc, hr⟩ := HE.o.at_ k hlt
   have hln : ds.length = 3 := TyOk.len _ _ _ _ hr
   have HLN := hid hln
   have RE : wr.rangeAt b (o + k * 3) ds := fun j u hu => (F1.o.cell (p := ⟨b, o + k * 3 + j, none⟩) (HS.o _ hb) id).trans (by have := hc j u hu; rwa [← Nat.add_assoc] at this)
   have HRD := hid hr
   have HI : Hid ((prog.info? 320).map (·.size) = some 3) := by unfold Hid; kernel_rfl
   have HON := hid (all_oneCell_toArray ((inferInstance : kAG tCu).one _ _ _ _ hr))
   have i1 : (k : Int) < xs.length := om
   clear hr hc hln
   go_upto_region 5 with (first | refine ldG underlying320 HI.o RE HLN.o ?_ | refine nwG HI.o rfl HLN.o (by simpa using HON.o) ?_ | fail)
   have FA0 := hid ((Fr.refl No wr).alloc (.cells ds.toArray 320))
   have FA := ftr F1 FA0.o
   have BN := hid (Blk.new wr 320 ds.toArray)
   generalize wr.alloc (.cells ds.toArray 320) = W1 at *
   have RQ : W1.rangeAt wr.heap.size 0 ds := rangeAt_blk BN.o
   have HC := hid (HT.o k hlt ds W1 FA.o (kAH HRD.o FA.o HS.o i2))
   go_wp2_with (first | refine ldG underlying320 HI.o RQ HLN.o ?_ | fail)
   refine HC.o.mono ?_
   rintro e w2 ⟨es, rfl, hr2, f2⟩
   clear HC RQ RE
   have hel : es.length = 3 := TyOk.len _ _ _ _ hr2
   have HEL := hid hel
   have hfs := kBj (ds := es) (Z := #[.int .i64 0, .string ⟨#[]⟩, .slice none 0 0]) (by rw [hel]; rfl)
   have HR2 := hid (TyMore.more _ _ _ _ hr2 (S' := Nw wr w2) (fun _ hk => ⟨Nat.le_trans FA0.o.size hk.1, hk.2⟩))
   have F2 := ftr FA0 f2
   clear hr2 f2
   go_wp2_with (first | (at_builtin; refine kCF elCu F1.o HR.o F2.o HR2.o so dc ?_; intro v3 w3 f3 hr3; have F3 := hid f3; have R3 := hid hr3; clear f3 hr3) | fail)
   exact yy16
 exact yy15
theorem kIk (A : OA) (c : Nat) (xs : List Ins) (S : Nat → Prop) (w : World) (h : tIns.els w S A xs) (hS : Lt S w) (hl : xs.length ≤ 1048576)
    (hT : ∀ (k : Nat) (hk : k < xs.length) (ds : LV) (X : World), Fr No w X → tIns.rd X S ds xs[k] → Calls prog 197 #[.agg ds.toArray] X (kAa tIns xs[k] X)) :
    Calls prog 196 #[.slice A xs.length c, .func (.func 197) #[] #[]] w (EachTo tIns xs w) := by
 have HE := hid h
 have HS := hid hS
 have HT := hid hT
 clear h hS hT
 go_enter func196, ntmps196
 go_wp2
 go_loopw [5, 10] (fun v i wr => ∃ k, k ≤ xs.length ∧ i = .int .i64 (k : Nat) ∧ Hid (Fr No w wr) ∧ Hid (tIns.row wr w.heap.size (Sv w wr v) 339 v (xs.take k))) (fun _ i _ => xs.length - (intOf i).toNat)
 case atStart => exact ⟨0, nz, rfl, Fr.refl _ _, Ty.row.nil _ _ _ _⟩
 obtain ⟨k, hk, rfl, F1, HR⟩ := hrel
 have i0 := nki k
 by_cases hlt : k < xs.length
 · obtain ⟨b, o, ds, rfl, hb, hc, hr⟩ := HE.o.at_ k hlt
   have hln : ds.length = 9 := TyOk.len _ _ _ _ hr
   have HLN := hid hln
   have RE : wr.rangeAt b (o + k * 9) ds := fun j u hu => (F1.o.cell (p := ⟨b, o + k * 9 + j, none⟩) (HS.o _ hb) id).trans (by have := hc j u hu; rwa [← Nat.add_assoc] at this)
   have HRD := hid hr
   have HI : Hid ((prog.info? 339).map (·.size) = some 9) := by unfold Hid; kernel_rfl
   have HON := hid (all_oneCell_toArray ((inferInstance : kAG tIns).one _ _ _ _ hr))
   have i1 : (k : Int) < xs.length := om
   clear hr hc hln
   go_upto_region 5 with (first | refine ldG underlying339 HI.o RE HLN.o ?_ | refine nwG HI.o rfl HLN.o (by simpa using HON.o) ?_ | fail)
   have FA0 := hid ((Fr.refl No wr).alloc (.cells ds.toArray 339))
   have FA := ftr F1 FA0.o
   have BN := hid (Blk.new wr 339 ds.toArray)
   generalize wr.alloc (.cells ds.toArray 339) = W1 at *
   have RQ : W1.rangeAt wr.heap.size 0 ds := rangeAt_blk BN.o
   have HC := hid (HT.o k hlt ds W1 FA.o (kAH HRD.o FA.o HS.o i2))
   go_wp2_with (first | refine ldG underlying339 HI.o RQ HLN.o ?_ | fail)
   refine HC.o.mono ?_
   rintro e w2 ⟨es, rfl, hr2, f2⟩
   clear HC RQ RE
   have hel : es.length = 9 := TyOk.len _ _ _ _ hr2
   have HEL := hid hel
   have hfs := kBj (ds := es) (Z := #[.int .i64 0, .int .i64 0, .int .i64 0, .int .u64 0, .int .i64 0, .int .i64 0, .int .i64 0, .slice none 0 0, .slice none 0 0]) (by rw [hel]; rfl)
   have HR2 := hid (TyMore.more _ _ _ _ hr2 (S' := Nw wr w2) (fun _ hk => ⟨Nat.le_trans FA0.o.size hk.1, hk.2⟩))
   have F2 := ftr FA0 f2
   clear hr2 f2
   go_wp2_with (first | (at_builtin; refine kCF kOq F1.o HR.o F2.o HR2.o so dc ?_; intro v3 w3 f3 hr3; have F3 := hid f3; have R3 := hid hr3; clear f3 hr3) | fail)
   exact yy16
 exact yy15
theorem kJQ (a : Fn) {ms : LV} (S : Nat → Prop) (w : World) (h : tFn.rd w S ms a) (hS : Lt S w) (b0 : a.params.length * 8 ≤ 140737488351232) (b1 : a.results.length * 8 ≤ 140737488351232) :
    Calls prog 162 #[.agg ms.toArray] w (kAa tFn a w) := by
 obtain ⟨P0, p0, P1, p1, rfl, -, -, h0, -, -, h1⟩ := Fn_cells h
 have F0 := hid (((Fr.refl No w).alloc (.cells #[.slice P0 a.params.length p0, .slice P1 a.results.length p1] 45)).alloc (.cells #[.slice none 0 0, .slice none 0 0] 45))
 have G0 := hid ((Blk.new w 45 #[.slice P0 a.params.length p0, .slice P1 a.results.length p1]).alloc (.cells #[.slice none 0 0, .slice none 0 0] 45))
 have G1 := hid (Blk.new1 w (.cells #[.slice P0 a.params.length p0, .slice P1 a.results.length p1] 45) 45 #[.slice none 0 0, .slice none 0 0])
 have H0 := hid h0
 have HB0 := hid b0
 have H1 := hid h1
 have HB1 := hid b1
 have HS := hid hS
 clear h hS h0 b0 h1 b1
 go_enter func162, ntmps162
 go_upto_region 1 with fail
 generalize (w.alloc (.cells #[.slice P0 a.params.length p0, .slice P1 a.results.length p1] 45)).alloc (.cells #[.slice none 0 0, .slice none 0 0] 45) = W at *
 have HSW : Hid (Lt S W) := fun k hk => ltl (HS.o k hk) F0.o.size
 have HX : Hid (∀ X, Fr No W X → Ce X w.heap.size 0 (.slice P0 a.params.length p0) ∧ Ce X w.heap.size 1 (.slice P1 a.results.length p1)) := fun X g => ⟨(G0.o.fr g id).cell 0, (G0.o.fr g id).cell 1⟩
 refine rwO (fun X => Ce X w.heap.size 0 (.slice P0 a.params.length p0) ∧ Ce X w.heap.size 1 (.slice P1 a.results.length p1)) [7] [0, 1, 3, 4, 2, 5, 6, 7] [2, 5, 7] (HX.o _ (Fr.refl No _).drew) ?_
 have FZ := hid (Fr.refl No W).drew
 refine rC ?_
 refine wpO_eff rfl rfl fun K hK => sz ?_
 refine (kBq P0 p0 a.params S _ (kAA H0.o (F0.o.trans FZ.o i3) HS.o i2) (fun k hk => ltl (HSW.o k hk) FZ.o.size) HB0.o).mono ?_
 rintro e w0 ⟨B0, d0, rfl, hr, f1⟩
 obtain ⟨l1, l2, el⟩ := kBK hr
 have E0 : Hid (a.params.length ≤ d0 ∧ d0 ≤ maxLen ∧ tI.els w0 (Nw W w0) B0 a.params) := ⟨l1, l2, kBp el (fun k o e hk => by subst e; obtain ⟨g1, _, g2⟩ := hr.own (g := k) (by have := hr; obtain ⟨css, _, ho⟩ := this; rcases ho.2 with ⟨hv, _⟩ | ⟨g, cap, cur, hv, _⟩; (cases hv); (injection hv with q1 _ _; injection q1 with q1; injection q1 with q1 _ _; subst q1; rfl)); exact ⟨Nat.le_trans FZ.o.size g1, g2.lt⟩)⟩
 replace FZ := ftr FZ f1
 clear f1 hr el l1 l2
 refine hK _ _ (fun _ => HX.o _ FZ.o) ?_
 clear hK K
 refine rC ?_
 refine wpO_eff rfl rfl fun K hK => sz ?_
 refine (kBq P1 p1 a.results S _ (kAA H1.o (F0.o.trans FZ.o i3) HS.o i2) (fun k hk => ltl (HSW.o k hk) FZ.o.size) HB1.o).mono ?_
 rintro e w1 ⟨B1, d1, rfl, hr, f1⟩
 obtain ⟨l1, l2, el⟩ := kBK hr
 have E1 : Hid (a.results.length ≤ d1 ∧ d1 ≤ maxLen ∧ tI.els w1 (Nw W w1) B1 a.results) := ⟨l1, l2, kBp el (fun k o e hk => by subst e; obtain ⟨g1, _, g2⟩ := hr.own (g := k) (by have := hr; obtain ⟨css, _, ho⟩ := this; rcases ho.2 with ⟨hv, _⟩ | ⟨g, cap, cur, hv, _⟩; (cases hv); (injection hv with q1 _ _; injection q1 with q1; injection q1 with q1 _ _; subst q1; rfl)); exact ⟨Nat.le_trans FZ.o.size g1, g2.lt⟩)⟩
 replace E0 : Hid (a.params.length ≤ d0 ∧ d0 ≤ maxLen ∧ tI.els w1 (Nw W w1) B0 a.params) := ⟨E0.o.1, E0.o.2.1, kAA E0.o.2.2 f1 (fun k hk => hk.2) (fun k hk => ⟨hk.1, ltl hk.2 f1.size⟩)⟩
 replace FZ := ftr FZ f1
 clear f1 hr el l1 l2
 refine hK _ _ (fun _ => HX.o _ FZ.o) ?_
 clear hK K
 refine rC ?_
 have GZ := hid (G1.o.fr FZ.o id)
 refine wpO_eff rfl rfl (fun K hK => ?_)
 simp only [zA]
 refine wp_store_mid 45 _ _ (by rfl) (w.heap.size + 1) 0 #[.slice B0 a.params.length d0, .slice B1 a.results.length d1] (by rfl) (by rfl) (there_blk GZ.o rfl) kr (by simp [Value.oneCell']) ?_
 refine hK _ _ (fun h => by cases h) ?_
 clear hK K
 refine wpO_nil ?_
 have FT := Fr.setCells' (a := w) (b := w.heap.size + 1) (M := No) (fun h => absurd h om) [.slice B0 a.params.length d0, .slice B1 a.results.length d1] 0 w1 (F0.o.trans FZ.o i3)
 have FY := Fr.setCells' (M := fun q => q = w.heap.size + 1) (b := w.heap.size + 1) (fun _ => rfl) [.slice B0 a.params.length d0, .slice B1 a.results.length d1] 0 w1 (Fr.refl _ w1)
 have RR := World.rangeAt_setCells_same w1 (w.heap.size + 1) 0 [.slice B0 a.params.length d0, .slice B1 a.results.length d1] (there_blk GZ.o rfl)
 have hG := G1.o.lt
 go_wp2
 refine bodyPost_ret (v := .agg [.slice B0 a.params.length d0, .slice B1 a.results.length d1].toArray) (kAv (fn := f162) (p := 2) (ty := 45) rfl _ _ (w.heap.size + 1) _ _ (by rfl) RR underlying45 (by rfl) kr) rfl ?_
 exact ⟨_, rfl, kNN (a := a) E0.o.1 E0.o.2.1 ((E0.o.2.2.fr FY (fun k hk => ⟨hk.2, by have := hk.1; omega⟩)).more (fun k hk => ⟨Nat.le_trans F0.o.size hk.1, ltl hk.2 FY.size⟩)) E1.o.1 E1.o.2.1 ((E1.o.2.2.fr FY (fun k hk => ⟨hk.2, by have := hk.1; omega⟩)).more (fun k hk => ⟨Nat.le_trans F0.o.size hk.1, ltl hk.2 FY.size⟩)), FT⟩
end Go.Proofs.YtdckghiipijobaaGreat
