/- Part 9 of the proof: lemmas and contracts of functions. No condition. -/
import Derived.Test.YtdckghiipijobaaGreatP8
import Derived.Test.YtdckghiipijobaaGreatP5
import Derived.Test.YtdckghiipijobaaGreatP1
set_option maxRecDepth 100000
set_option maxHeartbeats 12800000
set_option linter.unusedVariables false
set_option linter.unusedSimpArgs false
set_option linter.unusedSectionVars false
namespace Go.Proofs.YtdckghiipijobaaGreat
open Go.RowKit Go.Proofs.Tryz
theorem r6glob_any (g : Gl) (w : World) : Calls prog 192 #[.agg #[.int .i64 g.val, .bool g.mut_]] w fun e w' => e = .returned (.bool (kAf g.val)) ∧ Fr No w w' := by
 have F0 := hid ((Fr.refl No w).alloc (.cells #[.int .i64 g.val, .bool g.mut_] 54))
 go_enter func192, ntmps192
 go_wp2_with (go_at_call 202; refine (kEQ _ _).mono ?_; rintro e w' ⟨rfl, rfl⟩)
 go_ret
 exact ⟨rfl, F0.o⟩
abbrev q9x6 (a0 : LV) (a1 : Gl) (a2 : Vl) : Array Value := #[.agg a0.toArray, .agg #[.int .i64 a1.val, .bool a1.mut_], .agg #[.int .i64 a2.t, .int .u64 a2.n]]
theorem kGD {w : World} {S : Nat → Prop} {x : Rx} {cs : LV} (h : tRx.rd w S cs x) (hS : Lt S w) (g : Gl) (v : Vl) (h1 : kAf g.val = false) :
    Calls prog 122 (q9x6 cs g v) w (RfTo S x (.int .i64 (-1)) w) := by
 obtain ⟨F0, G0, G1, G2, G3⟩ := bx2 w cs #[.int .i64 g.val, .bool g.mut_] 54 #[.int .i64 v.t, .int .u64 v.n] 57 z10 39
 exact yy25
theorem kGC {w : World} {S : Nat → Prop} {x : Rx} {cs : LV} (h : tRx.rd w S cs x) (hS : Lt S w) (g : Gl) (v : Vl) (h1 : kAf g.val = true) (h2 : (v.t != g.val) = true) :
    Calls prog 122 (q9x6 cs g v) w (RfTo S x (.int .i64 (-1)) w) := by
 obtain ⟨F0, G0, G1, G2, G3⟩ := bx2 w cs #[.int .i64 g.val, .bool g.mut_] 54 #[.int .i64 v.t, .int .u64 v.n] 57 z10 39
 exact yy25
theorem kGB {w : World} {S : Nat → Prop} {x : Rx} {cs : LV} (h : tRx.rd w S cs x) (hS : Lt S w) (g : Gl) (v : Vl) (h1 : kAf g.val = true) (h2 : (v.t != g.val) = false) (h3 : vlB v = false) :
    Calls prog 122 (q9x6 cs g v) w (RfTo S x (.int .i64 (-1)) w) := by
 obtain ⟨F0, G0, G1, G2, G3⟩ := bx2 w cs #[.int .i64 g.val, .bool g.mut_] 54 #[.int .i64 v.t, .int .u64 v.n] 57 z10 39
 have H := hid h
 have HS := hid hS
 have HCL := hid (rx_one h)
 have HV1 := hid h1
 have HV3 := hid h3
 clear h1 h3
 clear h hS
 go_enter func122, ntmps122
 go_wp2_with fail
 generalize ((((w.alloc (.cells cs.toArray 39)).alloc (.cells #[.int .i64 g.val, .bool g.mut_] 54)).alloc (.cells #[.int .i64 v.t, .int .u64 v.n] 57)).alloc (.cells z10 39)) = W0 at *
 refine (r6glob_any g _).mono ?_
 rintro e wa ⟨rfl, f1⟩
 replace F0 := ftr F0 f1
 replace G0 := hid (G0.o.fr f1 id)
 replace G1 := hid (G1.o.fr f1 id)
 replace G2 := hid (G2.o.fr f1 id)
 replace G3 := hid (G3.o.fr f1 id)
 clear f1
 rw [HV1.o]
 have z1_0 := G1.o.cell 0
 have z1_1 := G1.o.cell 1
 have z2_0 := G2.o.cell 0
 have z2_1 := G2.o.cell 1
 go_wp2_with fail
 clear z1_0 z1_1
 clear z2_0 z2_1
 refine (kBe v _).mono ?_
 rintro e wb ⟨rfl, f1⟩
 replace F0 := ftr F0 f1
 replace G0 := hid (G0.o.fr f1 id)
 replace G1 := hid (G1.o.fr f1 id)
 replace G2 := hid (G2.o.fr f1 id)
 replace G3 := hid (G3.o.fr f1 id)
 clear f1
 rw [HV3.o]
 go_upto_region 2 with fail
 generalize wb = W at *
 exact yy56
theorem kGA {w : World} {S : Nat → Prop} {x : Rx} {cs : LV} (h : tRx.rd w S cs x) (hS : Lt S w) (g : Gl) (v : Vl) (he : tRg.rd w S [.int .i64 g.val, .bool g.mut_, .int .i64 v.t, .int .u64 v.n] ⟨g, v⟩) (h1 : kAf g.val = true) (h2 : (v.t != g.val) = false) (h3 : vlB v = true) (hn : x.globs.length ≤ 1000000) :
    Calls prog 122 (q9x6 cs g v) w (RfTo S { x with globs := x.globs ++ [⟨g, v⟩] } (.int .i64 (x.globs.length : Nat)) w) := by
 obtain ⟨F0, G0, G1, G2, G3⟩ := bx2 w cs #[.int .i64 g.val, .bool g.mut_] 54 #[.int .i64 v.t, .int .u64 v.n] 57 z10 39
 obtain ⟨A6, c6, e6, -, -, E6⟩ := Rx_g6 h
 obtain ⟨css, hcs, hrd⟩ := kAY E6 hS
 have HC := hid (And.intro hcs hrd)
 have H := hid h
 have HS := hid hS
 have HE6 := hid e6
 have HE := hid he
 clear he
 have HV1 := hid h1
 have HV3 := hid h3
 clear h1 h3
 clear hcs hrd h hS e6 E6
 have HN := hid hn
 go_enter func122, ntmps122
 go_wp2_with fail
 generalize ((((w.alloc (.cells cs.toArray 39)).alloc (.cells #[.int .i64 g.val, .bool g.mut_] 54)).alloc (.cells #[.int .i64 v.t, .int .u64 v.n] 57)).alloc (.cells z10 39)) = W0 at *
 refine (r6glob_any g _).mono ?_
 rintro e wa ⟨rfl, f1⟩
 replace F0 := ftr F0 f1
 replace G0 := hid (G0.o.fr f1 id)
 replace G1 := hid (G1.o.fr f1 id)
 replace G2 := hid (G2.o.fr f1 id)
 replace G3 := hid (G3.o.fr f1 id)
 clear f1
 rw [HV1.o]
 have z1_0 := G1.o.cell 0
 have z1_1 := G1.o.cell 1
 have z2_0 := G2.o.cell 0
 have z2_1 := G2.o.cell 1
 go_wp2_with fail
 clear z1_0 z1_1
 clear z2_0 z2_1
 refine (kBe v _).mono ?_
 rintro e wb ⟨rfl, f1⟩
 replace F0 := ftr F0 f1
 replace G0 := hid (G0.o.fr f1 id)
 replace G1 := hid (G1.o.fr f1 id)
 replace G2 := hid (G2.o.fr f1 id)
 replace G3 := hid (G3.o.fr f1 id)
 clear f1
 rw [HV3.o]
 go_upto_region 4 with fail
 generalize wb = W at *
 have HSS : Hid (∀ k, S k → k < W.heap.size ∧ ¬ k = w.heap.size ∧ ¬ k = w.heap.size + 1 + 1 + 1 ∧ (S k ∨ w.heap.size ≤ k)) := fun k hk => ⟨ltl (HS.o k hk) F0.o.size, by have := HS.o k hk; omega, by have := HS.o k hk; omega, .inl hk⟩
 have HCW := hid (And.intro ((HC.o.1.fr F0.o (fun k hk => ⟨HS.o k hk, fun x => x⟩))) (HC.o.2.frNo F0.o))
 have HEW := hid (kAH HE.o F0.o HS.o i2)
 have z := G0.o.at_ HE6.o
 go_upto_region 5 with (first | (at_builtin; refine app0 elRg HCW.o (by have := HN.o; omega) dc (fun k hk => (HSS.o k hk).1) ?_; intro v1 w1 hr1 f1; have R1 := hid hr1; have FW1 := hid f1; clear hr1 f1 HCW z) | fail)
 have FT1 := ftr F0 FW1.o
 replace G0 := hid (G0.o.fr FW1.o id)
 replace G1 := hid (G1.o.fr FW1.o id)
 replace G2 := hid (G2.o.fr FW1.o id)
 replace G3 := hid (G3.o.fr FW1.o id)
 have z0_0 := G1.o.cell 0
 have z0_1 := G1.o.cell 1
 have z1_0 := G2.o.cell 0
 have z1_1 := G2.o.cell 1
 go_upto_region 6 with (first | (at_builtin; refine app1 elRg R1.o (kAH HEW.o FW1.o (fun k hk => (HSS.o k hk).1) i2) (by have := HN.o; simp; omega) dc (fun k hk => (HSS.o k hk).1) FW1.o.size FW1.o nr ?_; intro v2 w2 hr2 f2 kg; have R2 := hid hr2; have FW2 := hid f2; have KG := hid kg; clear hr2 f2 kg R1) | fail)
 clear z0_0 z0_1 z1_0 z1_1
 replace G0 := hid (KG.o _ _ _ G0.o dc)
 replace G3 := hid (KG.o _ _ _ G3.o dc)
 clear KG FW1 FT1 G1 G2
 have FT2 := ftr F0 FW2.o
 obtain ⟨A', c', e2, l1, l2, E2⟩ := R2.o.els (S' := fun k => S k ∨ v2.ownBlock = some k) (fun _ h => .inl h) (fun g hg => .inr hg)
 have e3 : ([] ++ x.globs ++ [(⟨g, v⟩ : Rg)]).length = x.globs.length + 1 := by simp
 have HR := hid (And.intro (And.intro l1 l2) (And.intro E2 (fun g (e : v2.ownBlock = some g) => R2.o.own e)))
 rw [e3] at e2
 subst e2
 clear R2 l1 l2 E2
 have y := G0.o.frozen 6
 have y' := G0.o.at_ HE6.o
 go_upto_region 7 with fail
 clear y y'
 obtain ⟨N0, N1, HL2, HO2⟩ := setf G0.o G3.o om H.o 6 (.slice A' (x.globs.length + 1) c') rfl
 go_wp2_with (first | refine ldX N0.o HL2.o ?_ | refine stX N1.o rfl HL2.o HO2.o ?_ | fail)
 exact ryes (rcore (x' := { x with globs := x.globs ++ [(⟨g, v⟩ : Rg)] }) (t := tRg) (ys := [] ++ x.globs ++ [(⟨g, v⟩ : Rg)]) (fun f hB l m e => kNH H.o f HS.o hB l m e) H.o FT2.o G0.o G3.o om HR.o e3 HSS.o (by have := FW2.o.size; omega) F0.o.size dc)
theorem kBp {α : Type} {t : Ty α} [hf : kAh t] {w : World} {S T : Nat → Prop} {A : OA} {xs : List α} (h : t.els w S A xs) (hT : ∀ k o, A = some ⟨k, o, none⟩ → S k → T k) : t.els w T A xs := by
 rcases h with h | ⟨b, o, e, hb, h⟩
 · exact .inl h
 exact .inr ⟨b, o, e, hT b o e hb, fun i x hx => by obtain ⟨ds, h1, h2⟩ := h i x hx; exact ⟨ds, h1, hf.flat _ _ _ _ _ _ h2⟩⟩
theorem kJn {w : World} {S : Nat → Prop} {x : Rx} {cs : LV} (h : tRx.rd w S cs x) (hS : Lt S w) (l : Lim) (h1 : validB l = false) :
    Calls prog 121 #[.agg cs.toArray, .agg #[.int .i64 l.min, .int .i64 l.max, .bool l.has]] w (RfTo S x (.int .i64 (-1)) w) := by
 obtain ⟨F0, G0, G1, G2⟩ := bx1 w cs #[.int .i64 l.min, .int .i64 l.max, .bool l.has] 50 z10 39
 have H := hid h
 have HS := hid hS
 have HCL := hid (rx_one h)
 have HV1 := hid h1
 clear h1
 clear h hS
 go_enter func121, ntmps121
 go_wp2_with fail
 generalize (((w.alloc (.cells cs.toArray 39)).alloc (.cells #[.int .i64 l.min, .int .i64 l.max, .bool l.has] 50)).alloc (.cells z10 39)) = W0 at *
 refine (kHP l W0).mono ?_
 rintro e wa hN
 unfold RnTo at hN
 rw [if_neg (by rw [HV1.o]; decide)] at hN
 obtain ⟨rfl, f1⟩ := hN
 replace F0 := hid ((F0.o.trans f1 i3).alloc (.cells #[.int .i64 0, .int .i64 0, .bool false, .slice none 0 0] 143))
 replace G0 := hid ((G0.o.fr f1 id).alloc (.cells #[.int .i64 0, .int .i64 0, .bool false, .slice none 0 0] 143))
 replace G1 := hid ((G1.o.fr f1 id).alloc (.cells #[.int .i64 0, .int .i64 0, .bool false, .slice none 0 0] 143))
 replace G2 := hid ((G2.o.fr f1 id).alloc (.cells #[.int .i64 0, .int .i64 0, .bool false, .slice none 0 0] 143))
 clear f1
 go_upto_region 3 with fail
 generalize wa.alloc (.cells #[.int .i64 0, .int .i64 0, .bool false, .slice none 0 0] 143) = W at *
 exact yy14
abbrev q9x7 (a0 : Lim) (a1 : Option Addr) (a2 : Nat) : Array Value := #[.int .i64 a0.min, .int .i64 a0.max, .bool a0.has, .slice a1 (a0.min.toNat * 256) a2]
theorem kIV {w : World} {S : Nat → Prop} {x : Rx} {cs : LV} (h : tRx.rd w S cs x) (hS : Lt S w) (l : Lim) (h1 : validB l = true) (w1 : (Lit.int .i64 l.min).wf = true) (w2 : (Lit.int .i64 l.max).wf = true) (hn : x.mems.length ≤ 1000000) :
    Calls prog 121 #[.agg cs.toArray, .agg #[.int .i64 l.min, .int .i64 l.max, .bool l.has]] w (RfTo S { x with mems := x.mems ++ [⟨l, List.replicate (l.min.toNat * 256) 0⟩] } (.int .i64 (x.mems.length : Nat)) w) := by
 obtain ⟨F0, G0, G1, G2⟩ := bx1 w cs #[.int .i64 l.min, .int .i64 l.max, .bool l.has] 50 z10 39
 obtain ⟨A5, c5, e5, -, -, E5⟩ := kKV h
 obtain ⟨css, hcs, hrd⟩ := kAY E5 hS
 have HC := hid (And.intro hcs hrd)
 have H := hid h
 have HS := hid hS
 have HE5 := hid e5
 have HV1 := hid h1
 have HWF := hid (And.intro w1 w2)
 clear h1 w1 w2
 clear hcs hrd h hS e5 E5
 have HN := hid hn
 go_enter func121, ntmps121
 go_wp2_with fail
 generalize (((w.alloc (.cells cs.toArray 39)).alloc (.cells #[.int .i64 l.min, .int .i64 l.max, .bool l.has] 50)).alloc (.cells z10 39)) = W0 at *
 refine (kHP l W0).mono ?_
 rintro e wa hN
 unfold RnTo at hN
 rw [if_pos HV1.o] at hN
 obtain ⟨A, c, rfl, hm, hcm, hq, f1⟩ := hN
 have HM := hid (kBp (T := Nw W0 wa) hm.els (fun k o e hk => ⟨hq k o e, hk⟩))
 have HMC := hid (And.intro hm.cap hcm)
 have W0S := hid (And.intro G2.o.lt (And.intro F0.o.size f1.size))
 clear hm hq hcm
 replace F0 := hid ((F0.o.trans f1 i3).alloc (.cells (q9x7 l A c) 143))
 replace G0 := hid ((G0.o.fr f1 id).alloc (.cells (q9x7 l A c) 143))
 replace G1 := hid ((G1.o.fr f1 id).alloc (.cells (q9x7 l A c) 143))
 replace G2 := hid ((G2.o.fr f1 id).alloc (.cells (q9x7 l A c) 143))
 have GL := hid (Blk.new wa 143 (q9x7 l A c))
 have HEM := hid (HM.o.fr ((Fr.refl No wa).alloc (.cells (q9x7 l A c) 143)) (fun k hk => ⟨hk.2, fun x => x⟩))
 have GLL := hid GL.o.lt
 clear HM
 clear f1
 go_upto_region 5 with fail
 generalize wa.alloc (.cells (q9x7 l A c) 143) = W at *
 have HSS : Hid (∀ k, (fun k => S k ∨ Nw W0 wa k) k → k < W.heap.size ∧ ¬ k = w.heap.size ∧ ¬ k = w.heap.size + 1 + 1 ∧ (S k ∨ w.heap.size ≤ k)) := fun k hk => by
  have h1 := W0S.o.1
  have h2 := W0S.o.2.1
  have h3 := W0S.o.2.2
  have h4 := GLL.o
  rcases hk with hk | ⟨ha, hb⟩
  · have := HS.o k hk
    exact ⟨by omega, by omega, by omega, .inl hk⟩
  exact ⟨by omega, by omega, by omega, .inr om⟩
 have HCW := hid (And.intro ((HC.o.1.fr F0.o (fun k hk => ⟨HS.o k hk, fun x => x⟩)).more (S' := fun k => S k ∨ Nw W0 wa k) (fun _ h => Or.inl h)) (HC.o.2.frNo F0.o))
 have HEW := hid (by
  have h := kGv (w := W) (S := fun k => S k ∨ Nw W0 wa k) (a := ⟨l, List.replicate (l.min.toNat * 256) 0⟩) (Ab := A) (cb := c) HWF.o.1 HWF.o.2 HMC.o.1 HMC.o.2 (HEM.o.more (fun _ h => .inr h))
  simp only [List.length_replicate] at h
  exact h)
 have z := G0.o.at_ HE5.o
 go_upto_region 6 with (first | (at_builtin; refine app0 elRm HCW.o (by have := HN.o; omega) dc (fun k hk => (HSS.o k hk).1) ?_; intro v1 w1 hr1 f1; have R1 := hid hr1; have FW1 := hid f1; clear hr1 f1 HCW z) | fail)
 have FT1 := ftr F0 FW1.o
 replace G0 := hid (G0.o.fr FW1.o id)
 replace G1 := hid (G1.o.fr FW1.o id)
 replace G2 := hid (G2.o.fr FW1.o id)
 have z0_0 := G1.o.cell 0
 have z0_1 := G1.o.cell 1
 have z0_2 := G1.o.cell 2
 replace GL := hid (GL.o.fr FW1.o id)
 have zGL_0 := GL.o.cell 0
 have zGL_1 := GL.o.cell 1
 have zGL_2 := GL.o.cell 2
 have zGL_3 := GL.o.cell 3
 go_upto_region 7 with (first | (at_builtin; refine app1 elRm R1.o (kAH HEW.o FW1.o (fun k hk => (HSS.o k hk).1) i2) (by have := HN.o; simp; omega) dc (fun k hk => (HSS.o k hk).1) FW1.o.size FW1.o nr ?_; intro v2 w2 hr2 f2 kg; have R2 := hid hr2; have FW2 := hid f2; have KG := hid kg; clear hr2 f2 kg R1) | fail)
 clear z0_0 z0_1 z0_2 zGL_0 zGL_1 zGL_2 zGL_3
 replace G0 := hid (KG.o _ _ _ G0.o dc)
 replace G2 := hid (KG.o _ _ _ G2.o dc)
 clear KG FW1 FT1 G1
 have FT2 := ftr F0 FW2.o
 obtain ⟨A', c', e2, l1, l2, E2⟩ := R2.o.els (S' := fun k => (fun k => S k ∨ Nw W0 wa k) k ∨ v2.ownBlock = some k) (fun _ h => .inl h) (fun g hg => .inr hg)
 have e3 : ([] ++ x.mems ++ [(⟨l, List.replicate (l.min.toNat * 256) 0⟩ : Rm)]).length = x.mems.length + 1 := by simp
 have HR := hid (And.intro (And.intro l1 l2) (And.intro E2 (fun g (e : v2.ownBlock = some g) => R2.o.own e)))
 rw [e3] at e2
 subst e2
 clear R2 l1 l2 E2
 have y := G0.o.frozen 5
 have y' := G0.o.at_ HE5.o
 go_upto_region 8 with fail
 clear y y'
 obtain ⟨N0, N1, HL2, HO2⟩ := setf G0.o G2.o om H.o 5 (.slice A' (x.mems.length + 1) c') rfl
 go_wp2_with (first | refine ldX N0.o HL2.o ?_ | refine stX N1.o rfl HL2.o HO2.o ?_ | fail)
 exact ryes (rcore (x' := { x with mems := x.mems ++ [(⟨l, List.replicate (l.min.toNat * 256) 0⟩ : Rm)] }) (t := tRm) (ys := [] ++ x.mems ++ [(⟨l, List.replicate (l.min.toNat * 256) 0⟩ : Rm)]) (fun f hB l m e => kNI H.o f HS.o hB l m e) H.o FT2.o G0.o G2.o om HR.o e3 HSS.o (by have := FW2.o.size; omega) F0.o.size dc)
theorem kKw (e : Int) (w : World) :
    Calls prog 204 #[.int .i64 e] w fun e' w' => e' = .returned (.bool (refB e)) ∧ w = w' := by
 go_enter func204, ntmps204
 go_wp2
 all_goals go_ret
 all_goals simp_all [refB]
theorem kKx (mn mx : Int) (h : Bool) (most : Int) (w : World) :
    Calls prog 205 #[.agg #[.int .i64 mn, .int .i64 mx, .bool h], .int .i64 most] w fun e' w' => e' = .returned (.bool (limB mn mx h most)) ∧ Fr No w w' := by
 go_enter func205, ntmps205
 go_wp2
 all_goals go_ret
 all_goals (refine ⟨rt_bool ?_, (Fr.refl No _).alloc _⟩)
 all_goals (first | (simp [limB, *] <;> omega) | (cases h <;> simp_all [limB] <;> omega))
theorem kEv (e mn mx : Int) (h : Bool) (w : World) :
    Calls prog 190 #[.agg #[.int .i64 e, .int .i64 mn, .int .i64 mx, .bool h]] w fun e' w' => e' = .returned (.bool (tabB e mn mx h)) ∧ Fr No w w' := by
 cases hr : refB e
 all_goals
  go_enter func190, ntmps190
  go_wp2_with (first
   | (go_at_call 204; refine (kKw _ _).mono ?_; rintro e w' ⟨rfl, rfl⟩)
   | (go_at_call 205; refine (kKx _ _ _ _ _).mono ?_; rintro e w' ⟨rfl, hb⟩))
  go_ret
 · exact ⟨rt_bool (by simp [tabB, hr]), (Fr.refl No _).alloc _⟩
 exact ⟨rt_bool (by simp [tabB, hr]), ((Fr.refl No _).alloc _).trans hb i3⟩
abbrev q9x8 (a0 : Tb) : Array Value := #[.int .i64 a0.elem, .int .i64 a0.lim.min, .int .i64 a0.lim.max, .bool a0.lim.has]
theorem kHY {w : World} {S : Nat → Prop} {x : Rx} {cs : LV} (h : tRx.rd w S cs x) (hS : Lt S w) (t : Tb) (h1 : tabB t.elem t.lim.min t.lim.max t.lim.has = false) :
    Calls prog 120 #[.agg cs.toArray, .agg (q9x8 t)] w (RfTo S x (.int .i64 (-1)) w) := by
 obtain ⟨F0, G0, G1, G2⟩ := bx1 w cs (q9x8 t) 52 z10 39
 have H := hid h
 have HS := hid hS
 have HCL := hid (rx_one h)
 have HV1 := hid h1
 clear h1
 clear h hS
 go_enter func120, ntmps120
 go_wp2_with fail
 generalize (((w.alloc (.cells cs.toArray 39)).alloc (.cells (q9x8 t) 52)).alloc (.cells z10 39)) = W0 at *
 refine (kEv _ _ _ _ _).mono ?_
 rintro e wa ⟨rfl, f1⟩
 replace F0 := ftr F0 f1
 replace G0 := hid (G0.o.fr f1 id)
 replace G1 := hid (G1.o.fr f1 id)
 replace G2 := hid (G2.o.fr f1 id)
 clear f1
 rw [HV1.o]
 go_upto_region 2 with fail
 generalize wa = W at *
 exact yy14
theorem kGg {w : World} {S : Nat → Prop} {x : Rx} {cs : LV} (h : tRx.rd w S cs x) (hS : Lt S w) (e mx : Int) (has : Bool) (n : Nat) (h1 : tabB e n mx has = true) (hn2 : n ≤ 1024) (w1 : (Lit.int .i64 e).wf = true) (w2 : (Lit.int .i64 (n : Nat)).wf = true) (w3 : (Lit.int .i64 mx).wf = true) (hn : x.tabs.length ≤ 1000000) :
    Calls prog 120 #[.agg cs.toArray, .agg #[.int .i64 e, .int .i64 (n : Nat), .int .i64 mx, .bool has]] w (RfTo S { x with tabs := x.tabs ++ [⟨⟨e, ⟨n, mx, has⟩⟩, List.replicate n 0⟩] } (.int .i64 (x.tabs.length : Nat)) w) := by
 obtain ⟨F0, G0, G1, G2⟩ := bx1 w cs #[.int .i64 e, .int .i64 (n : Nat), .int .i64 mx, .bool has] 52 z10 39
 obtain ⟨A4, c4, e4, -, -, E4⟩ := kNJ h
 obtain ⟨css, hcs, hrd⟩ := kAY E4 hS
 have HC := hid (And.intro hcs hrd)
 have H := hid h
 have HS := hid hS
 have HE4 := hid e4
 have HV1 := hid h1
 have HNN := hid hn2
 have HWF := hid (And.intro w1 (And.intro w2 w3))
 have HEL := hid trivial
 clear h1 hn2 w1 w2 w3
 clear hcs hrd h hS e4 E4
 have HN := hid hn
 go_enter func120, ntmps120
 go_wp2_with fail
 generalize (((w.alloc (.cells cs.toArray 39)).alloc (.cells #[.int .i64 e, .int .i64 (n : Nat), .int .i64 mx, .bool has] 52)).alloc (.cells z10 39)) = W0 at *
 refine (kEv _ _ _ _ _).mono ?_
 rintro e wa ⟨rfl, f1⟩
 replace F0 := ftr F0 f1
 replace G0 := hid (G0.o.fr f1 id)
 replace G1 := hid (G1.o.fr f1 id)
 replace G2 := hid (G2.o.fr f1 id)
 clear f1
 rw [HV1.o]
 go_upto_region 4 with fail
 generalize wa = W at *
 have HSS : Hid (∀ k, S k → k < W.heap.size ∧ ¬ k = w.heap.size ∧ ¬ k = w.heap.size + 1 + 1 ∧ (S k ∨ w.heap.size ≤ k)) := fun k hk => ⟨ltl (HS.o k hk) F0.o.size, by have := HS.o k hk; omega, by have := HS.o k hk; omega, .inl hk⟩
 have HCW := hid (And.intro ((HC.o.1.fr F0.o (fun k hk => ⟨HS.o k hk, fun x => x⟩))) (HC.o.2.frNo F0.o))
 have z := G0.o.at_ HE4.o
 go_upto_region 5 with (first | (at_builtin; refine app0 elRt HCW.o (by have := HN.o; omega) dc (fun k hk => (HSS.o k hk).1) ?_; intro v1 w1 hr1 f1; have R1 := hid hr1; have FW1 := hid f1; clear hr1 f1 HCW z) | fail)
 have FT1 := ftr F0 FW1.o
 replace G0 := hid (G0.o.fr FW1.o id)
 replace G1 := hid (G1.o.fr FW1.o id)
 replace G2 := hid (G2.o.fr FW1.o id)
 have z0_0 := G1.o.cell 0
 have z0_1 := G1.o.cell 1
 have z0_2 := G1.o.cell 2
 have z0_3 := G1.o.cell 3
 have HX : Hid (∀ X, Fr No w1 X → (fun X => Ce X (w.heap.size + 1) 0 (.int .i64 e) ∧ Ce X (w.heap.size + 1) 1 (.int .i64 (n : Nat)) ∧ Ce X (w.heap.size + 1) 2 (.int .i64 mx) ∧ Ce X (w.heap.size + 1) 3 (.bool has)) X) := fun X f => ⟨(G1.o.fr f id).cell 0, (G1.o.fr f id).cell 1, (G1.o.fr f id).cell 2, (G1.o.fr f id).cell 3⟩
 clear z0_0 z0_1 z0_2 z0_3
 have hmk := fun (W : World) => run_mk kMz rfl W .i64 .i64 n (by have := HNN.o; omega) dc
 have n0 : (0 : Int) ≤ (n : Int) := om
 refine rwO (fun X => Ce X (w.heap.size + 1) 0 (.int .i64 e) ∧ Ce X (w.heap.size + 1) 1 (.int .i64 (n : Nat)) ∧ Ce X (w.heap.size + 1) 2 (.int .i64 mx) ∧ Ce X (w.heap.size + 1) 3 (.bool has)) [] (List.range 10) [5, 7, 8] (HX.o _ (Fr.refl No _).drew) ?_
 refine rC ?_
 refine wpO_eff rfl rfl fun K hK => sz ?_
 refine hK _ _ (fun _ => HX.o _ ((Fr.refl No w1).alloc (.cells (Array.replicate n (.int .u64 0)) 55)).drew) ?_
 clear hK K
 refine rC ?_
 refine wpO_eff rfl rfl fun K hK => sz ?_
 refine hK _ _ (fun _ => HX.o _ (((Fr.refl No w1).alloc (.cells (Array.replicate n (.int .u64 0)) 55)).alloc (.cells #[.int .i64 e, .int .i64 (n : Nat), .int .i64 mx, .bool has, .slice (some ⟨w1.heap.size, 0, none⟩) n n] 170)).drew) ?_
 clear hK K
 have FXA := hid ((((Fr.refl No w1).alloc (.cells (Array.replicate n (.int .u64 0)) 55)).alloc (.cells #[.int .i64 e, .int .i64 (n : Nat), .int .i64 mx, .bool has, .slice (some ⟨w1.heap.size, 0, none⟩) n n] 170)).drew)
 have BU : Hid (Blk (((w1.alloc (.cells (Array.replicate n (.int .u64 0)) 55)).alloc (.cells #[.int .i64 e, .int .i64 (n : Nat), .int .i64 mx, .bool has, .slice (some ⟨w1.heap.size, 0, none⟩) n n] 170)).drew) w1.heap.size 55 (Array.replicate n (.int .u64 0))) := ((Blk.new w1 55 (Array.replicate n (.int .u64 0))).alloc (.cells #[.int .i64 e, .int .i64 (n : Nat), .int .i64 mx, .bool has, .slice (some ⟨w1.heap.size, 0, none⟩) n n] 170)).drew
 have BE := hid (Blk.new (w1.alloc (.cells (Array.replicate n (.int .u64 0)) 55)) 170 #[.int .i64 e, .int .i64 (n : Nat), .int .i64 mx, .bool has, .slice (some ⟨w1.heap.size, 0, none⟩) n n])
 have EU : Hid (tU.els (((w1.alloc (.cells (Array.replicate n (.int .u64 0)) 55)).alloc (.cells #[.int .i64 e, .int .i64 (n : Nat), .int .i64 mx, .bool has, .slice (some ⟨w1.heap.size, 0, none⟩) n n] 170)).drew) (fun k => k = w1.heap.size) (some ⟨w1.heap.size, 0, none⟩) (List.replicate n 0)) := by
  refine .inr ⟨_, _, rfl, rfl, fun i x hx => ⟨[.int .u64 x], ?_, rfl, by rw [List.eq_of_mem_replicate (List.mem_of_getElem? hx)]; rfl⟩⟩
  have hi : i < n := by have := (List.getElem?_eq_some_iff.1 hx).1; simpa using this
  have e0 : x = 0 := List.eq_of_mem_replicate (List.mem_of_getElem? hx)
  intro j u hu
  cases j with
  | zero => simp at hu; subst hu; subst e0; rw [Nat.zero_add, Nat.add_zero, show tU.size = 1 from rfl, Nat.mul_one]; exact (BU.o.cell i).trans (by simp [hi])
  | succ j => simp at hu
 have HER : Hid (tRt.rd (((w1.alloc (.cells (Array.replicate n (.int .u64 0)) 55)).alloc (.cells #[.int .i64 e, .int .i64 (n : Nat), .int .i64 mx, .bool has, .slice (some ⟨w1.heap.size, 0, none⟩) n n] 170)).drew) (fun k => S k ∨ k = w1.heap.size) [.int .i64 e, .int .i64 (n : Nat), .int .i64 mx, .bool has, .slice (some ⟨w1.heap.size, 0, none⟩) n n] ⟨⟨e, ⟨n, mx, has⟩⟩, List.replicate n 0⟩) := by
  have h := kNK (w := ((w1.alloc (.cells (Array.replicate n (.int .u64 0)) 55)).alloc (.cells #[.int .i64 e, .int .i64 (n : Nat), .int .i64 mx, .bool has, .slice (some ⟨w1.heap.size, 0, none⟩) n n] 170)).drew) (S := fun k => S k ∨ k = w1.heap.size) (a := ⟨⟨e, ⟨n, mx, has⟩⟩, List.replicate n 0⟩) (Al := some ⟨w1.heap.size, 0, none⟩) (cl := n) HWF.o.1 HWF.o.2.1 HWF.o.2.2 sm (by have := HNN.o; simp only [maxLen]; omega) (EU.o.more (fun _ h => .inr h))
  simp only [List.length_replicate] at h
  exact h
 have HR1 := hid (R1.o.more (S' := fun k => S k ∨ k = w1.heap.size) nr (fun _ h => Or.inl h))
 have HR2 := hid (R1.o.fr FXA.o (fun k hk => ⟨ltl (HSS.o k hk).1 FW1.o.size, fun x => x⟩) (fun _ _ x => x))
 have HR3 := hid (HR2.o.more (S' := fun k => S k ∨ k = w1.heap.size) nr (fun _ h => Or.inl h))
 have HO1 := hid (fun g (e : v1.ownBlock = some g) => R1.o.own e)
 clear HR1 HR2
 have S1 : w1.heap.size < ((w1.alloc (.cells (Array.replicate n (.int .u64 0)) 55)).alloc (.cells #[.int .i64 e, .int .i64 (n : Nat), .int .i64 mx, .bool has, .slice (some ⟨w1.heap.size, 0, none⟩) n n] 170)).drew.heap.size := BU.o.lt
 have HSE := hid (show ((w1.alloc (.cells (Array.replicate n (.int .u64 0)) 55)).heap.size = w1.heap.size + 1) by simp)
 refine wpO_eff rfl rfl (fun K hK => ?_)
 simp only [List.getElem_toArray, List.getElem_cons_succ, List.getElem_cons_zero]
 refine kAs (m := 1) (t := tRt) (P := prog) (base := W.heap.size) (S := fun k => S k ∨ k = w1.heap.size) (v := v1) (xs := [] ++ x.tabs) (ys := [⟨⟨e, ⟨n, mx, has⟩⟩, List.replicate n 0⟩]) (dss := [[.int .i64 e, .int .i64 (n : Nat), .int .i64 mx, .bool has, .slice (some ⟨w1.heap.size, 0, none⟩) n n]]) (B2 := w1.heap.size + 2) elRt rfl rfl rfl HR3.o (Css.one HER.o) ?_ rfl (by have := HN.o; simp; omega) (by have := HN.o; simp; omega) ?_ ?_ ?_
 · have := kFY (w1.alloc (.cells (Array.replicate n (.int .u64 0)) 55)) [.int .i64 e, .int .i64 (n : Nat), .int .i64 mx, .bool has, .slice (some ⟨w1.heap.size, 0, none⟩) n n] 170
   rw [HSE.o] at this
   exact this.drew
 · intro k hk
   have f1 := FXA.o.size
   have f2 := FW1.o.size
   rcases hk with hk | rfl
   · have h1 := (HSS.o k hk).1
     exact ⟨by omega, fun e => by have h2 := (R1.o.own e.symm).1; omega⟩
   exact ⟨S1, fun e => by obtain ⟨_, cs', hb⟩ := R1.o.own e.symm; have := hb.lt; omega⟩
 · have f1 := FXA.o.size
   have f2 := FW1.o.size
   omega
 intro v2 w2 hr2 fr2 hv2
 have R2 := hid hr2
 have FW2 := hid (own_frame HR3.o (FW1.o.trans FXA.o i3) fr2 nr)
 have FB2 := hid fr2
 have W1S := hid (And.intro S1 FW1.o.size)
 have GT1 : Hid ((fun X => Ce X (w.heap.size + 1) 0 (.int .i64 e) ∧ Ce X (w.heap.size + 1) 1 (.int .i64 (n : Nat)) ∧ Ce X (w.heap.size + 1) 2 (.int .i64 mx) ∧ Ce X (w.heap.size + 1) 3 (.bool has)) w2) := by
  have hb := (G1.o.fr FXA.o id).fr fr2 (fun e => by obtain ⟨h1, cs', h2⟩ := HO1.o _ e.symm; exact Blk.ne_ G1.o h2 dc rfl)
  exact ⟨hb.cell 0, hb.cell 1, hb.cell 2, hb.cell 3⟩
 refine hK _ _ (fun _ => GT1.o) ?_
 clear hK K hr2 fr2 hv2 HER HR3 BE EU R1 HEL
 refine rC ?_
 refine wpO_nil ?_
 have HSS2 : Hid (∀ k, (fun k => S k ∨ k = w1.heap.size) k → k < w2.heap.size ∧ ¬ k = w.heap.size ∧ ¬ k = w.heap.size + 1 + 1 ∧ (S k ∨ w.heap.size ≤ k)) := by
  intro k hk
  have f0 := F0.o.size
  have f1 := FW2.o.size
  have f2 := W1S.o.1
  have f3 := W1S.o.2
  have f4 := G2.o.lt
  have f5 := FB2.o.size
  rcases hk with hk | rfl
  · obtain ⟨h1, h2, h3, h4⟩ := HSS.o k hk
    exact ⟨by omega, h2, h3, h4⟩
  exact ⟨by omega, by omega, by omega, .inr om⟩
 go_upto_region 6 with fail
 clear GT1 HX hmk n0 BU W1S
 have KG : Hid (∀ (g : Nat) (t : TypeId) (cs : Array Value), Blk w1 g t cs → t ≠ 170 → Blk w2 g t cs) := fun g t cs hb hne => (hb.fr FXA.o id).fr FB2.o (fun e => by obtain ⟨h1, cs', h2⟩ := HO1.o g e.symm; exact Blk.ne_ hb h2 hne rfl)
 replace G0 := hid (KG.o _ _ _ G0.o dc)
 replace G2 := hid (KG.o _ _ _ G2.o dc)
 clear KG FW1 FT1 FB2 HO1 G1
 have FT2 := ftr F0 FW2.o
 obtain ⟨A', c', e2, l1, l2, E2⟩ := R2.o.els (S' := fun k => (fun k => S k ∨ k = w1.heap.size) k ∨ v2.ownBlock = some k) (fun _ h => .inl h) (fun g hg => .inr hg)
 have e3 : ([] ++ x.tabs ++ [(⟨⟨e, ⟨n, mx, has⟩⟩, List.replicate n 0⟩ : Rt)]).length = x.tabs.length + 1 := by simp
 have HR := hid (And.intro (And.intro l1 l2) (And.intro E2 (fun g (e : v2.ownBlock = some g) => R2.o.own e)))
 rw [e3] at e2
 subst e2
 clear R2 l1 l2 E2
 have y := G0.o.frozen 4
 have y' := G0.o.at_ HE4.o
 go_upto_region 7 with fail
 clear y y'
 obtain ⟨N0, N1, HL2, HO2⟩ := setf G0.o G2.o om H.o 4 (.slice A' (x.tabs.length + 1) c') rfl
 go_wp2_with (first | refine ldX N0.o HL2.o ?_ | refine stX N1.o rfl HL2.o HO2.o ?_ | fail)
 exact ryes (rcore (x' := { x with tabs := x.tabs ++ [(⟨⟨e, ⟨n, mx, has⟩⟩, List.replicate n 0⟩ : Rt)] }) (t := tRt) (ys := [] ++ x.tabs ++ [(⟨⟨e, ⟨n, mx, has⟩⟩, List.replicate n 0⟩ : Rt)]) (fun f hB l m e => kOy H.o f HS.o hB l m e) H.o FT2.o G0.o G2.o om HR.o e3 HSS2.o (by have := FW2.o.size; omega) F0.o.size dc)
abbrev q9x3 (a0 : LV) (a1 a2 : Option Addr) (a3 : Fi) (a4 a5 : Nat) : Array Value := #[.agg a0.toArray, .agg #[.slice a1 a3.ty.params.length a4, .slice a2 a3.ty.results.length a5, .int .i64 a3.inst, .int .i64 a3.index]]
abbrev q9x4 (a0 a1 : Option Addr) (a2 : Fi) (a3 a4 : Nat) : Array Value := #[.slice a0 a2.ty.params.length a3, .slice a1 a2.ty.results.length a4, .int .i64 a2.inst, .int .i64 a2.index]
theorem kIe {w : World} {S : Nat → Prop} {x : Rx} {cs : LV} (h : tRx.rd w S cs x) (hS : Lt S w) (f : Fi) (P1 P2 : OA) (q1 q2 : Nat) (h1 : tI.els w S P1 f.ty.params) (h2 : tI.els w S P2 f.ty.results) (b1 : f.ty.params.length ≤ 140737488351232) (b2 : f.ty.results.length ≤ 140737488351232) (hv : fnB f.ty = false) :
    Calls prog 119 (q9x3 cs P1 P2 f q1 q2) w (RfTo S x (.int .i64 (-1)) w) := by
 obtain ⟨F0, G0, G1, G2⟩ := bx1 w cs (q9x4 P1 P2 f q1 q2) 47 z10 39
 have H := hid h
 have HS := hid hS
 have HCL := hid (rx_one h)
 obtain ⟨A0, c0, e0, -, -, EH0⟩ := kEC H.o
 have HE0 := hid e0
 clear e0
 have HR := hid (fun (X : World) (f0 : Fr No w X) => kAe f.ty P1 P2 q1 q2 w.heap.size X f0.size (kAA h1 f0 HS.o HS.o) (kAA h2 f0 HS.o HS.o) b1 b2)
 rw [hv] at HR
 have HI1 := hid h1
 have HI2 := hid h2
 clear hv h1 h2
 clear h hS
 go_enter func119, ntmps119
 go_wp2_with fail
 generalize (((w.alloc (.cells cs.toArray 39)).alloc (.cells (q9x4 P1 P2 f q1 q2) 47)).alloc (.cells z10 39)) = W0 at *
 refine (HR.o _ F0.o).mono ?_
 rintro e wa ⟨rfl, f1⟩
 replace F0 := ftr F0 f1
 replace G0 := hid (G0.o.fr f1 id)
 replace G1 := hid (G1.o.fr f1 id)
 replace G2 := hid (G2.o.fr f1 id)
 clear f1 HR
 go_upto_region 2 with fail
 generalize wa = W at *
 exact yy14
theorem kId {w : World} {S : Nat → Prop} {x : Rx} {cs : LV} (h : tRx.rd w S cs x) (hS : Lt S w) (f : Fi) (P1 P2 : OA) (q1 q2 : Nat) (h1 : tI.els w S P1 f.ty.params) (h2 : tI.els w S P2 f.ty.results) (b1 : f.ty.params.length ≤ 140737488351232) (b2 : f.ty.results.length ≤ 140737488351232) (hv : fnB f.ty = true) (d1 : decide (f.inst < -1) = true) :
    Calls prog 119 (q9x3 cs P1 P2 f q1 q2) w (RfTo S x (.int .i64 (-1)) w) := by
 obtain ⟨F0, G0, G1, G2⟩ := bx1 w cs (q9x4 P1 P2 f q1 q2) 47 z10 39
 have H := hid h
 have HS := hid hS
 have HCL := hid (rx_one h)
 obtain ⟨A0, c0, e0, -, -, EH0⟩ := kEC H.o
 have HE0 := hid e0
 clear e0
 have HR := hid (fun (X : World) (f0 : Fr No w X) => kAe f.ty P1 P2 q1 q2 w.heap.size X f0.size (kAA h1 f0 HS.o HS.o) (kAA h2 f0 HS.o HS.o) b1 b2)
 rw [hv] at HR
 have HI1 := hid h1
 have HI2 := hid h2
 clear hv h1 h2
 clear h hS
 go_enter func119, ntmps119
 go_wp2_with fail
 generalize (((w.alloc (.cells cs.toArray 39)).alloc (.cells (q9x4 P1 P2 f q1 q2) 47)).alloc (.cells z10 39)) = W0 at *
 refine (HR.o _ F0.o).mono ?_
 rintro e wa ⟨rfl, f1⟩
 replace F0 := ftr F0 f1
 replace G0 := hid (G0.o.fr f1 id)
 replace G1 := hid (G1.o.fr f1 id)
 replace G2 := hid (G2.o.fr f1 id)
 clear f1 HR
 have z1_0 := G1.o.cell 0
 have z1_1 := G1.o.cell 1
 have z1_2 := G1.o.cell 2
 have z1_3 := G1.o.cell 3
 go_upto_region 2 with fail
 clear z1_0 z1_1 z1_2 z1_3
 generalize wa = W at *
 exact yy14
theorem kIc {w : World} {S : Nat → Prop} {x : Rx} {cs : LV} (h : tRx.rd w S cs x) (hS : Lt S w) (f : Fi) (P1 P2 : OA) (q1 q2 : Nat) (h1 : tI.els w S P1 f.ty.params) (h2 : tI.els w S P2 f.ty.results) (b1 : f.ty.params.length ≤ 140737488351232) (b2 : f.ty.results.length ≤ 140737488351232) (hv : fnB f.ty = true) (d1 : decide (f.inst < -1) = false) (d2 : decide (f.index < 0) = true) :
    Calls prog 119 (q9x3 cs P1 P2 f q1 q2) w (RfTo S x (.int .i64 (-1)) w) := by
 obtain ⟨F0, G0, G1, G2⟩ := bx1 w cs (q9x4 P1 P2 f q1 q2) 47 z10 39
 have H := hid h
 have HS := hid hS
 have HCL := hid (rx_one h)
 obtain ⟨A0, c0, e0, -, -, EH0⟩ := kEC H.o
 have HE0 := hid e0
 clear e0
 have HR := hid (fun (X : World) (f0 : Fr No w X) => kAe f.ty P1 P2 q1 q2 w.heap.size X f0.size (kAA h1 f0 HS.o HS.o) (kAA h2 f0 HS.o HS.o) b1 b2)
 rw [hv] at HR
 have HI1 := hid h1
 have HI2 := hid h2
 clear hv h1 h2
 clear h hS
 go_enter func119, ntmps119
 go_wp2_with fail
 generalize (((w.alloc (.cells cs.toArray 39)).alloc (.cells (q9x4 P1 P2 f q1 q2) 47)).alloc (.cells z10 39)) = W0 at *
 refine (HR.o _ F0.o).mono ?_
 rintro e wa ⟨rfl, f1⟩
 replace F0 := ftr F0 f1
 replace G0 := hid (G0.o.fr f1 id)
 replace G1 := hid (G1.o.fr f1 id)
 replace G2 := hid (G2.o.fr f1 id)
 clear f1 HR
 have z1_0 := G1.o.cell 0
 have z1_1 := G1.o.cell 1
 have z1_2 := G1.o.cell 2
 have z1_3 := G1.o.cell 3
 go_upto_region 2 with fail
 clear z1_0 z1_1 z1_2 z1_3
 generalize wa = W at *
 exact yy14
theorem kIb {w : World} {S : Nat → Prop} {x : Rx} {cs : LV} (h : tRx.rd w S cs x) (hS : Lt S w) (f : Fi) (P1 P2 : OA) (q1 q2 : Nat) (h1 : tI.els w S P1 f.ty.params) (h2 : tI.els w S P2 f.ty.results) (b1 : f.ty.params.length ≤ 140737488351232) (b2 : f.ty.results.length ≤ 140737488351232) (hv : fnB f.ty = true) (d1 : decide (f.inst < -1) = false) (d2 : decide (f.index < 0) = false) (d3 : (f.inst == -1) = true) (i1 : decide ((x.hosts.length : Int) ≤ f.index) = true) :
    Calls prog 119 (q9x3 cs P1 P2 f q1 q2) w (RfTo S x (.int .i64 (-1)) w) := by
 obtain ⟨F0, G0, G1, G2⟩ := bx1 w cs (q9x4 P1 P2 f q1 q2) 47 z10 39
 have H := hid h
 have HS := hid hS
 have HCL := hid (rx_one h)
 obtain ⟨A0, c0, e0, -, -, EH0⟩ := kEC H.o
 have HE0 := hid e0
 clear e0
 have HR := hid (fun (X : World) (f0 : Fr No w X) => kAe f.ty P1 P2 q1 q2 w.heap.size X f0.size (kAA h1 f0 HS.o HS.o) (kAA h2 f0 HS.o HS.o) b1 b2)
 rw [hv] at HR
 have HI1 := hid h1
 have HI2 := hid h2
 clear hv h1 h2
 clear h hS
 go_enter func119, ntmps119
 go_wp2_with fail
 generalize (((w.alloc (.cells cs.toArray 39)).alloc (.cells (q9x4 P1 P2 f q1 q2) 47)).alloc (.cells z10 39)) = W0 at *
 refine (HR.o _ F0.o).mono ?_
 rintro e wa ⟨rfl, f1⟩
 replace F0 := ftr F0 f1
 replace G0 := hid (G0.o.fr f1 id)
 replace G1 := hid (G1.o.fr f1 id)
 replace G2 := hid (G2.o.fr f1 id)
 clear f1 HR
 have z1_0 := G1.o.cell 0
 have z1_1 := G1.o.cell 1
 have z1_2 := G1.o.cell 2
 have z1_3 := G1.o.cell 3
 go_upto_region 3 with fail
 clear z1_0 z1_1 z1_2 z1_3
 have HX : Hid (∀ X, Fr No wa X → Ce X (w.heap.size + 1) 0 (.slice P1 f.ty.params.length q1) ∧ Ce X (w.heap.size + 1) 1 (.slice P2 f.ty.results.length q2) ∧ Ce X (w.heap.size + 1) 2 (.int .i64 f.inst) ∧ Ce X (w.heap.size + 1) 3 (.int .i64 f.index) ∧ Ce X w.heap.size 0 (.slice A0 x.hosts.length c0)) := fun X f => ⟨(G1.o.fr f id).cell 0, (G1.o.fr f id).cell 1, (G1.o.fr f id).cell 2, (G1.o.fr f id).cell 3, (G0.o.fr f id).at_ HE0.o⟩
 refine rwO (fun X => Ce X (w.heap.size + 1) 0 (.slice P1 f.ty.params.length q1) ∧ Ce X (w.heap.size + 1) 1 (.slice P2 f.ty.results.length q2) ∧ Ce X (w.heap.size + 1) 2 (.int .i64 f.inst) ∧ Ce X (w.heap.size + 1) 3 (.int .i64 f.index) ∧ Ce X w.heap.size 0 (.slice A0 x.hosts.length c0)) [] (List.range 24) [20] (HX.o _ (Fr.refl No _).drew) ?_
 refine rC ?_
 refine wpO_skipE rfl rfl (HX.o _ (Fr.refl No _).drew) ?_
 simp only [List.getElem_toArray, List.getElem_cons_succ, List.getElem_cons_zero, Act.put, List.setIfInBounds_toArray, List.set_cons_zero, List.set_cons_succ]
 refine rC ?_
 refine wpO_nil ?_
 replace F0 := hid F0.o.drew
 replace G0 := hid G0.o.drew
 replace G1 := hid G1.o.drew
 replace G2 := hid G2.o.drew
 clear HX
 generalize wa.drew = W at *
 go_upto_region 4 with fail
 exact yy14
theorem kIa {w : World} {S : Nat → Prop} {x : Rx} {cs : LV} (h : tRx.rd w S cs x) (hS : Lt S w) (f : Fi) (P1 P2 : OA) (q1 q2 : Nat) (h1 : tI.els w S P1 f.ty.params) (h2 : tI.els w S P2 f.ty.results) (b1 : f.ty.params.length ≤ 140737488351232) (b2 : f.ty.results.length ≤ 140737488351232) (hv : fnB f.ty = true) (d1 : decide (f.inst < -1) = false) (d2 : decide (f.index < 0) = false) (d3 : (f.inst == -1) = true) (hlt : f.index < x.hosts.length) (hh : ∀ a ∈ x.hosts, a.ty.params.length ≤ 140737488351232 ∧ a.ty.results.length ≤ 140737488351232) (HQ0 : ∀ y, getI x.hosts f.index = some y → fnEq f.ty y.ty = false) :
    Calls prog 119 (q9x3 cs P1 P2 f q1 q2) w (RfTo S x (.int .i64 (-1)) w) := by
 obtain ⟨F0, G0, G1, G2⟩ := bx1 w cs (q9x4 P1 P2 f q1 q2) 47 z10 39
 have H := hid h
 have HS := hid hS
 have HCL := hid (rx_one h)
 obtain ⟨A0, c0, e0, -, -, EH0⟩ := kEC H.o
 have HE0 := hid e0
 clear e0
 have HR := hid (fun (X : World) (f0 : Fr No w X) => kAe f.ty P1 P2 q1 q2 w.heap.size X f0.size (kAA h1 f0 HS.o HS.o) (kAA h2 f0 HS.o HS.o) b1 b2)
 rw [hv] at HR
 have HI1 := hid h1
 have HI2 := hid h2
 clear hv h1 h2
 have i0 : (0 : Int) ≤ f.index := by have := of_decide_eq_false d2; omega
 have i1 : decide ((x.hosts.length : Int) ≤ f.index) = false := by simp; omega
 have i2 : f.index < (x.hosts.length : Int) := hlt
 have hk : f.index.toNat < x.hosts.length := om
 obtain ⟨b, o, T1, t1, T2, t2, Q, qc, eA0, hb, -, -, y2, y3, -, -, -, -, -, e1, -, -, e2, -⟩ := kBa EH0 f.index.toNat hk
 have EA0 := hid eA0
 clear eA0
 have hhk := hh x.hosts[f.index.toNat] (List.getElem_mem hk)
 have HY : Hid (∀ X, Fr No w X → Ce X b (o + f.index.toNat * 5 + 2) (.slice T1 (x.hosts[f.index.toNat]).ty.params.length t1) ∧ Ce X b (o + f.index.toNat * 5 + 3) (.slice T2 (x.hosts[f.index.toNat]).ty.results.length t2)) := fun X f0 => ⟨(f0.cell (p := ⟨b, o + f.index.toNat * 5 + 2, none⟩) (HS.o _ hb) id).trans y2, (f0.cell (p := ⟨b, o + f.index.toNat * 5 + 3, none⟩) (HS.o _ hb) id).trans y3⟩
 have hg := getI_yes hk
 rw [Int.toNat_of_nonneg i0] at hg
 have hq := HQ0 _ hg
 clear hh hlt HQ0
 generalize x.hosts[f.index.toNat] = y at *
 have HSM := hid (fun (X : World) (f0 : Fr No w X) => kCV f.ty y.ty P1 P2 T1 T2 q1 q2 t1 t2 S S X (fun k hk => ltl (HS.o k hk) f0.size) (fun k hk => ltl (HS.o k hk) f0.size) (kAA HI1.o f0 HS.o (fun _ h => h)) (kAA HI2.o f0 HS.o (fun _ h => h)) (kAA e1 f0 HS.o (fun _ h => h)) (kAA e2 f0 HS.o (fun _ h => h)) b1 b2 hhk.1 hhk.2)
 rw [hq] at HSM
 clear hg hk hq e1 e2 y2 y3 hb
 clear h hS
 go_enter func119, ntmps119
 go_wp2_with fail
 generalize (((w.alloc (.cells cs.toArray 39)).alloc (.cells (q9x4 P1 P2 f q1 q2) 47)).alloc (.cells z10 39)) = W0 at *
 refine (HR.o _ F0.o).mono ?_
 rintro e wa ⟨rfl, f1⟩
 replace F0 := ftr F0 f1
 replace G0 := hid (G0.o.fr f1 id)
 replace G1 := hid (G1.o.fr f1 id)
 replace G2 := hid (G2.o.fr f1 id)
 clear f1 HR
 have z1_0 := G1.o.cell 0
 have z1_1 := G1.o.cell 1
 have z1_2 := G1.o.cell 2
 have z1_3 := G1.o.cell 3
 go_upto_region 3 with fail
 clear z1_0 z1_1 z1_2 z1_3
 have HX : Hid (∀ X, Fr No wa X → Ce X (w.heap.size + 1) 0 (.slice P1 f.ty.params.length q1) ∧ Ce X (w.heap.size + 1) 1 (.slice P2 f.ty.results.length q2) ∧ Ce X (w.heap.size + 1) 2 (.int .i64 f.inst) ∧ Ce X (w.heap.size + 1) 3 (.int .i64 f.index) ∧ Ce X w.heap.size 0 (.slice (some ⟨b, o, none⟩) x.hosts.length c0) ∧ Ce X b (o + f.index.toNat * 5 + 2) (.slice T1 y.ty.params.length t1) ∧ Ce X b (o + f.index.toNat * 5 + 3) (.slice T2 y.ty.results.length t2)) := fun X f => ⟨(G1.o.fr f id).cell 0, (G1.o.fr f id).cell 1, (G1.o.fr f id).cell 2, (G1.o.fr f id).cell 3, (by rw [← EA0.o]; exact (G0.o.fr f id).at_ HE0.o), (HY.o _ (F0.o.trans f i3)).1, (HY.o _ (F0.o.trans f i3)).2⟩
 refine rwO (fun X => Ce X (w.heap.size + 1) 0 (.slice P1 f.ty.params.length q1) ∧ Ce X (w.heap.size + 1) 1 (.slice P2 f.ty.results.length q2) ∧ Ce X (w.heap.size + 1) 2 (.int .i64 f.inst) ∧ Ce X (w.heap.size + 1) 3 (.int .i64 f.index) ∧ Ce X w.heap.size 0 (.slice (some ⟨b, o, none⟩) x.hosts.length c0) ∧ Ce X b (o + f.index.toNat * 5 + 2) (.slice T1 y.ty.params.length t1) ∧ Ce X b (o + f.index.toNat * 5 + 3) (.slice T2 y.ty.results.length t2)) [] (List.range 24) [20] (HX.o _ (Fr.refl No _).drew) ?_
 refine rC ?_
 refine wpO_eff rfl rfl fun K hK => sz ?_
 refine (HSM.o _ F0.o.drew).mono ?_
 rintro e W ⟨rfl, f3⟩
 replace F0 := hid (F0.o.drew.trans f3 i3)
 replace G0 := hid (G0.o.drew.fr f3 id)
 replace G1 := hid (G1.o.drew.fr f3 id)
 replace G2 := hid (G2.o.drew.fr f3 id)
 refine hK _ _ (fun _ => HX.o _ ((Fr.refl No wa).drew.trans f3 i3)) ?_
 clear hK K f3
 refine rC ?_
 refine wpO_nil ?_
 clear HX HSM HY
 go_upto_region 4 with fail
 exact yy14
theorem kIZ {w : World} {S : Nat → Prop} {x : Rx} {cs : LV} (h : tRx.rd w S cs x) (hS : Lt S w) (f : Fi) (P1 P2 : OA) (q1 q2 : Nat) (h1 : tI.els w S P1 f.ty.params) (h2 : tI.els w S P2 f.ty.results) (b1 : f.ty.params.length ≤ 140737488351232) (b2 : f.ty.results.length ≤ 140737488351232) (he : tFi.rd w S [.slice P1 f.ty.params.length q1, .slice P2 f.ty.results.length q2, .int .i64 f.inst, .int .i64 f.index] f) (hv : fnB f.ty = true) (d1 : decide (f.inst < -1) = false) (d2 : decide (f.index < 0) = false) (d3 : (f.inst == -1) = false) (hn : x.funcs.length ≤ 1000000) :
    Calls prog 119 (q9x3 cs P1 P2 f q1 q2) w (RfTo S { x with funcs := x.funcs ++ [f] } (.int .i64 (x.funcs.length : Nat)) w) := by
 obtain ⟨F0, G0, G1, G2⟩ := bx1 w cs (q9x4 P1 P2 f q1 q2) 47 z10 39
 obtain ⟨A3, c3, e3, -, -, E3⟩ := kKW h
 obtain ⟨css, hcs, hrd⟩ := kAY E3 hS
 have HC := hid (And.intro hcs hrd)
 have H := hid h
 have HS := hid hS
 have HE3 := hid e3
 have HE := hid he
 clear he
 obtain ⟨A0, c0, e0, -, -, EH0⟩ := kEC H.o
 have HE0 := hid e0
 clear e0
 have HR := hid (fun (X : World) (f0 : Fr No w X) => kAe f.ty P1 P2 q1 q2 w.heap.size X f0.size (kAA h1 f0 HS.o HS.o) (kAA h2 f0 HS.o HS.o) b1 b2)
 rw [hv] at HR
 have HI1 := hid h1
 have HI2 := hid h2
 clear hv h1 h2
 clear hcs hrd h hS e3 E3
 have HN := hid hn
 go_enter func119, ntmps119
 go_wp2_with fail
 generalize (((w.alloc (.cells cs.toArray 39)).alloc (.cells (q9x4 P1 P2 f q1 q2) 47)).alloc (.cells z10 39)) = W0 at *
 refine (HR.o _ F0.o).mono ?_
 rintro e wa ⟨rfl, f1⟩
 replace F0 := ftr F0 f1
 replace G0 := hid (G0.o.fr f1 id)
 replace G1 := hid (G1.o.fr f1 id)
 replace G2 := hid (G2.o.fr f1 id)
 clear f1 HR
 have z1_0 := G1.o.cell 0
 have z1_1 := G1.o.cell 1
 have z1_2 := G1.o.cell 2
 have z1_3 := G1.o.cell 3
 go_upto_region 3 with fail
 clear z1_0 z1_1 z1_2 z1_3
 have HX : Hid (∀ X, Fr No wa X → Ce X (w.heap.size + 1) 0 (.slice P1 f.ty.params.length q1) ∧ Ce X (w.heap.size + 1) 1 (.slice P2 f.ty.results.length q2) ∧ Ce X (w.heap.size + 1) 2 (.int .i64 f.inst) ∧ Ce X (w.heap.size + 1) 3 (.int .i64 f.index) ∧ Ce X w.heap.size 0 (.slice A0 x.hosts.length c0)) := fun X f => ⟨(G1.o.fr f id).cell 0, (G1.o.fr f id).cell 1, (G1.o.fr f id).cell 2, (G1.o.fr f id).cell 3, (G0.o.fr f id).at_ HE0.o⟩
 refine rwO (fun X => Ce X (w.heap.size + 1) 0 (.slice P1 f.ty.params.length q1) ∧ Ce X (w.heap.size + 1) 1 (.slice P2 f.ty.results.length q2) ∧ Ce X (w.heap.size + 1) 2 (.int .i64 f.inst) ∧ Ce X (w.heap.size + 1) 3 (.int .i64 f.index) ∧ Ce X w.heap.size 0 (.slice A0 x.hosts.length c0)) [] (List.range 24) [20] (HX.o _ (Fr.refl No _).drew) ?_
 refine rC ?_
 refine wpO_skipE rfl rfl (HX.o _ (Fr.refl No _).drew) ?_
 simp only [List.getElem_toArray, List.getElem_cons_succ, List.getElem_cons_zero, Act.put, List.setIfInBounds_toArray, List.set_cons_zero, List.set_cons_succ]
 refine rC ?_
 refine wpO_nil ?_
 replace F0 := hid F0.o.drew
 replace G0 := hid G0.o.drew
 replace G1 := hid G1.o.drew
 replace G2 := hid G2.o.drew
 clear HX
 generalize wa.drew = W at *
 go_upto_region 6 with fail
 have HSS : Hid (∀ k, S k → k < W.heap.size ∧ ¬ k = w.heap.size ∧ ¬ k = w.heap.size + 1 + 1 ∧ (S k ∨ w.heap.size ≤ k)) := fun k hk => ⟨ltl (HS.o k hk) F0.o.size, by have := HS.o k hk; omega, by have := HS.o k hk; omega, .inl hk⟩
 have HCW := hid (And.intro ((HC.o.1.fr F0.o (fun k hk => ⟨HS.o k hk, fun x => x⟩))) (HC.o.2.frNo F0.o))
 have HEW := hid (kAH HE.o F0.o HS.o i2)
 have z := G0.o.at_ HE3.o
 go_upto_region 7 with (first | (at_builtin; refine app0 elFi HCW.o (by have := HN.o; omega) dc (fun k hk => (HSS.o k hk).1) ?_; intro v1 w1 hr1 f1; have R1 := hid hr1; have FW1 := hid f1; clear hr1 f1 HCW z) | fail)
 have FT1 := ftr F0 FW1.o
 replace G0 := hid (G0.o.fr FW1.o id)
 replace G1 := hid (G1.o.fr FW1.o id)
 replace G2 := hid (G2.o.fr FW1.o id)
 have z0_0 := G1.o.cell 0
 have z0_1 := G1.o.cell 1
 have z0_2 := G1.o.cell 2
 have z0_3 := G1.o.cell 3
 go_upto_region 8 with (first | (at_builtin; refine app1 elFi R1.o (kAH HEW.o FW1.o (fun k hk => (HSS.o k hk).1) i2) (by have := HN.o; simp; omega) dc (fun k hk => (HSS.o k hk).1) FW1.o.size FW1.o nr ?_; intro v2 w2 hr2 f2 kg; have R2 := hid hr2; have FW2 := hid f2; have KG := hid kg; clear hr2 f2 kg R1) | fail)
 exact yy22
theorem kIY {w : World} {S : Nat → Prop} {x : Rx} {cs : LV} (h : tRx.rd w S cs x) (hS : Lt S w) (f : Fi) (P1 P2 : OA) (q1 q2 : Nat) (h1 : tI.els w S P1 f.ty.params) (h2 : tI.els w S P2 f.ty.results) (b1 : f.ty.params.length ≤ 140737488351232) (b2 : f.ty.results.length ≤ 140737488351232) (he : tFi.rd w S [.slice P1 f.ty.params.length q1, .slice P2 f.ty.results.length q2, .int .i64 f.inst, .int .i64 f.index] f) (hv : fnB f.ty = true) (d1 : decide (f.inst < -1) = false) (d2 : decide (f.index < 0) = false) (d3 : (f.inst == -1) = true) (hlt : f.index < x.hosts.length) (hh : ∀ a ∈ x.hosts, a.ty.params.length ≤ 140737488351232 ∧ a.ty.results.length ≤ 140737488351232) (HQ0 : ∀ y, getI x.hosts f.index = some y → fnEq f.ty y.ty = true) (hn : x.funcs.length ≤ 1000000) :
    Calls prog 119 (q9x3 cs P1 P2 f q1 q2) w (RfTo S { x with funcs := x.funcs ++ [f] } (.int .i64 (x.funcs.length : Nat)) w) := by
 obtain ⟨F0, G0, G1, G2⟩ := bx1 w cs (q9x4 P1 P2 f q1 q2) 47 z10 39
 obtain ⟨A3, c3, e3, -, -, E3⟩ := kKW h
 obtain ⟨css, hcs, hrd⟩ := kAY E3 hS
 have HC := hid (And.intro hcs hrd)
 have H := hid h
 have HS := hid hS
 have HE3 := hid e3
 have HE := hid he
 clear he
 obtain ⟨A0, c0, e0, -, -, EH0⟩ := kEC H.o
 have HE0 := hid e0
 clear e0
 have HR := hid (fun (X : World) (f0 : Fr No w X) => kAe f.ty P1 P2 q1 q2 w.heap.size X f0.size (kAA h1 f0 HS.o HS.o) (kAA h2 f0 HS.o HS.o) b1 b2)
 rw [hv] at HR
 have HI1 := hid h1
 have HI2 := hid h2
 clear hv h1 h2
 have i0 : (0 : Int) ≤ f.index := by have := of_decide_eq_false d2; omega
 have i1 : decide ((x.hosts.length : Int) ≤ f.index) = false := by simp; omega
 have i2 : f.index < (x.hosts.length : Int) := hlt
 have hk : f.index.toNat < x.hosts.length := om
 obtain ⟨b, o, T1, t1, T2, t2, Q, qc, eA0, hb, -, -, y2, y3, -, -, -, -, -, e1, -, -, e2, -⟩ := kBa EH0 f.index.toNat hk
 have EA0 := hid eA0
 clear eA0
 have hhk := hh x.hosts[f.index.toNat] (List.getElem_mem hk)
 have HY : Hid (∀ X, Fr No w X → Ce X b (o + f.index.toNat * 5 + 2) (.slice T1 (x.hosts[f.index.toNat]).ty.params.length t1) ∧ Ce X b (o + f.index.toNat * 5 + 3) (.slice T2 (x.hosts[f.index.toNat]).ty.results.length t2)) := fun X f0 => ⟨(f0.cell (p := ⟨b, o + f.index.toNat * 5 + 2, none⟩) (HS.o _ hb) id).trans y2, (f0.cell (p := ⟨b, o + f.index.toNat * 5 + 3, none⟩) (HS.o _ hb) id).trans y3⟩
 have hg := getI_yes hk
 rw [Int.toNat_of_nonneg i0] at hg
 have hq := HQ0 _ hg
 clear hh hlt HQ0
 generalize x.hosts[f.index.toNat] = y at *
 have HSM := hid (fun (X : World) (f0 : Fr No w X) => kCV f.ty y.ty P1 P2 T1 T2 q1 q2 t1 t2 S S X (fun k hk => ltl (HS.o k hk) f0.size) (fun k hk => ltl (HS.o k hk) f0.size) (kAA HI1.o f0 HS.o (fun _ h => h)) (kAA HI2.o f0 HS.o (fun _ h => h)) (kAA e1 f0 HS.o (fun _ h => h)) (kAA e2 f0 HS.o (fun _ h => h)) b1 b2 hhk.1 hhk.2)
 rw [hq] at HSM
 clear hg hk hq e1 e2 y2 y3 hb
 clear hcs hrd h hS e3 E3
 have HN := hid hn
 go_enter func119, ntmps119
 go_wp2_with fail
 generalize (((w.alloc (.cells cs.toArray 39)).alloc (.cells (q9x4 P1 P2 f q1 q2) 47)).alloc (.cells z10 39)) = W0 at *
 refine (HR.o _ F0.o).mono ?_
 rintro e wa ⟨rfl, f1⟩
 replace F0 := ftr F0 f1
 replace G0 := hid (G0.o.fr f1 id)
 replace G1 := hid (G1.o.fr f1 id)
 replace G2 := hid (G2.o.fr f1 id)
 clear f1 HR
 have z1_0 := G1.o.cell 0
 have z1_1 := G1.o.cell 1
 have z1_2 := G1.o.cell 2
 have z1_3 := G1.o.cell 3
 go_upto_region 3 with fail
 clear z1_0 z1_1 z1_2 z1_3
 have HX : Hid (∀ X, Fr No wa X → Ce X (w.heap.size + 1) 0 (.slice P1 f.ty.params.length q1) ∧ Ce X (w.heap.size + 1) 1 (.slice P2 f.ty.results.length q2) ∧ Ce X (w.heap.size + 1) 2 (.int .i64 f.inst) ∧ Ce X (w.heap.size + 1) 3 (.int .i64 f.index) ∧ Ce X w.heap.size 0 (.slice (some ⟨b, o, none⟩) x.hosts.length c0) ∧ Ce X b (o + f.index.toNat * 5 + 2) (.slice T1 y.ty.params.length t1) ∧ Ce X b (o + f.index.toNat * 5 + 3) (.slice T2 y.ty.results.length t2)) := fun X f => ⟨(G1.o.fr f id).cell 0, (G1.o.fr f id).cell 1, (G1.o.fr f id).cell 2, (G1.o.fr f id).cell 3, (by rw [← EA0.o]; exact (G0.o.fr f id).at_ HE0.o), (HY.o _ (F0.o.trans f i3)).1, (HY.o _ (F0.o.trans f i3)).2⟩
 refine rwO (fun X => Ce X (w.heap.size + 1) 0 (.slice P1 f.ty.params.length q1) ∧ Ce X (w.heap.size + 1) 1 (.slice P2 f.ty.results.length q2) ∧ Ce X (w.heap.size + 1) 2 (.int .i64 f.inst) ∧ Ce X (w.heap.size + 1) 3 (.int .i64 f.index) ∧ Ce X w.heap.size 0 (.slice (some ⟨b, o, none⟩) x.hosts.length c0) ∧ Ce X b (o + f.index.toNat * 5 + 2) (.slice T1 y.ty.params.length t1) ∧ Ce X b (o + f.index.toNat * 5 + 3) (.slice T2 y.ty.results.length t2)) [] (List.range 24) [20] (HX.o _ (Fr.refl No _).drew) ?_
 refine rC ?_
 refine wpO_eff rfl rfl fun K hK => sz ?_
 refine (HSM.o _ F0.o.drew).mono ?_
 rintro e W ⟨rfl, f3⟩
 replace F0 := hid (F0.o.drew.trans f3 i3)
 replace G0 := hid (G0.o.drew.fr f3 id)
 replace G1 := hid (G1.o.drew.fr f3 id)
 replace G2 := hid (G2.o.drew.fr f3 id)
 refine hK _ _ (fun _ => HX.o _ ((Fr.refl No wa).drew.trans f3 i3)) ?_
 clear hK K f3
 refine rC ?_
 refine wpO_nil ?_
 clear HX HSM HY
 go_upto_region 6 with fail
 have HSS : Hid (∀ k, S k → k < W.heap.size ∧ ¬ k = w.heap.size ∧ ¬ k = w.heap.size + 1 + 1 ∧ (S k ∨ w.heap.size ≤ k)) := fun k hk => ⟨ltl (HS.o k hk) F0.o.size, by have := HS.o k hk; omega, by have := HS.o k hk; omega, .inl hk⟩
 have HCW := hid (And.intro ((HC.o.1.fr F0.o (fun k hk => ⟨HS.o k hk, fun x => x⟩))) (HC.o.2.frNo F0.o))
 have HEW := hid (kAH HE.o F0.o HS.o (fun _ h => h))
 have z := G0.o.at_ HE3.o
 go_upto_region 7 with (first | (at_builtin; refine app0 elFi HCW.o (by have := HN.o; omega) dc (fun k hk => (HSS.o k hk).1) ?_; intro v1 w1 hr1 f1; have R1 := hid hr1; have FW1 := hid f1; clear hr1 f1 HCW z) | fail)
 have FT1 := ftr F0 FW1.o
 replace G0 := hid (G0.o.fr FW1.o id)
 replace G1 := hid (G1.o.fr FW1.o id)
 replace G2 := hid (G2.o.fr FW1.o id)
 have z0_0 := G1.o.cell 0
 have z0_1 := G1.o.cell 1
 have z0_2 := G1.o.cell 2
 have z0_3 := G1.o.cell 3
 go_upto_region 8 with (first | (at_builtin; refine app1 elFi R1.o (kAH HEW.o FW1.o (fun k hk => (HSS.o k hk).1) (fun _ h => h)) (by have := HN.o; simp; omega) dc (fun k hk => (HSS.o k hk).1) FW1.o.size FW1.o nr ?_; intro v2 w2 hr2 f2 kg; have R2 := hid hr2; have FW2 := hid f2; have KG := hid kg; clear hr2 f2 kg R1) | fail)
 exact yy22
theorem kGe {w : World} {S : Nat → Prop} {x : Rx} {cs : LV} (h : tRx.rd w S cs x) (hS : Lt S w)  (k : Nat) (hk : k < x.elems.length)  (hn : x.elems.length ≤ 1000000) :
    Calls prog 39 #[.agg cs.toArray, .int .i64 (k : Nat)] w (kCA S { x with elems := x.elems.set k ⟨[], true⟩ } w) := by
 obtain ⟨F0, G0, G1⟩ := bx0 w cs z10 39
 obtain ⟨A7, c7, e7, -, -, E7⟩ := kGu h
 obtain ⟨css, hcs, hrd⟩ := kAY E7 hS
 have HC := hid (And.intro hcs hrd)
 have H := hid h
 have HS := hid hS
 have HE7 := hid e7
 have HK := hid hk
 have i0 := nki k
 have i1 : (k : Int) < x.elems.length := om
 have d0 : decide ((k : Int) < 0) = false := by simp
 clear hk
 clear hcs hrd h hS e7 E7
 have HN := hid hn
 go_enter func39, ntmps39
 have z := G0.o.at_ HE7.o
 go_upto_region 4 with fail
 generalize ((w.alloc (.cells cs.toArray 39)).alloc (.cells z10 39)) = W at *
 have HSS : Hid (∀ k, S k → k < W.heap.size ∧ ¬ k = w.heap.size ∧ ¬ k = w.heap.size + 1 ∧ (S k ∨ w.heap.size ≤ k)) := fun k hk => ⟨ltl (HS.o k hk) F0.o.size, by have := HS.o k hk; omega, by have := HS.o k hk; omega, .inl hk⟩
 have HCW := hid (And.intro ((HC.o.1.fr F0.o (fun k hk => ⟨HS.o k hk, fun x => x⟩))) (HC.o.2.frNo F0.o))
 have HEW := hid (kEm (w := W) (S := S) (a := ⟨[], true⟩) (Al := none) (cl := 0) nz nz (.inl rfl))
 go_upto_region 5 with (first | (at_builtin; refine app0 elRs HCW.o (by have := HN.o; omega) dc (fun k hk => (HSS.o k hk).1) ?_; intro v1 w1 hr1 f1; have R1 := hid hr1; have FW1 := hid f1; clear hr1 f1 HCW z) | fail)
 have FT1 := ftr F0 FW1.o
 replace G0 := hid (G0.o.fr FW1.o id)
 replace G1 := hid (G1.o.fr FW1.o id)
 obtain ⟨gq, cg, hg, _⟩ := kBF R1.o (by have := HK.o; simp; omega)
 subst hg
 rw [List.nil_append] at R1
 have HT := hid (kBD R1.o k HK.o)
 have HO1 := hid (R1.o.own (g := gq) rfl)
 go_upto_region 6 with (first | (refine wpList_store_mid (by rfl) 189 _ _ (by rfl) gq (k * 2) #[.slice none 0 0, .bool true] (by rfl) (by rfl) HT.o kr (by simp [Value.oneCell']) ?_) | fail)
 have FG := hid (Fr.setCells' (M := fun q => q = gq) (a := w1) (b := gq) (fun _ => rfl) [.slice none 0 0, .bool true] (k * 2) w1 (Fr.refl _ w1))
 have R2 := hid (R1.o.set (w' := w1.setCells gq (k * 2) [.slice none 0 0, .bool true]) (ds := [.slice none 0 0, .bool true]) (x := ⟨[], true⟩) k HK.o ((inferInstance : TyOk tRs).keep _ _ _ _ _ (kAH HEW.o FW1.o (fun k hk => (HSS.o k hk).1) i2) (fun p hp => FG.o.cell (ltl (HSS.o _ hp).1 FW1.o.size) (fun e => by have := (HSS.o _ hp).1; have := HO1.o.1; omega))) (fun p hp => FG.o.cell (ltl (HSS.o _ hp).1 FW1.o.size) (fun e => by have := (HSS.o _ hp).1; have := HO1.o.1; omega)) (fun cur hb => Blk.setCells _ _ _ _ hb))
 have FW2 := hid (FW1.o.trans FG.o (fun q hq e => by have := HO1.o.1; omega))
 have NE : Hid (∀ (q : Nat) (t : TypeId) (cs : Array Value), Blk w1 q t cs → t ≠ 189 → ¬ q = gq) := fun q t cs hb hne => by obtain ⟨_, cs', h2⟩ := HO1.o; exact Blk.ne_ hb h2 hne
 replace G0 := hid (G0.o.fr FG.o (NE.o _ _ _ G0.o dc))
 replace G1 := hid (G1.o.fr FG.o (NE.o _ _ _ G1.o dc))
 clear NE R1 HT HEW FW1 FT1 HO1 FG
 generalize w1.setCells gq (k * 2) [.slice none 0 0, .bool true] = w2 at *
 have FT2 := ftr F0 FW2.o
 obtain ⟨A', c', e2, l1, l2, E2⟩ := R2.o.els (S' := fun k => S k ∨ (Value.slice (some ⟨gq, 0, none⟩) x.elems.length cg).ownBlock = some k) (fun _ h => .inl h) (fun g hg => .inr hg)
 have e3 : (x.elems.set k ⟨[], true⟩).length = x.elems.length := by simp
 have HR := hid (And.intro (And.intro l1 l2) (And.intro E2 (fun g (e : (Value.slice (some ⟨gq, 0, none⟩) x.elems.length cg).ownBlock = some g) => R2.o.own e)))
 rw [e3] at e2
 injection e2 with q1 q2 q3
 subst q1 q3
 clear R2 l1 l2 E2
 have y := G0.o.frozen 7
 have y' := G0.o.at_ HE7.o
 go_upto_region 7 with fail
 clear y y'
 obtain ⟨N0, N1, HL2, HO2⟩ := setf G0.o G1.o om H.o 7 (.slice (some ⟨gq, 0, none⟩) (x.elems.length) cg) rfl
 go_wp2_with (first | refine ldX N0.o HL2.o ?_ | refine stX N1.o rfl HL2.o HO2.o ?_ | fail)
 exact ryes1 (rcore (x' := { x with elems := x.elems.set k ⟨[], true⟩ }) (t := tRs) (ys := x.elems.set k ⟨[], true⟩) (fun f hB l m e => kNG H.o f HS.o hB l m e) H.o FT2.o G0.o G1.o om HR.o e3 HSS.o (by have := FW2.o.size; omega) F0.o.size dc)
theorem kGf {w : World} {S : Nat → Prop} {x : Rx} {cs : LV} (h : tRx.rd w S cs x) (hS : Lt S w)  (k : Nat) (hk : k < x.datas.length)  (hn : x.datas.length ≤ 1000000) :
    Calls prog 40 #[.agg cs.toArray, .int .i64 (k : Nat)] w (kCA S { x with datas := x.datas.set k ⟨[], true⟩ } w) := by
 obtain ⟨F0, G0, G1⟩ := bx0 w cs z10 39
 obtain ⟨A8, c8, e8, -, -, E8⟩ := kGt h
 obtain ⟨css, hcs, hrd⟩ := kAY E8 hS
 have HC := hid (And.intro hcs hrd)
 have H := hid h
 have HS := hid hS
 have HE8 := hid e8
 have HK := hid hk
 have i0 := nki k
 have i1 : (k : Int) < x.datas.length := om
 have d0 : decide ((k : Int) < 0) = false := by simp
 clear hk
 clear hcs hrd h hS e8 E8
 have HN := hid hn
 go_enter func40, ntmps40
 have z := G0.o.at_ HE8.o
 go_upto_region 4 with fail
 generalize ((w.alloc (.cells cs.toArray 39)).alloc (.cells z10 39)) = W at *
 have HSS : Hid (∀ k, S k → k < W.heap.size ∧ ¬ k = w.heap.size ∧ ¬ k = w.heap.size + 1 ∧ (S k ∨ w.heap.size ≤ k)) := fun k hk => ⟨ltl (HS.o k hk) F0.o.size, by have := HS.o k hk; omega, by have := HS.o k hk; omega, .inl hk⟩
 have HCW := hid (And.intro ((HC.o.1.fr F0.o (fun k hk => ⟨HS.o k hk, fun x => x⟩))) (HC.o.2.frNo F0.o))
 have HEW := hid (kEo (w := W) (S := S) (a := ⟨[], true⟩) (Ab := none) (cb := 0) nz nz (.inl rfl))
 go_upto_region 5 with (first | (at_builtin; refine app0 elRb HCW.o (by have := HN.o; omega) dc (fun k hk => (HSS.o k hk).1) ?_; intro v1 w1 hr1 f1; have R1 := hid hr1; have FW1 := hid f1; clear hr1 f1 HCW z) | fail)
 have FT1 := ftr F0 FW1.o
 replace G0 := hid (G0.o.fr FW1.o id)
 replace G1 := hid (G1.o.fr FW1.o id)
 obtain ⟨gq, cg, hg, _⟩ := kBF R1.o (by have := HK.o; simp; omega)
 subst hg
 rw [List.nil_append] at R1
 have HT := hid (kBD R1.o k HK.o)
 have HO1 := hid (R1.o.own (g := gq) rfl)
 go_upto_region 6 with (first | (refine wpList_store_mid (by rfl) 191 _ _ (by rfl) gq (k * 2) #[.slice none 0 0, .bool true] (by rfl) (by rfl) HT.o kr (by simp [Value.oneCell']) ?_) | fail)
 have FG := hid (Fr.setCells' (M := fun q => q = gq) (a := w1) (b := gq) (fun _ => rfl) [.slice none 0 0, .bool true] (k * 2) w1 (Fr.refl _ w1))
 have R2 := hid (R1.o.set (w' := w1.setCells gq (k * 2) [.slice none 0 0, .bool true]) (ds := [.slice none 0 0, .bool true]) (x := ⟨[], true⟩) k HK.o ((inferInstance : TyOk tRb).keep _ _ _ _ _ (kAH HEW.o FW1.o (fun k hk => (HSS.o k hk).1) i2) (fun p hp => FG.o.cell (ltl (HSS.o _ hp).1 FW1.o.size) (fun e => by have := (HSS.o _ hp).1; have := HO1.o.1; omega))) (fun p hp => FG.o.cell (ltl (HSS.o _ hp).1 FW1.o.size) (fun e => by have := (HSS.o _ hp).1; have := HO1.o.1; omega)) (fun cur hb => Blk.setCells _ _ _ _ hb))
 have FW2 := hid (FW1.o.trans FG.o (fun q hq e => by have := HO1.o.1; omega))
 have NE : Hid (∀ (q : Nat) (t : TypeId) (cs : Array Value), Blk w1 q t cs → t ≠ 191 → ¬ q = gq) := fun q t cs hb hne => by obtain ⟨_, cs', h2⟩ := HO1.o; exact Blk.ne_ hb h2 hne
 replace G0 := hid (G0.o.fr FG.o (NE.o _ _ _ G0.o dc))
 replace G1 := hid (G1.o.fr FG.o (NE.o _ _ _ G1.o dc))
 clear NE R1 HT HEW FW1 FT1 HO1 FG
 generalize w1.setCells gq (k * 2) [.slice none 0 0, .bool true] = w2 at *
 have FT2 := ftr F0 FW2.o
 obtain ⟨A', c', e2, l1, l2, E2⟩ := R2.o.els (S' := fun k => S k ∨ (Value.slice (some ⟨gq, 0, none⟩) x.datas.length cg).ownBlock = some k) (fun _ h => .inl h) (fun g hg => .inr hg)
 have e3 : (x.datas.set k ⟨[], true⟩).length = x.datas.length := by simp
 have HR := hid (And.intro (And.intro l1 l2) (And.intro E2 (fun g (e : (Value.slice (some ⟨gq, 0, none⟩) x.datas.length cg).ownBlock = some g) => R2.o.own e)))
 rw [e3] at e2
 injection e2 with q1 q2 q3
 subst q1 q3
 clear R2 l1 l2 E2
 have y := G0.o.frozen 8
 have y' := G0.o.at_ HE8.o
 go_upto_region 7 with fail
 clear y y'
 obtain ⟨N0, N1, HL2, HO2⟩ := setf G0.o G1.o om H.o 8 (.slice (some ⟨gq, 0, none⟩) (x.datas.length) cg) rfl
 go_wp2_with (first | refine ldX N0.o HL2.o ?_ | refine stX N1.o rfl HL2.o HO2.o ?_ | fail)
 exact ryes1 (rcore (x' := { x with datas := x.datas.set k ⟨[], true⟩ }) (t := tRb) (ys := x.datas.set k ⟨[], true⟩) (fun f hB l m e => kNF H.o f HS.o hB l m e) H.o FT2.o G0.o G1.o om HR.o e3 HSS.o (by have := FW2.o.size; omega) F0.o.size dc)
theorem kEu {w : World} {S : Nat → Prop} {x : Rx} {cs : LV} (h : tRx.rd w S cs x) (hS : Lt S w) (m : Rm) (B : OA) (d : Nat) (k : Nat) (hk : k < x.mems.length) (he : tRm.rd w S [.int .i64 m.lim.min, .int .i64 m.lim.max, .bool m.lim.has, .slice B m.b.length d] m) (hn : x.mems.length ≤ 1000000) :
    Calls prog 45 #[.agg cs.toArray, .int .i64 (k : Nat), .agg #[.int .i64 m.lim.min, .int .i64 m.lim.max, .bool m.lim.has, .slice B m.b.length d]] w (kCA S { x with mems := x.mems.set k m } w) := by
 obtain ⟨F0, G0, G1, G2⟩ := bx1 w cs #[.int .i64 m.lim.min, .int .i64 m.lim.max, .bool m.lim.has, .slice B m.b.length d] 143 z10 39
 obtain ⟨A5, c5, e5, -, -, E5⟩ := kKV h
 obtain ⟨css, hcs, hrd⟩ := kAY E5 hS
 have HC := hid (And.intro hcs hrd)
 have H := hid h
 have HS := hid hS
 have HE5 := hid e5
 have HK := hid hk
 have i0 := nki k
 have i1 : (k : Int) < x.mems.length := om
 have d0 : decide ((k : Int) < 0) = false := by simp
 clear hk
 have HE := hid he
 clear he
 clear hcs hrd h hS e5 E5
 have HN := hid hn
 go_enter func45, ntmps45
 have z := G0.o.at_ HE5.o
 go_upto_region 2 with fail
 generalize (((w.alloc (.cells cs.toArray 39)).alloc (.cells #[.int .i64 m.lim.min, .int .i64 m.lim.max, .bool m.lim.has, .slice B m.b.length d] 143)).alloc (.cells z10 39)) = W at *
 have HSS : Hid (∀ k, S k → k < W.heap.size ∧ ¬ k = w.heap.size ∧ ¬ k = w.heap.size + 1 + 1 ∧ (S k ∨ w.heap.size ≤ k)) := fun k hk => ⟨ltl (HS.o k hk) F0.o.size, by have := HS.o k hk; omega, by have := HS.o k hk; omega, .inl hk⟩
 have HCW := hid (And.intro ((HC.o.1.fr F0.o (fun k hk => ⟨HS.o k hk, fun x => x⟩))) (HC.o.2.frNo F0.o))
 have HEW := hid (kAH HE.o F0.o HS.o i2)
 go_upto_region 3 with (first | (at_builtin; refine app0 elRm HCW.o (by have := HN.o; omega) dc (fun k hk => (HSS.o k hk).1) ?_; intro v1 w1 hr1 f1; have R1 := hid hr1; have FW1 := hid f1; clear hr1 f1 HCW z) | fail)
 have FT1 := ftr F0 FW1.o
 replace G0 := hid (G0.o.fr FW1.o id)
 replace G1 := hid (G1.o.fr FW1.o id)
 replace G2 := hid (G2.o.fr FW1.o id)
 have z0_0 := G1.o.cell 0
 have z0_1 := G1.o.cell 1
 have z0_2 := G1.o.cell 2
 have z0_3 := G1.o.cell 3
 obtain ⟨gq, cg, hg, _⟩ := kBF R1.o (by have := HK.o; simp; omega)
 subst hg
 rw [List.nil_append] at R1
 have HT := hid (kBD R1.o k HK.o)
 have HO1 := hid (R1.o.own (g := gq) rfl)
 go_upto_region 4 with (first | (refine wpList_store_mid (by rfl) 143 _ _ (by rfl) gq (k * 4) #[.int .i64 m.lim.min, .int .i64 m.lim.max, .bool m.lim.has, .slice B m.b.length d] (by rfl) (by rfl) HT.o kr (by simp [Value.oneCell']) ?_) | fail)
 clear z0_0 z0_1 z0_2 z0_3
 have FG := hid (Fr.setCells' (M := fun q => q = gq) (a := w1) (b := gq) (fun _ => rfl) [.int .i64 m.lim.min, .int .i64 m.lim.max, .bool m.lim.has, .slice B m.b.length d] (k * 4) w1 (Fr.refl _ w1))
 have R2 := hid (R1.o.set (w' := w1.setCells gq (k * 4) [.int .i64 m.lim.min, .int .i64 m.lim.max, .bool m.lim.has, .slice B m.b.length d]) (ds := [.int .i64 m.lim.min, .int .i64 m.lim.max, .bool m.lim.has, .slice B m.b.length d]) (x := m) k HK.o ((inferInstance : TyOk tRm).keep _ _ _ _ _ (kAH HEW.o FW1.o (fun k hk => (HSS.o k hk).1) i2) (fun p hp => FG.o.cell (ltl (HSS.o _ hp).1 FW1.o.size) (fun e => by have := (HSS.o _ hp).1; have := HO1.o.1; omega))) (fun p hp => FG.o.cell (ltl (HSS.o _ hp).1 FW1.o.size) (fun e => by have := (HSS.o _ hp).1; have := HO1.o.1; omega)) (fun cur hb => Blk.setCells _ _ _ _ hb))
 have FW2 := hid (FW1.o.trans FG.o (fun q hq e => by have := HO1.o.1; omega))
 have NE : Hid (∀ (q : Nat) (t : TypeId) (cs : Array Value), Blk w1 q t cs → t ≠ 143 → ¬ q = gq) := fun q t cs hb hne => by obtain ⟨_, cs', h2⟩ := HO1.o; exact Blk.ne_ hb h2 hne
 replace G0 := hid (G0.o.fr FG.o (NE.o _ _ _ G0.o dc))
 replace G2 := hid (G2.o.fr FG.o (NE.o _ _ _ G2.o dc))
 clear NE R1 HT HEW FW1 FT1 HO1 FG G1
 generalize w1.setCells gq (k * 4) [.int .i64 m.lim.min, .int .i64 m.lim.max, .bool m.lim.has, .slice B m.b.length d] = w2 at *
 have FT2 := ftr F0 FW2.o
 obtain ⟨A', c', e2, l1, l2, E2⟩ := R2.o.els (S' := fun k => S k ∨ (Value.slice (some ⟨gq, 0, none⟩) x.mems.length cg).ownBlock = some k) (fun _ h => .inl h) (fun g hg => .inr hg)
 have e3 : (x.mems.set k m).length = x.mems.length := by simp
 have HR := hid (And.intro (And.intro l1 l2) (And.intro E2 (fun g (e : (Value.slice (some ⟨gq, 0, none⟩) x.mems.length cg).ownBlock = some g) => R2.o.own e)))
 rw [e3] at e2
 injection e2 with q1 q2 q3
 subst q1 q3
 clear R2 l1 l2 E2
 have y := G0.o.frozen 5
 have y' := G0.o.at_ HE5.o
 go_upto_region 5 with fail
 clear y y'
 obtain ⟨N0, N1, HL2, HO2⟩ := setf G0.o G2.o om H.o 5 (.slice (some ⟨gq, 0, none⟩) (x.mems.length) cg) rfl
 go_wp2_with (first | refine ldX N0.o HL2.o ?_ | refine stX N1.o rfl HL2.o HO2.o ?_ | fail)
 exact ryes1 (rcore (x' := { x with mems := x.mems.set k m }) (t := tRm) (ys := x.mems.set k m) (fun f hB l m e => kNI H.o f HS.o hB l m e) H.o FT2.o G0.o G2.o om HR.o e3 HSS.o (by have := FW2.o.size; omega) F0.o.size dc)
theorem kHV {w : World} {S : Nat → Prop} {x : Rx} {cs : LV} (h : tRx.rd w S cs x) (hS : Lt S w) (i : Int) (d0 : decide (i < 0) = true) :
    Calls prog 39 #[.agg cs.toArray, .int .i64 i] w (kCA S x w) := by
 obtain ⟨F0, G0, G1⟩ := bx0 w cs z10 39
 have H := hid h
 have HS := hid hS
 have HCL := hid (rx_one h)
 clear h hS
 go_enter func39, ntmps39
 exact yy28
theorem kHU {w : World} {S : Nat → Prop} {x : Rx} {cs : LV} (h : tRx.rd w S cs x) (hS : Lt S w) (i : Int) (d0 : decide (i < 0) = false) (d1 : decide ((x.elems.length : Int) ≤ i) = true) :
    Calls prog 39 #[.agg cs.toArray, .int .i64 i] w (kCA S x w) := by
 obtain ⟨F0, G0, G1⟩ := bx0 w cs z10 39
 have H := hid h
 have HS := hid hS
 have HCL := hid (rx_one h)
 clear h hS
 go_enter func39, ntmps39
 obtain ⟨A7, c7, e7, -⟩ := kGu H.o
 have z := G0.o.at_ e7
 clear e7
 exact yy28
theorem kHX {w : World} {S : Nat → Prop} {x : Rx} {cs : LV} (h : tRx.rd w S cs x) (hS : Lt S w) (i : Int) (d0 : decide (i < 0) = true) :
    Calls prog 40 #[.agg cs.toArray, .int .i64 i] w (kCA S x w) := by
 obtain ⟨F0, G0, G1⟩ := bx0 w cs z10 39
 have H := hid h
 have HS := hid hS
 have HCL := hid (rx_one h)
 clear h hS
 go_enter func40, ntmps40
 exact yy28
theorem kHW {w : World} {S : Nat → Prop} {x : Rx} {cs : LV} (h : tRx.rd w S cs x) (hS : Lt S w) (i : Int) (d0 : decide (i < 0) = false) (d1 : decide ((x.datas.length : Int) ≤ i) = true) :
    Calls prog 40 #[.agg cs.toArray, .int .i64 i] w (kCA S x w) := by
 obtain ⟨F0, G0, G1⟩ := bx0 w cs z10 39
 have H := hid h
 have HS := hid hS
 have HCL := hid (rx_one h)
 clear h hS
 go_enter func40, ntmps40
 obtain ⟨A8, c8, e8, -⟩ := kGt H.o
 have z := G0.o.at_ e8
 clear e8
 exact yy28
theorem kGd {w : World} {S : Nat → Prop} {x : Rx} {cs : LV} (h : tRx.rd w S cs x) (hS : Lt S w) (v : Vl) (i : Int) (d0 : decide (i < 0) = true) :
    Calls prog 38 #[.agg cs.toArray, .int .i64 i, .agg #[.int .i64 v.t, .int .u64 v.n]] w (RfTo S x (.bool false) w) := by
 obtain ⟨F0, G0, G1, G2⟩ := bx1 w cs #[.int .i64 v.t, .int .u64 v.n] 57 z10 39
 exact yy11
theorem kGc {w : World} {S : Nat → Prop} {x : Rx} {cs : LV} (h : tRx.rd w S cs x) (hS : Lt S w) (v : Vl) (i : Int) (d0 : decide (i < 0) = false) (d1 : decide ((x.globs.length : Int) ≤ i) = true) :
    Calls prog 38 #[.agg cs.toArray, .int .i64 i, .agg #[.int .i64 v.t, .int .u64 v.n]] w (RfTo S x (.bool false) w) := by
 obtain ⟨F0, G0, G1, G2⟩ := bx1 w cs #[.int .i64 v.t, .int .u64 v.n] 57 z10 39
 exact yy11
theorem kGb {w : World} {S : Nat → Prop} {x : Rx} {cs : LV} (h : tRx.rd w S cs x) (hS : Lt S w) (v : Vl) (y : Rg) (k : Nat) (hk : k < x.globs.length) (hy : x.globs[k]? = some y) (d3 : (v.t != y.t.val) = true) :
    Calls prog 38 #[.agg cs.toArray, .int .i64 (k : Nat), .agg #[.int .i64 v.t, .int .u64 v.n]] w (RfTo S x (.bool false) w) := by
 obtain ⟨F0, G0, G1, G2⟩ := bx1 w cs #[.int .i64 v.t, .int .u64 v.n] 57 z10 39
 have H := hid h
 have HS := hid hS
 have HCL := hid (rx_one h)
 obtain ⟨A6, c6, e6, -, -, EG6⟩ := Rx_g6 H.o
 have HE6 := hid e6
 clear e6
 have HK := hid hk
 have i0 := nki k
 have i1 : (k : Int) < x.globs.length := om
 have d0 : decide ((k : Int) < 0) = false := by simp
 clear hk
 obtain ⟨b, o, eA6, hb, yy0, -⟩ := kDO EG6 k HK.o
 have EA6 := hid eA6
 have hyy : x.globs[k]'HK.o = y := by
     exact yy77
 rw [hyy] at yy0
 have HY : Hid (∀ X, Fr No w X → Ce X b (o + k * 4) (.int .i64 y.t.val)) := fun X f0 => (f0.cell (p := ⟨b, o + k * 4, none⟩) (HS.o _ hb) id).trans yy0
 have i9 : decide (x.globs.length ≤ k) = false := by have := HK.o; simp; omega
 clear eA6 hyy yy0 hb hy
 clear h hS
 go_enter func38, ntmps38
 go_upto_region 1 with fail
 generalize (((w.alloc (.cells cs.toArray 39)).alloc (.cells #[.int .i64 v.t, .int .u64 v.n] 57)).alloc (.cells z10 39)) = W0 at *
 have HX : Hid (∀ X, Fr No W0 X → Ce X (w.heap.size + 1) 0 (.int .i64 v.t) ∧ Ce X (w.heap.size + 1) 1 (.int .u64 v.n) ∧ Ce X w.heap.size 6 (.slice (some ⟨b, o, none⟩) x.globs.length c6) ∧ Ce X b (o + k * 4) (.int .i64 y.t.val)) := fun X f => ⟨(G1.o.fr f id).cell 0, (G1.o.fr f id).cell 1, (by rw [← EA6.o]; exact (G0.o.fr f id).at_ HE6.o), HY.o _ (F0.o.trans f i3)⟩
 refine rwO (fun X => Ce X (w.heap.size + 1) 0 (.int .i64 v.t) ∧ Ce X (w.heap.size + 1) 1 (.int .u64 v.n) ∧ Ce X w.heap.size 6 (.slice (some ⟨b, o, none⟩) x.globs.length c6) ∧ Ce X b (o + k * 4) (.int .i64 y.t.val)) [] (List.range 26) [23] (HX.o _ (Fr.refl No _).drew) ?_
 refine rC ?_
 refine wpO_skipE rfl rfl (HX.o _ (Fr.refl No _).drew) ?_
 simp only [List.getElem_toArray, List.getElem_cons_succ, List.getElem_cons_zero, Act.put, List.setIfInBounds_toArray, List.set_cons_zero, List.set_cons_succ]
 refine rC ?_
 refine wpO_nil ?_
 replace F0 := hid F0.o.drew
 replace G0 := hid G0.o.drew
 replace G1 := hid G1.o.drew
 replace G2 := hid G2.o.drew
 clear HX
 generalize W0.drew = W at *
 go_upto_region 2 with fail
 exact yy14
theorem kGa {w : World} {S : Nat → Prop} {x : Rx} {cs : LV} (h : tRx.rd w S cs x) (hS : Lt S w) (v : Vl) (y : Rg) (k : Nat) (hk : k < x.globs.length) (hy : x.globs[k]? = some y) (d3 : (v.t != y.t.val) = false) (hv : vlB v = false) :
    Calls prog 38 #[.agg cs.toArray, .int .i64 (k : Nat), .agg #[.int .i64 v.t, .int .u64 v.n]] w (RfTo S x (.bool false) w) := by
 obtain ⟨F0, G0, G1, G2⟩ := bx1 w cs #[.int .i64 v.t, .int .u64 v.n] 57 z10 39
 have H := hid h
 have HS := hid hS
 have HCL := hid (rx_one h)
 have HV3 := hid hv
 clear hv
 obtain ⟨A6, c6, e6, -, -, EG6⟩ := Rx_g6 H.o
 have HE6 := hid e6
 clear e6
 have HK := hid hk
 have i0 := nki k
 have i1 : (k : Int) < x.globs.length := om
 have d0 : decide ((k : Int) < 0) = false := by simp
 clear hk
 obtain ⟨b, o, eA6, hb, yy0, -⟩ := kDO EG6 k HK.o
 have EA6 := hid eA6
 have hyy : x.globs[k]'HK.o = y := by
     exact yy77
 rw [hyy] at yy0
 have HY : Hid (∀ X, Fr No w X → Ce X b (o + k * 4) (.int .i64 y.t.val)) := fun X f0 => (f0.cell (p := ⟨b, o + k * 4, none⟩) (HS.o _ hb) id).trans yy0
 have i9 : decide (x.globs.length ≤ k) = false := by have := HK.o; simp; omega
 clear eA6 hyy yy0 hb hy
 clear h hS
 go_enter func38, ntmps38
 go_upto_region 1 with fail
 generalize (((w.alloc (.cells cs.toArray 39)).alloc (.cells #[.int .i64 v.t, .int .u64 v.n] 57)).alloc (.cells z10 39)) = W0 at *
 have HX : Hid (∀ X, Fr No W0 X → Ce X (w.heap.size + 1) 0 (.int .i64 v.t) ∧ Ce X (w.heap.size + 1) 1 (.int .u64 v.n) ∧ Ce X w.heap.size 6 (.slice (some ⟨b, o, none⟩) x.globs.length c6) ∧ Ce X b (o + k * 4) (.int .i64 y.t.val)) := fun X f => ⟨(G1.o.fr f id).cell 0, (G1.o.fr f id).cell 1, (by rw [← EA6.o]; exact (G0.o.fr f id).at_ HE6.o), HY.o _ (F0.o.trans f i3)⟩
 refine rwO (fun X => Ce X (w.heap.size + 1) 0 (.int .i64 v.t) ∧ Ce X (w.heap.size + 1) 1 (.int .u64 v.n) ∧ Ce X w.heap.size 6 (.slice (some ⟨b, o, none⟩) x.globs.length c6) ∧ Ce X b (o + k * 4) (.int .i64 y.t.val)) [] (List.range 26) [23] (HX.o _ (Fr.refl No _).drew) ?_
 refine rC ?_
 refine wpO_eff rfl rfl fun K hK => sz ?_
 refine (kBe v _).mono ?_
 rintro e W ⟨rfl, f3⟩
 rw [HV3.o]
 replace F0 := hid (F0.o.drew.trans f3 i3)
 replace G0 := hid (G0.o.drew.fr f3 id)
 replace G1 := hid (G1.o.drew.fr f3 id)
 replace G2 := hid (G2.o.drew.fr f3 id)
 refine hK _ _ (fun _ => HX.o _ ((Fr.refl No W0).drew.trans f3 i3)) ?_
 clear hK K f3
 refine rC ?_
 refine wpO_nil ?_
 clear HX
 go_upto_region 2 with fail
 exact yy14
theorem kFz {w : World} {S : Nat → Prop} {x : Rx} {cs : LV} (h : tRx.rd w S cs x) (hS : Lt S w) (v : Vl) (y : Rg) (k : Nat) (hk : k < x.globs.length) (he : tRg.rd w S [.int .i64 y.t.val, .bool y.t.mut_, .int .i64 v.t, .int .u64 v.n] ⟨y.t, v⟩) (hy : x.globs[k]? = some y) (d3 : (v.t != y.t.val) = false) (hv : vlB v = true) (hn : x.globs.length ≤ 1000000) :
    Calls prog 38 #[.agg cs.toArray, .int .i64 (k : Nat), .agg #[.int .i64 v.t, .int .u64 v.n]] w (RfTo S { x with globs := x.globs.set k ⟨y.t, v⟩ } (.bool true) w) := by
 obtain ⟨F0, G0, G1, G2⟩ := bx1 w cs #[.int .i64 v.t, .int .u64 v.n] 57 z10 39
 obtain ⟨A6, c6, e6, -, -, E6⟩ := Rx_g6 h
 obtain ⟨css, hcs, hrd⟩ := kAY E6 hS
 have HC := hid (And.intro hcs hrd)
 have H := hid h
 have HS := hid hS
 have HE6 := hid e6
 have HK := hid hk
 have i0 := nki k
 have i1 : (k : Int) < x.globs.length := om
 have d0 : decide ((k : Int) < 0) = false := by simp
 clear hk
 have HE := hid he
 clear he
 have HV3 := hid hv
 clear hv
 have EG6 := E6
 have HYY : Hid (x.globs[k]'HK.o = y) := by
     exact yy77
 obtain ⟨b, o, eA6, hb, yy0, -⟩ := kDO EG6 k HK.o
 have EA6 := hid eA6
 have hyy : x.globs[k]'HK.o = y := by
     exact yy77
 rw [hyy] at yy0
 have HY : Hid (∀ X, Fr No w X → Ce X b (o + k * 4) (.int .i64 y.t.val)) := fun X f0 => (f0.cell (p := ⟨b, o + k * 4, none⟩) (HS.o _ hb) id).trans yy0
 have i9 : decide (x.globs.length ≤ k) = false := by have := HK.o; simp; omega
 clear eA6 hyy yy0 hb hy
 clear hcs hrd h hS e6 E6
 have HN := hid hn
 go_enter func38, ntmps38
 go_upto_region 1 with fail
 generalize (((w.alloc (.cells cs.toArray 39)).alloc (.cells #[.int .i64 v.t, .int .u64 v.n] 57)).alloc (.cells z10 39)) = W0 at *
 have HX : Hid (∀ X, Fr No W0 X → Ce X (w.heap.size + 1) 0 (.int .i64 v.t) ∧ Ce X (w.heap.size + 1) 1 (.int .u64 v.n) ∧ Ce X w.heap.size 6 (.slice (some ⟨b, o, none⟩) x.globs.length c6) ∧ Ce X b (o + k * 4) (.int .i64 y.t.val)) := fun X f => ⟨(G1.o.fr f id).cell 0, (G1.o.fr f id).cell 1, (by rw [← EA6.o]; exact (G0.o.fr f id).at_ HE6.o), HY.o _ (F0.o.trans f i3)⟩
 refine rwO (fun X => Ce X (w.heap.size + 1) 0 (.int .i64 v.t) ∧ Ce X (w.heap.size + 1) 1 (.int .u64 v.n) ∧ Ce X w.heap.size 6 (.slice (some ⟨b, o, none⟩) x.globs.length c6) ∧ Ce X b (o + k * 4) (.int .i64 y.t.val)) [] (List.range 26) [23] (HX.o _ (Fr.refl No _).drew) ?_
 refine rC ?_
 refine wpO_eff rfl rfl fun K hK => sz ?_
 refine (kBe v _).mono ?_
 rintro e W ⟨rfl, f3⟩
 rw [HV3.o]
 replace F0 := hid (F0.o.drew.trans f3 i3)
 replace G0 := hid (G0.o.drew.fr f3 id)
 replace G1 := hid (G1.o.drew.fr f3 id)
 replace G2 := hid (G2.o.drew.fr f3 id)
 refine hK _ _ (fun _ => HX.o _ ((Fr.refl No W0).drew.trans f3 i3)) ?_
 clear hK K f3
 refine rC ?_
 refine wpO_nil ?_
 clear HX
 go_upto_region 4 with fail
 have HSS : Hid (∀ k, S k → k < W.heap.size ∧ ¬ k = w.heap.size ∧ ¬ k = w.heap.size + 1 + 1 ∧ (S k ∨ w.heap.size ≤ k)) := fun k hk => ⟨ltl (HS.o k hk) F0.o.size, by have := HS.o k hk; omega, by have := HS.o k hk; omega, .inl hk⟩
 have HCW := hid (And.intro ((HC.o.1.fr F0.o (fun k hk => ⟨HS.o k hk, fun x => x⟩))) (HC.o.2.frNo F0.o))
 have HEW := hid (kAH HE.o F0.o HS.o i2)
 have z := G0.o.at_ HE6.o
 go_upto_region 5 with (first | (at_builtin; refine app0 elRg HCW.o (by have := HN.o; omega) dc (fun k hk => (HSS.o k hk).1) ?_; intro v1 w1 hr1 f1; have R1 := hid hr1; have FW1 := hid f1; clear hr1 f1 HCW z) | fail)
 have FT1 := ftr F0 FW1.o
 replace G0 := hid (G0.o.fr FW1.o id)
 replace G1 := hid (G1.o.fr FW1.o id)
 replace G2 := hid (G2.o.fr FW1.o id)
 have z0_0 := G1.o.cell 0
 have z0_1 := G1.o.cell 1
 obtain ⟨gq, cg, hg, _⟩ := kBF R1.o (by have := HK.o; simp; omega)
 subst hg
 rw [List.nil_append] at R1
 have HT := hid (kBD R1.o k HK.o)
 have HO1 := hid (R1.o.own (g := gq) rfl)
 clear z0_0 z0_1
 obtain ⟨b2, o2, eb, hb2, u0, u1, -⟩ := kDO (Ty.row.els' (S' := (· < w1.heap.size)) R1.o (fun q hq => ltl (HSS.o q hq).1 FW1.o.size) (fun q hq => by obtain ⟨_, cs', hb⟩ := R1.o.own hq; exact hb.lt)) k HK.o
 injection eb with eb
 injection eb with q1 q2 _
 subst q1 q2
 rw [Nat.zero_add] at u0 u1
 rw [HYY.o] at u0 u1
 have HX : Hid (∀ X, Fr No w1 X → Ce X gq (k * 4) (.int .i64 y.t.val) ∧ Ce X gq (k * 4 + 1) (.bool y.t.mut_) ∧ Ce X (w.heap.size + 1) 0 (.int .i64 v.t) ∧ Ce X (w.heap.size + 1) 1 (.int .u64 v.n)) := fun X f => ⟨(f.cell (p := ⟨gq, k * 4, none⟩) hb2 id).trans u0, (f.cell (p := ⟨gq, k * 4 + 1, none⟩) hb2 id).trans u1, (G1.o.fr f id).cell 0, (G1.o.fr f id).cell 1⟩
 clear u0 u1
 refine rwO (fun X => Ce X gq (k * 4) (.int .i64 y.t.val) ∧ Ce X gq (k * 4 + 1) (.bool y.t.mut_) ∧ Ce X (w.heap.size + 1) 0 (.int .i64 v.t) ∧ Ce X (w.heap.size + 1) 1 (.int .u64 v.n)) [10] (List.range 11) [10] (HX.o _ (Fr.refl No _).drew) ?_
 replace F0 := F0
 replace FW1 := hid FW1.o.drew
 replace FT1 := hid FT1.o.drew
 replace G0 := hid G0.o.drew
 replace G2 := hid G2.o.drew
 replace HT : Hid (w1.drew.there gq (k * tRg.size) tRg.size) := HT.o
 replace HO1 : Hid (W.heap.size ≤ gq ∧ ∃ cs, Blk w1.drew gq 187 cs) := HO1.o
 replace R1 : Hid (tRg.row w1.drew W.heap.size S 187 (.slice (some ⟨gq, 0, none⟩) x.globs.length cg) x.globs) := R1.o
 clear HX hb2
 generalize w1.drew = w1 at *
 refine rC ?_
 refine wpO_eff rfl rfl (fun K hK => ?_)
 simp only [List.getElem_toArray, List.getElem_cons_succ, List.getElem_cons_zero]
 refine wp_store_mid 187 _ _ (by rfl) gq (k * 4) #[.int .i64 y.t.val, .bool y.t.mut_, .int .i64 v.t, .int .u64 v.n] (by rfl) (by rfl) HT.o kr (by simp [Value.oneCell']) ?_
 refine hK _ _ (fun h => by cases h) ?_
 clear hK K
 refine wpO_nil ?_
 have FG := hid (Fr.setCells' (M := fun q => q = gq) (a := w1) (b := gq) (fun _ => rfl) [.int .i64 y.t.val, .bool y.t.mut_, .int .i64 v.t, .int .u64 v.n] (k * 4) w1 (Fr.refl _ w1))
 have R2 := hid (R1.o.set (w' := w1.setCells gq (k * 4) [.int .i64 y.t.val, .bool y.t.mut_, .int .i64 v.t, .int .u64 v.n]) (ds := [.int .i64 y.t.val, .bool y.t.mut_, .int .i64 v.t, .int .u64 v.n]) (x := ⟨y.t, v⟩) k HK.o ((inferInstance : TyOk tRg).keep _ _ _ _ _ (kAH HEW.o FW1.o (fun k hk => (HSS.o k hk).1) i2) (fun p hp => FG.o.cell (ltl (HSS.o _ hp).1 FW1.o.size) (fun e => by have := (HSS.o _ hp).1; have := HO1.o.1; omega))) (fun p hp => FG.o.cell (ltl (HSS.o _ hp).1 FW1.o.size) (fun e => by have := (HSS.o _ hp).1; have := HO1.o.1; omega)) (fun cur hb => Blk.setCells _ _ _ _ hb))
 have FW2 := hid (FW1.o.trans FG.o (fun q hq e => by have := HO1.o.1; omega))
 have NE : Hid (∀ (q : Nat) (t : TypeId) (cs : Array Value), Blk w1 q t cs → t ≠ 187 → ¬ q = gq) := fun q t cs hb hne => by obtain ⟨_, cs', h2⟩ := HO1.o; exact Blk.ne_ hb h2 hne
 replace G0 := hid (G0.o.fr FG.o (NE.o _ _ _ G0.o dc))
 replace G2 := hid (G2.o.fr FG.o (NE.o _ _ _ G2.o dc))
 clear NE R1 HT HEW FW1 FT1 HO1 FG G1
 generalize w1.setCells gq (k * 4) [.int .i64 y.t.val, .bool y.t.mut_, .int .i64 v.t, .int .u64 v.n] = w2 at *
 have FT2 := ftr F0 FW2.o
 obtain ⟨A', c', e2, l1, l2, E2⟩ := R2.o.els (S' := fun k => S k ∨ (Value.slice (some ⟨gq, 0, none⟩) x.globs.length cg).ownBlock = some k) (fun _ h => .inl h) (fun g hg => .inr hg)
 have e3 : (x.globs.set k ⟨y.t, v⟩).length = x.globs.length := by simp
 have HR := hid (And.intro (And.intro l1 l2) (And.intro E2 (fun g (e : (Value.slice (some ⟨gq, 0, none⟩) x.globs.length cg).ownBlock = some g) => R2.o.own e)))
 rw [e3] at e2
 injection e2 with q1 q2 q3
 subst q1 q3
 clear R2 l1 l2 E2
 have y := G0.o.frozen 6
 have y' := G0.o.at_ HE6.o
 go_upto_region 7 with fail
 clear y y'
 obtain ⟨N0, N1, HL2, HO2⟩ := setf G0.o G2.o om H.o 6 (.slice (some ⟨gq, 0, none⟩) (x.globs.length) cg) rfl
 go_wp2_with (first | refine ldX N0.o HL2.o ?_ | refine stX N1.o rfl HL2.o HO2.o ?_ | fail)
 exact ryes (rcore (x' := { x with globs := x.globs.set k ⟨y.t, v⟩ }) (t := tRg) (ys := x.globs.set k ⟨y.t, v⟩) (fun f hB l m e => kNH H.o f HS.o hB l m e) H.o FT2.o G0.o G2.o om HR.o e3 HSS.o (by have := FW2.o.size; omega) F0.o.size dc)
def RaTo {α : Type} (t : Ty α) (S : Nat → Prop) (x : α) (ok : Bool) (w : World) (e : Ending) (w' : World) : Prop :=
 ∃ ds, e = .returned (.tuple #[.agg ds.toArray, .bool ok]) ∧ t.rd w' S ds x ∧ Fr No w w'
theorem kBN {w w' : World} {b o : Nat} {ds : LV} (h : w.rangeAt b o ds) (f : Fr No w w') (hb : b < w.heap.size) : w'.rangeAt b o ds := fun j v hv => (f.cell (p := ⟨b, o + j, none⟩) hb id).trans (h j v hv)
def zRt : Rt := ⟨⟨0, ⟨0, 0, false⟩⟩, []⟩
def zRm : Rm := ⟨⟨0, 0, false⟩, []⟩
theorem zFi_rdR (w : World) (S : Nat → Prop) : tFi.rd w S [.slice none 0 0, .slice none 0 0, .int .i64 0, .int .i64 0] zFi := Fi_mk (a := zFi) nz nz (.inl rfl) nz nz (.inl rfl) rfl rfl
abbrev q9x10 : List Value := [.int .i64 0, .int .i64 0, .int .i64 0, .bool false, .slice none 0 0]
theorem zRt_rdR (w : World) (S : Nat → Prop) : tRt.rd w S q9x10 zRt := kNK (a := zRt) rfl rfl rfl nz nz (.inl rfl)
theorem zRm_rdR (w : World) (S : Nat → Prop) : tRm.rd w S [.int .i64 0, .int .i64 0, .bool false, .slice none 0 0] zRm := kGv (a := zRm) rfl rfl nz nz (.inl rfl)
section
variable {α : Type} {t : Ty α} [TyOk t] [TyMore t] {w W : World} {S : Nat → Prop} {x : α} {T : TypeId} {d : TypeDesc} {n q : Nat} {ds : LV} {fn : Func} {act : Act} {s u : Tmp} {ok : Bool}
theorem rafin (hu : prog.underlying T = some d) (hi : (prog.info? T).map (·.size) = some n) (F : Fr No w W) (hq : w.heap.size ≤ q) (th : W.there q 0 n) (hl : ds.length = n) (hr : ∀ {X}, Fr No w X → t.rd X S ds x)
    (hd : d.isRow = true := by rfl) (hf : fn.results = #[.cell s T, .tmp u] := by rfl) (hp : act.tmps.getD s undef = .pointer (some ⟨q, 0, none⟩) := by rfl) (hv : act.tmps.getD u undef = .bool ok := by rfl) (hdd : act.defers = [] := by rfl) :
    bodyPost prog fn (RaTo t S x ok w) .ret act (W.setCells q 0 ds) := by
 have FT := Fr.setCells' (a := w) (b := q) (M := No) (fun h => absurd h om) ds 0 W F
 exact bodyPost_ret (v := .tuple #[.agg ds.toArray, .bool ok]) (by rw [← hv]; exact results_wide hf _ _ q _ _ hp (World.rangeAt_setCells_same W q 0 ds (by rw [hl]; exact th)) hu hd (by rw [hl]; exact hi)) hdd ⟨ds, rfl, hr FT, FT⟩
end
abbrev q9x11 : Array Value := #[.slice none 0 0, .slice none 0 0, .int .i64 0, .int .i64 0]
theorem kKr {w : World} {S : Nat → Prop} {x : Rx} {cs : LV} (h : tRx.rd w S cs x) (hS : Lt S w) (i : Int) :
    Calls prog 47 #[.agg cs.toArray, .int .i64 i] w (RaTo tFi S (atD zFi x.funcs i).1 (atD zFi x.funcs i).2 w) := by
 obtain ⟨A, c, e, -, -, E⟩ := kKW h
 obtain ⟨F0, G0, G1⟩ := bx0 w cs q9x11 47
 have z := G0.o.at_ e
 have HI : Hid ((prog.info? 47).map (·.size) = some 4) := by unfold Hid; kernel_rfl
 have HS := hid hS
 clear h hS e
 rcases at_cases x.funcs i with ⟨k, hk, rfl⟩ | hi | ⟨hi0, hi⟩
 · rw [atD_yes hk]
   have i0 := nki k
   have i1 : (k : Int) < x.funcs.length := om
   have d0 : decide ((k : Int) < 0) = false := by simp
   obtain ⟨b, o, ds, eA, hb, hc, hr⟩ := E.at_ k hk
   subst eA
   have HL : Hid (ds.length = 4) := TyOk.len _ _ _ _ hr
   have RQ : Hid (∀ {X}, Fr No w X → X.rangeAt b (o + k * 4) ds) := fun f => kBN (fun j u hu => by have := hc j u hu; rwa [← Nat.add_assoc] at this) f (HS.o _ hb)
   have HR := hid hr
   clear hc hr hb E
   go_enter func47, ntmps47
   go_upto_region 3 with fail
   generalize ((w.alloc (.cells cs.toArray 39)).alloc (.cells q9x11 47)) = W at *
   have HT : Hid (W.there (w.heap.size + 1) 0 4) := there_blk G1.o rfl
   go_wp2_with (first | refine ldG underlying47 HI.o (RQ.o F0.o) HL.o ?_ | refine stG HI.o HT.o HL.o (List.all_eq_true.2 ((inferInstance : kAG tFi).one _ _ _ _ HR.o)) ?_ | fail)
   exact rafin underlying47 HI.o F0.o om HT.o HL.o (fun f => kAH HR.o f HS.o i2)
 · rw [atD_no (.inl hi)]
   have d0 : decide (i < 0) = true := by simp [hi]
   exact yy52
 rw [atD_no (.inr hi)]
 have d0 : decide (i < 0) = false := by simp; omega
 have d1 : decide ((x.funcs.length : Int) ≤ i) = true := by simp; omega
 exact yy52
abbrev q9x9 : Array Value := #[.int .i64 0, .int .i64 0, .int .i64 0, .bool false, .slice none 0 0]
theorem kCi {w : World} {S : Nat → Prop} {x : Rx} {cs : LV} (h : tRx.rd w S cs x) (hS : Lt S w) (i : Int) :
    Calls prog 60 #[.agg cs.toArray, .int .i64 i] w (RaTo tRt S (atD zRt x.tabs i).1 (atD zRt x.tabs i).2 w) := by
 obtain ⟨A, c, e, -, -, E⟩ := kNJ h
 obtain ⟨F0, G0, G1⟩ := bx0 w cs q9x9 170
 have z := G0.o.at_ e
 have HI : Hid ((prog.info? 170).map (·.size) = some 5) := by unfold Hid; kernel_rfl
 have HS := hid hS
 clear h hS e
 rcases at_cases x.tabs i with ⟨k, hk, rfl⟩ | hi | ⟨hi0, hi⟩
 · rw [atD_yes hk]
   have i0 := nki k
   have i1 : (k : Int) < x.tabs.length := om
   have d0 : decide ((k : Int) < 0) = false := by simp
   obtain ⟨b, o, ds, eA, hb, hc, hr⟩ := E.at_ k hk
   subst eA
   have HL : Hid (ds.length = 5) := TyOk.len _ _ _ _ hr
   have RQ : Hid (∀ {X}, Fr No w X → X.rangeAt b (o + k * 5) ds) := fun f => kBN (fun j u hu => by have := hc j u hu; rwa [← Nat.add_assoc] at this) f (HS.o _ hb)
   have HR := hid hr
   clear hc hr hb E
   go_enter func60, ntmps60
   go_upto_region 3 with fail
   generalize ((w.alloc (.cells cs.toArray 39)).alloc (.cells q9x9 170)) = W at *
   have HT : Hid (W.there (w.heap.size + 1) 0 5) := there_blk G1.o rfl
   go_wp2_with (first | refine ldG underlying170 HI.o (RQ.o F0.o) HL.o ?_ | refine stG HI.o HT.o HL.o (List.all_eq_true.2 ((inferInstance : kAG tRt).one _ _ _ _ HR.o)) ?_ | fail)
   exact rafin underlying170 HI.o F0.o om HT.o HL.o (fun f => kAH HR.o f HS.o i2)
 · rw [atD_no (.inl hi)]
   have d0 : decide (i < 0) = true := by simp [hi]
   exact yy57
 rw [atD_no (.inr hi)]
 have d0 : decide (i < 0) = false := by simp; omega
 have d1 : decide ((x.tabs.length : Int) ≤ i) = true := by simp; omega
 exact yy57
theorem kBd {w : World} {S : Nat → Prop} {x : Rx} {cs : LV} (h : tRx.rd w S cs x) (hS : Lt S w) (i : Int) :
    Calls prog 42 #[.agg cs.toArray, .int .i64 i] w (RaTo tRm S (atD zRm x.mems i).1 (atD zRm x.mems i).2 w) := by
 obtain ⟨A, c, e, -, -, E⟩ := kKV h
 obtain ⟨F0, G0, G1⟩ := bx0 w cs #[.int .i64 0, .int .i64 0, .bool false, .slice none 0 0] 143
 have z := G0.o.at_ e
 have HI : Hid ((prog.info? 143).map (·.size) = some 4) := by unfold Hid; kernel_rfl
 have HS := hid hS
 clear h hS e
 rcases at_cases x.mems i with ⟨k, hk, rfl⟩ | hi | ⟨hi0, hi⟩
 · rw [atD_yes hk]
   have i0 := nki k
   have i1 : (k : Int) < x.mems.length := om
   have d0 : decide ((k : Int) < 0) = false := by simp
   obtain ⟨b, o, ds, eA, hb, hc, hr⟩ := E.at_ k hk
   subst eA
   have HL : Hid (ds.length = 4) := TyOk.len _ _ _ _ hr
   have RQ : Hid (∀ {X}, Fr No w X → X.rangeAt b (o + k * 4) ds) := fun f => kBN (fun j u hu => by have := hc j u hu; rwa [← Nat.add_assoc] at this) f (HS.o _ hb)
   have HR := hid hr
   clear hc hr hb E
   go_enter func42, ntmps42
   go_upto_region 3 with fail
   generalize ((w.alloc (.cells cs.toArray 39)).alloc (.cells #[.int .i64 0, .int .i64 0, .bool false, .slice none 0 0] 143)) = W at *
   have HT : Hid (W.there (w.heap.size + 1) 0 4) := there_blk G1.o rfl
   go_wp2_with (first | refine ldG underlying143 HI.o (RQ.o F0.o) HL.o ?_ | refine stG HI.o HT.o HL.o (List.all_eq_true.2 ((inferInstance : kAG tRm).one _ _ _ _ HR.o)) ?_ | fail)
   exact rafin underlying143 HI.o F0.o om HT.o HL.o (fun f => kAH HR.o f HS.o i2)
 · rw [atD_no (.inl hi)]
   have d0 : decide (i < 0) = true := by simp [hi]
   exact yy48
 rw [atD_no (.inr hi)]
 have d0 : decide (i < 0) = false := by simp; omega
 have d1 : decide ((x.mems.length : Int) ≤ i) = true := by simp; omega
 exact yy48
def kGw {α : Type} (t : Ty α) (S : Nat → Prop) (l : List α) (ok : Bool) (w : World) (e : Ending) (w' : World) : Prop :=
 ∃ (A : OA) (c : Nat), e = .returned (.tuple #[.slice A l.length c, .bool ok]) ∧ l.length ≤ c ∧ c ≤ maxLen ∧ t.els w' S A l ∧ Fr No w w'
def elR (l : List Rs) (i : Int) : List Int × Bool := match getI l i with
 | none => ([], false)
 | some y => (if y.gone then [] else y.l, true)
def daR (l : List Rb) (i : Int) : List Int × Bool := match getI l i with
 | none => ([], false)
 | some y => (if y.gone then [] else y.b, true)
theorem kKs {w : World} {S : Nat → Prop} {x : Rx} {cs : LV} (h : tRx.rd w S cs x) (hS : Lt S w) (i : Int) :
    Calls prog 52 #[.agg cs.toArray, .int .i64 i] w (kGw tU S (elR x.elems i).1 (elR x.elems i).2 w) := by
 obtain ⟨A, c, e, -, -, E⟩ := kGu h
 have F0 := hid ((Fr.refl No w).alloc (.cells cs.toArray 39))
 have z := (Blk.new w 39 cs.toArray).at_ e
 have HS := hid hS
 clear h hS e
 unfold elR
 rcases at_cases x.elems i with ⟨k, hk, rfl⟩ | hi | ⟨hi0, hi⟩
 · rw [getI_yes hk]
   have i0 := nki k
   have i1 : (k : Int) < x.elems.length := om
   have d0 : decide ((k : Int) < 0) = false := by simp
   obtain ⟨b, o, B, d, eA, hb, y0, y1, l1, l2, el⟩ := kKX E k hk
   subst eA
   have u0 := (F0.o.cell (p := ⟨b, o + k * 2, none⟩) (HS.o _ hb) id).trans y0
   have u1 := (F0.o.cell (p := ⟨b, o + k * 2 + 1, none⟩) (HS.o _ hb) id).trans y1
   clear y0 y1 hb E
   simp only
   generalize x.elems[k] = y at *
   have HEL := hid (And.intro l1 (And.intro l2 el))
   clear el l1 l2
   cases hg : y.gone
   all_goals
    rw [hg] at u1
    clear hg
    go_enter func52, ntmps52
    go_upto_region 1 with fail
    generalize (w.alloc (.cells cs.toArray 39)) = W at *
    go_wp2
    go_ret2
   · exact ⟨_, _, rfl, HEL.o.1, HEL.o.2.1, kAA HEL.o.2.2 F0.o HS.o i2, F0.o⟩
   exact ⟨_, _, rfl, nz, nz, .inl rfl, F0.o⟩
 · rw [getI_no (.inl hi)]
   have d0 : decide (i < 0) = true := by simp [hi]
   clear hi E
   go_enter func52, ntmps52
   exact yy53
 rw [getI_no (.inr hi)]
 have d0 : decide (i < 0) = false := by simp; omega
 have d1 : decide ((x.elems.length : Int) ≤ i) = true := by simp; omega
 clear hi E
 go_enter func52, ntmps52
 exact yy53
theorem kKt {w : World} {S : Nat → Prop} {x : Rx} {cs : LV} (h : tRx.rd w S cs x) (hS : Lt S w) (i : Int) :
    Calls prog 54 #[.agg cs.toArray, .int .i64 i] w (kGw tB S (daR x.datas i).1 (daR x.datas i).2 w) := by
 obtain ⟨A, c, e, -, -, E⟩ := kGt h
 have F0 := hid ((Fr.refl No w).alloc (.cells cs.toArray 39))
 have z := (Blk.new w 39 cs.toArray).at_ e
 have HS := hid hS
 clear h hS e
 unfold daR
 rcases at_cases x.datas i with ⟨k, hk, rfl⟩ | hi | ⟨hi0, hi⟩
 · rw [getI_yes hk]
   have i0 := nki k
   have i1 : (k : Int) < x.datas.length := om
   have d0 : decide ((k : Int) < 0) = false := by simp
   obtain ⟨b, o, B, d, eA, hb, y0, y1, l1, l2, el⟩ := kKY E k hk
   subst eA
   have u0 := (F0.o.cell (p := ⟨b, o + k * 2, none⟩) (HS.o _ hb) id).trans y0
   have u1 := (F0.o.cell (p := ⟨b, o + k * 2 + 1, none⟩) (HS.o _ hb) id).trans y1
   clear y0 y1 hb E
   simp only
   generalize x.datas[k] = y at *
   have HEL := hid (And.intro l1 (And.intro l2 el))
   clear el l1 l2
   cases hg : y.gone
   all_goals
    rw [hg] at u1
    clear hg
    go_enter func54, ntmps54
    go_upto_region 1 with fail
    generalize (w.alloc (.cells cs.toArray 39)) = W at *
    go_wp2
    go_ret2
   · exact ⟨_, _, rfl, HEL.o.1, HEL.o.2.1, kAA HEL.o.2.2 F0.o HS.o i2, F0.o⟩
   exact ⟨_, _, rfl, nz, nz, .inl rfl, F0.o⟩
 · rw [getI_no (.inl hi)]
   have d0 : decide (i < 0) = true := by simp [hi]
   clear hi E
   go_enter func54, ntmps54
   exact yy53
 rw [getI_no (.inr hi)]
 have d0 : decide (i < 0) = false := by simp; omega
 have d1 : decide ((x.datas.length : Int) ≤ i) = true := by simp; omega
 clear hi E
 go_enter func54, ntmps54
 exact yy53
def RqTo (y : Rg) (ok : Bool) (w : World) (e : Ending) (w' : World) : Prop :=
 e = .returned (.tuple #[.agg #[.int .i64 y.t.val, .bool y.t.mut_], .agg #[.int .i64 y.v.t, .int .u64 y.v.n], .bool ok]) ∧ Fr No w w'
theorem kIR {w : World} {S : Nat → Prop} {x : Rx} {cs : LV} (h : tRx.rd w S cs x) (hS : Lt S w) (k : Nat) (hk : k < x.globs.length) :
    Calls prog 50 #[.agg cs.toArray, .int .i64 (k : Nat)] w (RqTo x.globs[k] true w) := by
 obtain ⟨A6, c6, e6, -, -, E6⟩ := Rx_g6 h
 obtain ⟨F0, G0, G1, G2⟩ := bx1 w cs #[.int .i64 0, .bool false] 54 #[.int .i64 0, .int .u64 0] 57
 have z := G0.o.at_ e6
 have i0 := nki k
 have i1 : (k : Int) < x.globs.length := om
 have d0 : decide ((k : Int) < 0) = false := by simp
 have HE6 := hid e6
 obtain ⟨b, o, eA, hb, y0, y1, y2, y3, -⟩ := kDO E6 k hk
 subst eA
 generalize x.globs[k] = y at *
 have HB := hid (hS _ hb)
 have u0 := hid ((F0.o.cell (p := ⟨b, o + k * 4, none⟩) HB.o id).trans y0)
 have u1 := hid ((F0.o.cell (p := ⟨b, o + k * 4 + 1, none⟩) HB.o id).trans y1)
 have u2 := hid ((F0.o.cell (p := ⟨b, o + k * 4 + 2, none⟩) HB.o id).trans y2)
 have u3 := hid ((F0.o.cell (p := ⟨b, o + k * 4 + 3, none⟩) HB.o id).trans y3)
 clear y0 y1 y2 y3 h hS hb E6 e6
 go_enter func50, ntmps50
 go_upto_region 3 with fail
 generalize (((w.alloc (.cells cs.toArray 39)).alloc (.cells #[.int .i64 0, .bool false] 54)).alloc (.cells #[.int .i64 0, .int .u64 0] 57)) = W at *
 clear z
 have HNB : Hid (b < W.heap.size ∧ ¬ Two (w.heap.size + 1) (w.heap.size + 1 + 1) b) := ⟨ltl HB.o F0.o.size, by have := HB.o; rintro (h | h) <;> omega⟩
 have HX : Hid (∀ X, Fr (Two (w.heap.size + 1) (w.heap.size + 1 + 1)) W X → Ce X w.heap.size 6 (.slice (some ⟨b, o, none⟩) x.globs.length c6) ∧ Ce X b (o + k * 4) (.int .i64 y.t.val) ∧ Ce X b (o + k * 4 + 1) (.bool y.t.mut_) ∧ Ce X b (o + k * 4 + 2) (.int .i64 y.v.t) ∧ Ce X b (o + k * 4 + 3) (.int .u64 y.v.n)) := fun X f => ⟨(G0.o.fr f (by rintro (h | h) <;> omega)).at_ HE6.o, (f.cell (p := ⟨b, o + k * 4, none⟩) HNB.o.1 HNB.o.2).trans u0.o, (f.cell (p := ⟨b, o + k * 4 + 1, none⟩) HNB.o.1 HNB.o.2).trans u1.o, (f.cell (p := ⟨b, o + k * 4 + 2, none⟩) HNB.o.1 HNB.o.2).trans u2.o, (f.cell (p := ⟨b, o + k * 4 + 3, none⟩) HNB.o.1 HNB.o.2).trans u3.o⟩
 have T1 : Hid (W.drew.there (w.heap.size + 1) 0 2) := there_blk G1.o.drew rfl
 refine rwO (fun X => Ce X w.heap.size 6 (.slice (some ⟨b, o, none⟩) x.globs.length c6) ∧ Ce X b (o + k * 4) (.int .i64 y.t.val) ∧ Ce X b (o + k * 4 + 1) (.bool y.t.mut_) ∧ Ce X b (o + k * 4 + 2) (.int .i64 y.v.t) ∧ Ce X b (o + k * 4 + 3) (.int .u64 y.v.n)) [] (List.range 15) [12, 13] (HX.o _ (Fr.refl _ _).drew) ?_
 refine rC ?_
 refine wpO_eff rfl rfl (fun K hK => ?_)
 simp only [List.getElem_toArray, List.getElem_cons_succ, List.getElem_cons_zero]
 refine wp_store_mid 54 _ _ (by rfl) (w.heap.size + 1) 0 #[.int .i64 y.t.val, .bool y.t.mut_] (by rfl) (by rfl) T1.o kr (by simp [Value.oneCell']) ?_
 have FX1 := hid (Fr.setCells' (M := Two (w.heap.size + 1) (w.heap.size + 1 + 1)) (b := w.heap.size + 1) (fun _ => .inl rfl) [.int .i64 y.t.val, .bool y.t.mut_] 0 _ (Fr.refl _ W).drew)
 have FT1 := hid (Fr.setCells' (a := w) (M := No) (b := w.heap.size + 1) (fun h => absurd h om) [.int .i64 y.t.val, .bool y.t.mut_] 0 _ F0.o.drew)
 have N1 : Hid (Blk (W.drew.setCells (w.heap.size + 1) 0 [.int .i64 y.t.val, .bool y.t.mut_]) (w.heap.size + 1) 54 #[.int .i64 y.t.val, .bool y.t.mut_]) := (G1.o.drew.set_ 0 _).set_ 1 _
 have N2 : Hid (Blk (W.drew.setCells (w.heap.size + 1) 0 [.int .i64 y.t.val, .bool y.t.mut_]) (w.heap.size + 1 + 1) 57 #[.int .i64 0, .int .u64 0]) := (G2.o.drew.far (p := ⟨w.heap.size + 1, 0, none⟩) (by show w.heap.size + 1 + 1 ≠ w.heap.size + 1; omega) _).far (p := ⟨w.heap.size + 1, 1, none⟩) (by show w.heap.size + 1 + 1 ≠ w.heap.size + 1; omega) _
 generalize W.drew.setCells (w.heap.size + 1) 0 [.int .i64 y.t.val, .bool y.t.mut_] = X1 at *
 refine hK _ _ (fun _ => HX.o _ FX1.o) ?_
 clear hK K
 refine wpO_eff rfl rfl (fun K hK => ?_)
 simp only [List.getElem_toArray, List.getElem_cons_succ, List.getElem_cons_zero]
 refine wp_store_mid 57 _ _ (by rfl) (w.heap.size + 1 + 1) 0 #[.int .i64 y.v.t, .int .u64 y.v.n] (by rfl) (by rfl) (there_blk N2.o rfl) kr (by simp [Value.oneCell']) ?_
 have FX2 := hid (Fr.setCells' (M := Two (w.heap.size + 1) (w.heap.size + 1 + 1)) (b := w.heap.size + 1 + 1) (fun _ => .inr rfl) [.int .i64 y.v.t, .int .u64 y.v.n] 0 _ FX1.o)
 have FT2 := hid (Fr.setCells' (a := w) (M := No) (b := w.heap.size + 1 + 1) (fun h => absurd h om) [.int .i64 y.v.t, .int .u64 y.v.n] 0 _ FT1.o)
 have M2 : Hid (Blk (X1.setCells (w.heap.size + 1 + 1) 0 [.int .i64 y.v.t, .int .u64 y.v.n]) (w.heap.size + 1 + 1) 57 #[.int .i64 y.v.t, .int .u64 y.v.n]) := (N2.o.set_ 0 _).set_ 1 _
 have M1 : Hid (Blk (X1.setCells (w.heap.size + 1 + 1) 0 [.int .i64 y.v.t, .int .u64 y.v.n]) (w.heap.size + 1) 54 #[.int .i64 y.t.val, .bool y.t.mut_]) := (N1.o.far (p := ⟨w.heap.size + 1 + 1, 0, none⟩) (by show w.heap.size + 1 ≠ w.heap.size + 1 + 1; omega) _).far (p := ⟨w.heap.size + 1 + 1, 1, none⟩) (by show w.heap.size + 1 ≠ w.heap.size + 1 + 1; omega) _
 generalize X1.setCells (w.heap.size + 1 + 1) 0 [.int .i64 y.v.t, .int .u64 y.v.n] = X2 at *
 refine hK _ _ (fun _ => HX.o _ FX2.o) ?_
 clear hK K
 refine rC ?_
 refine wpO_nil ?_
 have v0 := M1.o.cell 0
 have v1 := M1.o.cell 1
 have v2 := M2.o.cell 0
 have v3 := M2.o.cell 1
 go_wp2
 exact bodyPost_ret (v := .tuple #[.agg #[.int .i64 y.t.val, .bool y.t.mut_], .agg #[.int .i64 y.v.t, .int .u64 y.v.n], .bool true]) (by simp [results, Tryz.results50, go_sem, v0, v1, v2, v3]) rfl ⟨rfl, FT2.o⟩
theorem kJj {w : World} {S : Nat → Prop} {x : Rx} {cs : LV} (h : tRx.rd w S cs x) (hS : Lt S w) (i : Int) (d0 : decide (i < 0) = true) :
    Calls prog 50 #[.agg cs.toArray, .int .i64 i] w (RqTo zRg false w) := by
 obtain ⟨A6, c6, e6, -, -, E6⟩ := Rx_g6 h
 exact yy18
theorem kJi {w : World} {S : Nat → Prop} {x : Rx} {cs : LV} (h : tRx.rd w S cs x) (hS : Lt S w) (i : Int) (d0 : decide (i < 0) = false) (d1 : decide ((x.globs.length : Int) ≤ i) = true) :
    Calls prog 50 #[.agg cs.toArray, .int .i64 i] w (RqTo zRg false w) := by
 obtain ⟨A6, c6, e6, -, -, E6⟩ := Rx_g6 h
 exact yy18
theorem kIS {w : World} {S : Nat → Prop} {x : Rx} {cs : LV} (h : tRx.rd w S cs x) (hS : Lt S w) (i : Int) :
    Calls prog 50 #[.agg cs.toArray, .int .i64 i] w (RqTo (atD zRg x.globs i).1 (atD zRg x.globs i).2 w) := by
 rcases at_cases x.globs i with ⟨k, hk, rfl⟩ | hi | ⟨hi0, hi⟩
 · rw [atD_yes hk]; exact kIR h hS k hk
 · rw [atD_no (.inl hi)]; exact kJj h hS i (by simp [hi])
 rw [atD_no (.inr hi)]; exact kJi h hS i (by simp; omega) (by simp; omega)
def RiTo (S : Nat → Prop) (y : Ri) (ok : Bool) (w : World) (e : Ending) (w' : World) : Prop :=
 ∃ ms ns, e = .returned (.tuple #[.agg ms.toArray, .agg ns.toArray, .bool ok]) ∧ tMd.rd w' S ms y.m ∧ tAd.rd w' S ns y.a ∧ Fr No w w'
theorem kHC {P : Program} {ops : Array Oper} {Q : Exit → Act → World → Prop} {S : World → Prop} {d : Bool} {fins : List Nat} {i : Nat} {op : Oper} {r : List (Nat × Bool)} {a : Act} {w : World} (ho : ops[i]? = some op) (hw : Region.wanted op (yielded ops a.tmps) = true) (ty : TypeId) (x : Operand) (hop : op.op = .load ty x)
    (b q : Nat) (hx : a.eval x = .pointer (some ⟨b, q, none⟩)) (cs : LV) (dd : TypeDesc) (hc : ∀ X, S X → X.rangeAt b q cs) (hu : P.underlying ty = some dd) (hd : dd.isRow = true) (hi : (P.info? ty).map (·.size) = some cs.length)
    (h : wpO P ops Q S fins d r (a.put op.dst (.agg cs.toArray)) w) : wpO P ops Q S fins d ((i, true) :: r) a w :=
 kKd ho hw (fun X hX => by unfold execOp; simp only [hop, hx, Instr.loadAt, Instr.sureAddr, Sem.run_bind, Sem.run_pure, Result.andThen_ok, run_loadVar_mid X b q ty cs dd (hc X hX) hu hd hi]) h
theorem kCg {P : Program} {fn : Func} {p q t : Tmp} {ty tz : TypeId} (h : fn.results = #[.cell p ty, .cell q tz, .tmp t]) (tmps : Array Value) (w : World) (g g2 : Nat) (ds es : LV) (d d2 : TypeDesc)
    (hp : tmps.getD p undef = .pointer (some ⟨g, 0, none⟩)) (hq : tmps.getD q undef = .pointer (some ⟨g2, 0, none⟩)) (hr : w.rangeAt g 0 ds) (hr2 : w.rangeAt g2 0 es) (hu : P.underlying ty = some d) (hd : d.isRow = true) (hi : (P.info? ty).map (·.size) = some ds.length)
    (hu2 : P.underlying tz = some d2) (hd2 : d2.isRow = true) (hi2 : (P.info? tz).map (·.size) = some es.length) :
    (results fn tmps).run P w = .ok (.tuple #[.agg ds.toArray, .agg es.toArray, tmps.getD t undef]) w := by
 have hp' : tmps[p]?.getD undef = .pointer (some ⟨g, 0, none⟩) := by simpa using hp
 have hq' : tmps[q]?.getD undef = .pointer (some ⟨g2, 0, none⟩) := by simpa using hq
 simp [results, h, hp', hq', asAddr, run_loadVar_mid w g 0 ty ds d hr hu hd hi, run_loadVar_mid w g2 0 tz es d2 hr2 hu2 hd2 hi2]
abbrev q9x1 : Array Value := #[.slice none 0 0, .slice none 0 0, .slice none 0 0, .slice none 0 0, .slice none 0 0, .slice none 0 0, .slice none 0 0, .bool false, .int .i64 0, .slice none 0 0, .slice none 0 0, .slice none 0 0]
abbrev q9x5 : Array Value := #[.slice none 0 0, .slice none 0 0, .slice none 0 0, .slice none 0 0, .slice none 0 0, .slice none 0 0]
theorem kHS {w : World} {S : Nat → Prop} {x : Rx} {cs : LV} (h : tRx.rd w S cs x) (hS : Lt S w) (k : Nat) (hk : k < x.insts.length) :
    Calls prog 57 #[.agg cs.toArray, .int .i64 (k : Nat)] w (RiTo S x.insts[k] true w) := by
 obtain ⟨A9, c9, e9, -, -, E9⟩ := kFr h
 obtain ⟨F0, G0, G1, G2⟩ := bx1 w cs q9x1 71 q9x5 73
 have z := G0.o.at_ e9
 have i0 := nki k
 have i1 : (k : Int) < x.insts.length := om
 have d0 : decide ((k : Int) < 0) = false := by simp
 have i9 : decide (x.insts.length ≤ k) = false := by simp; omega
 obtain ⟨b, o, ds, eA, hb, hc, hr⟩ := E9.at_ k hk
 subst eA
 generalize x.insts[k] = y at *
 obtain ⟨e1, e2, rfl, hm, ha⟩ := hr
 have hm' : tMd.rd w S e1 y.m := hm
 have ha' : tAd.rd w S e2 y.a := ha
 have hl1 : e1.length = 12 := TyOk.len _ _ _ _ hm'
 have hl2 : e2.length = 6 := TyOk.len _ _ _ _ ha'
 have r1 : w.rangeAt b (o + k * 18) e1 := fun j u hu => by
  have := hc j u (by rw [List.getElem?_append_left (List.getElem?_eq_some_iff.1 hu).1]; exact hu)
  rwa [← Nat.add_assoc] at this
 have r2 : w.rangeAt b (o + k * 18 + 12) e2 := fun j u hu => by
  have := hc (12 + j) u (by rw [List.getElem?_append_right (by omega), hl1, Nat.add_sub_cancel_left]; exact hu)
  rw [show o + k * 18 + 12 + j = o + (k * tRi.size + (12 + j)) by show _ = o + (k * 18 + (12 + j)); omega]
  exact this
 have HM := hid hm'
 have HA := hid ha'
 have HR1 := hid r1
 have HR2 := hid r2
 have HL1 := hid hl1
 have HL2 := hid hl2
 clear hm ha hm' ha' hc r1 r2 hl1 hl2
 have HB := hid (hS _ hb)
 have HE9 := hid e9
 have HS := hid hS
 clear h hS hb e9 E9
 go_enter func57, ntmps57
 go_upto_region 3 with fail
 generalize (((w.alloc (.cells cs.toArray 39)).alloc (.cells q9x1 71)).alloc (.cells q9x5 73)) = W at *
 clear z
 have HNB : Hid (b < W.heap.size ∧ ¬ Two (w.heap.size + 1) (w.heap.size + 1 + 1) b) := ⟨ltl HB.o F0.o.size, by have := HB.o; rintro (h | h) <;> omega⟩
 have HX : Hid (∀ X, Fr (Two (w.heap.size + 1) (w.heap.size + 1 + 1)) W X → Ce X w.heap.size 9 (.slice (some ⟨b, o, none⟩) x.insts.length c9) ∧ X.rangeAt b (o + k * 18) e1 ∧ X.rangeAt b (o + k * 18 + 12) e2) := fun X f => ⟨(G0.o.fr f (by rintro (h | h) <;> omega)).at_ HE9.o, fun j v hv => (f.cell (p := ⟨b, o + k * 18 + j, none⟩) HNB.o.1 HNB.o.2).trans (kBN HR1.o F0.o HB.o j v hv), fun j v hv => (f.cell (p := ⟨b, o + k * 18 + 12 + j, none⟩) HNB.o.1 HNB.o.2).trans (kBN HR2.o F0.o HB.o j v hv)⟩
 have HI1 : Hid ((prog.info? 71).map (·.size) = some e1.length) := by unfold Hid; rw [HL1.o]; kernel_rfl
 have HI2 : Hid ((prog.info? 73).map (·.size) = some e2.length) := by unfold Hid; rw [HL2.o]; kernel_rfl
 have HO1 := hid (all_oneCell_toArray ((inferInstance : kAG tMd).one _ _ _ _ HM.o))
 have HO2 := hid (all_oneCell_toArray ((inferInstance : kAG tAd).one _ _ _ _ HA.o))
 have T1 : Hid (W.drew.there (w.heap.size + 1) 0 e1.toArray.size) := by have h := there_blk (n := 12) G1.o.drew rfl; rw [← HL1.o] at h; exact h
 refine rwO (fun X => Ce X w.heap.size 9 (.slice (some ⟨b, o, none⟩) x.insts.length c9) ∧ X.rangeAt b (o + k * 18) e1 ∧ X.rangeAt b (o + k * 18 + 12) e2) [] (List.range 15) [12, 13] (HX.o _ (Fr.refl _ _).drew) ?_
 iterate 5 (refine kCu rfl rfl ?_; simp only [zA]; apply Exists.intro; refine ⟨fun X hX => ?_, ?_⟩; (have s0 := hX.1; clear hX; go_simp; exact stillUpon_value); simp only [zC, Act.put])
 refine kHC rfl rfl 71 _ rfl b (o + k * 18) (by rfl) e1 _ (fun X hX => hX.2.1) underlying71 (by rfl) HI1.o ?_
 simp only [zA, zC, Act.put]
 iterate 5 (refine kCu rfl rfl ?_; simp only [zA]; apply Exists.intro; refine ⟨fun X hX => ?_, ?_⟩; (have s0 := hX.1; clear hX; go_simp; exact stillUpon_value); simp only [zC, Act.put])
 refine kHC rfl rfl 73 _ rfl b (o + k * 18 + 12) (by rfl) e2 _ (fun X hX => hX.2.2) underlying73 (by rfl) HI2.o ?_
 simp only [zA, zC, Act.put]
 refine wpO_eff rfl rfl (fun K hK => ?_)
 simp only [List.getElem_toArray, List.getElem_cons_succ, List.getElem_cons_zero]
 refine wp_store_mid 71 _ _ (by rfl) (w.heap.size + 1) 0 e1.toArray (by rfl) (by rfl) T1.o HI1.o HO1.o ?_
 have FX1 := hid (Fr.setCells' (M := Two (w.heap.size + 1) (w.heap.size + 1 + 1)) (b := w.heap.size + 1) (fun _ => .inl rfl) e1 0 _ (Fr.refl _ W).drew)
 have FT1 := hid (Fr.setCells' (a := w) (M := No) (b := w.heap.size + 1) (fun h => absurd h om) e1 0 _ F0.o.drew)
 have N1 : Hid ((W.drew.setCells (w.heap.size + 1) 0 e1).rangeAt (w.heap.size + 1) 0 e1) := World.rangeAt_setCells_same W.drew (w.heap.size + 1) 0 e1 T1.o
 have FY1 := hid (Fr.setCells' (M := fun q => q = w.heap.size + 1) (b := w.heap.size + 1) (fun _ => rfl) e1 0 _ (Fr.refl _ W).drew)
 have N2 := hid (G2.o.fr FY1.o om)
 have T2 : Hid ((W.drew.setCells (w.heap.size + 1) 0 e1).there (w.heap.size + 1 + 1) 0 e2.toArray.size) := by have h := there_blk (n := 6) N2.o rfl; rw [← HL2.o] at h; exact h
 clear FY1
 have e9 : e1.toArray.toList = e1 := rfl
 rw [e9]
 generalize W.drew.setCells (w.heap.size + 1) 0 e1 = X1 at *
 refine hK _ _ (fun _ => HX.o _ FX1.o) ?_
 clear hK K
 refine wpO_eff rfl rfl (fun K hK => ?_)
 simp only [List.getElem_toArray, List.getElem_cons_succ, List.getElem_cons_zero]
 refine wp_store_mid 73 _ _ (by rfl) (w.heap.size + 1 + 1) 0 e2.toArray (by rfl) (by rfl) T2.o HI2.o HO2.o ?_
 have FX2 := hid (Fr.setCells' (M := Two (w.heap.size + 1) (w.heap.size + 1 + 1)) (b := w.heap.size + 1 + 1) (fun _ => .inr rfl) e2 0 _ FX1.o)
 have FT2 := hid (Fr.setCells' (a := w) (M := No) (b := w.heap.size + 1 + 1) (fun h => absurd h om) e2 0 _ FT1.o)
 have FY2 := hid (Fr.setCells' (M := fun q => q = w.heap.size + 1 + 1) (b := w.heap.size + 1 + 1) (fun _ => rfl) e2 0 _ (Fr.refl _ X1))
 have M2 : Hid ((X1.setCells (w.heap.size + 1 + 1) 0 e2).rangeAt (w.heap.size + 1 + 1) 0 e2) := World.rangeAt_setCells_same X1 (w.heap.size + 1 + 1) 0 e2 T2.o
 have M1 : Hid ((X1.setCells (w.heap.size + 1 + 1) 0 e2).rangeAt (w.heap.size + 1) 0 e1) := fun j v hv => (FY2.o.cell (p := ⟨w.heap.size + 1, 0 + j, none⟩) (ltl (show w.heap.size + 1 < W.heap.size from G1.o.lt) FX1.o.size) (by show ¬ w.heap.size + 1 = w.heap.size + 1 + 1; omega)).trans (N1.o j v hv)
 clear FY2 N1 N2 e9
 have e9 : e2.toArray.toList = e2 := rfl
 rw [e9]
 generalize X1.setCells (w.heap.size + 1 + 1) 0 e2 = X2 at *
 refine hK _ _ (fun _ => HX.o _ FX2.o) ?_
 clear hK K
 refine rC ?_
 refine wpO_nil ?_
 clear HX e9
 go_wp2
 refine bodyPost_ret (v := .tuple #[.agg e1.toArray, .agg e2.toArray, .bool true]) (kCg (fn := f57) (p := 4) (q := 5) (t := 6) (ty := 71) (tz := 73) rfl _ _ (w.heap.size + 1) (w.heap.size + 1 + 1) _ _ _ _ (by rfl) (by rfl) M1.o M2.o underlying71 (by rfl) HI1.o underlying73 (by rfl) HI2.o) rfl ?_
 exact ⟨_, _, rfl, kAH HM.o FT2.o HS.o i2, kAH HA.o FT2.o HS.o i2, FT2.o⟩
abbrev q9x0 : Array Value := #[.agg #[.slice none 0 0, .slice none 0 0, .slice none 0 0, .slice none 0 0, .slice none 0 0, .slice none 0 0, .slice none 0 0, .bool false, .int .i64 0, .slice none 0 0, .slice none 0 0, .slice none 0 0], .agg #[.slice none 0 0, .slice none 0 0, .slice none 0 0, .slice none 0 0, .slice none 0 0, .slice none 0 0], .bool false]
abbrev q9x2 : List Value := [.slice none 0 0, .slice none 0 0, .slice none 0 0, .slice none 0 0, .slice none 0 0, .slice none 0 0, .slice none 0 0, .bool false, .int .i64 0, .slice none 0 0, .slice none 0 0, .slice none 0 0]
theorem kIU {w : World} {S : Nat → Prop} {x : Rx} {cs : LV} (h : tRx.rd w S cs x) (hS : Lt S w) (i : Int) (d0 : decide (i < 0) = true) :
    Calls prog 57 #[.agg cs.toArray, .int .i64 i] w (RiTo S zRi false w) := by
 obtain ⟨A9, c9, e9, -, -, E9⟩ := kFr h
 exact yy26
theorem kIT {w : World} {S : Nat → Prop} {x : Rx} {cs : LV} (h : tRx.rd w S cs x) (hS : Lt S w) (i : Int) (d0 : decide (i < 0) = false) (d1 : decide ((x.insts.length : Int) ≤ i) = true) :
    Calls prog 57 #[.agg cs.toArray, .int .i64 i] w (RiTo S zRi false w) := by
 obtain ⟨A9, c9, e9, -, -, E9⟩ := kFr h
 exact yy26
theorem kHT {w : World} {S : Nat → Prop} {x : Rx} {cs : LV} (h : tRx.rd w S cs x) (hS : Lt S w) (i : Int) :
    Calls prog 57 #[.agg cs.toArray, .int .i64 i] w (RiTo S (atD zRi x.insts i).1 (atD zRi x.insts i).2 w) := by
 rcases at_cases x.insts i with ⟨k, hk, rfl⟩ | hi | ⟨hi0, hi⟩
 · rw [atD_yes hk]; exact kHS h hS k hk
 · rw [atD_no (.inl hi)]; exact kIU h hS i (by simp [hi])
 rw [atD_no (.inr hi)]; exact kIT h hS i (by simp; omega) (by simp; omega)
end Go.Proofs.YtdckghiipijobaaGreat
