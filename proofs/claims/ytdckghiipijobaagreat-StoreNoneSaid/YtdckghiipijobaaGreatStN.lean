/- Contracts: AddGlobal, AddMem. -/
import Derived.Test.YtdckghiipijobaaGreatStM
namespace Go.Proofs.YtdckghiipijobaaGreat
open Go.RowKit

def rightB (v : Vl) (t : Int) : Bool := decide (v.t = t) && vlB v
set_option maxHeartbeats 800000 in
theorem right_any (v : Vl) (t : Int) (w : World) : Calls Tryz.prog 80 #[.agg #[.int .i64 v.t, .int .u64 v.n], .int .i64 t] w fun e w' => e = .returned (.bool (rightB v t)) ∧ Fr No w w' := by
  by_cases h : v.t = t
  · subst h
    cases hq : vlB v with
    | _ =>
      have HQ := hid hq
      clear hq
      have F0 := hid ((Fr.refl No w).alloc (.cells #[.int .i64 v.t, .int .u64 v.n] 57))
      go_enter Tryz.func80, Tryz.ntmps80
      go_wp2_with (go_at_call 160; refine (vright_any v _).mono ?_; rintro e w1 ⟨rfl, f1⟩; rw [HQ.out]; have F1 := hid f1; clear f1)
      go_ret
      exact ⟨rt_bool (by simp [rightB, HQ.out]), F0.out.trans F1.out (fun _ _ h => h)⟩
  · have hd : (v.t == t) = false := by simpa using h
    have F0 := hid ((Fr.refl No w).alloc (.cells #[.int .i64 v.t, .int .u64 v.n] 57))
    go_enter Tryz.func80, Tryz.ntmps80
    go_wp2
    go_ret
    exact ⟨rt_bool (by simp [rightB, h]), F0.out⟩
set_option maxHeartbeats 800000 in
theorem tglobal_any (g : Gl) (w : World) : Calls Tryz.prog 79 #[.agg #[.int .i64 g.val, .bool g.mut_]] w fun e w' => e = .returned (.bool (isVal g.val)) ∧ Fr No w w' := by
  have F0 := hid ((Fr.refl No w).alloc (.cells #[.int .i64 g.val, .bool g.mut_] 54))
  go_enter Tryz.func79, Tryz.ntmps79
  go_wp2_with (go_at_call 155; refine (val_any _ _).mono ?_; rintro e w1 ⟨rfl, rfl⟩)
  go_ret
  exact ⟨rfl, F0.out⟩
def addGS (x : Rx) (g : Gl) (v : Vl) : Rx × Int := if isVal g.val && rightB v g.val then ({ x with globs := x.globs ++ [⟨g, v⟩] }, x.globs.length) else (x, -1)
def addMS (x : Rx) (l : Lim) : Rx × Int := if validB l then ({ x with mems := x.mems ++ [⟨l, List.replicate (l.min.toNat * 256) 0⟩] }, x.mems.length) else (x, -1)
theorem GrTo.no {w w' : World} {R : Nat → Prop} {V : Pl} {x : Rx} {v : Value} (h : StIn w R V x) (f : Fr No w w') : GrTo R V v x w (.returned v) w' := ⟨V, R, rfl, h.frNo f, Grown.of_no f⟩
section
variable {w : World} {R : Nat → Prop} {V : Pl} {x : Rx}
set_option maxRecDepth 100000 in
set_option maxHeartbeats 1600000 in
theorem addGlobal_any (h : StIn w R V x) (g : Gl) (v : Vl) (wg : (Lit.int .i64 g.val).wf = true) (wv : (Lit.int .i64 v.t).wf = true) (wn : (Lit.int .u64 v.n).wf = true) (hn : x.globs.length ≤ 1000000) :
    Calls Tryz.prog 20 #[.pointer (some ⟨V.P, 0, none⟩), .agg #[.int .i64 g.val, .bool g.mut_], .agg #[.int .i64 v.t, .int .u64 v.n]] w (GrTo R V (.int .i64 (addGS x g v).2) (addGS x g v).1 w) := by
  have F0 := hid (((Fr.refl No w).alloc (.cells #[.int .i64 g.val, .bool g.mut_] 54)).alloc (.cells #[.int .i64 v.t, .int .u64 v.n] 57))
  have G0 := hid ((Blk.new w 54 #[.int .i64 g.val, .bool g.mut_]).alloc (.cells #[.int .i64 v.t, .int .u64 v.n] 57))
  have G1 := hid (Blk.new1 w (.cells #[.int .i64 g.val, .bool g.mut_] 54) 57 #[.int .i64 v.t, .int .u64 v.n])
  have H := hid h
  have W := hid (And.intro wg (And.intro wv wn))
  clear h wg wv wn
  unfold addGS
  cases hg : isVal g.val with
  | false =>
    have HG := hid hg
    clear hg
    go_enter Tryz.func20, Tryz.ntmps20
    go_wp2_with (go_at_call 79; refine (tglobal_any g _).mono ?_; rintro e w1 ⟨rfl, f1⟩; rw [HG.out]; have F1 := hid f1; clear f1)
    go_ret
    exact GrTo.no H.out (F0.out.trans F1.out (fun _ _ h => h))
  | true =>
    cases hr : rightB v g.val with
    | false =>
      have HG := hid hg
      have HR := hid hr
      clear hg hr
      go_enter Tryz.func20, Tryz.ntmps20
      go_wp2_with (first
        | (go_at_call 79; refine (tglobal_any g _).mono ?_; rintro e w1 ⟨rfl, f1⟩; rw [HG.out]; have F1 := hid f1; clear f1; have y0 : w1.cell? ⟨w.heap.size, 0, none⟩ = some (.int .i64 g.val) := (G0.out.fr F1.out (fun x => x)).cell 0; have y1 : w1.cell? ⟨w.heap.size + 1, 0, none⟩ = some (.int .i64 v.t) := (G1.out.fr F1.out (fun x => x)).cell 0; have y2 : w1.cell? ⟨w.heap.size + 1, 1, none⟩ = some (.int .u64 v.n) := (G1.out.fr F1.out (fun x => x)).cell 1)
        | (go_at_call 80; refine (right_any v _ _).mono ?_; rintro e w2 ⟨rfl, f2⟩; rw [HR.out]; have F2 := hid f2; clear f2))
      go_ret
      exact GrTo.no H.out ((F0.out.trans F1.out (fun _ _ h => h)).trans F2.out (fun _ _ h => h))
    | true =>
      have HG := hid hg
      have HR := hid hr
      clear hg hr
      go_enter Tryz.func20, Tryz.ntmps20
      go_wp2_with (first
        | (go_at_call 79; refine (tglobal_any g _).mono ?_; rintro e w1 ⟨rfl, f1⟩; rw [HG.out]; have F1 := hid f1; clear f1; have y0 : w1.cell? ⟨w.heap.size, 0, none⟩ = some (.int .i64 g.val) := (G0.out.fr F1.out (fun x => x)).cell 0; have y1 : w1.cell? ⟨w.heap.size + 1, 0, none⟩ = some (.int .i64 v.t) := (G1.out.fr F1.out (fun x => x)).cell 0; have y2 : w1.cell? ⟨w.heap.size + 1, 1, none⟩ = some (.int .u64 v.n) := (G1.out.fr F1.out (fun x => x)).cell 1)
        | (go_at_call 80; refine (right_any v _ _).mono ?_; rintro e w2 ⟨rfl, f2⟩; rw [HR.out]; have F2 := hid f2; clear f2))
      clear y0 y1 y2
      have hX : ∀ X, Fr No w2 X → X.cell? ⟨w.heap.size, 0, none⟩ = some (.int .i64 g.val) ∧ X.cell? ⟨w.heap.size, 1, none⟩ = some (.bool g.mut_) ∧ X.cell? ⟨w.heap.size + 1, 0, none⟩ = some (.int .i64 v.t) ∧ X.cell? ⟨w.heap.size + 1, 1, none⟩ = some (.int .u64 v.n) := fun X f => by
        have h0 := ((G0.out.fr F1.out (fun x => x)).fr F2.out (fun x => x)).fr f (fun x => x)
        have h1 := ((G1.out.fr F1.out (fun x => x)).fr F2.out (fun x => x)).fr f (fun x => x)
        exact ⟨h0.cell 0, h0.cell 1, h1.cell 0, h1.cell 1⟩
      have HX := hid hX
      have K2 := hid (((H.out.frNo F0.out).frNo F1.out).frNo F2.out)
      clear hX
      refine wp_region_ord (fun X => X.cell? ⟨w.heap.size, 0, none⟩ = some (.int .i64 g.val) ∧ X.cell? ⟨w.heap.size, 1, none⟩ = some (.bool g.mut_) ∧ X.cell? ⟨w.heap.size + 1, 0, none⟩ = some (.int .i64 v.t) ∧ X.cell? ⟨w.heap.size + 1, 1, none⟩ = some (.int .u64 v.n)) [] [(0, true), (1, true), (2, true), (3, true), (4, true), (5, true), (6, false), (7, true)] (by kernel_rfl) (by kernel_rfl) (by kernel_rfl) rfl (HX.out _ (Fr.refl _ _).drew) ?_
      repeat (first
        | (refine wpO_skip rfl rfl ?_; simp only [List.getElem_toArray, List.getElem_cons_succ, List.getElem_cons_zero, Act.put, List.setIfInBounds_toArray, List.set_cons_zero, List.set_cons_succ])
        | (refine wpO_call rfl rfl ?_; simp only [List.getElem_toArray, List.getElem_cons_succ, List.getElem_cons_zero]; apply Exists.intro; refine ⟨fun X hX => ?_, ?_⟩
           · (have s0 := hX.1; have s1 := hX.2.1; have s2 := hX.2.2.1; have s3 := hX.2.2.2; go_simp; exact stillUpon_value)
           simp only [Act.put, List.setIfInBounds_toArray, List.set_cons_zero, List.set_cons_succ]))
      refine wpO_eff rfl rfl (fun K hK => ?_)
      simp only [List.getElem_toArray, List.getElem_cons_succ, List.getElem_cons_zero]
      go_simp
      have RX : Hid (tRg.rd w2.drew (Sd w2.drew R) [.int .i64 g.val, .bool g.mut_, .int .i64 v.t, .int .u64 v.n] ⟨g, v⟩) := Rg_mk (a := ⟨g, v⟩) W.out.1 W.out.2.1 W.out.2.2
      have K3 := hid (K2.out.frNo (Fr.refl No w2).drew)
      refine (addGg_any V.P 6 (Sd w2.drew R) V.gl x.globs [.int .i64 g.val, .bool g.mut_, .int .i64 v.t, .int .u64 v.n] ⟨g, v⟩ w2.drew (K3.out.addIn_gl RX.out hn)).mono ?_
      intro e w3 ha
      obtain ⟨V', R', rfl, h2, h3⟩ := K3.out.added_gl ha
      have h3 := hid h3
      have gz0 := ((G0.out.fr F1.out (fun x => x)).fr F2.out (fun x => x)).drew.fr h3.out.fr (fun o => by have := H.out.lt o; omega)
      have gz1 := ((G1.out.fr F1.out (fun x => x)).fr F2.out (fun x => x)).drew.fr h3.out.fr (fun o => by have := H.out.lt o; omega)
      refine hK _ _ (fun _ => ⟨gz0.cell 0, gz0.cell 1, gz1.cell 0, gz1.cell 1⟩) ?_
      clear hK K gz0 gz1
      repeat (first
        | (refine wpO_skip rfl rfl ?_; simp only [List.getElem_toArray, List.getElem_cons_succ, List.getElem_cons_zero, Act.put, List.setIfInBounds_toArray, List.set_cons_zero, List.set_cons_succ])
        | (refine wpO_call rfl rfl ?_; simp only [List.getElem_toArray, List.getElem_cons_succ, List.getElem_cons_zero]; apply Exists.intro; refine ⟨fun X hX => ?_, ?_⟩
           · (have s0 := hX.1; have s1 := hX.2.1; have s2 := hX.2.2.1; have s3 := hX.2.2.2; go_simp; exact stillUpon_value)
           simp only [Act.put, List.setIfInBounds_toArray, List.set_cons_zero, List.set_cons_succ]))
      refine wpO_nil ?_
      go_wp2
      go_ret
      exact ⟨V', R', rfl, h2, (Grown.of_no (((F0.out.trans F1.out (fun _ _ h => h)).trans F2.out (fun _ _ h => h)).drew)).trans h3.out⟩
set_option maxRecDepth 100000 in
set_option maxHeartbeats 1600000 in
theorem addMem_any (h : StIn w R V x) (l : Lim) (hn : x.mems.length ≤ 1000000) :
    Calls Tryz.prog 19 #[.pointer (some ⟨V.P, 0, none⟩), .agg #[.int .i64 l.min, .int .i64 l.max, .bool l.has]] w (GrTo R V (.int .i64 (addMS x l).2) (addMS x l).1 w) := by
  have F0 := hid ((Fr.refl No w).alloc (.cells #[.int .i64 l.min, .int .i64 l.max, .bool l.has] 50))
  have H := hid h
  clear h
  unfold addMS
  cases hv : validB l with
  | false =>
    have HV := hid hv
    clear hv
    go_enter Tryz.func19, Tryz.ntmps19
    go_wp2_with (go_at_call 77; refine (new_any l _).mono ?_; intro e w1 hnew; unfold NewTo at hnew; rw [HV.out] at hnew; obtain ⟨rfl, f1⟩ := hnew; have F1 := hid f1; clear f1)
    go_ret
    exact GrTo.no H.out (F0.out.trans F1.out (fun _ _ h => h))
  | true =>
    have HV := hid hv
    clear hv
    go_enter Tryz.func19, Tryz.ntmps19
    go_wp2_with fail
    refine (new_any l _).mono ?_
    intro e w1 hnew
    unfold NewTo at hnew
    rw [HV.out, if_pos rfl] at hnew
    obtain ⟨p, q, c, rfl, hm, l1, l2, f1⟩ := hnew
    have F1 := hid (F0.out.trans f1 (fun _ _ h => h))
    have HM := hid hm
    have l1 : w.heap.size ≤ p := Nat.le_trans F0.out.size l1
    have l2 : w.heap.size ≤ q := Nat.le_trans F0.out.size l2
    clear f1 hm
    have K1 : Hid (StIn w1 (fun k => R k ∨ k = p ∨ k = q) V x) := H.out.fr F1.out (fun _ _ m => m.elim) (fun k hk r => r.elim (fun r => r) (fun e => by omega)) (fun k r => .inl r) (fun k r => r.elim (fun r => Nat.lt_of_lt_of_le (H.out.low k r) F1.out.size) (fun e => e.elim (fun e => e ▸ HM.out.hp.lt) (fun e => e ▸ HM.out.own.lt)))
    go_wp2_with fail
    refine (addPtM_any V.P 5 (Sd w1 (fun k => R k ∨ k = p ∨ k = q)) V.me (V.mp.map (·.1)) p w1 (K1.out.addIn_me rfl (by simp [H.out.ml]; exact hn))).mono ?_
    intro e w2 ha
    obtain ⟨V', R', rfl, h2, h3⟩ := H.out.added_me (z := (p, q, c)) (t := ⟨l, List.replicate (l.min.toNat * 256) 0⟩) F1.out HM.out l1 l2 ha
    go_wp2
    go_ret
    exact ⟨V', R', rfl, h2, h3⟩
end
end Go.Proofs.YtdckghiipijobaaGreat
