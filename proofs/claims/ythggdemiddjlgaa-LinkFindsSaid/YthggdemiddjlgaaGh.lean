/- Merged: ShB ShC ShD ShE ShF. -/
import Derived.Test.YthggdemiddjlgaaShA
import Derived.WalkKit
import Derived.ProofKit
import Derived.Deep.QuietTactic
import Derived.BigQuiet
import Derived.Deep.RegionHeld3
import Derived.Test.YthggdemiddjlgaaOrt
import Derived.Test.YthggdemiddjlgaaEq
import Derived.Test.YthggdemiddjlgaaAll

namespace Go.Proofs.Ythggdemiddjlgaa
open Go.RowKit

theorem rt_bool {a b : Bool} (h : a = b) : Ending.returned (.bool a) = .returned (.bool b) := by rw [h]

def isVal (t : Int) : Bool := decide (1 ≤ t ∧ t ≤ 4)
def valsB (l : List Int) : Bool := decide (l.length ≤ 8) && l.all isVal
def fnB (f : Fn) : Bool := valsB f.params && valsB f.results
def vlB (v : Vl) : Bool := isVal v.t && (decide (v.t ≠ 1) || decide (v.n < 4294967296))

set_option maxHeartbeats 400000 in
theorem num_any (t : Int) (w : World) : Calls Try.prog 47 #[.int .i64 t] w fun e w' => e = .returned (.bool (t == 1 || t == 2)) ∧ w = w' := by
  go_enter Try.func47, Try.ntmps47
  go_wp2
  all_goals
    go_ret
    refine ⟨rt_bool ?_, rfl⟩
    simp_all
set_option maxHeartbeats 400000 in
theorem ref_any (t : Int) (w : World) : Calls Try.prog 48 #[.int .i64 t] w fun e w' => e = .returned (.bool (t == 3 || t == 4)) ∧ w = w' := by
  go_enter Try.func48, Try.ntmps48
  go_wp2
  all_goals
    go_ret
    refine ⟨rt_bool ?_, rfl⟩
    simp_all
set_option maxHeartbeats 400000 in
theorem val_any (t : Int) (w : World) : Calls Try.prog 29 #[.int .i64 t] w fun e w' => e = .returned (.bool (isVal t)) ∧ w = w' := by
  go_enter Try.func29, Try.ntmps29
  go_wp2_with (first
    | (go_at_call 47; refine (num_any _ _).mono ?_; rintro e w' ⟨rfl, rfl⟩)
    | (go_at_call 48; refine (ref_any _ _).mono ?_; rintro e w' ⟨rfl, rfl⟩))
  all_goals
    go_ret
    refine ⟨rt_bool ?_, rfl⟩
    rw [Bool.eq_iff_iff]
    simp_all [isVal] <;> omega
set_option maxHeartbeats 400000 in
theorem vright_any (v : Vl) (w : World) : Calls Try.prog 30 #[.agg #[.int .i64 v.t, .int .u64 v.n]] w fun e w' => e = .returned (.bool (vlB v)) ∧ Fr No w w' := by
  go_enter Try.func30, Try.ntmps30
  go_wp2_with (first
    | (go_at_call 29; refine (val_any _ _).mono ?_; rintro e w' ⟨rfl, rfl⟩))
  all_goals
    go_ret
    refine ⟨rt_bool ?_, (Fr.refl No w).alloc _⟩
    simp_all [vlB]
theorem all_step {l : List Int} {k : Nat} (hk : k < l.length) (h : (l.take k).all isVal = true) (hv : isVal l[k] = true) : (l.take (k + 1)).all isVal = true := by
  rw [List.take_succ_eq_append_getElem hk, List.all_append, h]; simp [hv]
theorem all_stop {l : List Int} {k : Nat} (hk : k < l.length) (hv : isVal l[k] = false) : l.all isVal = false := by
  rw [← Bool.not_eq_true]; intro h
  have := List.all_eq_true.1 h l[k] (List.getElem_mem hk)
  rw [hv] at this; cases this

set_option maxHeartbeats 800000 in
theorem all_any (A : Option Addr) (l : List Int) (c B : Nat) (w : World) (hr : (Ty.int .i64).els w (· < B) A l) (hl : l.length ≤ 140737488351232) :
    Calls Try.prog 43 #[.slice A l.length c, .func (.func 29) #[] #[]] w fun e w' => e = .returned (.bool (valsB l)) ∧ w = w' := by
  by_cases h8 : 8 < l.length
  · go_enter Try.func43, Try.ntmps43
    go_wp2
    go_ret
    refine ⟨rt_bool ?_, rfl⟩
    simp [valsB]; omega
  · go_enter Try.func43, Try.ntmps43
    go_wp2
    go_loop [12] (fun i => ∃ k : Nat, k ≤ l.length ∧ i = .int .i64 k ∧ Hid ((l.take k).all isVal = true)) (fun i => l.length - (intOf i).toNat)
    case atStart => exact ⟨0, by omega, rfl, by simp [Hid]⟩
    case round =>
      obtain ⟨k, hk, rfl, HA⟩ := hrel
      by_cases hlt : k < l.length
      · obtain ⟨b, o, rfl, _, hc, _⟩ := int_at hr k hlt
        cases hv : isVal l[k] with
        | true =>
          have HV := hid hv
          go_wp2_with (first
            | (go_at_call 29; refine (val_any _ _).mono ?_; rintro e w' ⟨rfl, rfl⟩))
          go_round
          case rel => exact ⟨k + 1, by omega, by go_num, all_step hlt HA.out HV.out⟩
          case measure => simp [intOf]; omega
        | false =>
          have HV := hid hv
          go_wp2_with (first
            | (go_at_call 29; refine (val_any _ _).mono ?_; rintro e w' ⟨rfl, rfl⟩))
          go_ret
          refine ⟨rt_bool ?_, rfl⟩
          simp [valsB, all_stop hlt HV.out]
      · go_wp2
        go_ret
        refine ⟨rt_bool ?_, rfl⟩
        have h := HA.out
        rw [List.take_of_length_le (by omega)] at h
        rw [valsB, h]
        simp
        try omega
end Go.Proofs.Ythggdemiddjlgaa

namespace Go.Proofs.Ythggdemiddjlgaa
open Go.RowKit

set_option maxHeartbeats 400000 in
theorem tright_any (f : Fn) (A1 A2 : Option Addr) (c1 c2 B : Nat) (w : World) (hB : B ≤ w.heap.size) (h1 : (Ty.int .i64).els w (· < B) A1 f.params) (h2 : (Ty.int .i64).els w (· < B) A2 f.results) (l1 : f.params.length ≤ 140737488351232) (l2 : f.results.length ≤ 140737488351232) :
    Calls Try.prog 23 #[.agg #[.slice A1 f.params.length c1, .slice A2 f.results.length c2]] w fun e w' => e = .returned (.bool (fnB f)) ∧ Fr No w w' := by
  have F := hid ((Fr.refl No w).alloc (.cells #[.slice A1 f.params.length c1, .slice A2 f.results.length c2] 96))
  have H1 := hid (h1.frB hB F.out (fun _ _ x => x))
  have H2 := hid (h2.frB hB F.out (fun _ _ x => x))
  cases hp : valsB f.params with
  | true =>
    go_enter Try.func23, Try.ntmps23
    go_wp2_with fail
    refine (all_any _ _ _ _ _ H1.out (by omega)).mono ?_
    rintro e w' ⟨rfl, rfl⟩
    rw [hp]
    go_wp2_with fail
    refine (all_any _ _ _ _ _ H2.out (by omega)).mono ?_
    rintro e w' ⟨rfl, rfl⟩
    go_wp2
    go_ret
    exact ⟨rt_bool (by simp [fnB, hp]), F.out⟩
  | false =>
    go_enter Try.func23, Try.ntmps23
    go_wp2_with fail
    refine (all_any _ _ _ _ _ H1.out (by omega)).mono ?_
    rintro e w' ⟨rfl, rfl⟩
    rw [hp]
    go_wp2
    go_ret
    exact ⟨rt_bool (by simp [fnB, hp]), F.out⟩
set_option maxRecDepth 100000 in
theorem run_eq_vl (a b c d : Int) (w : World) : (Op.equalIn 10000 40 (.agg #[.int .i64 a, .int .u64 b]) (.agg #[.int .i64 c, .int .u64 d])).run Try.prog w = .ok (a == c && (b == d && true)) w :=
  eq_st (by kernel_rfl) (by kernel_rfl) (eqf_cons (by decide) (run_part1 (isAgg_int Try.underlying35) rfl) (run_part1 (isAgg_int Try.underlying35) rfl) (run_equalIn_int w 9998 _ _ _ _ _ Try.underlying35)
    (eqf_cons (by decide) (run_part1 (isAgg_int Try.underlying38) rfl) (run_part1 (isAgg_int Try.underlying38) rfl) (run_equalIn_int w 9998 _ _ _ _ _ Try.underlying38) eqf_nil))
/-- x ≠ y as the program has it. -/
def vneq (x y : Vl) : Bool := !decide (x = y)
theorem ifs_vneq {α : Type} (x y : Vl) (f : Bool → α) : (if x.t = y.t then if x.n = y.n then f false else f true else f true) = f (vneq x y) := by
  obtain ⟨a, b⟩ := x
  obtain ⟨c, d⟩ := y
  by_cases h : a = c <;> by_cases h' : b = d <;> simp [vneq, h, h']
theorem neq_yes {x y : Vl} (h : x = y) : vneq x y = false := by simp [vneq, h]
theorem neq_no {x y : Vl} (h : ¬ x = y) : vneq x y = true := by simp [vneq, h]
theorem take_eq_succ {α : Type} {xs ys : List α} {k : Nat} (h1 : k < xs.length) (h2 : k < ys.length) (h : xs.take k = ys.take k) (he : xs[k] = ys[k]) : xs.take (k + 1) = ys.take (k + 1) := by
  rw [List.take_succ_eq_append_getElem h1, List.take_succ_eq_append_getElem h2, h, he]
theorem vl_ext {a b : Vl} (h1 : a.t = b.t) (h2 : a.n = b.n) : a = b := by cases a; cases b; simp_all
end Go.Proofs.Ythggdemiddjlgaa

namespace Go.Proofs.Ythggdemiddjlgaa
open Go.RowKit

def fitAt (vs : List Vl) (ts : List Int) (i : Nat) : Bool :=
  match vs[i]?, ts[i]? with
  | some v, some t => vlB v && decide (v.t = t)
  | _, _ => false
def fitB (vs : List Vl) (ts : List Int) : Bool := decide (vs.length = ts.length) && allUp (fitAt vs ts) vs.length
theorem fitAt_get {vs : List Vl} {ts : List Int} {i : Nat} (h : i < vs.length) (h' : i < ts.length) : fitAt vs ts i = (vlB vs[i] && decide (vs[i].t = ts[i])) := by
  simp [fitAt, h, h']
theorem fit_ne {vs : List Vl} {ts : List Int} (h : ¬ vs.length = ts.length) : false = fitB vs ts := by simp [fitB, h]
theorem fit_no {vs : List Vl} {ts : List Int} {i : Nat} (h : i < vs.length) (hp : fitAt vs ts i = false) : false = fitB vs ts := by simp [fitB, allUp_stop h hp]
theorem fit_yes {vs : List Vl} {ts : List Int} (hl : vs.length = ts.length) (h : allUp (fitAt vs ts) vs.length = true) : true = fitB vs ts := by simp [fitB, hl]; rw [← hl, h]
theorem fitAt_mk {vs : List Vl} {ts : List Int} {i : Nat} {v : Vl} {t : Int} (h : i < vs.length) (h' : i < ts.length) (hv : vs[i] = v) (ht : ts[i] = t) {r : Bool} (hr : (vlB v && decide (v.t = t)) = r) : fitAt vs ts i = r := by
  rw [fitAt_get h h', hv, ht, hr]

end Go.Proofs.Ythggdemiddjlgaa

namespace Go.Proofs.Ythggdemiddjlgaa
open Go.RowKit

set_option maxHeartbeats 800000 in
theorem vfit_any (A A' : Option Addr) (vs : List Vl) (ts : List Int) (c c' B B' : Nat) (w : World) (hB : B ≤ w.heap.size) (hB' : B' ≤ w.heap.size) (ha : tVl.els w (· < B) A vs) (hb : (Ty.int .i64).els w (· < B') A' ts) (h1 : vs.length ≤ 140737488351232) (h2 : ts.length ≤ 140737488351232) :
    Calls Try.prog 45 #[.slice A vs.length c, .slice A' ts.length c'] w fun e w' => e = .returned (.bool (fitB vs ts)) ∧ Fr No w w' := by
  by_cases hl : vs.length = ts.length
  · have e1 : (((vs.length : Nat) : Int) != ((ts.length : Nat) : Int)) = false := by simp [hl]
    have hL := hid hl
    have hl1 : vs.length ≤ ts.length := by omega
    clear hl
    go_enter Try.func45, Try.ntmps45
    go_wp2
    go_loopw [14] (fun i wr => ∃ k : Nat, k ≤ vs.length ∧ i = .int .i64 k ∧ Hid (Fr No w wr) ∧ Hid (allUp (fitAt vs ts) k = true)) (fun i _ => vs.length - (intOf i).toNat)
    case atStart => exact ⟨0, by omega, rfl, Fr.refl _ _, rfl⟩
    case round =>
      obtain ⟨k, hk, rfl, HF, HQ⟩ := hrel
      clear e1
      by_cases hlt : k < vs.length
      · obtain ⟨b, o, rfl, hbB, c1, c2, _⟩ := vl_at ha k hlt
        obtain ⟨b', o', rfl, hbB', c3, _⟩ := int_at hb k (by omega)
        have i0 : (0 : Int) ≤ k := by omega
        have i1 : (k : Int) < vs.length := by omega
        have i2 : (k : Int) < ts.length := by omega
        have HX : Hid (∀ X, Fr No w X → X.cell? ⟨b, o + k * 2, none⟩ = some (.int .i64 vs[k].t) ∧ X.cell? ⟨b, o + k * 2 + 1, none⟩ = some (.int .u64 vs[k].n) ∧ X.cell? ⟨b', o' + k, none⟩ = some (.int .i64 ts[k])) := fun X f =>
          ⟨(f.cell (p := ⟨b, _, none⟩) (Nat.lt_of_lt_of_le hbB hB) (fun x => x)).trans c1, (f.cell (p := ⟨b, _, none⟩) (Nat.lt_of_lt_of_le hbB hB) (fun x => x)).trans c2, (f.cell (p := ⟨b', _, none⟩) (Nat.lt_of_lt_of_le hbB' hB') (fun x => x)).trans c3⟩
        clear c1 c2 c3
        have HM : Hid (∀ r, (vlB vs[k] && decide (vs[k].t = ts[k])) = r → fitAt vs ts k = r) := fun r hr => fitAt_mk hlt (by omega) rfl rfl hr
        generalize vs[k] = x at *
        generalize ts[k] = t at *
        clear ha hb
        obtain ⟨s0, s1, s2⟩ := HX.out _ HF.out
        go_wp2
        clear s0 s1 s2
        have NB := hid (Blk.new wr 40 #[.int .i64 x.t, .int .u64 x.n])
        have HF1 := hid (HF.out.alloc (.cells #[.int .i64 x.t, .int .u64 x.n] 40))
        generalize wr.heap.size = g at *
        generalize wr.alloc (.cells #[.int .i64 x.t, .int .u64 x.n] 40) = W0 at *
        have HY : Hid (∀ X, Fr No W0 X → X.cell? ⟨g, 0, none⟩ = some (.int .i64 x.t) ∧ X.cell? ⟨g, 1, none⟩ = some (.int .u64 x.n) ∧ X.cell? ⟨b', o' + k, none⟩ = some (.int .i64 t)) := fun X f =>
          ⟨(NB.out.fr f (fun x => x)).cell 0, (NB.out.fr f (fun x => x)).cell 1, (HX.out X (HF1.out.trans f (fun _ _ h => h))).2.2⟩
        clear HX
        refine wp_region_ord (fun X => X.cell? ⟨g, 0, none⟩ = some (.int .i64 x.t) ∧ X.cell? ⟨g, 1, none⟩ = some (.int .u64 x.n) ∧ X.cell? ⟨b', o' + k, none⟩ = some (.int .i64 t)) [] [(0, true), (1, false), (2, true), (3, true), (4, true), (5, true), (6, true), (7, true), (8, true), (9, true), (10, true), (11, true), (12, true), (13, true)] (by kernel_rfl) (by kernel_rfl) (by kernel_rfl) rfl (HY.out _ (Fr.refl _ _).drew) ?_
        repeat (first
          | (refine wpO_skip rfl rfl ?_; simp only [List.getElem_toArray, List.getElem_cons_succ, List.getElem_cons_zero, Act.put, List.setIfInBounds_toArray, List.set_cons_zero, List.set_cons_succ])
          | (refine wpO_call rfl rfl ?_; simp only [List.getElem_toArray, List.getElem_cons_succ, List.getElem_cons_zero]; apply Exists.intro; refine ⟨fun X hX => ?_, ?_⟩
             · (have s0 := hX.1; have s1 := hX.2.1; have s2 := hX.2.2; go_simp; exact stillUpon_value)
             simp only [Act.put, List.setIfInBounds_toArray, List.set_cons_zero, List.set_cons_succ]))
        refine wpO_eff rfl rfl (fun K hK => ?_)
        simp only [List.getElem_toArray, List.getElem_cons_succ, List.getElem_cons_zero]
        go_simp
        refine (vright_any x _).mono ?_
        cases hv : vlB x with
        | true =>
          rintro e w1 ⟨rfl, f1⟩
          have F1 := hid ((Fr.refl No W0).drew.trans f1 (fun _ _ h => h))
          clear f1
          refine hK _ _ (fun _ => HY.out _ F1.out) ?_
          clear hK K
          have HV := hid hv
          clear hv
          by_cases ht : x.t = t
          · subst ht
            repeat (first
              | (refine wpO_skip rfl rfl ?_; simp only [List.getElem_toArray, List.getElem_cons_succ, List.getElem_cons_zero, Act.put, List.setIfInBounds_toArray, List.set_cons_zero, List.set_cons_succ])
              | (refine wpO_call rfl rfl ?_; simp only [List.getElem_toArray, List.getElem_cons_succ, List.getElem_cons_zero]; apply Exists.intro; refine ⟨fun X hX => ?_, ?_⟩
                 · (have s0 := hX.1; have s1 := hX.2.1; have s2 := hX.2.2; go_simp; exact stillUpon_value)
                 simp only [Act.put, List.setIfInBounds_toArray, List.set_cons_zero, List.set_cons_succ]))
            refine wpO_nil ?_
            go_wp2
            go_roundw
            case rel => exact ⟨k + 1, by omega, by go_num, HF1.out.trans F1.out (fun _ _ h => h), allUp_step HQ.out (HM.out _ (by rw [HV.out]; simp))⟩
            case measure => simp [intOf]; omega
          · have ht' : decide (x.t = t) = false := decide_eq_false ht
            repeat (first
              | (refine wpO_skip rfl rfl ?_; simp only [List.getElem_toArray, List.getElem_cons_succ, List.getElem_cons_zero, Act.put, List.setIfInBounds_toArray, List.set_cons_zero, List.set_cons_succ])
              | (refine wpO_call rfl rfl ?_; simp only [List.getElem_toArray, List.getElem_cons_succ, List.getElem_cons_zero]; apply Exists.intro; refine ⟨fun X hX => ?_, ?_⟩
                 · (have s0 := hX.1; have s1 := hX.2.1; have s2 := hX.2.2; go_simp; exact stillUpon_value)
                 simp only [Act.put, List.setIfInBounds_toArray, List.set_cons_zero, List.set_cons_succ]))
            refine wpO_nil ?_
            go_wp2
            go_ret
            exact ⟨rt_bool (fit_no hlt (HM.out _ (by rw [HV.out]; simpa using ht))), HF1.out.trans F1.out (fun _ _ h => h)⟩
        | false =>
          rintro e w1 ⟨rfl, f1⟩
          have F1 := hid ((Fr.refl No W0).drew.trans f1 (fun _ _ h => h))
          clear f1
          refine hK _ _ (fun _ => HY.out _ F1.out) ?_
          clear hK K
          have HV := hid hv
          clear hv
          repeat (first
            | (refine wpO_skip rfl rfl ?_; simp only [List.getElem_toArray, List.getElem_cons_succ, List.getElem_cons_zero, Act.put, List.setIfInBounds_toArray, List.set_cons_zero, List.set_cons_succ])
            | (refine wpO_call rfl rfl ?_; simp only [List.getElem_toArray, List.getElem_cons_succ, List.getElem_cons_zero]; apply Exists.intro; refine ⟨fun X hX => ?_, ?_⟩
               · (have s0 := hX.1; have s1 := hX.2.1; have s2 := hX.2.2; go_simp; exact stillUpon_value)
               simp only [Act.put, List.setIfInBounds_toArray, List.set_cons_zero, List.set_cons_succ]))
          refine wpO_nil ?_
          go_wp2
          go_ret
          exact ⟨rt_bool (fit_no hlt (HM.out _ (by rw [HV.out]; simp))), HF1.out.trans F1.out (fun _ _ h => h)⟩
      · go_wp2
        go_ret
        refine ⟨rt_bool ?_, HF.out⟩
        obtain rfl : k = vs.length := by omega
        exact fit_yes hL.out HQ.out
  · have e1 : (((vs.length : Nat) : Int) != ((ts.length : Nat) : Int)) = true := by simp; omega
    have hL := hid hl
    clear hl
    go_enter Try.func45, Try.ntmps45
    go_wp2
    go_ret
    exact ⟨rt_bool (fit_ne hL.out), Fr.refl _ _⟩
end Go.Proofs.Ythggdemiddjlgaa

namespace Go.Proofs.Ythggdemiddjlgaa
open Go.RowKit

def actB (a : Ac) (r : List Int) : Bool :=
  if a.kind = 0 then fitB a.vals r && (decide (a.mem = 0) && (decide (a.at_ = 0) && decide (a.byte = 0)))
  else if a.kind = 1 then decide (a.vals.length = 0) && (decide (a.mem = 0) && (decide (a.at_ = 0) && decide (a.byte = 0)))
  else if a.kind = 2 then fitB a.vals r && (decide (0 ≤ a.mem) && decide (0 ≤ a.at_))
  else false

theorem act_box {w w1 : World} {kind v mem at_ byte : Value} {t u : TypeId} {ds : Array Value} (f : Fr No ((w.alloc (.cells #[kind, v, mem, at_, byte] t)).alloc (.cells ds u)) w1) :
    w1.cell? ⟨w.heap.size, 0, none⟩ = some kind ∧ w1.cell? ⟨w.heap.size, 1, none⟩ = some v ∧ w1.cell? ⟨w.heap.size, 2, none⟩ = some mem ∧ w1.cell? ⟨w.heap.size, 3, none⟩ = some at_ ∧ w1.cell? ⟨w.heap.size, 4, none⟩ = some byte := by
  have h := ((Blk.new w t #[kind, v, mem, at_, byte]).alloc (.cells ds u)).fr f (fun x => x)
  exact ⟨h.cell 0, h.cell 1, h.cell 2, h.cell 3, h.cell 4⟩

set_option maxHeartbeats 3200000 in
theorem may_any (kind mem at_ byte : Int) (vals : List Vl) (np : Nat) (rs : List Int) (A A1 A2 : Option Addr) (c c1 c2 B : Nat) (w : World) (hB : B ≤ w.heap.size) (ha : tVl.els w (· < B) A vals) (h2 : (Ty.int .i64).els w (· < B) A2 rs) (l1 : vals.length ≤ 140737488351232) (l2 : rs.length ≤ 140737488351232) :
    Calls Try.prog 25 #[.agg #[.int .i64 kind, .slice A vals.length c, .int .i64 mem, .int .i64 at_, .int .u8 byte], .agg #[.slice A1 np c1, .slice A2 rs.length c2]] w fun e w' => e = .returned (.bool (actB ⟨kind, vals, mem, at_, byte⟩ rs)) ∧ Fr No w w' := by
  have H1 := hid ha
  have H2 := hid h2
  have HB := hid hB
  have L1 := hid l1
  have L2 := hid l2
  clear ha h2 hB l1 l2
  cases hf : fitB vals rs
  all_goals
   have HV := hid hf
   clear hf
   go_enter Try.func25, Try.ntmps25
   go_wp2_with (first
     | (go_at_call 45; refine (vfit_any _ _ vals rs _ _ B B _ (Nat.le_trans HB.out (((Fr.refl No w).alloc _).alloc _).size) (Nat.le_trans HB.out (((Fr.refl No w).alloc _).alloc _).size) (H1.out.frB HB.out (((Fr.refl No w).alloc _).alloc _) (fun _ _ x => x)) (H2.out.frB HB.out (((Fr.refl No w).alloc _).alloc _) (fun _ _ x => x)) L1.out L2.out).mono ?_; rintro e w1 ⟨rfl, f1⟩; rw [HV.out]; obtain ⟨z0, z1, z2, z3, z4⟩ := act_box f1; have F1 := hid ((((Fr.refl No w).alloc _).alloc _).trans f1 (fun _ _ h => h)); clear f1))
   all_goals
    go_ret
    refine ⟨rt_bool ?_, by first | exact F1.out | exact (((Fr.refl No w).alloc _).alloc _)⟩
    have hv := HV.out
    clear H1 H2 HB HV L1 L2
    first | (simp_all [actB]; done) | (simp_all [actB]; omega) | (rw [Bool.eq_iff_iff]; simp_all [actB]; done) | (rw [Bool.eq_iff_iff]; simp_all [actB]; omega)
end Go.Proofs.Ythggdemiddjlgaa
