/- For every input LinkRight returns true, and each argument reads afterwards as it read before. -/
import Derived.Test.YthggdemiddjlgaaGreatRows
import Derived.Test.YthggdemiddjlgaaGreatS1
import Derived.Test.YthggdemiddjlgaaGreatS2
import Derived.Test.YthggdemiddjlgaaGreatS3
import Derived.Test.YthggdemiddjlgaaGreatS4
import Derived.Test.YthggdemiddjlgaaGreatS5
import Derived.Test.YthggdemiddjlgaaGreatS6
import Derived.Test.YthggdemiddjlgaaGreatS7
import Derived.Test.YthggdemiddjlgaaGreatS8
import Derived.Test.YthggdemiddjlgaaGreatS9
import Derived.Test.YthggdemiddjlgaaGreatS10
import Derived.Test.YthggdemiddjlgaaGreatS11
import Derived.Test.YthggdemiddjlgaaGreatS12
import Derived.Test.YthggdemiddjlgaaGreatS13
import Derived.Test.YthggdemiddjlgaaGreatS14
import Derived.Test.YthggdemiddjlgaaGreatS15
import Derived.WalkKit
import Derived.ProofKit
import Derived.OpenShut
import Derived.ShutString
import Derived.ChangeOld
import Derived.Below
import Derived.JoinedCond
import Derived.SizedLaws
set_option maxRecDepth 100000
set_option maxHeartbeats 12800000
namespace Go.Proofs.YthggdemiddjlgaaGreat.linkRight
open Go.ChangeShapes Go.WideShapes Go.ChangeAt Go.RowKit
open Go.ChangeMaps (open_string shut_string)
set_option linter.unusedVariables false

theorem own : ownKnob Tryz.prog.godebug = none := by kernel_rfl
theorem laidOut : laidOutB Tryz.prog = true := by kernel_rfl

theorem contract (H : Type) (enc : TypeId × Value → H) (W : World) (base : Nat) (args : Array Value) (ds gs : List (DataW H)) (before : List MemPlace)
    (hval : ∀ (j : Nat) t v, Tryz.f5.params[j]? = some t → args[j]? = some v → Value.okWide Tryz.prog W .any base t v)
    (hW : DataW.Whole enc Tryz.prog Tryz.f5.params.toList Rows.linkRightSpec.vars false W args.toList ds gs before) (hsz0 : (DataW.weightsEach Tryz.prog (Tryz.f5.params.toList ++ Rows.linkRightSpec.plain.varTypes Tryz.prog) (ds ++ gs)).all (· ≤ reachBytes) = true) :
    Calls Tryz.prog 5 args W fun e W' => ∃ v, e = .returned v ∧ Rows.linkRightSpec.post enc Tryz.prog Tryz.f5 false true false false W args v W' := by
  have hW' := hW
  obtain ⟨p, q, hA0, hV, rfl, hfz, hnd⟩ := hW
  have hA : DataW.TrodAll enc Tryz.prog W 0 (fun _ => true) true Tryz.f5.params.toList args.toList ds p := hA0
  rw [Tryz.params5] at hA hval
  obtain ⟨v0, vs0, d0, ds0, p0, q0, hargs, rfl, rfl, h0, r0⟩ := trodAll_cons hA
  obtain ⟨v1, vs1, d1, ds1, p1, q1, rfl, rfl, rfl, h1, r1⟩ := trodAll_cons r0
  obtain ⟨v2, vs2, d2, ds2, p2, q2, rfl, rfl, rfl, h2, r2⟩ := trodAll_cons r1
  obtain ⟨v3, vs3, d3, ds3, p3, q3, rfl, rfl, rfl, h3, r3⟩ := trodAll_cons r2
  obtain ⟨rfl, rfl, rfl⟩ := trodAll_nil r3
  obtain rfl : args = #[v0, v1, v2, v3] := by cases args; simp_all
  obtain ⟨rfl, rfl⟩ := trodVars_none hV
  have hsz : (DataW.weightsEach Tryz.prog [33, 55, 68, 68] [d0, d1, d2, d3]).all (fun x => decide (x ≤ reachBytes)) = true := hsz0
  clear hsz0
  have k0 := h0
  have lt0 : ∀ x ∈ p0, x.block < W.heap.size := by obtain ⟨m, hm⟩ := k0; exact DataW.trod_lt m _ _ _ hm
  obtain ⟨x0, y0, z0, u0⟩ : ∃ x, (tRx).rd W (· < W.heap.size) v0.cells.toList x ∧ (∀ m, Rows.uptoBulk d0 ≤ m → (tRx).le m x) ∧ ∀ m, (∀ n ∈ d0.weights Tryz.prog 33, n ≤ m) → (tRx).lw m x := by
    obtain ⟨fuel, hf⟩ := h0
    exact kJA H enc W fuel _ _ hf
  obtain ⟨cs0, rfl, _⟩ := okWide_struct Tryz.underlying33 (hval 0 33 v0 rfl rfl)
  have k1 := h1
  have lt1 : ∀ x ∈ p1, x.block < W.heap.size := by obtain ⟨m, hm⟩ := k1; exact DataW.trod_lt m _ _ _ hm
  obtain ⟨x1, y1, z1, u1⟩ : ∃ x, (tMd).rd W (· < W.heap.size) v1.cells.toList x ∧ (∀ m, Rows.uptoBulk d1 ≤ m → (tMd).le m x) ∧ ∀ m, (∀ n ∈ d1.weights Tryz.prog 55, n ≤ m) → (tMd).lw m x := by
    obtain ⟨fuel, hf⟩ := h1
    exact kGV H enc W fuel _ _ hf
  obtain ⟨cs1, rfl, _⟩ := okWide_struct Tryz.underlying55 (hval 1 55 v1 rfl rfl)
  have k2 := h2
  have lt2 : ∀ x ∈ p2, x.block < W.heap.size := by obtain ⟨m, hm⟩ := k2; exact DataW.trod_lt m _ _ _ hm
  obtain ⟨x2, y2, z2, u2⟩ : ∃ x, (tGv.slice).rd W (· < W.heap.size) v2.cells.toList x ∧ (∀ m, Rows.uptoBulk d2 ≤ m → (tGv.slice).le m x) ∧ ∀ m, (∀ n ∈ d2.weights Tryz.prog 68, n ≤ m) → (tGv.slice).lw m x := by
    obtain ⟨fuel, hf⟩ := h2
    exact (kAC Tryz.underlying68 (by kernel_rfl) (by decide) kKF) H enc W fuel _ _ hf
  obtain ⟨a2, l2, c2, rfl⟩ := okWide_slice Tryz.underlying68 (hval 2 68 v2 rfl rfl)
  have k3 := h3
  have lt3 : ∀ x ∈ p3, x.block < W.heap.size := by obtain ⟨m, hm⟩ := k3; exact DataW.trod_lt m _ _ _ hm
  obtain ⟨x3, y3, z3, u3⟩ : ∃ x, (tGv.slice).rd W (· < W.heap.size) v3.cells.toList x ∧ (∀ m, Rows.uptoBulk d3 ≤ m → (tGv.slice).le m x) ∧ ∀ m, (∀ n ∈ d3.weights Tryz.prog 68, n ≤ m) → (tGv.slice).lw m x := by
    obtain ⟨fuel, hf⟩ := h3
    exact (kAC Tryz.underlying68 (by kernel_rfl) (by decide) kKF) H enc W fuel _ _ hf
  obtain ⟨a3, l3, c3, rfl⟩ := okWide_slice Tryz.underlying68 (hval 3 68 v3 rfl rfl)
  clear hA0
  try simp only [List.append_nil] at hW'
  refine (kJq W _ _ _ _ x0 x1 x2 x3 y0 y1 y2 y3 (u0 140737488351232 (fun n hn => by have := List.all_eq_true.1 hsz _ (DataW.weights_mem_each (j := 0) rfl rfl n hn); exact of_decide_eq_true this)) (u1 140737488351232 (fun n hn => by have := List.all_eq_true.1 hsz _ (DataW.weights_mem_each (j := 1) rfl rfl n hn); exact of_decide_eq_true this)) (u2 140737488351232 (fun n hn => by have := List.all_eq_true.1 hsz _ (DataW.weights_mem_each (j := 2) rfl rfl n hn); exact of_decide_eq_true this)) (u3 140737488351232 (fun n hn => by have := List.all_eq_true.1 hsz _ (DataW.weights_mem_each (j := 3) rfl rfl n hn); exact of_decide_eq_true this)) ⟨_, rfl⟩ ⟨_, rfl⟩ ⟨_, _, _, rfl⟩ ⟨_, _, _, rfl⟩).mono fun e W' ⟨he, bel⟩ => ?_
  subst he
  exact ⟨_, rfl, _, _, _, [], _, [], hW', trodAll_mk1 (shut_bool Tryz.underlying4 _), (trodAll_cons_mk (Below.trod laidOut (by kernel_rfl) (of_decide_eq_true (by kernel_rfl)) k0 bel lt0) (trodAll_cons_mk (Below.trod laidOut (by kernel_rfl) (of_decide_eq_true (by kernel_rfl)) k1 bel lt1) (trodAll_cons_mk (Below.trod laidOut (by kernel_rfl) (of_decide_eq_true (by kernel_rfl)) k2 bel lt2) (trodAll_cons_mk (Below.trod laidOut (by kernel_rfl) (of_decide_eq_true (by kernel_rfl)) k3 bel lt3) trodAll_mk0)))), rfl, bel.frame _, fun h => by cases h⟩

theorem lifted (os : Os) (started : os.Started) (H : Type) (enc : TypeId × Value → H) :
    ReturnsInHanded {} Tryz.checked os 5 .any (Rows.linkRightSpec.pre6 enc Tryz.prog Tryz.f5 Rows.linkRightRow.domain false) (Rows.linkRightSpec.post enc Tryz.prog Tryz.f5 false true false false) := by
  refine returnsInHanded_of_change_sized (C := Tryz.checked) own started (by kernel_rfl) Tryz.func5
    (ChangeSpec.witness6 (enc := enc) (C := Tryz.checked) false ⟨#[], #[.agg #[.slice none 0 0, .slice none 0 0, .slice none 0 0, .slice none 0 0, .slice none 0 0, .slice none 0 0, .slice none 0 0, .slice none 0 0, .slice none 0 0, .slice none 0 0], .agg #[.slice none 0 0, .slice none 0 0, .slice none 0 0, .slice none 0 0, .slice none 0 0, .slice none 0 0, .slice none 0 0, .bool false, .int .i64 0, .slice none 0 0, .slice none 0 0, .slice none 0 0], .slice none 0 0, .slice none 0 0], []⟩ 8 (by kernel_rfl) (by kernel_rfl) (by kernel_rfl) (by kernel_rfl)) ?_
  intro W base args ds gs before hval0 hW hcnd hsz0 _
  exact contract H enc W base args ds gs before hval0 hW hsz0

theorem fact0 : (Rows.linkRightRow.inPlace == Tryz.pinned.checked.prog.inPlace 5) = true := by kernel_rfl
theorem fact1 : (Rows.linkRightRow.unfollowed == Tryz.pinned.checked.prog.unfollowed 5) = true := by kernel_rfl
theorem fact2 : (Rows.linkRightRow.recurses == Tryz.pinned.checked.prog.recurses 5) = true := by kernel_rfl
theorem fact3 : (Rows.linkRightRow.named == Tryz.pinned.checked.prog.varsNamed 5) = true := by kernel_rfl
theorem fact4 : (laidOutB Tryz.pinned.checked.prog) = true := by kernel_rfl
theorem fact5 : (mapsRowed Tryz.pinned.checked.prog) = true := by kernel_rfl
theorem fact6 : (Tryz.pinned.checked.prog.stopsHeard) = true := by kernel_rfl
theorem fact7 : (Tryz.pinned.checked.prog.mayEnter) = true := by kernel_rfl
theorem fact8 : (Rows.linkRightRow.lifted == Tryz.pinned.checked.prog.liftsFinal) = true := by kernel_rfl
theorem fact9 : (Rows.linkRightRow.plainKeys == Tryz.pinned.checked.prog.plainKeys) = true := by kernel_rfl
theorem fact10 : (Tryz.pinned.checked.prog.make == some Rows.linkRightRow.make) = true := by kernel_rfl
theorem factN : Tryz.pinned.checked.prog.funcNamed Rows.linkRightRow.func = some 5 := by kernel_rfl
theorem facts : joinedFacts Tryz.pinned.checked.prog 5 Tryz.f5 Rows.linkRightSpec Rows.linkRightRow = true := by
  unfold joinedFacts
  rw [fact0, fact1, fact2, fact3, fact4, fact5, fact6, fact7, fact8, fact9, fact10]
  kernel_rfl
theorem over : Rows.linkRightRow.holds Tryz.pinned (OpenSpec.ofChange Rows.linkRightSpec) :=
  OpenClaim.holds_of_wide 5 Tryz.f5 rfl rfl rfl rfl rfl rfl rfl ⟨rfl, rfl, rfl, rfl, rfl⟩ rfl rfl rfl rfl rfl factN Tryz.func5 facts
    (of_decide_eq_true (by kernel_rfl)) (by unfold Func.isWrapper; first | (rw [if_pos (by decide +kernel)]; kernel_rfl) | (rw [if_neg (by decide +kernel)]; exact ⟨rfl, rfl⟩))
    (fun os started H enc _ => lifted os started H enc)

theorem proved : Rows.LinkRightSaid := over
#print axioms proved
end Go.Proofs.YthggdemiddjlgaaGreat.linkRight
