/- For every input LinkGives returns true, and each argument reads afterwards as it read before. -/
import Derived.Test.YthggdemiddjlgaaGreatRows
import Derived.Test.YthggdemiddjlgaaGreatG1
import Derived.Test.YthggdemiddjlgaaGreatG2
import Derived.Test.YthggdemiddjlgaaGreatG3
import Derived.Test.YthggdemiddjlgaaGreatG4
import Derived.Test.YthggdemiddjlgaaGreatG5
import Derived.Test.YthggdemiddjlgaaGreatG6
import Derived.Test.YthggdemiddjlgaaGreatG7
import Derived.Test.YthggdemiddjlgaaGreatG8
import Derived.Test.YthggdemiddjlgaaGreatG9
import Derived.Test.YthggdemiddjlgaaGreatG10
import Derived.WalkKit
import Derived.ProofKit
import Derived.OpenShut
import Derived.ShutString
import Derived.ChangeOld
import Derived.Below
import Derived.JoinedCond
import Derived.SizedLaws
set_option maxRecDepth 100000
set_option maxHeartbeats 12800000
namespace Go.Proofs.YthggdemiddjlgaaGreat.linkGives
open Go.ChangeShapes Go.WideShapes Go.ChangeAt Go.RowKit
open Go.ChangeMaps (open_string shut_string)
set_option linter.unusedVariables false

theorem own : ownKnob Tryz.prog.godebug = none := by kernel_rfl
theorem laidOut : laidOutB Tryz.prog = true := by kernel_rfl

theorem contract (H : Type) (enc : TypeId × Value → H) (W : World) (base : Nat) (args : Array Value) (ds gs : List (DataW H)) (before : List MemPlace)
    (hval : ∀ (j : Nat) t v, Tryz.f7.params[j]? = some t → args[j]? = some v → Value.okWide Tryz.prog W .any base t v)
    (hW : DataW.Whole enc Tryz.prog Tryz.f7.params.toList Rows.linkGivesSpec.vars false W args.toList ds gs before) (hsz0 : (DataW.weightsEach Tryz.prog (Tryz.f7.params.toList ++ Rows.linkGivesSpec.plain.varTypes Tryz.prog) (ds ++ gs)).all (· ≤ reachBytes) = true) :
    Calls Tryz.prog 7 args W fun e W' => ∃ v, e = .returned v ∧ Rows.linkGivesSpec.post enc Tryz.prog Tryz.f7 false true false false W args v W' := by
  have hW' := hW
  obtain ⟨p, q, hA0, hV, rfl, hfz, hnd⟩ := hW
  have hA : DataW.TrodAll enc Tryz.prog W 0 (fun _ => true) true Tryz.f7.params.toList args.toList ds p := hA0
  rw [Tryz.params7] at hA hval
  obtain ⟨v0, vs0, d0, ds0, p0, q0, hargs, rfl, rfl, h0, r0⟩ := trodAll_cons hA
  obtain ⟨v1, vs1, d1, ds1, p1, q1, rfl, rfl, rfl, h1, r1⟩ := trodAll_cons r0
  obtain ⟨v2, vs2, d2, ds2, p2, q2, rfl, rfl, rfl, h2, r2⟩ := trodAll_cons r1
  obtain ⟨rfl, rfl, rfl⟩ := trodAll_nil r2
  obtain rfl : args = #[v0, v1, v2] := by cases args; simp_all
  obtain ⟨rfl, rfl⟩ := trodVars_none hV
  have hsz : (DataW.weightsEach Tryz.prog [33, 3, 9] [d0, d1, d2]).all (fun x => decide (x ≤ reachBytes)) = true := hsz0
  clear hsz0
  have k0 := h0
  have lt0 : ∀ x ∈ p0, x.block < W.heap.size := by obtain ⟨m, hm⟩ := k0; exact DataW.trod_lt m _ _ _ hm
  obtain ⟨x0, y0, z0, u0⟩ : ∃ x, (tRx).rd W (· < W.heap.size) v0.cells.toList x ∧ (∀ m, Rows.uptoBulk d0 ≤ m → (tRx).le m x) ∧ ∀ m, (∀ n ∈ d0.weights Tryz.prog 33, n ≤ m) → (tRx).lw m x := by
    obtain ⟨fuel, hf⟩ := h0
    exact kJA H enc W fuel _ _ hf
  obtain ⟨cs0, rfl, _⟩ := okWide_struct Tryz.underlying33 (hval 0 33 v0 rfl rfl)
  have k1 := h1
  have lt1 : ∀ x ∈ p1, x.block < W.heap.size := by obtain ⟨m, hm⟩ := k1; exact DataW.trod_lt m _ _ _ hm
  obtain ⟨x1, y1, z1, u1⟩ : ∃ x, (Ty.int .i64).rd W (· < W.heap.size) v1.cells.toList x ∧ (∀ m, Rows.uptoBulk d1 ≤ m → (Ty.int .i64).le m x) ∧ ∀ m, (∀ n ∈ d1.weights Tryz.prog 3, n ≤ m) → (Ty.int .i64).lw m x := by
    obtain ⟨fuel, hf⟩ := h1
    exact kAD Tryz.underlying3 H enc W fuel _ _ hf
  obtain ⟨n1, rfl⟩ := okWide_int Tryz.underlying3 (hval 1 3 v1 rfl rfl)
  have k2 := h2
  have lt2 : ∀ x ∈ p2, x.block < W.heap.size := by obtain ⟨m, hm⟩ := k2; exact DataW.trod_lt m _ _ _ hm
  obtain ⟨x2, y2, z2, u2⟩ : ∃ x, (Ty.str).rd W (· < W.heap.size) v2.cells.toList x ∧ (∀ m, Rows.uptoBulk d2 ≤ m → (Ty.str).le m x) ∧ ∀ m, (∀ n ∈ d2.weights Tryz.prog 9, n ≤ m) → (Ty.str).lw m x := by
    obtain ⟨fuel, hf⟩ := h2
    exact (kAt Tryz.underlying9) H enc W fuel _ _ hf
  obtain ⟨n2, rfl⟩ := okWide_string Tryz.underlying9 (hval 2 9 v2 rfl rfl)
  clear hA0
  try simp only [List.append_nil] at hW'
  refine (kHZ W _ _ _ x0 x1 x2 y0 y1 y2 (u0 140737488351232 (fun n hn => by have := List.all_eq_true.1 hsz _ (DataW.weights_mem_each (j := 0) rfl rfl n hn); exact of_decide_eq_true this)) (u1 140737488351232 (fun n hn => by have := List.all_eq_true.1 hsz _ (DataW.weights_mem_each (j := 1) rfl rfl n hn); exact of_decide_eq_true this)) (u2 140737488351232 (fun n hn => by have := List.all_eq_true.1 hsz _ (DataW.weights_mem_each (j := 2) rfl rfl n hn); exact of_decide_eq_true this)) ⟨_, rfl⟩ ⟨_, rfl⟩ ⟨_, rfl⟩).mono fun e W' ⟨he, bel⟩ => ?_
  subst he
  exact ⟨_, rfl, _, _, _, [], _, [], hW', trodAll_mk1 (shut_bool Tryz.underlying4 _), (trodAll_cons_mk (Below.trod laidOut (by kernel_rfl) (of_decide_eq_true (by kernel_rfl)) k0 bel lt0) (trodAll_cons_mk (Below.trod laidOut (by kernel_rfl) (of_decide_eq_true (by kernel_rfl)) k1 bel lt1) (trodAll_cons_mk (Below.trod laidOut (by kernel_rfl) (of_decide_eq_true (by kernel_rfl)) k2 bel lt2) trodAll_mk0))), rfl, bel.frame _, fun h => by cases h⟩

theorem lifted (os : Os) (started : os.Started) (H : Type) (enc : TypeId × Value → H) :
    ReturnsInHanded {} Tryz.checked os 7 .any (Rows.linkGivesSpec.pre6 enc Tryz.prog Tryz.f7 Rows.linkGivesRow.domain false) (Rows.linkGivesSpec.post enc Tryz.prog Tryz.f7 false true false false) := by
  refine returnsInHanded_of_change_sized (C := Tryz.checked) own started (by kernel_rfl) Tryz.func7
    (ChangeSpec.witness6 (enc := enc) (C := Tryz.checked) false ⟨#[], #[.agg #[.slice none 0 0, .slice none 0 0, .slice none 0 0, .slice none 0 0, .slice none 0 0, .slice none 0 0, .slice none 0 0, .slice none 0 0, .slice none 0 0, .slice none 0 0], .int .i64 0, .string ⟨#[]⟩], []⟩ 8 (by kernel_rfl) (by kernel_rfl) (by kernel_rfl) (by kernel_rfl)) ?_
  intro W base args ds gs before hval0 hW hcnd hsz0 _
  exact contract H enc W base args ds gs before hval0 hW hsz0

theorem fact0 : (Rows.linkGivesRow.inPlace == Tryz.pinned.checked.prog.inPlace 7) = true := by kernel_rfl
theorem fact1 : (Rows.linkGivesRow.unfollowed == Tryz.pinned.checked.prog.unfollowed 7) = true := by kernel_rfl
theorem fact2 : (Rows.linkGivesRow.recurses == Tryz.pinned.checked.prog.recurses 7) = true := by kernel_rfl
theorem fact3 : (Rows.linkGivesRow.named == Tryz.pinned.checked.prog.varsNamed 7) = true := by kernel_rfl
theorem fact4 : (laidOutB Tryz.pinned.checked.prog) = true := by kernel_rfl
theorem fact5 : (mapsRowed Tryz.pinned.checked.prog) = true := by kernel_rfl
theorem fact6 : (Tryz.pinned.checked.prog.stopsHeard) = true := by kernel_rfl
theorem fact7 : (Tryz.pinned.checked.prog.mayEnter) = true := by kernel_rfl
theorem fact8 : (Rows.linkGivesRow.lifted == Tryz.pinned.checked.prog.liftsFinal) = true := by kernel_rfl
theorem fact9 : (Rows.linkGivesRow.plainKeys == Tryz.pinned.checked.prog.plainKeys) = true := by kernel_rfl
theorem fact10 : (Tryz.pinned.checked.prog.make == some Rows.linkGivesRow.make) = true := by kernel_rfl
theorem factN : Tryz.pinned.checked.prog.funcNamed Rows.linkGivesRow.func = some 7 := by kernel_rfl
theorem facts : joinedFacts Tryz.pinned.checked.prog 7 Tryz.f7 Rows.linkGivesSpec Rows.linkGivesRow = true := by
  unfold joinedFacts
  rw [fact0, fact1, fact2, fact3, fact4, fact5, fact6, fact7, fact8, fact9, fact10]
  kernel_rfl
theorem over : Rows.linkGivesRow.holds Tryz.pinned (OpenSpec.ofChange Rows.linkGivesSpec) :=
  OpenClaim.holds_of_wide 7 Tryz.f7 rfl rfl rfl rfl rfl rfl rfl ⟨rfl, rfl, rfl, rfl, rfl⟩ rfl rfl rfl rfl rfl factN Tryz.func7 facts
    (of_decide_eq_true (by kernel_rfl)) (by unfold Func.isWrapper; first | (rw [if_pos (by decide +kernel)]; kernel_rfl) | (rw [if_neg (by decide +kernel)]; exact ⟨rfl, rfl⟩))
    (fun os started H enc _ => lifted os started H enc)

theorem proved : Rows.LinkGivesSaid := over
#print axioms proved
end Go.Proofs.YthggdemiddjlgaaGreat.linkGives
