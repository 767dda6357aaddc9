/- For every input LinkExact returns true, and each argument reads afterwards as it read before. Condition: the arguments are of bulk at most 1048576. -/
import Derived.Test.YthggdemiddjlgaaGreatRows
import Derived.Test.YthggdemiddjlgaaGreatS1
import Derived.Test.YthggdemiddjlgaaGreatS2
import Derived.Test.YthggdemiddjlgaaGreatS3
import Derived.Test.YthggdemiddjlgaaGreatS4
import Derived.Test.YthggdemiddjlgaaGreatS5
import Derived.Test.YthggdemiddjlgaaGreatS6
import Derived.Test.YthggdemiddjlgaaGreatS7
import Derived.Test.YthggdemiddjlgaaGreatS8
import Derived.Test.YthggdemiddjlgaaGreatS9
import Derived.Test.YthggdemiddjlgaaGreatS10
import Derived.Test.YthggdemiddjlgaaGreatS11
import Derived.Test.YthggdemiddjlgaaGreatS12
import Derived.Test.YthggdemiddjlgaaGreatS13
import Derived.Test.YthggdemiddjlgaaGreatS14
import Derived.Test.YthggdemiddjlgaaGreatS15
import Derived.WalkKit
import Derived.ProofKit
import Derived.OpenShut
import Derived.ShutString
import Derived.ChangeOld
import Derived.Below
import Derived.JoinedCond
import Derived.SizedLaws
set_option maxRecDepth 100000
set_option maxHeartbeats 12800000
namespace Go.Proofs.YthggdemiddjlgaaGreat.linkExact
open Go.ChangeShapes Go.WideShapes Go.ChangeAt Go.RowKit
open Go.ChangeMaps (open_string shut_string)
set_option linter.unusedVariables false

theorem own : ownKnob Tryz.prog.godebug = none := by kernel_rfl
theorem laidOut : laidOutB Tryz.prog = true := by kernel_rfl

theorem contract (H : Type) (enc : TypeId × Value → H) (W : World) (base : Nat) (args : Array Value) (ds gs : List (DataW H)) (before : List MemPlace)
    (hval : ∀ (j : Nat) t v, Tryz.f6.params[j]? = some t → args[j]? = some v → Value.okWide Tryz.prog W .any base t v)
    (hW : DataW.Whole enc Tryz.prog Tryz.f6.params.toList Rows.linkExactSpec.vars false W args.toList ds gs before) (hk : Rows.uptoSmall H (ds ++ gs) = true) :
    Calls Tryz.prog 6 args W fun e W' => ∃ v, e = .returned v ∧ Rows.linkExactSpec.post enc Tryz.prog Tryz.f6 false true false false W args v W' := by
  have hW' := hW
  obtain ⟨p, q, hA0, hV, rfl, hfz, hnd⟩ := hW
  have hA : DataW.TrodAll enc Tryz.prog W 0 (fun _ => true) true Tryz.f6.params.toList args.toList ds p := hA0
  rw [Tryz.params6] at hA hval
  obtain ⟨v0, vs0, d0, ds0, p0, q0, hargs, rfl, rfl, h0, r0⟩ := trodAll_cons hA
  obtain ⟨v1, vs1, d1, ds1, p1, q1, rfl, rfl, rfl, h1, r1⟩ := trodAll_cons r0
  obtain ⟨rfl, rfl, rfl⟩ := trodAll_nil r1
  obtain rfl : args = #[v0, v1] := by cases args; simp_all
  obtain ⟨rfl, rfl⟩ := trodVars_none hV
  have hb : Rows.uptoBulkAll ([d0, d1] ++ []) ≤ 1048576 := of_decide_eq_true hk
  simp only [List.append_nil, Rows.uptoBulkAll] at hb
  have k0 := h0
  have lt0 : ∀ x ∈ p0, x.block < W.heap.size := by obtain ⟨m, hm⟩ := k0; exact DataW.trod_lt m _ _ _ hm
  obtain ⟨x0, y0, z0, u0⟩ : ∃ x, (tRx).rd W (· < W.heap.size) v0.cells.toList x ∧ (∀ m, Rows.uptoBulk d0 ≤ m → (tRx).le m x) ∧ ∀ m, (∀ n ∈ d0.weights Tryz.prog 33, n ≤ m) → (tRx).lw m x := by
    obtain ⟨fuel, hf⟩ := h0
    exact kJA H enc W fuel _ _ hf
  obtain ⟨cs0, rfl, _⟩ := okWide_struct Tryz.underlying33 (hval 0 33 v0 rfl rfl)
  have k1 := h1
  have lt1 : ∀ x ∈ p1, x.block < W.heap.size := by obtain ⟨m, hm⟩ := k1; exact DataW.trod_lt m _ _ _ hm
  obtain ⟨x1, y1, z1, u1⟩ : ∃ x, (tFn).rd W (· < W.heap.size) v1.cells.toList x ∧ (∀ m, Rows.uptoBulk d1 ≤ m → (tFn).le m x) ∧ ∀ m, (∀ n ∈ d1.weights Tryz.prog 78, n ≤ m) → (tFn).lw m x := by
    obtain ⟨fuel, hf⟩ := h1
    exact kCZ H enc W fuel _ _ hf
  obtain ⟨cs1, rfl, _⟩ := okWide_struct Tryz.underlying78 (hval 1 78 v1 rfl rfl)
  clear hA0
  simp only [List.append_nil] at hW'
  refine (kKz W _ _ x0 x1 y0 y1 (z0 1048576 (by omega)) (z1 1048576 (by omega)) ⟨_, rfl⟩ ⟨_, rfl⟩).mono fun e W' ⟨he, bel⟩ => ?_
  subst he
  exact ⟨_, rfl, _, _, _, [], _, [], hW', trodAll_mk1 (shut_bool Tryz.underlying4 _), (trodAll_cons_mk (Below.trod laidOut (by kernel_rfl) (of_decide_eq_true (by kernel_rfl)) k0 bel lt0) (trodAll_cons_mk (Below.trod laidOut (by kernel_rfl) (of_decide_eq_true (by kernel_rfl)) k1 bel lt1) trodAll_mk0)), rfl, bel.frame _, fun h => by cases h⟩

theorem lifted (os : Os) (started : os.Started) (H : Type) (enc : TypeId × Value → H) (F : Stop.Interp) :
    ReturnsInHanded {} Tryz.checked os 6 .any ((Rows.OpenSpec.upto Rows.linkExactSpec).pre6 enc Tryz.prog Tryz.f6 Rows.linkExactUptoRow.domain false) (((Rows.OpenSpec.upto Rows.linkExactSpec).at F).post enc Tryz.prog Tryz.f6 false true false false) := by
  refine returnsInHanded_of_cond (C := Tryz.checked) (s := Rows.OpenSpec.upto Rows.linkExactSpec) (k := Rows.uptoSmall) rfl own started (by kernel_rfl) Tryz.func6
    (OpenSpec.witness (enc := enc) (C := Tryz.checked) (s := Rows.OpenSpec.upto Rows.linkExactSpec) (k := Rows.uptoSmall) rfl false ⟨#[], #[.agg #[.slice none 0 0, .slice none 0 0, .slice none 0 0, .slice none 0 0, .slice none 0 0, .slice none 0 0, .slice none 0 0, .slice none 0 0, .slice none 0 0, .slice none 0 0], .agg #[.slice none 0 0, .slice none 0 0]], []⟩ 8 (by kernel_rfl) (by kernel_rfl) (by kernel_rfl)
      (x := ([.agg [.nil, .nil, .nil, .nil, .nil, .nil, .nil, .nil, .nil, .nil], .agg [.nil, .nil]], [], [])) (by kernel_rfl) rfl (by kernel_rfl)) ?_
  intro W base args ds gs before hval hW _ hk _
  exact contract H enc W base args ds gs before hval hW hk

theorem fact0 : (Rows.linkExactUptoRow.inPlace == Tryz.pinned.checked.prog.inPlace 6) = true := by kernel_rfl
theorem fact1 : (Rows.linkExactUptoRow.unfollowed == Tryz.pinned.checked.prog.unfollowed 6) = true := by kernel_rfl
theorem fact2 : (Rows.linkExactUptoRow.recurses == Tryz.pinned.checked.prog.recurses 6) = true := by kernel_rfl
theorem fact3 : (Rows.linkExactUptoRow.named == Tryz.pinned.checked.prog.varsNamed 6) = true := by kernel_rfl
theorem fact4 : (laidOutB Tryz.pinned.checked.prog) = true := by kernel_rfl
theorem fact5 : (mapsRowed Tryz.pinned.checked.prog) = true := by kernel_rfl
theorem fact6 : (Tryz.pinned.checked.prog.stopsHeard) = true := by kernel_rfl
theorem fact7 : (Tryz.pinned.checked.prog.mayEnter) = true := by kernel_rfl
theorem fact8 : (Rows.linkExactUptoRow.lifted == Tryz.pinned.checked.prog.liftsFinal) = true := by kernel_rfl
theorem fact9 : (Rows.linkExactUptoRow.plainKeys == Tryz.pinned.checked.prog.plainKeys) = true := by kernel_rfl
theorem fact10 : (Tryz.pinned.checked.prog.make == some Rows.linkExactUptoRow.make) = true := by kernel_rfl
theorem factN : Tryz.pinned.checked.prog.funcNamed Rows.linkExactUptoRow.func = some 6 := by kernel_rfl
theorem facts : joinedFacts Tryz.pinned.checked.prog 6 Tryz.f6 (Rows.OpenSpec.upto Rows.linkExactSpec).bare Rows.linkExactUptoRow = true := by
  unfold joinedFacts
  rw [fact0, fact1, fact2, fact3, fact4, fact5, fact6, fact7, fact8, fact9, fact10]
  kernel_rfl
theorem over : Rows.linkExactUptoRow.holds Tryz.pinned (Rows.OpenSpec.upto Rows.linkExactSpec) :=
  OpenClaim.holds_of_cond 6 Tryz.f6 rfl rfl rfl rfl rfl rfl rfl ⟨rfl, rfl, rfl, rfl, rfl⟩ rfl rfl rfl rfl rfl factN Tryz.func6 facts
    (of_decide_eq_true (by kernel_rfl)) (by unfold Func.isWrapper; first | (rw [if_pos (by decide +kernel)]; kernel_rfl) | (rw [if_neg (by decide +kernel)]; exact ⟨rfl, rfl⟩))
    (fun os started H enc _ F => lifted os started H enc F)

theorem proved : Rows.LinkExactUptoSaid := over
#print axioms proved
end Go.Proofs.YthggdemiddjlgaaGreat.linkExact
