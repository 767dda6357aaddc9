/- Contracts of the small functions of package tables and of the type checks. -/
import Derived.Test.YtndhbamfgihncaaRows
import Derived.Test.YtndhbamfgihncaaApp
import Derived.WalkKit
import Derived.WalkSpells
import Derived.WalkLawsBesides
import Derived.Deep.QuietTactic
import Derived.BigQuiet
import Derived.RegionTactic
import Derived.ChangeAlike
import Derived.Deep.RegionHeld3
namespace Go.Proofs.Ytndhbamfgihncaa
open Go.RowKit

theorem bcell {W w1 : World} (hb : Below W.heap.size W w1) : (∀ b o, b < W.heap.size → w1.cell? ⟨b, o, none⟩ = W.cell? ⟨b, o, none⟩) ∧ (∀ b o, b < W.heap.size → w1.frozen? ⟨b, o, none⟩ = W.frozen? ⟨b, o, none⟩) :=
  ⟨fun b o h => hb.cell (p := ⟨b, o, none⟩) h, fun b o h => hb.frozen (p := ⟨b, o, none⟩) h⟩

theorem ret_bool {a b : Bool} (h : a = b) : Ending.returned (.bool a) = .returned (.bool b) := by rw [h]

set_option maxHeartbeats 400000 in
theorem low_any (n : Int) (w : World) (_h0 : 0 ≤ n) :
    Calls Try.prog 27 #[.int .u64 n] w fun e w' => e = .returned (.int .u64 (n % 4294967296)) ∧ w = w' := by
  go_enter Try.func27, Try.ntmps27
  go_wp2
  go_ret
  exact ⟨rfl, rfl⟩

def thereB (len : Nat) (f n : Int) : Bool := decide (f % 4294967296 + n % 4294967296 ≤ (len : Int))

set_option maxHeartbeats 400000 in
theorem there_any (A : Option Addr) (len c : Nat) (f n : Int) (w : World) (hl : len ≤ 9223372036854775807) (h0 : 0 ≤ f) (h1 : 0 ≤ n) :
    Calls Try.prog 26 #[.slice A len c, .int .u64 f, .int .u64 n] w fun e w' => e = .returned (.bool (thereB len f n)) ∧ w = w' := by
  go_enter Try.func26, Try.ntmps26
  go_wp2_with (go_at_call 27; refine (low_any _ _ (by omega)).mono ?_; rintro e w' ⟨rfl, rfl⟩)
  go_ret
  refine ⟨ret_bool ?_, rfl⟩
  rfl

set_option maxHeartbeats 400000 in
theorem list_nil (w : World) :
    Calls Try.prog 25 #[.pointer none] w fun e w' => e = .returned (.slice none 0 0) ∧ w = w' := by
  go_enter Try.func25, Try.ntmps25
  go_wp2
  go_ret
  exact ⟨rfl, rfl⟩

set_option maxHeartbeats 400000 in
theorem list_at (b : Nat) (w : World) (v : Value) (h : w.cell? ⟨b, 4, none⟩ = some v) :
    Calls Try.prog 25 #[.pointer (some ⟨b, 0, none⟩)] w fun e w' => e = .returned v ∧ w = w' := by
  go_enter Try.func25, Try.ntmps25
  go_wp2
  go_ret
  exact ⟨rfl, rfl⟩

def refB (e : Int) : Bool := e == 3 || e == 4
def limB (mn mx : Int) (h : Bool) (most : Int) : Bool :=
  if mn < 0 ∨ most < mn then false else if h then decide (mn ≤ mx) && decide (mx ≤ most) else mx == 0
def tabB (e mn mx : Int) (h : Bool) : Bool := refB e && limB mn mx h 1024

set_option maxHeartbeats 400000 in
theorem ref_any (e : Int) (w : World) :
    Calls Try.prog 38 #[.int .i64 e] w fun e' w' => e' = .returned (.bool (refB e)) ∧ w = w' := by
  go_enter Try.func38, Try.ntmps38
  go_wp2
  all_goals go_ret
  all_goals simp_all [refB]
set_option maxHeartbeats 400000 in
theorem lim_any (mn mx : Int) (h : Bool) (most : Int) (w : World) :
    Calls Try.prog 39 #[.agg #[.int .i64 mn, .int .i64 mx, .bool h], .int .i64 most] w fun e' w' => e' = .returned (.bool (limB mn mx h most)) ∧ Below w.heap.size w w' := by
  go_enter Try.func39, Try.ntmps39
  go_wp2
  all_goals go_ret
  all_goals (refine ⟨ret_bool ?_, (Below.refl _ _).alloc (Nat.le_refl _) _⟩)
  all_goals (first | (simp [limB, *] <;> omega) | (cases h <;> simp_all [limB] <;> omega))

set_option maxHeartbeats 400000 in
theorem table_any (e mn mx : Int) (h : Bool) (w : World) :
    Calls Try.prog 29 #[.agg #[.int .i64 e, .int .i64 mn, .int .i64 mx, .bool h]] w fun e' w' => e' = .returned (.bool (tabB e mn mx h)) ∧ Below w.heap.size w w' := by
  cases hr : refB e
  all_goals
    go_enter Try.func29, Try.ntmps29
    go_wp2_with (first
     | (go_at_call 38; refine (ref_any _ _).mono ?_; rintro e w' ⟨rfl, rfl⟩)
     | (go_at_call 39; refine (lim_any _ _ _ _ _).mono ?_; rintro e w' ⟨rfl, hb⟩))
    go_ret
  · exact ⟨ret_bool (by simp [tabB, hr]), (Below.refl _ _).alloc (Nat.le_refl _) _⟩
  · exact ⟨ret_bool (by simp [tabB, hr]), ((Below.refl _ _).alloc (Nat.le_refl _) _).trans (hb.mono (by simp))⟩

theorem u64s : ElemOk Try.prog 22 23 1 8 (.int .u64 0) := ElemOk.mk' Try.underlying22 (by kernel_rfl) rfl (by omega)

def Us (xs : List Int) : List Value := xs.map (Value.int .u64)
@[simp] theorem len_Us (xs : List Int) : (Us xs).length = xs.length := by simp [Us]
theorem one_Us (xs : List Int) : ∀ u ∈ Us xs, u.oneCell' = true := by
  intro u hu
  simp only [Us, List.mem_map] at hu
  obtain ⟨a, _, rfl⟩ := hu
  rfl
theorem Us_at (xs : List Int) (k : Nat) (hk : k < xs.length) : (Us xs)[k]'(by simpa using hk) = .int .u64 xs[k] := by simp [Us]

def Cloned (E : TypeId) (xs : List Value) (w : World) (e : Ending) (w' : World) : Prop :=
  ∃ q c, e = .returned (.slice (some ⟨q, 0, none⟩) xs.length c) ∧ Own w' q E c xs ∧ w.heap.size ≤ q ∧ Fr No w w'

set_option maxHeartbeats 400000 in
theorem clone_any (b o c : Nat) (B : Nat) (xs : List Value) (w : World) (hr : Rd w B (some ⟨b, o, none⟩) xs) (h1 : ∀ u ∈ xs, u.oneCell' = true) (hl : xs.length ≤ 1048576) :
    Calls Try.prog 28 #[.slice (some ⟨b, o, none⟩) xs.length c] w (Cloned 23 xs w) := by
  go_enter Try.func28, Try.ntmps28
  have q22 : ∀ (w : World) (a : Option Addr) (n c n' c' : Nat), (binOp .eql 22 (.slice a n c) (.slice none n' c')).run Try.prog w = .ok (.bool a.isNone) w := fun w a n c n' c' => Lib.run_eql_slice_nil w _ _ a n c n' c' Try.underlying22
  go_wp2_with (at_builtin; refine wpList_app1 c u64s rfl rfl (xs := []) rfl rfl (own_lit w 23 [] (by simp)) (hr.frNo ((Fr.refl No w).alloc _)) rfl h1 (by simp; omega) (by omega) ?_; intro q c' w' hown hf hq)
  go_ret
  refine ⟨q, c', by simp, hown, ?_, ((Fr.refl No w).alloc _).trans hf (by intro i hi h; have : i = w.heap.size := h; omega)⟩
  rcases hq with rfl | rfl <;> simp
end Go.Proofs.Ytndhbamfgihncaa
