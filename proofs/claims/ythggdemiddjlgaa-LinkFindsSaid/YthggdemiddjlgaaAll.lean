/- Conditions that hold of every index below a bound. No condition. -/
import Derived.Below
namespace Go.Proofs.Ythggdemiddjlgaa

def allUp (p : Nat → Bool) (n : Nat) : Bool := (List.range n).all p
theorem allUp_zero (p : Nat → Bool) : allUp p 0 = true := rfl
theorem allUp_step {p : Nat → Bool} {k : Nat} (h : allUp p k = true) (hp : p k = true) : allUp p (k + 1) = true := by
  unfold allUp at h ⊢
  rw [List.range_succ, List.all_append, h]; simp [hp]
theorem allUp_stop {p : Nat → Bool} {k n : Nat} (hk : k < n) (hp : p k = false) : allUp p n = false := by
  rw [← Bool.not_eq_true]; intro h
  have := List.all_eq_true.1 h k (List.mem_range.2 hk)
  rw [hp] at this; cases this
theorem allUp_iff {p : Nat → Bool} {n : Nat} : allUp p n = true ↔ ∀ i, i < n → p i = true := by
  unfold allUp
  rw [List.all_eq_true]
  exact ⟨fun h i hi => h i (List.mem_range.2 hi), fun h i hi => h i (List.mem_range.1 hi)⟩
theorem allUp_congr {p q : Nat → Bool} {n : Nat} (h : ∀ i, i < n → p i = q i) : allUp p n = allUp q n := by
  rw [Bool.eq_iff_iff, allUp_iff, allUp_iff]
  exact ⟨fun k i hi => by rw [← h i hi]; exact k i hi, fun k i hi => by rw [h i hi]; exact k i hi⟩
end Go.Proofs.Ythggdemiddjlgaa
