/- Contracts: poke. -/
import Derived.Test.YthggdemiddjlgaaStP
namespace Go.Proofs.Ythggdemiddjlgaa
open Go.RowKit

def MemsOk (x : Rx) : Prop := ∀ m ∈ x.mems, m.b.length ≤ 65536 ∧ m.b.length % 256 = 0
def pokeS (x : Rx) (a : Ac) : Rx × Bool :=
  match getI x.mems a.mem with
  | none => (x, false)
  | some m => if a.at_ < 0 ∨ (m.b.length : Int) ≤ a.at_ then (x, false) else ({ x with mems := x.mems.set a.mem.toNat ⟨m.lim, m.b.set a.at_.toNat a.byte⟩ }, true)
theorem getI_map {α β : Type} {l : List α} {f : α → β} (i : Int) : getI (l.map f) i = (getI l i).map f := by
  unfold getI
  split <;> simp
theorem getI_len {α β : Type} {l : List α} {m : List β} (h : l.length = m.length) (i : Int) : (getI l i).isNone = (getI m i).isNone := by
  unfold getI
  split
  · by_cases hi : i.toNat < l.length
    · simp [hi, h ▸ hi]
    · rw [List.getElem?_eq_none (by omega), List.getElem?_eq_none (by omega)]; rfl
  · rfl
theorem getI_some {α : Type} {l : List α} {i : Int} {a : α} (h : getI l i = some a) : 0 ≤ i ∧ l[i.toNat]? = some a := by
  unfold getI at h
  split at h
  · exact ⟨by assumption, h⟩
  · cases h
theorem splice_one {α : Type} (B : List α) (t : Nat) (b : α) (h : t < B.length) : splice B t [b] = B.set t b := by
  have := splice_set B [] t b (by simpa using h)
  rw [splice_nil] at this
  simpa using this.symm
theorem fill_one {B : List Int} {t : Nat} {b : Int} (ht : t < B.length) (hb : 0 ≤ b ∧ b ≤ 255) : fillR B t b 1 = (B.set t b, 0) := by
  have hm : b % 256 = b := by omega
  unfold fillR
  rw [if_pos (by omega), hm]
  simp only [List.replicate_succ, List.replicate_zero]
  rw [splice_one _ _ _ ht]
section
variable {w : World} {R : Nat → Prop} {V : Pl} {x : Rx}
end
end Go.Proofs.Ythggdemiddjlgaa
