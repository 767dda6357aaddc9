/- Contracts: copyCalls. -/
import Derived.Test.YthggdemiddjlgaaStG
namespace Go.Proofs.Ythggdemiddjlgaa
open Go.RowKit

/-- Elements below k rest on X, the others on Y. -/
def Sk (k : Nat) (X Y : Nat → Prop) (i b : Nat) : Prop := (i < k ∧ X b) ∨ (k ≤ i ∧ Y b)
def Nx (w w' : World) (g b : Nat) : Prop := Nw w w' b ∧ b ≠ g
def CopiedTo {α : Type} (t : Ty α) (el : TypeId) (l : List α) (w : World) (e : Ending) (w' : World) : Prop :=
  ∃ (A : Option Addr) (c : Nat), e = .returned (.slice A l.length c) ∧ t.row w' w.heap.size (fun b => Nw w w' b ∧ (Value.slice A l.length c).ownBlock ≠ some b) el (.slice A l.length c) l ∧ Fr No w w'

end Go.Proofs.Ythggdemiddjlgaa
