/- The reference's Declared, and the plain law. -/
import Derived.Test.YtfngopoaegofhaaSpU
import Derived.Test.YtfngopoaegofhaaSpO
namespace Go.Proofs.Ytfngopoaegofhaa
open Go.RowKit

def expB (l : List Ex) (i : Int) : Bool := l.any (fun e => e.kind == 0 && e.index == i)
def globB (l : List Gd) (i : Int) : Bool := l.any (fun g => namesB g.init i)
def elemB (l : List El) (i : Int) : Bool := l.any (fun e => e.items.any (fun x => namesB x i))
theorem bring_dec (l : List Im) (x : SpV) : (l.foldl SpV.bring x).dec = x.dec := (bring_fold l x).2.2.2.2.2.2.1
theorem glob_dec (l : List Gd) (x : SpV) (i : Int) : (l.foldl SpV.glob x).dec i = (x.dec i || globB l i) := by
  induction l generalizing x with
  | nil => simp [globB]
  | cons a l ih => rw [List.foldl_cons, ih]; simp [SpV.glob, decUp, globB, namesB, Bool.or_assoc]
theorem decs_dec (l : List (List Ins)) (f : Int → Bool) (i : Int) : l.foldl decUp f i = (f i || l.any (fun x => namesB x i)) := by
  induction l generalizing f with
  | nil => simp
  | cons a l ih => rw [List.foldl_cons, ih]; simp [decUp, namesB, Bool.or_assoc]
theorem elem_dec (l : List El) (x : SpV) (i : Int) : (l.foldl SpV.elem x).dec i = (x.dec i || elemB l i) := by
  induction l generalizing x with
  | nil => simp [elemB]
  | cons a l ih => rw [List.foldl_cons, ih]; simp only [SpV.elem, decs_dec, elemB, List.any_cons, Bool.or_assoc]
theorem exp_dec (l : List Ex) (x : SpV) (i : Int) : (l.foldl SpV.exp x).dec i = (x.dec i || expB l i) := by
  induction l generalizing x with
  | nil => simp [expB]
  | cons a l ih =>
    rw [List.foldl_cons, ih]
    simp only [expB, List.any_cons, ← Bool.or_assoc]
    congr 1
    unfold SpV.exp
    by_cases h : a.kind = 0
    · rw [if_pos h]
      by_cases h2 : i = a.index
      · simp [h, h2]
      · simp [h, h2, Ne.symm h2]
    · rw [if_neg h]; simp [h]
theorem of_dec (m : Md) (i : Int) : (SpV.of m).dec i = (globB m.globals i || elemB m.elems i || expB m.exports i) := by
  rw [SpV.of, exp_dec, SpV.s7, elem_dec, SpV.s6, glob_dec]
  have : (SpV.s5 m).dec i = false := by
    show (SpV.s2 m).dec i = false
    rw [SpV.s2, bring_dec]; rfl
  rw [this, Bool.false_or]
/-- What the reference answers. -/
def rDeclB (m : Md) (i : Int) : Bool := decide (0 ≤ i) && (decide (i < (impN m.imports 0 : Nat) + m.funcs.length) && (globB m.globals i || elemB m.elems i || expB m.exports i))
theorem decl_law (m : Md) (i : Int) : declB (SpV.of m) i = rDeclB m i := by
  obtain ⟨_, h2, _⟩ := of_fields m
  have h : (((SpV.of m).funcs.length : Nat) : Int) = (impN m.imports 0 : Nat) + m.funcs.length := by rw [h2]; simp [ofKind_len]
  rw [declB, rDeclB, of_dec, h]
theorem any_stop {α : Type} {l : List α} {p : α → Bool} {k : Nat} (hk : k < l.length) (h : p l[k] = true) : l.any p = true := List.any_eq_true.2 ⟨l[k], List.getElem_mem hk, h⟩
theorem any_step {α : Type} {l : List α} {p : α → Bool} {k : Nat} (hk : k < l.length) (h : (l.take k).any p = false) (h1 : p l[k] = false) : (l.take (k + 1)).any p = false := by
  rw [List.take_succ_eq_append_getElem hk, List.any_append, h]; simp [h1]
theorem any_all {α : Type} {l : List α} {p : α → Bool} {k : Nat} (hk : l.length ≤ k) (h : (l.take k).any p = false) : l.any p = false := by
  rwa [List.take_of_length_le hk] at h
end Go.Proofs.Ytfngopoaegofhaa
