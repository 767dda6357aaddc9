/- The law SpaceFirst: the plain part. -/
import Derived.Test.YtfngopoaegofhaaSpX
import Derived.Test.YtfngopoaegofhaaSpU
import Derived.Test.YtfngopoaegofhaaSpZ
import Derived.Test.YtfngopoaegofhaaSqE
namespace Go.Proofs.Ytfngopoaegofhaa
open Go.RowKit

theorem atD_get? {α : Type} (d : α) (l : List α) (i : Int) : atD d l i = if 0 ≤ i then (match l[i.toNat]? with | some a => (a, true) | none => (d, false)) else (d, false) := by
  rcases at_cases l i with ⟨k, hk, rfl⟩ | hi | ⟨h0, hi⟩
  · rw [atD_yes hk, if_pos (by omega)]; simp [hk]
  · rw [atD_no (.inl hi), if_neg (by omega)]
  · rw [atD_no (.inr hi), if_pos (by omega), List.getElem?_eq_none (by omega)]
theorem ins_at {α : Type} (d e : α) (A B : List α) (i : Int) (h : A.length + B.length ≤ 1000) (sh : Bool) (hs : sh = decide ((A.length : Int) ≤ i ∧ i < 1099511627776)) : atD d (A ++ e :: B) (if sh then i + 1 else i) = atD d (A ++ B) i := by
  have hcase : (sh = true ∧ (A.length : Int) ≤ i ∧ i < 1099511627776) ∨ (sh = false ∧ ¬ ((A.length : Int) ≤ i ∧ i < 1099511627776)) := by
    by_cases hh : (A.length : Int) ≤ i ∧ i < 1099511627776
    · exact .inl ⟨by rw [hs, decide_eq_true hh], hh⟩
    · exact .inr ⟨by rw [hs, decide_eq_false hh], hh⟩
  clear hs
  rcases hcase with ⟨rfl, h1, h2⟩ | ⟨rfl, hn⟩
  · show atD d (A ++ e :: B) (i + 1) = atD d (A ++ B) i
    rw [atD_get?, atD_get?, if_pos (by omega), if_pos (by omega)]
    rw [List.getElem?_append_right (by omega), List.getElem?_append_right (by omega), show (i + 1).toNat - A.length = (i.toNat - A.length) + 1 by omega, List.getElem?_cons_succ]
  · show atD d (A ++ e :: B) i = atD d (A ++ B) i
    rw [atD_get?, atD_get?]
    by_cases h0 : 0 ≤ i
    · rw [if_pos h0, if_pos h0]
      by_cases h1 : (A.length : Int) ≤ i
      · rw [List.getElem?_eq_none (by simp; omega), List.getElem?_eq_none (by simp; omega)]
      · rw [List.getElem?_append_left (by omega), List.getElem?_append_left (by omega)]
    · rw [if_neg h0, if_neg h0]
def mdAdd (m : Md) (x : Im) : Md := { m with imports := m.imports ++ [x] }
theorem ofKind_add (l : List Im) (x : Im) (k : Int) : ofKind (l ++ [x]) k = ofKind l k ++ (if x.kind = k then [x] else []) := by
  rw [ofKind, List.filter_append, ofKind]
  by_cases h : x.kind = k
  · simp [h]
  · simp [h]
def shK (m : Md) (x : Im) (k i : Int) : Bool := decide (x.kind = k ∧ ((impN m.imports k : Nat) : Int) ≤ i ∧ i < 1099511627776)
theorem ins_kind {α : Type} (d : α) (f : Im → α) (m : Md) (x : Im) (k i : Int) (B : List α) (h : m.imports.length + B.length ≤ 1000) :
    atD d ((ofKind (m.imports ++ [x]) k).map f ++ B) (if shK m x k i then i + 1 else i) = atD d ((ofKind m.imports k).map f ++ B) i := by
  have hl : ((ofKind m.imports k).map f).length = impN m.imports k := by simp [ofKind_len]
  have hle := impN_le m.imports k
  rw [ofKind_add]
  by_cases hk : x.kind = k
  · rw [if_pos hk, List.map_append, List.append_assoc]
    exact ins_at d (f x) _ B i (by omega) _ (by rw [shK, hl]; simp [hk])
  · rw [if_neg hk, List.append_nil, shK, decide_eq_false (fun hh => hk hh.1), if_neg (by simp)]
theorem first_types (m : Md) (x : Im) : (SpV.of (mdAdd m x)).types = (SpV.of m).types := by rw [(of_fields _).1, (of_fields _).1]; rfl
theorem first_func (m : Md) (x : Im) (i : Int) (h1 : m.imports.length ≤ 100) (h2 : m.funcs.length ≤ 100) : funcD (SpV.of (mdAdd m x)) (if shK m x 0 i then i + 1 else i) = funcD (SpV.of m) i := by
  have := ins_kind (0 : Int) (·.func) m x 0 i (m.funcs.map (·.type)) (by simp; omega)
  rw [funcD, funcD, first_types, (of_fields _).2.1, (of_fields _).2.1]
  rw [show (mdAdd m x).imports = m.imports ++ [x] from rfl, show (mdAdd m x).funcs = m.funcs from rfl, this]
theorem first_glob (m : Md) (x : Im) (i : Int) (h1 : m.imports.length ≤ 100) (h2 : m.globals.length ≤ 100) : atD zGl (SpV.of (mdAdd m x)).globals (if shK m x 3 i then i + 1 else i) = atD zGl (SpV.of m).globals i := by
  have := ins_kind zGl (·.glob) m x 3 i (m.globals.map (·.type)) (by simp; omega)
  rw [(of_fields _).2.2.2.2.1, (of_fields _).2.2.2.2.1]
  rw [show (mdAdd m x).imports = m.imports ++ [x] from rfl, show (mdAdd m x).globals = m.globals from rfl, this]
theorem impN_add (l : List Im) (x : Im) (k : Int) : impN (l ++ [x]) k = impN l k + (if x.kind = k then 1 else 0) := by
  rw [← ofKind_len, ofKind_add, List.length_append, ofKind_len]; split <;> rfl
def allN (y : SpV) : Int := (y.funcs.length : Int) + y.tables.length + y.mems.length + y.globals.length
theorem allN_eq (m : Md) : allN (SpV.of m) = ((impN m.imports 0 + impN m.imports 1 + impN m.imports 2 + impN m.imports 3 + m.funcs.length + m.tables.length + m.mems.length + m.globals.length : Nat) : Int) := by
  rw [allN, (of_fields _).2.1, (of_fields _).2.2.1, (of_fields _).2.2.2.1, (of_fields _).2.2.2.2.1, numLen, numLen, numLen, numLen, List.length_map, List.length_map]; omega
theorem first_all (m : Md) (x : Im) : allN (SpV.of (mdAdd m x)) = allN (SpV.of m) + (if 0 ≤ x.kind ∧ x.kind ≤ 3 then 1 else 0) := by
  rw [allN_eq, allN_eq, show (mdAdd m x).imports = m.imports ++ [x] from rfl, impN_add, impN_add, impN_add, impN_add]
  show ((_ + m.funcs.length + m.tables.length + m.mems.length + m.globals.length : Nat) : Int) = _
  by_cases h : 0 ≤ x.kind ∧ x.kind ≤ 3
  · rw [if_pos h]
    have : x.kind = 0 ∨ x.kind = 1 ∨ x.kind = 2 ∨ x.kind = 3 := by omega
    rcases this with h | h | h | h <;> rw [h] <;> simp <;> omega
  · rw [if_neg h, if_neg (by omega), if_neg (by omega), if_neg (by omega), if_neg (by omega)]; simp
end Go.Proofs.Ytfngopoaegofhaa
