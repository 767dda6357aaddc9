/- The plain law: what Of computes. -/
import Derived.Test.YtfngopoaegofhaaSpQ
namespace Go.Proofs.Ytfngopoaegofhaa
open Go.RowKit

theorem bring_fold (l : List Im) (x : SpV) : (l.foldl SpV.bring x).types = x.types ∧ (l.foldl SpV.bring x).funcs = x.funcs ++ (ofKind l 0).map (·.func) ∧ (l.foldl SpV.bring x).tables = x.tables ++ (ofKind l 1).map (·.table) ∧ (l.foldl SpV.bring x).mems = x.mems ++ (ofKind l 2).map (·.mem) ∧
    (l.foldl SpV.bring x).globals = x.globals ++ (ofKind l 3).map (·.glob) ∧ (l.foldl SpV.bring x).datas = x.datas ∧ (l.foldl SpV.bring x).dec = x.dec ∧ ∀ j, (l.foldl SpV.bring x).imp j = x.imp j + impN l j := by
  induction l generalizing x with
  | nil => simp [ofKind, impN]
  | cons a l ih =>
    obtain ⟨h1, h2, h3, h4, h5, h6, h7, h8⟩ := ih (x.bring a)
    rw [List.foldl_cons]
    refine ⟨by rw [h1]; rfl, ?_, ?_, ?_, ?_, by rw [h6]; rfl, by rw [h7]; rfl, fun j => ?_⟩
    · rw [h2]; simp only [SpV.bring, ofKind, List.filter_cons]; by_cases h : a.kind = 0 <;> simp [h]
    · rw [h3]; simp only [SpV.bring, ofKind, List.filter_cons]; by_cases h : a.kind = 1 <;> simp [h]
    · rw [h4]; simp only [SpV.bring, ofKind, List.filter_cons]; by_cases h : a.kind = 2 <;> simp [h]
    · rw [h5]; simp only [SpV.bring, ofKind, List.filter_cons]; by_cases h : a.kind = 3 <;> simp [h]
    · rw [h8]; simp only [SpV.bring, impN, List.countP_cons]
      by_cases h : a.kind = j
      · subst h; simp; omega
      · simp [h, Ne.symm h]
theorem glob_fold (l : List Gd) (x : SpV) : (l.foldl SpV.glob x).types = x.types ∧ (l.foldl SpV.glob x).funcs = x.funcs ∧ (l.foldl SpV.glob x).tables = x.tables ∧ (l.foldl SpV.glob x).mems = x.mems ∧
    (l.foldl SpV.glob x).globals = x.globals ++ l.map (·.type) ∧ (l.foldl SpV.glob x).datas = x.datas ∧ (l.foldl SpV.glob x).imp = x.imp := by
  induction l generalizing x with
  | nil => simp
  | cons a l ih =>
    obtain ⟨h1, h2, h3, h4, h5, h6, h7⟩ := ih (x.glob a)
    rw [List.foldl_cons]
    exact ⟨by rw [h1]; rfl, by rw [h2]; rfl, by rw [h3]; rfl, by rw [h4]; rfl, by rw [h5]; simp [SpV.glob], by rw [h6]; rfl, by rw [h7]; rfl⟩
theorem elem_fold (l : List El) (x : SpV) : (l.foldl SpV.elem x).types = x.types ∧ (l.foldl SpV.elem x).funcs = x.funcs ∧ (l.foldl SpV.elem x).tables = x.tables ∧ (l.foldl SpV.elem x).mems = x.mems ∧
    (l.foldl SpV.elem x).globals = x.globals ∧ (l.foldl SpV.elem x).datas = x.datas ∧ (l.foldl SpV.elem x).imp = x.imp ∧ (l.foldl SpV.elem x).elems = x.elems ++ l.map (·.type) := by
  induction l generalizing x with
  | nil => simp
  | cons a l ih =>
    obtain ⟨h1, h2, h3, h4, h5, h6, h7, h8⟩ := ih (x.elem a)
    rw [List.foldl_cons]
    exact ⟨by rw [h1]; rfl, by rw [h2]; rfl, by rw [h3]; rfl, by rw [h4]; rfl, by rw [h5]; rfl, by rw [h6]; rfl, by rw [h7]; rfl, by rw [h8]; simp [SpV.elem]⟩
theorem exp_fold (l : List Ex) (x : SpV) : (l.foldl SpV.exp x).types = x.types ∧ (l.foldl SpV.exp x).funcs = x.funcs ∧ (l.foldl SpV.exp x).tables = x.tables ∧ (l.foldl SpV.exp x).mems = x.mems ∧
    (l.foldl SpV.exp x).globals = x.globals ∧ (l.foldl SpV.exp x).datas = x.datas ∧ (l.foldl SpV.exp x).imp = x.imp ∧ (l.foldl SpV.exp x).elems = x.elems := by
  induction l generalizing x with
  | nil => simp
  | cons a l ih =>
    obtain ⟨h1, h2, h3, h4, h5, h6, h7, h8⟩ := ih (x.exp a)
    rw [List.foldl_cons]
    have e : (x.exp a).types = x.types ∧ (x.exp a).funcs = x.funcs ∧ (x.exp a).tables = x.tables ∧ (x.exp a).mems = x.mems ∧ (x.exp a).globals = x.globals ∧ (x.exp a).datas = x.datas ∧ (x.exp a).imp = x.imp ∧ (x.exp a).elems = x.elems := by
      unfold SpV.exp; split <;> simp
    obtain ⟨e1, e2, e3, e4, e5, e6, e7, e8⟩ := e
    exact ⟨h1.trans e1, h2.trans e2, h3.trans e3, h4.trans e4, h5.trans e5, h6.trans e6, h7.trans e7, h8.trans e8⟩
/-- The fields of the index spaces. -/
theorem of_fields (m : Md) : (SpV.of m).types = m.types ∧ (SpV.of m).funcs = (ofKind m.imports 0).map (·.func) ++ m.funcs.map (·.type) ∧ (SpV.of m).tables = (ofKind m.imports 1).map (·.table) ++ m.tables ∧ (SpV.of m).mems = (ofKind m.imports 2).map (·.mem) ++ m.mems ∧
    (SpV.of m).globals = (ofKind m.imports 3).map (·.glob) ++ m.globals.map (·.type) ∧ (SpV.of m).datas = m.datas ∧ (∀ j, (SpV.of m).imp j = impN m.imports j) ∧ (SpV.of m).elems = m.elems.map (·.type) := by
  obtain ⟨a1, a2, a3, a4, a5, a6, a7, a8⟩ := bring_fold m.imports (SpV.s1 m)
  obtain ⟨b1, b2, b3, b4, b5, b6, b7⟩ := glob_fold m.globals (SpV.s5 m)
  obtain ⟨c1, c2, c3, c4, c5, c6, c7, c8⟩ := elem_fold m.elems (SpV.s6 m)
  obtain ⟨d1, d2, d3, d4, d5, d6, d7, d8⟩ := exp_fold m.exports (SpV.s7 m)
  have hz : (SpV.s6 m).elems = [] := List.eq_nil_of_length_eq_zero (s6_elems m)
  refine ⟨?_, ?_, ?_, ?_, ?_, ?_, fun j => ?_, ?_⟩
  · exact d1.trans (c1.trans (b1.trans a1))
  · exact d2.trans (c2.trans (b2.trans (by show (SpV.s2 m).funcs ++ _ = _; rw [SpV.s2, a2]; rfl)))
  · exact d3.trans (c3.trans (b3.trans (by show (SpV.s2 m).tables ++ _ = _; rw [SpV.s2, a3]; rfl)))
  · exact d4.trans (c4.trans (b4.trans (by show (SpV.s2 m).mems ++ _ = _; rw [SpV.s2, a4]; rfl)))
  · exact d5.trans (c5.trans (b5.trans (by show (SpV.s2 m).globals ++ _ = _; rw [SpV.s2, a5]; rfl)))
  · exact d6.trans (c6.trans (b6.trans a6))
  · rw [SpV.of, d7, SpV.s7, c7, SpV.s6, b7]
    show (SpV.s2 m).imp j = _
    rw [SpV.s2, a8]
    show (0 : Int) + _ = _
    omega
  · exact d8.trans (c8.trans (by rw [hz]; rfl))
end Go.Proofs.Ytfngopoaegofhaa
