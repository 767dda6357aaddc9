/- A range over a string beside other memory; rows under a frame. No condition. -/
import Derived.Test.YthggdemiddjlgaaInts
import Derived.Laws.RangeAny
namespace Go.Proofs.Ythggdemiddjlgaa
open Go.RowKit

/-- Block g is an iterator over s at pos. -/
def It (w : World) (g : Nat) (s : ByteArray) (pos : Nat) : Prop := w.heap[g]? = some (.stringIter s pos)
def stepIt (w : World) (g : Nat) (s : ByteArray) (pos : Nat) : World := { w with heap := w.heap.setIfInBounds g (.stringIter s pos) }

theorem row_fr {w w' : World} {M : Nat → Prop} {base size n : Nat} {e : TypeId} {v : Value} {xs : List Value} (h : w.ownsRow base e size v n xs) (f : Fr M w w') (hM : ∀ k, v.ownBlock = some k → ¬ M k) : w'.ownsRow base e size v n xs := by
  refine ⟨h.1, ?_⟩
  rcases h.2 with hn | ⟨g, cap, cur, rfl, hb, hgg, rest⟩
  · exact .inl hn
  · refine .inr ⟨g, cap, cur, rfl, hb, ?_, rest⟩
    have hlt : g < w.heap.size := by
      rcases Nat.lt_or_ge g w.heap.size with h' | h'
      · exact h'
      · rw [Array.getElem?_eq_none h'] at hgg; cases hgg
    exact (f.block g hlt (hM g rfl)).trans hgg

section
variable {w w' : World} {g pos : Nat} {s : ByteArray} {M : Nat → Prop}
theorem It.lt (h : It w g s pos) : g < w.heap.size := by
  rcases Nat.lt_or_ge g w.heap.size with hlt | hge
  · exact hlt
  · unfold It at h; rw [Array.getElem?_eq_none hge] at h; cases h
theorem It.fr (h : It w g s pos) (f : Fr M w w') (hg : ¬ M g) : It w' g s pos := (f.block g h.lt hg).trans h
theorem It.new (w : World) (s : ByteArray) : It (w.iter s 0) w.heap.size s 0 := World.iter_heap w s 0
theorem It.step (h : It w g s pos) (p : Nat) : It (stepIt w g s p) g s p := by
  have := h.lt
  simp [It, stepIt, this]
theorem It.pos_ (h : It w g s pos) : w.iterPos g = pos := by unfold World.iterPos; rw [show w.heap[g]? = _ from h]
theorem Fr.stepIt {a : World} (h : Fr M a w) (g : Nat) (s : ByteArray) (p : Nat) (hg : g < a.heap.size → M g) : Fr M a (stepIt w g s p) :=
  ⟨h.os, h.tape, h.output, by simpa [Go.Proofs.Ythggdemiddjlgaa.stepIt] using h.size, fun k hk hn => by
    by_cases e : g = k
    · subst e; exact absurd (hg hk) hn
    · rw [← h.block k hk hn]; simp [Go.Proofs.Ythggdemiddjlgaa.stepIt, e]⟩
theorem Fr.iter {a : World} (h : Fr M a w) (s : ByteArray) (p : Nat) : Fr M a (w.iter s p) := h.alloc _
theorem run_next_it {P : Program} (h : It w g s pos) (ty : TypeId) (hp : pos < s.size) :
    (Instr.next (.pointer (some ⟨g, 0, none⟩)) true ty).run P w = .ok (.tuple #[.bool true, .int .i64 pos, .int .i32 (Utf8.decode s pos).1]) (Go.Proofs.Ythggdemiddjlgaa.stepIt w g s (pos + (Utf8.decode s pos).2)) := by
  have h : w.heap[g]? = some (.stringIter s pos) := h
  simp only [Instr.next, getObj, setObj, Sem.run_bind, Sem.run, h, Result.andThen, hp, if_true]
  simp [goInt, Go.Proofs.Ythggdemiddjlgaa.stepIt]
theorem run_next_it_end {P : Program} (h : It w g s pos) (ty : TypeId) (hp : ¬ pos < s.size) :
    (Instr.next (.pointer (some ⟨g, 0, none⟩)) true ty).run P w = .ok (.tuple #[.bool false]) w := by
  have h : w.heap[g]? = some (.stringIter s pos) := h
  simp [Instr.next, getObj, Sem.run, h, hp]
end
end Go.Proofs.Ythggdemiddjlgaa
