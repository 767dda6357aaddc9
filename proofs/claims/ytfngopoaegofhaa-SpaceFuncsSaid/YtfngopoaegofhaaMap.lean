/- Maps from integers to integers and to bools that the call itself made, as functions. No condition. -/
import Derived.Test.YtfngopoaegofhaaLib
import Derived.Maps.Own
import Derived.Maps.Views
namespace Go.Proofs.Ytfngopoaegofhaa
open Go.RowKit

/-- Block b is a map of at most n entries; m[i] is f i. -/
def MapI (P : Program) (k e : TypeId) (w : World) (b n : Nat) (f : Int → Int) : Prop :=
  ∃ D : DataW Unit, w.ownsMap P k (plainElem P e) b n D ∧ Maps.IsMap D ∧ ∀ i, D.atKey (.int .i64 i) (.lit (.int .i64 0)) = .lit (.int .i64 (f i))
def MapB (P : Program) (k e : TypeId) (w : World) (b n : Nat) (f : Int → Bool) : Prop :=
  ∃ D : DataW Unit, w.ownsMap P k (plainElem P e) b n D ∧ Maps.IsMap D ∧ ∀ i, D.atKey (.int .i64 i) (.lit (.bool false)) = .lit (.bool (f i))

section
variable {P : Program} {t k e : TypeId} {w w' : World} {b n : Nat}
theorem ownsMap_fr {M : Nat → Prop} {R : Value → Option (DataW Unit × List MemPlace)} {D : DataW Unit} (h : w.ownsMap P k R b n D) (f : Fr M w w') (hb : ¬ M b) : w'.ownsMap P k R b n D := by
  have hlt := h.lt
  obtain ⟨es, clock, h1, h2, h3, h4⟩ := h
  exact ⟨es, clock, (f.block b hlt hb).trans h1, h2, h3, h4⟩
theorem fr_grown {row : Option Nat} {b : Nat} (h : w.grownBy w' row) (hr : row = some b) : Fr (One b) w w' := by
  subst hr
  exact (Fr.of_grown h).mono (fun i _ hi => by simpa [One] using hi)

theorem MapI.lt {f : Int → Int} (h : MapI P k e w b n f) : b < w.heap.size := by obtain ⟨D, h1, _⟩ := h; exact h1.lt
theorem MapB.lt {f : Int → Bool} (h : MapB P k e w b n f) : b < w.heap.size := by obtain ⟨D, h1, _⟩ := h; exact h1.lt
theorem MapI.made (w : World) : MapI P k e (w.alloc (.map #[] 0)) w.heap.size 0 (fun _ => 0) := ⟨.map [], World.ownsMap_made w P k _, ⟨_, rfl⟩, fun _ => rfl⟩
theorem MapB.made (w : World) : MapB P k e (w.alloc (.map #[] 0)) w.heap.size 0 (fun _ => false) := ⟨.map [], World.ownsMap_made w P k _, ⟨_, rfl⟩, fun _ => rfl⟩
theorem MapI.fr {M : Nat → Prop} {f : Int → Int} (h : MapI P k e w b n f) (g : Fr M w w') (hb : ¬ M b) : MapI P k e w' b n f := by
  obtain ⟨D, h1, h2⟩ := h; exact ⟨D, ownsMap_fr h1 g hb, h2⟩
theorem MapB.fr {M : Nat → Prop} {f : Int → Bool} (h : MapB P k e w b n f) (g : Fr M w w') (hb : ¬ M b) : MapB P k e w' b n f := by
  obtain ⟨D, h1, h2⟩ := h; exact ⟨D, ownsMap_fr h1 g hb, h2⟩
theorem MapI.mono {f : Int → Int} {n' : Nat} (h : MapI P k e w b n f) (hn : n ≤ n') : MapI P k e w b n' f := by
  obtain ⟨D, h1, h2⟩ := h; exact ⟨D, h1.mono hn, h2⟩
theorem MapB.mono {f : Int → Bool} {n' : Nat} (h : MapB P k e w b n f) (hn : n ≤ n') : MapB P k e w b n' f := by
  obtain ⟨D, h1, h2⟩ := h; exact ⟨D, h1.mono hn, h2⟩

theorem plainElem_bool_inv (he : P.underlying e = some .bool) {v : Value} {z : DataW Unit × List MemPlace} (h : plainElem P e v = some z) : ∃ a, v = .bool a ∧ z = (.lit (.bool a), []) := by
  unfold plainElem at h
  rw [he] at h
  cases v <;> simp at h
  subst h
  exact ⟨_, rfl, rfl⟩

theorem MapI.get {f : Int → Int} (h : MapI P k e w b n f) (ht : P.underlying t = some (.map k e)) (hk : P.underlying k = some (.int .i64)) (he : P.underlying e = some (.int .i64)) (hz : ∀ w, (zeroValue e).run P w = .ok (.int .i64 0) w)
    {i : Int} (hi : (Lit.int .i64 i).wf = true) : (Instr.lookup t (.map (some b)) (.int .i64 i) false).run P w = .ok (.int .i64 (f i)) w := by
  obtain ⟨D, h1, _, h3⟩ := h
  obtain ⟨c, hrun, hat, _⟩ := h1.lookup_int (Maps.int_keyed hk) ht he (hz w) (Maps.keyOf_int_mk hk hi)
  rw [h3 i] at hat
  simp only [DataW.lit.injEq, Lit.int.injEq, true_and] at hat
  rw [hrun, hat]
theorem MapB.get {f : Int → Bool} (h : MapB P k e w b n f) (ht : P.underlying t = some (.map k e)) (hk : P.underlying k = some (.int .i64)) (he : P.underlying e = some .bool) (hz : ∀ w, (zeroValue e).run P w = .ok (.bool false) w)
    {i : Int} (hi : (Lit.int .i64 i).wf = true) : (Instr.lookup t (.map (some b)) (.int .i64 i) false).run P w = .ok (.bool (f i)) w := by
  obtain ⟨D, h1, _, h3⟩ := h
  obtain ⟨v, ps, hrun, hv⟩ := h1.lookup (Maps.int_keyed hk) ht (hz w) (plainElem_bool he false) (Maps.keyOf_int_mk hk hi)
  obtain ⟨c, rfl, hc⟩ := plainElem_bool_inv he hv
  simp only [Prod.mk.injEq] at hc
  have := hc.1
  rw [h3 i] at this
  simp only [DataW.lit.injEq, Lit.bool.injEq] at this
  rw [hrun, this]
theorem MapI.put {f : Int → Int} (h : MapI P k e w b n f) (ht : P.underlying t = some (.map k e)) (hk : P.underlying k = some (.int .i64)) (he : P.underlying e = some (.int .i64)) (hn : n < maxLen)
    {i v : Int} (hi : (Lit.int .i64 i).wf = true) (hv : (Lit.int .i64 v).wf = true) :
    ∃ w', (Instr.mapUpdate t (.map (some b)) (.int .i64 i) (.int .i64 v)).run P w = .ok () w' ∧ MapI P k e w' b (n + 1) (fun j => if j = i then v else f j) ∧ Fr (One b) w w' := by
  obtain ⟨D, h1, h2, h3⟩ := h
  obtain ⟨w', hrun, r1, r2⟩ := h1.update (Maps.int_keyed hk) ht hn (Maps.keyOf_int_mk hk hi) (plainElem_int he hv)
  refine ⟨w', hrun, ⟨_, r1, ?_, fun j => ?_⟩, fr_grown r2 rfl⟩
  · obtain ⟨es, rfl⟩ := h2; exact ⟨_, rfl⟩
  · by_cases hj : j = i
    · subst hj
      simp only [if_true]
      exact Maps.atKey_put_same (k := .int .i64 j) h2 trivial _ _
    · simp only [if_neg hj]
      rw [Maps.atKey_put_other (by simpa using hj), h3]
theorem MapB.put {f : Int → Bool} (h : MapB P k e w b n f) (ht : P.underlying t = some (.map k e)) (hk : P.underlying k = some (.int .i64)) (he : P.underlying e = some .bool) (hn : n < maxLen)
    {i : Int} {v : Bool} (hi : (Lit.int .i64 i).wf = true) :
    ∃ w', (Instr.mapUpdate t (.map (some b)) (.int .i64 i) (.bool v)).run P w = .ok () w' ∧ MapB P k e w' b (n + 1) (fun j => if j = i then v else f j) ∧ Fr (One b) w w' := by
  obtain ⟨D, h1, h2, h3⟩ := h
  obtain ⟨w', hrun, r1, r2⟩ := h1.update (Maps.int_keyed hk) ht hn (Maps.keyOf_int_mk hk hi) (plainElem_bool he v)
  refine ⟨w', hrun, ⟨_, r1, ?_, fun j => ?_⟩, fr_grown r2 rfl⟩
  · obtain ⟨es, rfl⟩ := h2; exact ⟨_, rfl⟩
  · by_cases hj : j = i
    · subst hj
      simp only [if_true]
      exact Maps.atKey_put_same (k := .int .i64 j) h2 trivial _ _
    · simp only [if_neg hj]
      rw [Maps.atKey_put_other (by simpa using hj), h3]
end
end Go.Proofs.Ytfngopoaegofhaa
