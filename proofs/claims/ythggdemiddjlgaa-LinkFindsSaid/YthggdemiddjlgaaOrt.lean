/- A region that draws its order, walked along a tree: where two effects are ready, both ways are gone. No condition. -/
import Derived.Test.YthggdemiddjlgaaOrd
namespace Go.Proofs.Ythggdemiddjlgaa
open Go

inductive OT where
  | nil
  | rd (i : Nat) (r : OT)
  | eff (i : Nat) (r : OT)
  | alt (i : Nat) (r : OT) (j : Nat) (s : OT)

def OT.len : OT → Nat
  | .nil => 0
  | .rd _ r => r.len + 1
  | .eff _ r => r.len + 1
  | .alt _ r _ _ => r.len + 1

def ordOkT (md : Region.Mode) (ops : Array Oper) : OT → Array Bool → Bool
  | .nil, L => (Region.ready md ops L).isEmpty
  | .rd i r, L => Region.free md ops L i && (Region.ready md ops L).contains i && ordOkT md ops r (L.setIfInBounds i true)
  | .eff i r, L => (Region.ready md ops L == [i]) && ordOkT md ops r (L.setIfInBounds i true)
  | .alt i r j s, L => (Region.ready md ops L == [i, j]) && (s.len == r.len) && ordOkT md ops r (L.setIfInBounds i true) && ordOkT md ops s (L.setIfInBounds j true)

section
variable {P : Program} {ops : Array Oper} {Q : Exit → Act → World → Prop} {md : Region.Mode} {S : World → Prop}

def wpT (P : Program) (ops : Array Oper) (Q : Exit → Act → World → Prop) (S : World → Prop) : OT → Act → World → Prop
  | .nil, a, w => Q .normal a w
  | .rd i r, a, w => ∃ o, ops[i]? = some o ∧ ∃ v, YieldsQ P ops S o v a ∧ wpT P ops Q S r (a.put o.dst v) w
  | .eff i r, a, w => wpOp P ops Q i (fun a' w' => S w' ∧ wpT P ops Q S r a' w') a w
  | .alt i r j s, a, w => wpOp P ops Q i (fun a' w' => S w' ∧ wpT P ops Q S r a' w') a w ∧ wpOp P ops Q j (fun a' w' => S w' ∧ wpT P ops Q S s a' w') a w

theorem wpAnyL_of_T (hsel : Region.noSelect ops = true) (hQ : ∀ c a a' w, Q (.panic c) a w → Q (.panic c) a' w) : ∀ (t : OT) (L : Array Bool) (a : Act) (w : World),
    clo md ops L → ordOkT md ops t L = true → S w → wpT P ops Q S t a w → wpAnyL P md ops Q S [] t.len L a w
  | .nil, L, a, w, _, ho, _, h => ⟨by simpa [ordOkT] using ho, h⟩
  | .rd i r, L, a, w, hc, ho, hS, h => by
    obtain ⟨o, hi, v, hy, hn⟩ := h
    simp only [ordOkT, Bool.and_eq_true] at ho
    obtain ⟨⟨h1, h2⟩, h5⟩ := ho
    have hr : i ∈ Region.ready md ops L := by simpa using h2
    refine wpAnyL_first hi (Region.noSelect_spec hsel) (fun c a w hq => hQ c _ _ _ hq) (by simp) (fun f hf => by cases hf) r.len L a w hc (Region.free_spec hi h1) hr hy (fun _ => hS) ?_
    exact wpAnyL_of_T hsel hQ r _ _ w (clo_set hc hr) h5 hS hn
  | .eff i r, L, a, w, hc, ho, hS, h => by
    simp only [ordOkT, Bool.and_eq_true, beq_iff_eq] at ho
    obtain ⟨h1, h2⟩ := ho
    have hr : i ∈ Region.ready md ops L := by rw [h1]; simp
    refine ⟨fun h0 => (by rw [h0] at h1; cases h1), fun j hj => ?_⟩
    rw [h1] at hj
    have hji : j = i := by simpa using hj
    subst hji
    exact wpOp_mono (fun a' w' ⟨k1, k2⟩ => ⟨fun _ => k1, wpAnyL_of_T hsel hQ r _ a' w' (clo_set hc hr) h2 k1 k2⟩) h
  | .alt i r j s, L, a, w, hc, ho, hS, h => by
    simp only [ordOkT, Bool.and_eq_true, beq_iff_eq] at ho
    obtain ⟨⟨⟨h1, h2⟩, h3⟩, h4⟩ := ho
    have hr : i ∈ Region.ready md ops L := by rw [h1]; simp
    have hs : j ∈ Region.ready md ops L := by rw [h1]; simp
    refine ⟨fun h0 => (by rw [h0] at h1; cases h1), fun k hk => ?_⟩
    rw [h1] at hk
    have hkk : k = i ∨ k = j := by simpa using hk
    rcases hkk with rfl | rfl
    · exact wpOp_mono (fun a' w' ⟨k1, k2⟩ => ⟨fun _ => k1, wpAnyL_of_T hsel hQ r _ a' w' (clo_set hc hr) h3 k1 k2⟩) h.1
    · have := fun a' w' (hh : S w' ∧ wpT P ops Q S s a' w') => wpAnyL_of_T hsel hQ s _ a' w' (clo_set hc hs) h4 hh.1 hh.2
      rw [h2] at this
      exact wpOp_mono (fun a' w' hh => ⟨fun _ => hh.1, this a' w' hh⟩) h.2

theorem wp_region_ort {id : Nat} {a : Act} {w : World} {l : List Oper} (S : World → Prop) (t : OT) (hm : P.follows .mixedOrders = true) (hs : Region.noSelect l.toArray = true)
    (ho : ordOkT .any l.toArray t (Array.replicate l.toArray.size false) = true) (hl : t.len = l.length) (hS : S w.drew) (h : wpT P l.toArray (NoPanic Q) S t a w.drew) :
    (Code.region id l.toArray true).wp P Q a w := by
  refine wp_region_noPanic (wp_region_any hm ?_)
  have hc : clo .any l.toArray (Array.replicate l.toArray.size false) := by
    intro j oj _ hl
    rw [Array.getD_eq_getD_getElem?] at hl
    rcases Nat.lt_or_ge j l.toArray.size with h' | h'
    · simp at h'; simp [h'] at hl
    · simp at h'; simp [h'] at hl
  have := wpAnyL_of_T (Q := NoPanic Q) (S := S) hs (fun _ _ _ _ h => h) t _ a w.drew hc ho hS h
  rw [hl] at this
  have h2 := wpAny_of_L _ _ _ _ this
  simpa using h2

theorem wpT_nil {a : Act} {w : World} (h : Q .normal a w) : wpT P ops (NoPanic Q) S .nil a w := h
theorem wpT_skip {i : Nat} {o : Oper} {r : OT} {a : Act} {w : World} (ho : ops[i]? = some o) (hw : Region.wanted o (yielded ops a.tmps) = false)
    (h : wpT P ops Q S r (a.put o.dst undef) w) : wpT P ops Q S (.rd i r) a w := ⟨o, ho, undef, .inr ⟨hw, rfl⟩, h⟩
theorem wpT_call {i : Nat} {o : Oper} {r : OT} {a : Act} {w : World} (ho : ops[i]? = some o) (hw : Region.wanted o (yielded ops a.tmps) = true)
    (h : ∃ v, (∀ X, S X → stillUpon P X v ((execOp a.eval o).run P X)) ∧ wpT P ops Q S r (a.put o.dst v) w) : wpT P ops Q S (.rd i r) a w := by
  obtain ⟨v, h1, h2⟩ := h
  exact ⟨o, ho, v, .inl ⟨hw, h1⟩, h2⟩
theorem wpT_eff {i : Nat} {o : Oper} {r : OT} {a : Act} {w : World} (ho : ops[i]? = some o) (hw : Region.wanted o (yielded ops a.tmps) = true)
    (h : ∀ K : Act → World → Prop, (∀ a' w', S w' → wpT P ops Q S r a' w' → K a' w') → o.wp P a w K Q) : wpT P ops Q S (.eff i r) a w := by
  show wpOp P ops Q i _ a w
  unfold wpOp
  simp only [ho, hw, if_true]
  exact .inl (h _ fun a' w' h1 h2 => ⟨h1, h2⟩)
theorem wpT_skipE {i : Nat} {o : Oper} {r : OT} {a : Act} {w : World} (ho : ops[i]? = some o) (hw : Region.wanted o (yielded ops a.tmps) = false) (hS : S w)
    (h : wpT P ops Q S r (a.put o.dst undef) w) : wpT P ops Q S (.eff i r) a w := by
  show wpOp P ops Q i _ a w
  unfold wpOp
  simp only [ho, hw]
  exact ⟨hS, h⟩
theorem wpT_alt {i j : Nat} {r s : OT} {a : Act} {w : World} (h1 : wpT P ops Q S (.eff i r) a w) (h2 : wpT P ops Q S (.eff j s) a w) : wpT P ops Q S (.alt i r j s) a w := ⟨h1, h2⟩
end
end Go.Proofs.Ythggdemiddjlgaa
