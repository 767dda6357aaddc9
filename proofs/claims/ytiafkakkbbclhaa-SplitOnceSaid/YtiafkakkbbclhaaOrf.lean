/- A region that draws its order, walked along a tree, with last operations behind which nothing is read. No condition. -/
import Derived.Test.YtiafkakkbbclhaaOrt
namespace Go.Proofs.Ytiafkakkbbclhaa
open Go

def ordOkF (md : Region.Mode) (ops : Array Oper) (fins : List Nat) : OT → Array Bool → Bool
  | .nil, L => (Region.ready md ops L).isEmpty
  | .rd i r, L => Region.free md ops L i && (Region.ready md ops L).contains i && !fins.contains i && fins.all (fun f => (ancs md ops f).getD i false) && ordOkF md ops fins r (L.setIfInBounds i true)
  | .eff i r, L => (Region.ready md ops L == [i]) && ordOkF md ops fins r (L.setIfInBounds i true)
  | .alt i r j s, L => (Region.ready md ops L == [i, j]) && (s.len == r.len) && ordOkF md ops fins r (L.setIfInBounds i true) && ordOkF md ops fins s (L.setIfInBounds j true)

section
variable {P : Program} {ops : Array Oper} {Q : Exit → Act → World → Prop} {md : Region.Mode} {S : World → Prop}

def wpF (P : Program) (ops : Array Oper) (Q : Exit → Act → World → Prop) (S : World → Prop) (fins : List Nat) : Bool → OT → Act → World → Prop
  | _, .nil, a, w => Q .normal a w
  | d, .rd i r, a, w => ∃ o, ops[i]? = some o ∧ ∃ v, YieldsQ P ops S o v a ∧ wpF P ops Q S fins d r (a.put o.dst v) w
  | d, .eff i r, a, w => wpOp P ops Q i (fun a' w' => ((d || fins.contains i) = false → S w') ∧ wpF P ops Q S fins (d || fins.contains i) r a' w') a w
  | d, .alt i r j s, a, w => wpOp P ops Q i (fun a' w' => ((d || fins.contains i) = false → S w') ∧ wpF P ops Q S fins (d || fins.contains i) r a' w') a w ∧ wpOp P ops Q j (fun a' w' => ((d || fins.contains j) = false → S w') ∧ wpF P ops Q S fins (d || fins.contains j) s a' w') a w

theorem sl_step {fins : List Nat} {d : Bool} {L : Array Bool} {i : Nat} {w' : World} (hr : i ∈ Region.ready md ops L) (hd : d = true → ∃ f ∈ fins, L.getD f false = true) (k1 : (d || fins.contains i) = false → S w') :
    SL S fins (L.setIfInBounds i true) w' ∧ ((d || fins.contains i) = true → ∃ f ∈ fins, (L.setIfInBounds i true).getD f false = true) := by
  have hin : (L.setIfInBounds i true).getD i false = true := by
    obtain ⟨h0, _⟩ := mem_ready.1 hr
    rcases Nat.lt_or_ge i L.size with h' | h'
    · simp [h']
    · simp [Array.getElem?_eq_none h'] at h0
  constructor
  · intro hf
    refine k1 ?_
    cases hd' : d with
    | true =>
      obtain ⟨f, hfm, hl⟩ := hd hd'
      have := hf f hfm
      rw [getD_set_true hl] at this; cases this
    | false =>
      cases hcj : fins.contains i with
      | false => rfl
      | true =>
        have := hf i (by simpa using hcj)
        rw [hin] at this; cases this
  · intro hdt
    cases hd' : d with
    | true => obtain ⟨f, hfm, hl⟩ := hd hd'; exact ⟨f, hfm, getD_set_true hl⟩
    | false => rw [hd'] at hdt; exact ⟨i, by simpa using hdt, hin⟩

theorem wpAnyL_of_F {fins : List Nat} (hsel : Region.noSelect ops = true) (hQ : ∀ c a a' w, Q (.panic c) a w → Q (.panic c) a' w) : ∀ (t : OT) (d : Bool) (L : Array Bool) (a : Act) (w : World),
    clo md ops L → ordOkF md ops fins t L = true → (d = true → ∃ f ∈ fins, L.getD f false = true) → SL S fins L w → wpF P ops Q S fins d t a w → wpAnyL P md ops Q S fins t.len L a w
  | .nil, d, L, a, w, _, ho, _, _, h => ⟨by simpa [ordOkF] using ho, h⟩
  | .rd i r, d, L, a, w, hc, ho, hd, hS, h => by
    obtain ⟨o, hi, v, hy, hn⟩ := h
    simp only [ordOkF, Bool.and_eq_true] at ho
    obtain ⟨⟨⟨⟨h1, h2⟩, h3⟩, h4⟩, h5⟩ := ho
    have hr : i ∈ Region.ready md ops L := by simpa using h2
    have hif : i ∉ fins := by simpa using h3
    refine wpAnyL_first hi (Region.noSelect_spec hsel) (fun c a w hq => hQ c _ _ _ hq) hif ?_ r.len L a w hc (Region.free_spec hi h1) hr hy hS ?_
    · intro f hf L' hc' hl'
      exact ancs_spec hc' hl' i (List.all_eq_true.1 h4 f hf)
    · exact wpAnyL_of_F hsel hQ r d _ _ w (clo_set hc hr) h5 (fun hdt => by obtain ⟨f, hf, hl⟩ := hd hdt; exact ⟨f, hf, getD_set_true hl⟩) (SL_set _ hS) hn
  | .eff i r, d, L, a, w, hc, ho, hd, hS, h => by
    simp only [ordOkF, Bool.and_eq_true, beq_iff_eq] at ho
    obtain ⟨h1, h2⟩ := ho
    have hr : i ∈ Region.ready md ops L := by rw [h1]; simp
    refine ⟨fun h0 => (by rw [h0] at h1; cases h1), fun j hj => ?_⟩
    rw [h1] at hj
    have hji : j = i := by simpa using hj
    subst hji
    refine wpOp_mono (fun a' w' ⟨k1, k2⟩ => ?_) h
    obtain ⟨s1, s2⟩ := sl_step hr hd k1
    exact ⟨s1, wpAnyL_of_F hsel hQ r _ _ a' w' (clo_set hc hr) h2 s2 s1 k2⟩
  | .alt i r j s, d, L, a, w, hc, ho, hd, hS, h => by
    simp only [ordOkF, Bool.and_eq_true, beq_iff_eq] at ho
    obtain ⟨⟨⟨h1, h2⟩, h3⟩, h4⟩ := ho
    have hr : i ∈ Region.ready md ops L := by rw [h1]; simp
    have hs : j ∈ Region.ready md ops L := by rw [h1]; simp
    refine ⟨fun h0 => (by rw [h0] at h1; cases h1), fun k hk => ?_⟩
    rw [h1] at hk
    have hkk : k = i ∨ k = j := by simpa using hk
    rcases hkk with rfl | rfl
    · refine wpOp_mono (fun a' w' ⟨k1, k2⟩ => ?_) h.1
      obtain ⟨s1, s2⟩ := sl_step hr hd k1
      exact ⟨s1, wpAnyL_of_F hsel hQ r _ _ a' w' (clo_set hc hr) h3 s2 s1 k2⟩
    · refine wpOp_mono (fun a' w' ⟨k1, k2⟩ => ?_) h.2
      obtain ⟨s1, s2⟩ := sl_step hs hd k1
      have := wpAnyL_of_F hsel hQ s _ _ a' w' (clo_set hc hs) h4 s2 s1 k2
      rw [h2] at this
      exact ⟨s1, this⟩

theorem wp_region_orf {id : Nat} {a : Act} {w : World} {l : List Oper} (S : World → Prop) (fins : List Nat) (t : OT) (hm : P.follows .mixedOrders = true) (hs : Region.noSelect l.toArray = true)
    (ho : ordOkF .any l.toArray fins t (Array.replicate l.toArray.size false) = true) (hl : t.len = l.length) (hS : S w.drew) (h : wpF P l.toArray (NoPanic Q) S fins false t a w.drew) :
    (Code.region id l.toArray true).wp P Q a w := by
  refine wp_region_noPanic (wp_region_any hm ?_)
  have hc : clo .any l.toArray (Array.replicate l.toArray.size false) := by
    intro j oj _ hl
    rw [Array.getD_eq_getD_getElem?] at hl
    rcases Nat.lt_or_ge j l.toArray.size with h' | h'
    · simp at h'; simp [h'] at hl
    · simp at h'; simp [h'] at hl
  have := wpAnyL_of_F (Q := NoPanic Q) (S := S) hs (fun _ _ _ _ h => h) t false _ a w.drew hc ho (fun h => by cases h) (fun _ => hS) h
  rw [hl] at this
  have h2 := wpAny_of_L _ _ _ _ this
  simpa using h2

theorem wpF_nil {d : Bool} {fins : List Nat} {a : Act} {w : World} (h : Q .normal a w) : wpF P ops (NoPanic Q) S fins d .nil a w := h
theorem wpF_skip {d : Bool} {fins : List Nat} {i : Nat} {o : Oper} {r : OT} {a : Act} {w : World} (ho : ops[i]? = some o) (hw : Region.wanted o (yielded ops a.tmps) = false)
    (h : wpF P ops Q S fins d r (a.put o.dst undef) w) : wpF P ops Q S fins d (.rd i r) a w := ⟨o, ho, undef, .inr ⟨hw, rfl⟩, h⟩
theorem wpF_call {d : Bool} {fins : List Nat} {i : Nat} {o : Oper} {r : OT} {a : Act} {w : World} (ho : ops[i]? = some o) (hw : Region.wanted o (yielded ops a.tmps) = true)
    (h : ∃ v, (∀ X, S X → stillUpon P X v ((execOp a.eval o).run P X)) ∧ wpF P ops Q S fins d r (a.put o.dst v) w) : wpF P ops Q S fins d (.rd i r) a w := by
  obtain ⟨v, h1, h2⟩ := h
  exact ⟨o, ho, v, .inl ⟨hw, h1⟩, h2⟩
theorem wpF_eff {d : Bool} {fins : List Nat} {i : Nat} {o : Oper} {r : OT} {a : Act} {w : World} (ho : ops[i]? = some o) (hw : Region.wanted o (yielded ops a.tmps) = true)
    (h : ∀ K : Act → World → Prop, (∀ a' w', ((d || fins.contains i) = false → S w') → wpF P ops Q S fins (d || fins.contains i) r a' w' → K a' w') → o.wp P a w K Q) : wpF P ops Q S fins d (.eff i r) a w := by
  show wpOp P ops Q i _ a w
  unfold wpOp
  simp only [ho, hw, if_true]
  exact .inl (h _ fun a' w' h1 h2 => ⟨h1, h2⟩)
theorem wpF_skipE {d : Bool} {fins : List Nat} {i : Nat} {o : Oper} {r : OT} {a : Act} {w : World} (ho : ops[i]? = some o) (hw : Region.wanted o (yielded ops a.tmps) = false) (hS : S w)
    (h : wpF P ops Q S fins (d || fins.contains i) r (a.put o.dst undef) w) : wpF P ops Q S fins d (.eff i r) a w := by
  show wpOp P ops Q i _ a w
  unfold wpOp
  simp only [ho, hw]
  exact ⟨fun _ => hS, h⟩
theorem wpF_alt {d : Bool} {fins : List Nat} {i j : Nat} {r s : OT} {a : Act} {w : World} (h1 : wpF P ops Q S fins d (.eff i r) a w) (h2 : wpF P ops Q S fins d (.eff j s) a w) : wpF P ops Q S fins d (.alt i r j s) a w := ⟨h1, h2⟩
end
end Go.Proofs.Ytiafkakkbbclhaa
