/- Chapter 46: plain law: the split leaves no critical edge, in lists of targets. -/
import Derived.Test.YtiafkakkbbclhaaSlB
namespace Go.Proofs.Ytiafkakkbbclhaa

def Ts (T : List (List Int)) (cr : List (Nat × Nat)) : Nat → List (List Int)
  | 0 => T
  | j + 1 => stepT (Ts T cr j) ((T.length + j : Nat) : Int) (cr.getD j (0, 0))
/-- The edges to split: places of real edges, each once. -/
structure CrOk (T : List (List Int)) (cr : List (Nat × Nat)) : Prop where
  at_ : ∀ p ∈ cr, p.1 < T.length ∧ p.2 < (T.getD p.1 []).length ∧ isReal T.length ((T.getD p.1 []).getD p.2 0) = true
  once : cr.Nodup
theorem crOk_crit (T : List (List Int)) : CrOk T (crit T) :=
  ⟨fun p hp => by
    obtain ⟨h1, h2, _, h4⟩ := critR_mem.1 hp
    unfold pk at h4
    rw [Bool.and_eq_true] at h4
    exact ⟨h1, h2, h4.1⟩, critR_nodup ..⟩
theorem getD_set {α : Type} (l : List α) (i j : Nat) (x d : α) (hi : i < l.length) : (l.set i x).getD j d = if i = j then x else l.getD j d := by
  rw [List.getD_eq_getElem?_getD, List.getD_eq_getElem?_getD, List.getElem?_set]
  by_cases h : i = j
  · subst h; simp [hi]
  · simp [h]
theorem getD_app {α : Type} (l m : List α) (j : Nat) (d : α) : (l ++ m).getD j d = if j < l.length then l.getD j d else m.getD (j - l.length) d := by
  rw [List.getD_eq_getElem?_getD, List.getD_eq_getElem?_getD, List.getD_eq_getElem?_getD]
  by_cases h : j < l.length
  · rw [List.getElem?_append_left h, if_pos h]
  · rw [List.getElem?_append_right (by omega), if_neg h]
theorem getD_el {α : Type} {l : List α} {j : Nat} (d : α) (h : j < l.length) : l.getD j d = l[j] := by rw [List.getD_eq_getElem?_getD, List.getElem?_eq_getElem h]; rfl
structure TsOk (T : List (List Int)) (cr : List (Nat × Nat)) (j : Nat) : Prop where
  len : (Ts T cr j).length = T.length + j
  row : ∀ b, b < T.length → ((Ts T cr j).getD b []).length = (T.getD b []).length
  cnt : ∀ t : Int, cntT (Ts T cr j) t = cntT T t + if (T.length : Int) ≤ t ∧ t < (T.length + j : Nat) then 1 else 0
  outs : ∀ q : Int → Bool, (∀ t, isReal T.length t = true → q t = true) → (∀ i, i < cr.length → q ((T.length + i : Nat) : Int) = true) → ∀ b, b < T.length → ((Ts T cr j).getD b []).countP q = (T.getD b []).countP q
  new : ∀ i, i < j → (Ts T cr j).getD (T.length + i) [] = [(T.getD (cr.getD i (0, 0)).1 []).getD (cr.getD i (0, 0)).2 0]
  old : ∀ b k, b < T.length → k < (T.getD b []).length → ((b, k) ∈ cr.take j ∧ ∃ i : Nat, i < j ∧ ((Ts T cr j).getD b []).getD k 0 = ((T.length + i : Nat) : Int)) ∨ ((b, k) ∉ cr.take j ∧ ((Ts T cr j).getD b []).getD k 0 = (T.getD b []).getD k 0)
theorem take_mem_succ {α : Type} {l : List α} {j : Nat} (h : j < l.length) (x : α) : x ∈ l.take (j + 1) ↔ x ∈ l.take j ∨ x = l[j] := by
  rw [List.take_succ_eq_append_getElem h, List.mem_append, List.mem_singleton]
theorem nodup_take {α : Type} {l : List α} (h : l.Nodup) {j : Nat} (hj : j < l.length) : l[j] ∉ l.take j := fun hm => by
  obtain ⟨i, hi, e⟩ := List.getElem_of_mem hm
  have hi' : i < j := by rw [List.length_take] at hi; omega
  rw [List.getElem_take] at e
  have := (List.getElem_inj h).1 e
  omega
theorem tsOk {T : List (List Int)} {cr : List (Nat × Nat)} (H : CrOk T cr) : ∀ j, j ≤ cr.length → TsOk T cr j
  | 0, _ => ⟨rfl, fun _ _ => rfl, fun t => by rw [if_neg (by omega)]; rfl, fun _ _ _ _ _ => rfl, fun i hi => by omega, fun b k _ _ => .inr ⟨by simp, rfl⟩⟩
  | j + 1, hj => by
    have I := tsOk H j (by omega)
    have hj' : j < cr.length := by omega
    have eP := getD_el (0, 0) hj'
    obtain ⟨a1, a2, a3⟩ := H.at_ _ (List.getElem_mem hj')
    have hno := nodup_take H.once hj'
    have hcur : ((Ts T cr j).getD cr[j].1 []).getD cr[j].2 0 = (T.getD cr[j].1 []).getD cr[j].2 0 := by
      rcases I.old cr[j].1 cr[j].2 a1 a2 with ⟨h, _⟩ | ⟨_, h⟩
      · exact absurd h hno
      · exact h
    have hl1 : cr[j].1 < (Ts T cr j).length := by rw [I.len]; omega
    have hl2 : cr[j].2 < ((Ts T cr j).getD cr[j].1 []).length := by rw [I.row _ a1]; exact a2
    have hst : Ts T cr (j + 1) = (Ts T cr j).set cr[j].1 (((Ts T cr j).getD cr[j].1 []).set cr[j].2 ((T.length + j : Nat) : Int)) ++ [[(T.getD cr[j].1 []).getD cr[j].2 0]] := by
      rw [Ts, eP, stepT, hcur]
    have hget : ∀ b, b < T.length → (Ts T cr (j + 1)).getD b [] = if cr[j].1 = b then ((Ts T cr j).getD cr[j].1 []).set cr[j].2 ((T.length + j : Nat) : Int) else (Ts T cr j).getD b [] := fun b hb => by
      rw [hst, getD_app, if_pos (by rw [List.length_set, I.len]; omega), getD_set _ _ _ _ _ hl1]
    refine ⟨?_, ?_, ?_, ?_, ?_, ?_⟩
    · rw [hst, List.length_append, List.length_set, I.len]; simp; omega
    · intro b hb
      rw [hget b hb]
      split
      · rename_i h; subst h; rw [List.length_set]; exact I.row _ hb
      · exact I.row _ hb
    · intro t
      rw [Ts, eP, stepT_cnt _ _ _ _ hl1 hl2, I.cnt t]
      by_cases h1 : ((T.length + j : Nat) : Int) = t
      · rw [if_pos h1, if_neg (by omega), if_pos (by omega)]
      · rw [if_neg h1]
        by_cases h2 : (T.length : Int) ≤ t ∧ t < ((T.length + j : Nat) : Int)
        · rw [if_pos h2, if_pos (by omega)]
        · rw [if_neg h2, if_neg (by omega)]
    · intro q q1 q2 b hb
      rw [hget b hb]
      split
      · rename_i h
        subst h
        rw [countP_set_ _ _ _ _ hl2, I.outs q q1 q2 _ hb]
        rw [q2 j hj', ← getD_el 0 hl2, hcur, q1 _ a3]
      · exact I.outs q q1 q2 _ hb
    · intro i hi
      rw [hst, getD_app]
      by_cases h : i < j
      · rw [if_pos (by rw [List.length_set, I.len]; omega), getD_set _ _ _ _ _ hl1, if_neg (by omega)]
        exact I.new i h
      · have : i = j := by omega
        subst this
        rw [if_neg (by rw [List.length_set, I.len]; omega), List.length_set, I.len, Nat.sub_self, eP]
        rfl
    · intro b k hb hk
      rw [hget b hb, take_mem_succ hj']
      by_cases h : cr[j].1 = b
      · rw [if_pos h]
        subst h
        rw [getD_set _ _ _ _ _ hl2]
        by_cases h2 : cr[j].2 = k
        · subst h2
          exact .inl ⟨.inr rfl, j, by omega, by rw [if_pos rfl]⟩
        · rw [if_neg h2]
          rcases I.old cr[j].1 k hb hk with ⟨h3, i, h4, h5⟩ | ⟨h3, h4⟩
          · exact .inl ⟨.inl h3, i, by omega, h5⟩
          · exact .inr ⟨fun h => by rcases h with h | h; exact h3 h; exact h2 (by rw [← h]), h4⟩
      · rw [if_neg h]
        rcases I.old b k hb hk with ⟨h3, i, h4, h5⟩ | ⟨h3, h4⟩
        · exact .inl ⟨.inl h3, i, by omega, h5⟩
        · exact .inr ⟨fun h' => by rcases h' with h' | h'; exact h3 h'; exact h (by rw [← h']), h4⟩
theorem sum_zero : ∀ {l : List Nat}, (∀ c ∈ l, c = 0) → l.sum = 0
  | [], _ => rfl
  | a :: l, h => by rw [List.sum_cons, h a (by simp), sum_zero fun c hc => h c (by simp [hc])]
theorem isReal_iff {n : Nat} {t : Int} : isReal n t = true ↔ 0 ≤ t ∧ t < n := by unfold isReal; rw [Bool.and_eq_true, decide_eq_true_eq, decide_eq_true_eq]
theorem crit_none {T : List (List Int)} (hb : ∀ b k, b < T.length → k < (T.getD b []).length → (T.getD b []).getD k 0 < T.length) : crit (Ts T (crit T) (crit T).length) = [] := by
  have I := tsOk (crOk_crit T) (crit T).length (Nat.le_refl _)
  refine List.eq_nil_iff_forall_not_mem.2 fun p hp => ?_
  obtain ⟨h1, h2, h3, h4⟩ := critR_mem.1 hp
  unfold pk at h4
  rw [Bool.and_eq_true] at h4
  obtain ⟨h4, h5⟩ := h4
  have h5 := of_decide_eq_true h5
  rw [I.len] at h1
  by_cases hlt : p.1 < T.length
  · rw [I.row _ hlt] at h2
    have hc0 : ∀ t : Int, (T.length : Int) ≤ t → cntT T t = 0 := fun t ht => by
      unfold cntT
      refine sum_zero fun c hc => ?_
      obtain ⟨l, hl, rfl⟩ := List.mem_map.1 hc
      rw [List.count_eq_zero]
      intro hm
      obtain ⟨b, hb', rfl⟩ := List.getElem_of_mem hl
      obtain ⟨k, hk, rfl⟩ := List.getElem_of_mem hm
      have := hb b k hb' (by rw [getD_el _ hb']; exact hk)
      rw [getD_el _ hb', getD_el _ hk] at this
      omega
    rw [I.cnt] at h5
    rcases I.old p.1 p.2 hlt h2 with ⟨_, i, hi, e⟩ | ⟨hno, e⟩
    · rw [e, hc0 _ (by omega)] at h5
      split at h5 <;> omega
    · rw [e] at h5 h4
      have hk := hb p.1 p.2 hlt h2
      rw [if_neg (by omega)] at h5
      rw [List.take_length] at hno
      refine hno (critR_mem.2 ⟨hlt, h2, ?_, ?_⟩)
      · have ho := I.outs (isReal (Ts T (crit T) (crit T).length).length) (fun t ht => by
          rw [isReal_iff] at ht ⊢
          rw [I.len]
          omega) (fun i hi => by
          rw [isReal_iff, I.len]
          omega) p.1 hlt
        unfold outsR at h3 ⊢
        rw [ho] at h3
        rw [show (T.getD p.1 []).countP (isReal T.length) = (T.getD p.1 []).countP (isReal (Ts T (crit T) (crit T).length).length) from ?_]
        · exact h3
        · refine List.countP_congr fun t ht => ?_
          obtain ⟨k, hk, rfl⟩ := List.getElem_of_mem ht
          have := hb p.1 k hlt hk
          rw [getD_el _ hk] at this
          rw [isReal_iff, isReal_iff, I.len]
          omega
      · unfold pk
        rw [Bool.and_eq_true]
        refine ⟨?_, decide_eq_true (by omega)⟩
        rw [isReal_iff] at h4 ⊢
        exact ⟨h4.1, hk⟩
  · obtain ⟨i, hi⟩ : ∃ i, p.1 = T.length + i := ⟨p.1 - T.length, by omega⟩
    rw [hi, I.new i (by omega)] at h3
    unfold outsR at h3
    have := List.countP_le_length (p := isReal (Ts T (crit T) (crit T).length).length) (l := [(T.getD ((crit T).getD i (0, 0)).1 []).getD ((crit T).getD i (0, 0)).2 0])
    simp only [List.length_cons, List.length_nil] at this
    omega
end Go.Proofs.Ytiafkakkbbclhaa
