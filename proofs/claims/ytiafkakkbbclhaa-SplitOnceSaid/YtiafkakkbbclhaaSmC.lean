/- Chapter 46: the split form's bounds and laws. -/
import Derived.Test.YtiafkakkbbclhaaSmB
import Derived.Test.YtiafkakkbbclhaaSlU
namespace Go.Proofs.Ytiafkakkbbclhaa
open Go.RowKit

def splitF (x : Sf) : Sf := ⟨x.type, x.vals, splitB x.blocks⟩
theorem splitB_ref (bs : List Sb) : splitB bs = refB bs (crit (tosOf bs)) := Sp_all (crOk_crit (tosOf bs)).b
theorem redir_or (n : Nat) (cr : List (Nat × Nat)) (b i : Nat) (e : Ed) : ∀ k, (redir n cr b i e k).args = [] ∨ redir n cr b i e k = e
  | 0 => .inr rfl
  | k + 1 => by
    rw [redir]
    split
    · exact .inl rfl
    · exact redir_or n cr b i e k
theorem refA_mem {bs : List Sb} {cr : List (Nat × Nat)} {k : Nat} {b : Sb} (h : b ∈ refA bs cr k) : ∃ x ∈ bs, ∃ i, b = withTo x (turnTo bs.length cr i x.end_.to k) := by
  obtain ⟨i, hi, rfl⟩ := List.getElem_of_mem h
  have hi' : i < bs.length := by rw [refA_len] at hi; exact hi
  exact ⟨bs[i], List.getElem_mem hi', i, by simp only [refA, List.getElem_mapIdx]⟩
theorem turnTo_mem {n : Nat} {cr : List (Nat × Nat)} {b : Nat} {es : List Ed} {k : Nat} {e : Ed} (h : e ∈ turnTo n cr b es k) : e.args = [] ∨ e ∈ es := by
  obtain ⟨i, hi, rfl⟩ := List.getElem_of_mem h
  have hi' : i < es.length := by rw [turnTo_len] at hi; exact hi
  have e' : (turnTo n cr b es k)[i] = redir n cr b i es[i] k := by simp only [turnTo, List.getElem_mapIdx]
  rw [e']
  rcases redir_or n cr b i es[i] k with h | h
  · exact .inl h
  · rw [h]; exact .inr (List.getElem_mem hi')
theorem refJ_mem {bs : List Sb} {cr : List (Nat × Nat)} (H : CrB bs cr) {b : Sb} (h : b ∈ refJ bs cr) : ∃ x ∈ bs, ∃ e ∈ x.end_.to, b = jmp e := by
  unfold refJ at h
  obtain ⟨p, hp, rfl⟩ := List.mem_map.1 h
  obtain ⟨h1, h2⟩ := H.at_ p hp
  rw [toOf_el h1] at h2 ⊢
  exact ⟨bs[p.1], List.getElem_mem h1, _, List.getElem_mem h2, by rw [getD_el _ h2]⟩
theorem tot_tosOf (bs : List Sb) : tot (tosOf bs) = (bs.map fun b => b.end_.to.length).sum := by
  unfold tot tosOf
  rw [List.map_map]
  congr 1
  apply List.map_congr_left
  intro b _
  simp
theorem tot_split (bs : List Sb) : tot (tosOf (splitB bs)) = tot (tosOf bs) + (crit (tosOf bs)).length := by
  rw [splitB_ref, tot_tosOf, tot_tosOf, refB, List.map_append, List.sum_append]
  generalize crit (tosOf bs) = cr
  congr 1
  · congr 1
    apply List.ext_getElem
    · simp [refA]
    · intro i h1 h2
      simp [refA, withTo, turnTo]
  · unfold refJ
    rw [List.map_map]
    induction cr with
    | nil => rfl
    | cons p cr ih =>
      rw [List.map_cons, List.sum_cons, ih, List.length_cons]
      show 1 + _ = _
      omega
theorem fl_split {x : Sf} (h : FL x) (s : Small x) : FL (splitF x) := by
  have ht := Nat.le_trans (tot_sumF x.blocks) s.sum
  have hc : (crit (tosOf x.blocks)).length ≤ 1500 := Nat.le_trans (critR_tot _ _) ht
  have hb : ∀ b ∈ splitB x.blocks, (∃ y ∈ x.blocks, b.params = y.params ∧ b.ins = y.ins ∧ b.end_.args = y.end_.args ∧ ∀ e ∈ b.end_.to, e.args = [] ∨ e ∈ y.end_.to) ∨ (b.params = [] ∧ b.ins = [] ∧ b.end_.args = [] ∧ ∃ y ∈ x.blocks, ∀ e ∈ b.end_.to, e ∈ y.end_.to) := fun b hb => by
    rw [splitB_ref, refB, List.mem_append] at hb
    rcases hb with hb | hb
    · obtain ⟨y, hy, i, rfl⟩ := refA_mem hb
      exact .inl ⟨y, hy, rfl, rfl, rfl, fun e he => turnTo_mem he⟩
    · obtain ⟨y, hy, e, he, rfl⟩ := refJ_mem (crOk_crit (tosOf x.blocks)).b hb
      refine .inr ⟨rfl, rfl, rfl, y, hy, fun e' he' => ?_⟩
      have : e' = e := by simpa [jmp] using he'
      rw [this]; exact he
  refine ⟨h.p, h.r, h.v, ?_, ?_, fun b hm => ?_, fun b hm => ?_, fun b hm => ?_, fun b hm i hi => ?_, fun b hm e he => ?_⟩
  · show (splitB x.blocks).length ≤ _
    rw [splitB_len]
    have := s.nb
    omega
  · show tot (tosOf (splitB x.blocks)) ≤ _
    rw [tot_split]
    omega
  · rcases hb b hm with ⟨y, hy, e, _⟩ | ⟨e, _⟩
    · rw [e]; exact h.bp y hy
    · rw [e]; simp
  · rcases hb b hm with ⟨y, hy, _, e, _⟩ | ⟨_, e, _⟩
    · rw [e]; exact h.bi y hy
    · rw [e]; simp
  · rcases hb b hm with ⟨y, hy, _, _, e, _⟩ | ⟨_, _, e, _⟩
    · rw [e]; exact h.ba y hy
    · rw [e]; simp
  · rcases hb b hm with ⟨y, hy, _, e, _⟩ | ⟨_, e, _⟩
    · rw [e] at hi; exact h.ia y hy i hi
    · rw [e] at hi; cases hi
  · rcases hb b hm with ⟨y, hy, _, _, _, k⟩ | ⟨_, _, _, y, hy, k⟩
    · rcases k e he with k | k
      · rw [k]; simp
      · exact h.ea y hy e k
    · exact h.ea y hy e (k e he)
theorem split_new {bs : List Sb} {i : Nat} (h1 : bs.length ≤ i) (h2 : i < (splitB bs).length) : ∃ e : Ed, (splitB bs)[i] = jmp e ∧ 0 ≤ e.to ∧ e.to < bs.length := by
  have hl := splitB_len bs
  have hj : i - bs.length < (crit (tosOf bs)).length := by omega
  have e1 : (splitB bs)[i] = (splitB bs).getD i bD := by rw [getD_el _ h2]
  have e2 : (splitB bs).getD i bD = jmp ((toOf bs (crit (tosOf bs))[i - bs.length].1).getD (crit (tosOf bs))[i - bs.length].2 eD) := by
    rw [splitB_ref, refB, getD_app, if_neg (by rw [refA_len]; omega), refA_len, getD_el _ (by rw [refJ_len]; exact hj)]
    simp only [refJ, List.getElem_map]
  obtain ⟨a1, a2, a3⟩ := (crOk_crit (tosOf bs)).at_ _ (List.getElem_mem hj)
  rw [tosOf_getD, to_getD, tosOf_len] at a3
  obtain ⟨a4, a5⟩ := isReal_iff.1 a3
  exact ⟨_, e1.trans e2, a4, a5⟩
theorem splitB_none {bs : List Sb} (h : crit (tosOf bs) = []) : splitB bs = bs := by
  unfold splitB
  rw [h]; rfl
theorem splitB_id {bs : List Sb} (h : Within bs bs.length bs.length) : splitB (splitB bs) = splitB bs := by
  apply splitB_none
  have e : tosOf (splitB bs) = Ts (tosOf bs) (crit (tosOf bs)) (crit (tosOf bs)).length := tosOf_Sp _ _ _
  rw [e]
  apply crit_none
  intro b k hb hk
  rw [tosOf_len] at hb
  rw [tosOf_getD, List.length_map] at hk
  rw [tosOf_getD, to_getD, tosOf_len, getD_el _ hk]
  exact h b hb _ (List.getElem_mem hk)
end Go.Proofs.Ytiafkakkbbclhaa
