/- Chapter 46: plain law: the split of blocks, step by step and as the reference says it. -/
import Derived.Test.YtiafkakkbbclhaaSlC
namespace Go.Proofs.Ytiafkakkbbclhaa

def eD : Ed := ⟨0, []⟩
def bD : Sb := ⟨[], [], ⟨0, 0, [], [], 0⟩⟩
def toOf (bs : List Sb) (b : Nat) : List Ed := (bs.getD b bD).end_.to
def tosOf (bs : List Sb) : List (List Int) := bs.map fun b => b.end_.to.map (·.to)
def withTo (x : Sb) (to : List Ed) : Sb := ⟨x.params, x.ins, ⟨x.end_.kind, x.end_.cond, x.end_.args, to, x.end_.trap⟩⟩
def jmp (e : Ed) : Sb := ⟨[], [], ⟨0, 0, [], [e], 0⟩⟩
def stepB (bs : List Sb) (x : Int) (p : Nat × Nat) : List Sb := bs.set p.1 (withTo (bs.getD p.1 bD) ((toOf bs p.1).set p.2 ⟨x, []⟩)) ++ [jmp ((toOf bs p.1).getD p.2 eD)]
def Sp (bs : List Sb) (cr : List (Nat × Nat)) : Nat → List Sb
  | 0 => bs
  | j + 1 => stepB (Sp bs cr j) ((bs.length + j : Nat) : Int) (cr.getD j (0, 0))
theorem tosOf_len (bs : List Sb) : (tosOf bs).length = bs.length := by simp [tosOf]
theorem tosOf_getD (bs : List Sb) (b : Nat) : (tosOf bs).getD b [] = (toOf bs b).map (·.to) := by
  unfold tosOf toOf
  rw [List.getD_eq_getElem?_getD, List.getElem?_map, List.getD_eq_getElem?_getD]
  cases bs[b]? <;> simp [bD]
theorem to_getD (to : List Ed) (k : Nat) : (to.map (·.to)).getD k 0 = (to.getD k eD).to := by
  rw [List.getD_eq_getElem?_getD, List.getElem?_map, List.getD_eq_getElem?_getD]
  cases to[k]? <;> simp [eD]
theorem tosOf_step (bs : List Sb) (x : Int) (p : Nat × Nat) : tosOf (stepB bs x p) = stepT (tosOf bs) x p := by
  unfold stepB stepT
  rw [tosOf_getD, to_getD]
  unfold tosOf
  rw [List.map_append, List.map_set, List.map_cons, List.map_nil]
  simp only [withTo, List.map_set]
  rfl
theorem tosOf_Sp (bs : List Sb) (cr : List (Nat × Nat)) : ∀ j, tosOf (Sp bs cr j) = Ts (tosOf bs) cr j
  | 0 => rfl
  | j + 1 => by rw [Sp, tosOf_step, tosOf_Sp bs cr j, Ts, tosOf_len]
theorem Sp_len (bs : List Sb) (cr : List (Nat × Nat)) : ∀ j, (Sp bs cr j).length = bs.length + j
  | 0 => rfl
  | j + 1 => by rw [Sp, stepB, List.length_append, List.length_set, Sp_len bs cr j]; rfl
/-- What the reference redirects an edge to, behind the first k of the list. -/
def redir (n : Nat) (cr : List (Nat × Nat)) (b i : Nat) (e : Ed) : Nat → Ed
  | 0 => e
  | k + 1 => if cr.getD k (0, 0) = (b, i) then ⟨((n + k : Nat) : Int), []⟩ else redir n cr b i e k
def turnTo (n : Nat) (cr : List (Nat × Nat)) (b : Nat) (to : List Ed) (k : Nat) : List Ed := to.mapIdx fun i e => redir n cr b i e k
def refA (bs : List Sb) (cr : List (Nat × Nat)) (k : Nat) : List Sb := bs.mapIdx fun b x => withTo x (turnTo bs.length cr b x.end_.to k)
def refJ (bs : List Sb) (cr : List (Nat × Nat)) : List Sb := cr.map fun p => jmp ((toOf bs p.1).getD p.2 eD)
def refB (bs : List Sb) (cr : List (Nat × Nat)) : List Sb := refA bs cr cr.length ++ refJ bs cr
theorem redir_none (n : Nat) (cr : List (Nat × Nat)) (b i : Nat) (e : Ed) : ∀ k, k ≤ cr.length → (b, i) ∉ cr.take k → redir n cr b i e k = e
  | 0, _, _ => rfl
  | k + 1, hk, h => by
    have hk' : k < cr.length := by omega
    rw [take_mem_succ hk'] at h
    rw [redir, getD_el _ hk', if_neg (fun h' => h (.inr h'.symm))]
    exact redir_none n cr b i e k (by omega) (fun h' => h (.inl h'))
structure CrB (bs : List Sb) (cr : List (Nat × Nat)) : Prop where
  at_ : ∀ p ∈ cr, p.1 < bs.length ∧ p.2 < (toOf bs p.1).length
  once : cr.Nodup
theorem CrOk.b {bs : List Sb} {cr : List (Nat × Nat)} (h : CrOk (tosOf bs) cr) : CrB bs cr :=
  ⟨fun p hp => by
    obtain ⟨h1, h2, _⟩ := h.at_ p hp
    rw [tosOf_len] at h1
    rw [tosOf_getD, List.length_map] at h2
    exact ⟨h1, h2⟩, h.once⟩
theorem refA_len (bs : List Sb) (cr : List (Nat × Nat)) (k : Nat) : (refA bs cr k).length = bs.length := by simp [refA]
theorem refA_getD (bs : List Sb) (cr : List (Nat × Nat)) (k b : Nat) (hb : b < bs.length) : (refA bs cr k).getD b bD = withTo (bs.getD b bD) (turnTo bs.length cr b (toOf bs b) k) := by
  rw [getD_el _ (by rw [refA_len]; exact hb)]
  unfold refA toOf
  rw [List.getElem_mapIdx, getD_el _ hb]
theorem turnTo_getD (n : Nat) (cr : List (Nat × Nat)) (b : Nat) (to : List Ed) (k i : Nat) (hi : i < to.length) : (turnTo n cr b to k).getD i eD = redir n cr b i (to.getD i eD) k := by
  rw [getD_el _ (by unfold turnTo; simpa using hi)]
  unfold turnTo
  rw [List.getElem_mapIdx, getD_el _ hi]
theorem turnTo_len (n : Nat) (cr : List (Nat × Nat)) (b : Nat) (to : List Ed) (k : Nat) : (turnTo n cr b to k).length = to.length := by simp [turnTo]
theorem turnTo_succ (n : Nat) (cr : List (Nat × Nat)) (b : Nat) (to : List Ed) (k : Nat) : turnTo n cr b to (k + 1) = if (cr.getD k (0, 0)).1 = b then (turnTo n cr b to k).set (cr.getD k (0, 0)).2 ⟨((n + k : Nat) : Int), []⟩ else turnTo n cr b to k := by
  apply List.ext_getElem
  · split <;> simp [turnTo]
  · intro i h1 h2
    have hi : i < to.length := by rw [turnTo_len] at h1; exact h1
    have e : (turnTo n cr b to (k + 1))[i] = redir n cr b i to[i] (k + 1) := by simp only [turnTo, List.getElem_mapIdx]
    have e' : (turnTo n cr b to k)[i]'(by rw [turnTo_len]; exact hi) = redir n cr b i to[i] k := by simp only [turnTo, List.getElem_mapIdx]
    rw [e, redir]
    by_cases hb : (cr.getD k (0, 0)).1 = b
    · simp only [hb, if_true] at h2 ⊢
      rw [List.getElem_set]
      by_cases hk : (cr.getD k (0, 0)).2 = i
      · rw [if_pos (Prod.ext hb hk), if_pos hk]
      · rw [if_neg (fun h => hk (by rw [h])), if_neg hk, e']
    · simp only [hb, if_false] at h2 ⊢
      rw [if_neg (fun h => hb (by rw [h])), e']
theorem Sp_ref {bs : List Sb} {cr : List (Nat × Nat)} (H : CrB bs cr) : ∀ j, j ≤ cr.length → Sp bs cr j = refA bs cr j ++ refJ bs (cr.take j)
  | 0, _ => by
    rw [Sp, List.take_zero, refJ, List.map_nil, List.append_nil]
    unfold refA turnTo
    apply List.ext_getElem
    · simp
    · intro i h1 h2
      rw [List.getElem_mapIdx]
      have : (bs[i].end_.to.mapIdx fun k e => redir bs.length cr i k e 0) = bs[i].end_.to := by
        apply List.ext_getElem
        · simp
        · intro k _ _; rw [List.getElem_mapIdx]; rfl
      rw [this]
      rfl
  | j + 1, hj => by
    have hj' : j < cr.length := by omega
    obtain ⟨a1, a2⟩ := H.at_ _ (List.getElem_mem hj')
    have hno := nodup_take H.once hj'
    rw [Sp, Sp_ref H j (by omega), getD_el _ hj', stepB]
    have hg : (refA bs cr j ++ refJ bs (cr.take j)).getD cr[j].1 bD = withTo (bs.getD cr[j].1 bD) (turnTo bs.length cr cr[j].1 (toOf bs cr[j].1) j) := by
      rw [getD_app, if_pos (by rw [refA_len]; exact a1), refA_getD _ _ _ _ a1]
    have ht : toOf (refA bs cr j ++ refJ bs (cr.take j)) cr[j].1 = turnTo bs.length cr cr[j].1 (toOf bs cr[j].1) j := by
      unfold toOf; rw [hg]; rfl
    rw [hg, ht, turnTo_getD _ _ _ _ _ _ a2, show redir bs.length cr cr[j].1 cr[j].2 ((toOf bs cr[j].1).getD cr[j].2 eD) j = _ from redir_none _ _ _ _ _ _ (by omega) hno]
    have hJ : refJ bs (cr.take (j + 1)) = refJ bs (cr.take j) ++ [jmp ((toOf bs cr[j].1).getD cr[j].2 eD)] := by
      rw [List.take_succ_eq_append_getElem hj', refJ, List.map_append]; rfl
    rw [hJ, ← List.append_assoc]
    congr 1
    rw [List.set_append_left _ _ (by rw [refA_len]; exact a1)]
    congr 1
    apply List.ext_getElem
    · simp [refA]
    · intro b h1 h2
      rw [List.getElem_set]
      have hb : b < bs.length := by rw [refA_len] at h2; exact h2
      have e2 : (refA bs cr (j + 1))[b] = withTo bs[b] (turnTo bs.length cr b bs[b].end_.to (j + 1)) := by simp only [refA, List.getElem_mapIdx]
      have e1 : (refA bs cr j)[b]'(by rw [refA_len]; exact hb) = withTo bs[b] (turnTo bs.length cr b bs[b].end_.to j) := by simp only [refA, List.getElem_mapIdx]
      rw [e2, e1, turnTo_succ, getD_el _ hj']
      split
      · rename_i h
        subst h
        unfold toOf
        rw [getD_el _ a1]
        rfl
      · rfl
theorem Sp_all {bs : List Sb} {cr : List (Nat × Nat)} (H : CrB bs cr) : Sp bs cr cr.length = refB bs cr := by
  rw [Sp_ref H _ (Nat.le_refl _), List.take_length]; rfl
/-- Without an edge to split nothing changes. -/
theorem Sp_same (bs : List Sb) : Sp bs [] 0 = bs := rfl
end Go.Proofs.Ytiafkakkbbclhaa
