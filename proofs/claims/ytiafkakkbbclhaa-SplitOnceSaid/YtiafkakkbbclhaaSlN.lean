/- Chapter 46: the copied blocks. -/
import Derived.Test.YtiafkakkbbclhaaSlM
namespace Go.Proofs.Ytiafkakkbbclhaa
open Go.RowKit

/-- The fresh blocks of numbers and of instructions. -/
def Sg (base : Nat) (w : World) : Nat → Prop := fun j => base ≤ j ∧ ((∃ cs, Blk w j 3 cs) ∨ ∃ cs, Blk w j 48 cs)
theorem Sg.lt {base : Nat} {w : World} {j : Nat} (h : Sg base w j) : j < w.heap.size := by
  obtain ⟨_, ⟨cs, hb⟩ | ⟨cs, hb⟩⟩ := h <;> exact hb.lt
theorem Sn.g {base : Nat} {w : World} : ∀ j, Sn base w j → Sg base w j := fun _ ⟨h1, h2⟩ => ⟨h1, .inl h2⟩
/-- No block of numbers or of instructions is in M. -/
def Ng (M : Nat → Prop) (w : World) : Prop := ∀ j cs, M j → ¬ Blk w j 3 cs ∧ ¬ Blk w j 48 cs
theorem Ng.no (w : World) : Ng No w := fun _ _ h => h.elim
theorem Ng.own {α : Type} {t : Ty α} {base : Nat} {S : Nat → Prop} {w : World} {e : TypeId} {v : Value} {l : List α} (h : t.row w base S e v l) (h1 : e ≠ 3) (h2 : e ≠ 48) : Ng (fun k => some k = v.ownBlock) w := fun j cs hj => by
  obtain ⟨_, cs', hb⟩ := h.own hj.symm
  exact ⟨fun hb' => Blk.ne_ hb hb' h1 rfl, fun hb' => Blk.ne_ hb hb' h2 rfl⟩
theorem Ng.one {w : World} {q : Nat} {e : TypeId} {cs : Array Value} (h : Blk w q e cs) (h1 : e ≠ 3) (h2 : e ≠ 48) : Ng (One q) w := fun j cs' hj => by
  have : j = q := hj
  subst this
  exact ⟨fun hb' => Blk.ne_ h hb' h1 rfl, fun hb' => Blk.ne_ h hb' h2 rfl⟩
theorem Sg.fr {base : Nat} {w w' : World} {M : Nat → Prop} (f : Fr M w w') (hM : Ng M w) : ∀ j, Sg base w j → Sg base w' j := fun j ⟨h1, h⟩ => ⟨h1, by
  rcases h with ⟨cs, hb⟩ | ⟨cs, hb⟩
  · exact .inl ⟨cs, hb.fr f (fun hm => (hM j cs hm).1 hb)⟩
  · exact .inr ⟨cs, hb.fr f (fun hm => (hM j cs hm).2 hb)⟩⟩
theorem Sn.frN {base : Nat} {w w' : World} {M : Nat → Prop} (f : Fr M w w') (hM : Ng M w) : ∀ j, Sn base w j → Sn base w' j := Sn.fr f (fun j cs hm => (hM j cs hm).1)
theorem Sg.keep {base : Nat} {w : World} {M : Nat → Prop} (hM : Ng M w) : ∀ k, Sg base w k → k < w.heap.size ∧ ¬ M k := fun k hk => ⟨hk.lt, fun hm => by
  obtain ⟨_, ⟨cs, hb⟩ | ⟨cs, hb⟩⟩ := hk
  · exact (hM k cs hm).1 hb
  · exact (hM k cs hm).2 hb⟩
theorem rowSg_fr {α : Type} {t : Ty α} [TyOk t] [TyMore t] {base : Nat} {w w' : World} {M : Nat → Prop} {e : TypeId} {v : Value} {l : List α} (h : t.row w base (Sg base w) e v l) (f : Fr M w w') (hM : Ng M w) (hv : ∀ k, v.ownBlock = some k → ¬ M k) : t.row w' base (Sg base w') e v l :=
  (h.fr f (Sg.keep hM) hv).more (Nat.le_refl _) (Sg.fr f hM)
theorem rowSn_fr {α : Type} {t : Ty α} [TyOk t] [TyMore t] {base base2 : Nat} {w w' : World} {M : Nat → Prop} {e : TypeId} {v : Value} {l : List α} (h : t.row w base2 (Sn base w) e v l) (f : Fr M w w') (hM : Ng M w) (hv : ∀ k, v.ownBlock = some k → ¬ M k) : t.row w' base2 (Sn base w') e v l :=
  (h.fr f (fun k hk => Sg.keep hM k (Sn.g k hk)) hv).more (Nat.le_refl _) (Sn.frN f hM)
def rD : Rw := ⟨none, 0, 0⟩
def Rw.v (r : Rw) : Value := .slice r.A r.n r.c
/-- A block with its edges' slice raw. -/
def srOf (x : Sb) (r : Rw) : Sr := ⟨x.params, x.ins, ⟨x.end_.kind, x.end_.cond, x.end_.args, r, x.end_.trap⟩⟩
def srs (bs : List Sb) (rs : List Rw) : List Sr := List.zipWith srOf bs rs
theorem srs_len {bs : List Sb} {rs : List Rw} (h : rs.length = bs.length) : (srs bs rs).length = bs.length := by simp [srs, h]
theorem srs_get {bs : List Sb} {rs : List Rw} (h : rs.length = bs.length) (i : Nat) (hi : i < bs.length) : (srs bs rs)[i]'(by rw [srs_len h]; exact hi) = srOf bs[i] (rs.getD i rD) := by
  simp only [srs, List.getElem_zipWith]
  rw [getD_el _ (by omega)]
theorem srs_push {bs : List Sb} {rs : List Rw} (h : rs.length = bs.length) (x : Sb) (r : Rw) : srs (bs ++ [x]) (rs ++ [r]) = srs bs rs ++ [srOf x r] := by
  unfold srs
  rw [List.zipWith_append (by rw [h])]
  rfl
/-- The blocks of a copy in memory: the row of the blocks, one row of edges each, all in different places. -/
structure Cb (base : Nat) (w : World) (v : Value) (bs : List Sb) (rs : List Rw) : Prop where
  len : rs.length = bs.length
  row : tSr.row w base (Sg base w) 42 v (srs bs rs)
  num : ∀ i, i < bs.length → (rs.getD i rD).n = (toOf bs i).length
  tor : ∀ i, i < bs.length → tEd.row w base (Sn base w) 44 (rs.getD i rD).v (toOf bs i)
  dis : ∀ i j, i < bs.length → j < bs.length → i ≠ j → ∀ g, (rs.getD i rD).v.ownBlock = some g → (rs.getD j rD).v.ownBlock ≠ some g
theorem Cb.nil (base : Nat) (w : World) : Cb base w (.slice none 0 0) [] [] :=
  ⟨rfl, Ty.row.nil _ _ _ _, fun i h => by simp at h, fun i h => by simp at h, fun i j h => by simp at h⟩
theorem Cb.fr {base : Nat} {w w' : World} {M : Nat → Prop} {v : Value} {bs : List Sb} {rs : List Rw} (h : Cb base w v bs rs) (f : Fr M w w') (hM : Ng M w) (hv : ∀ k, v.ownBlock = some k → ¬ M k) (hr : ∀ i, i < bs.length → ∀ k, (rs.getD i rD).v.ownBlock = some k → ¬ M k) : Cb base w' v bs rs :=
  ⟨h.len, rowSg_fr h.row f hM hv, h.num, fun i hi => rowSn_fr (h.tor i hi) f hM (hr i hi), h.dis⟩
theorem Cb.frNo {base : Nat} {w w' : World} {v : Value} {bs : List Sb} {rs : List Rw} (h : Cb base w v bs rs) (f : Fr No w w') : Cb base w' v bs rs := h.fr f (Ng.no w) (fun _ _ h => h) (fun _ _ _ _ h => h)
theorem Sg.base {base base' : Nat} {w : World} (h : base' ≤ base) : ∀ j, Sg base w j → Sg base' w j := fun _ ⟨h1, h2⟩ => ⟨Nat.le_trans h h1, h2⟩
theorem Cb.base {base base' : Nat} {w : World} {v : Value} {bs : List Sb} {rs : List Rw} (h : Cb base w v bs rs) (hb : base' ≤ base) : Cb base' w v bs rs :=
  ⟨h.len, h.row.more hb (Sg.base hb), h.num, fun i hi => (h.tor i hi).more hb (Sn.base hb), h.dis⟩
/-- The edges' rows are apart from the blocks' row. -/
theorem Cb.apart {base : Nat} {w : World} {v : Value} {bs : List Sb} {rs : List Rw} (h : Cb base w v bs rs) {i : Nat} (hi : i < bs.length) {g : Nat} (hg : (rs.getD i rD).v.ownBlock = some g) : v.ownBlock ≠ some g := fun e => by
  obtain ⟨_, cs, hb⟩ := (h.tor i hi).own hg
  obtain ⟨_, cs', hb'⟩ := h.row.own e
  exact Blk.ne_ hb hb' (by decide) rfl
theorem toOf_app (bs : List Sb) (x : Sb) (i : Nat) : toOf (bs ++ [x]) i = if i < bs.length then toOf bs i else if i = bs.length then x.end_.to else toOf [] 0 := by
  unfold toOf
  rw [getD_app]
  split
  · rfl
  · split
    · rename_i h1 h2; subst h2; simp
    · rename_i h1 h2
      rw [List.getD_eq_getElem?_getD, List.getElem?_eq_none (by simp; omega)]; rfl
theorem Cb.push {base : Nat} {w w2 : World} {v v2 : Value} {bs : List Sb} {rs : List Rw} (H : Cb base w v bs rs) (x : Sb) (r : Rw) (hn : r.n = x.end_.to.length) (hr : tEd.row w base (Sn base w) 44 r.v x.end_.to) (hf : ∀ g, r.v.ownBlock = some g → ∀ i, i < bs.length → (rs.getD i rD).v.ownBlock ≠ some g)
    (hnew : tSr.row w2 base (Sg base w) 42 v2 (srs bs rs ++ [srOf x r])) (f : Fr (fun k => some k = v.ownBlock) w w2) : Cb base w2 v2 (bs ++ [x]) (rs ++ [r]) := by
  have hM := Ng.own H.row (by decide) (by decide)
  have hap : ∀ k, r.v.ownBlock = some k → ¬ some k = v.ownBlock := fun k hk e => by
    obtain ⟨_, cs, hb⟩ := hr.own hk
    obtain ⟨_, cs', hb'⟩ := H.row.own e.symm
    exact Blk.ne_ hb hb' (by decide) rfl
  have hg : ∀ i, i < (bs ++ [x]).length → (i < bs.length ∧ (rs ++ [r]).getD i rD = rs.getD i rD ∧ toOf (bs ++ [x]) i = toOf bs i) ∨ (i = bs.length ∧ (rs ++ [r]).getD i rD = r ∧ toOf (bs ++ [x]) i = x.end_.to) := fun i hi => by
    simp at hi
    rw [getD_app, toOf_app, H.len]
    by_cases h : i < bs.length
    · exact .inl ⟨h, by rw [if_pos h], by rw [if_pos h]⟩
    · have : i = bs.length := by omega
      subst this
      exact .inr ⟨rfl, by simp, by simp⟩
  refine ⟨by simp [H.len], ?_, fun i hi => ?_, fun i hi => ?_, fun i j hi hj hij g h1 h2 => ?_⟩
  · rw [srs_push H.len]
    exact hnew.more (Nat.le_refl _) (Sg.fr f hM)
  · rcases hg i hi with ⟨h, e1, e2⟩ | ⟨h, e1, e2⟩
    · rw [e1, e2]; exact H.num i h
    · rw [e1, e2]; exact hn
  · rcases hg i hi with ⟨h, e1, e2⟩ | ⟨h, e1, e2⟩
    · rw [e1, e2]; exact rowSn_fr (H.tor i h) f hM (fun k hk e => H.apart h hk e.symm)
    · rw [e1, e2]; exact rowSn_fr hr f hM hap
  · rcases hg i hi with ⟨h, e1, _⟩ | ⟨h, e1, _⟩ <;> rcases hg j hj with ⟨k, e3, _⟩ | ⟨k, e3, _⟩
    · rw [e1] at h1; rw [e3] at h2; exact H.dis i j h k hij g h1 h2
    · rw [e1] at h1; rw [e3] at h2; exact hf g h2 i h h1
    · rw [e1] at h1; rw [e3] at h2; exact hf g h1 j k h2
    · omega
/-- The bounds of a form. -/
structure FL (x : Sf) : Prop where
  p : x.type.params.length * 8 ≤ 140737488351232
  r : x.type.results.length * 8 ≤ 140737488351232
  v : x.vals.length * 8 ≤ 140737488351232
  nb : x.blocks.length ≤ 100000
  t : tot (tosOf x.blocks) ≤ 100000
  bp : ∀ b ∈ x.blocks, b.params.length * 8 ≤ 140737488351232
  bi : ∀ b ∈ x.blocks, b.ins.length ≤ 100000
  ba : ∀ b ∈ x.blocks, b.end_.args.length * 8 ≤ 140737488351232
  ia : ∀ b ∈ x.blocks, ∀ i ∈ b.ins, i.args.length * 8 ≤ 140737488351232 ∧ i.outs.length * 8 ≤ 140737488351232
  ea : ∀ b ∈ x.blocks, ∀ e ∈ b.end_.to, e.args.length * 8 ≤ 140737488351232
theorem to_le {bs : List Sb} (h : tot (tosOf bs) ≤ 100000) (i : Nat) : (toOf bs i).length ≤ 100000 := by
  have := tot_row (tosOf bs) i
  rw [tosOf_getD, List.length_map] at this
  omega
end Go.Proofs.Ytiafkakkbbclhaa
