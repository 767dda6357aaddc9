/- Chapter 46: the split's step in memory. -/
import Derived.Test.YtiafkakkbbclhaaSlO
namespace Go.Proofs.Ytiafkakkbbclhaa
open Go.RowKit

theorem row_some {α : Type} {t : Ty α} {w : World} {base : Nat} {S : Nat → Prop} {e : TypeId} {A : Option Addr} {n c : Nat} {xs : List α} (h : t.row w base S e (.slice A n c) xs) (h0 : 0 < xs.length) : ∃ g, A = some ⟨g, 0, none⟩ ∧ n = xs.length := by
  obtain ⟨css, h1, h2⟩ := h
  rcases h2.2 with ⟨_, hn⟩ | ⟨g, cap, cur, e1, _⟩
  · omega
  · injection e1 with e1 e2 _
    exact ⟨g, e1, e2⟩
theorem srs_setTo {bs : List Sb} {rs : List Rw} (h : rs.length = bs.length) (i : Nat) (hi : i < bs.length) (es : List Ed) : srs (bs.set i (withTo (bs.getD i bD) es)) rs = srs bs rs := by
  apply List.ext_getElem
  · simp [srs]
  · intro j h1 h2
    simp only [srs, List.getElem_zipWith, List.getElem_set]
    split
    · rename_i hij
      subst hij
      exact (congrArg (fun b => srOf (withTo b es) (rs[i]'(by omega))) (getD_el bD hi)).trans rfl
    · rfl
theorem toOf_setTo {bs : List Sb} {i : Nat} (hi : i < bs.length) (es : List Ed) (j : Nat) : toOf (bs.set i (withTo (bs.getD i bD) es)) j = if i = j then es else toOf bs j := by
  unfold toOf
  rw [getD_set _ _ _ _ _ hi]
  split
  · rfl
  · rfl
theorem Cb.setTo {base : Nat} {w w' : World} {v : Value} {bs : List Sb} {rs : List Rw} (H : Cb base w v bs rs) {i : Nat} (hi : i < bs.length) {g : Nat} (hg : (rs.getD i rD).v.ownBlock = some g) (f : Fr (One g) w w') {es : List Ed} (hlen : es.length = (toOf bs i).length)
    (hrow : tEd.row w' base (Sn base w') 44 (rs.getD i rD).v es) : Cb base w' v (bs.set i (withTo (bs.getD i bD) es)) rs := by
  obtain ⟨_, csg, hbg⟩ := (H.tor i hi).own hg
  have hM : Ng (One g) w := Ng.one hbg (by decide) (by decide)
  refine ⟨by rw [List.length_set]; exact H.len, ?_, fun j hj => ?_, fun j hj => ?_, fun j k hj hk hjk => ?_⟩
  · rw [srs_setTo H.len i hi]
    exact rowSg_fr H.row f hM (fun k hk h => by
      have h : k = g := h
      subst h
      exact H.apart hi hg hk)
  · rw [List.length_set] at hj
    rw [toOf_setTo hi]
    split
    · rename_i h; subst h; rw [H.num i hi, hlen]
    · exact H.num j hj
  · rw [List.length_set] at hj
    rw [toOf_setTo hi]
    split
    · rename_i h; subst h; exact hrow
    · rename_i h
      exact rowSn_fr (H.tor j hj) f hM (fun k hk h2 => by
        have h2 : k = g := h2
        subst h2
        exact H.dis i j hi hj h k hg hk)
  · rw [List.length_set] at hj hk
    exact H.dis j k hj hk hjk
/-- Func under way. -/
structure Fn_ (Wc w : World) (x : Sf) (bs : List Sb) (qo : Nat) (AP : Option Addr) (cP : Nat) (AR : Option Addr) (cR : Nat) (AV : Option Addr) (cV : Nat) (AB : Option Addr) (cB : Nat) (rs : List Rw) : Prop where
  co : Co Wc.heap.size Wc w x qo x.type.params.length x.type.results.length x.vals.length AP cP AR cR AV cV (.slice AB bs.length cB)
  cb : Cb Wc.heap.size w (.slice AB bs.length cB) bs rs
theorem Fn_.frNo {Wc w w' : World} {x : Sf} {bs : List Sb} {qo : Nat} {AP AR AV AB : Option Addr} {cP cR cV cB : Nat} {rs : List Rw} (h : Fn_ Wc w x bs qo AP cP AR cR AV cV AB cB rs) (f : Fr No w w') : Fn_ Wc w' x bs qo AP cP AR cR AV cV AB cB rs := ⟨h.co.frNo f, h.cb.frNo f⟩
/-- Where the edge k of the block i lies. -/
theorem Fn_.edge {Wc w : World} {x : Sf} {bs : List Sb} {qo : Nat} {AP AR AV AB : Option Addr} {cP cR cV cB : Nat} {rs : List Rw} (h : Fn_ Wc w x bs qo AP cP AR cR AV cV AB cB rs) {i k : Nat} (hi : i < bs.length) (hk : k < (toOf bs i).length) :
    ∃ (b o g cE : Nat) (Aa : Option Addr) (ca : Nat), AB = some ⟨b, o, none⟩ ∧ b < w.heap.size ∧ w.cell? ⟨b, o + i * 7 + 5, none⟩ = some (.slice (some ⟨g, 0, none⟩) (toOf bs i).length cE) ∧ rs.getD i rD = ⟨some ⟨g, 0, none⟩, (toOf bs i).length, cE⟩ ∧
      (∃ cs, Blk w g 44 cs) ∧ w.cell? ⟨g, k * 2, none⟩ = some (.int .i64 (toOf bs i)[k].to) ∧ w.cell? ⟨g, k * 2 + 1, none⟩ = some (.slice Aa (toOf bs i)[k].args.length ca) ∧
      tEd.rd w (Sn Wc.heap.size w) [.int .i64 (toOf bs i)[k].to, .slice Aa (toOf bs i)[k].args.length ca] (toOf bs i)[k] := by
  have hrow := h.cb.row
  have hsl : (srs bs rs).length = bs.length := srs_len h.cb.len
  have hi2 : i < (srs bs rs).length := by rw [hsl]; exact hi
  have hels := Ty.row.els' (S' := fun j => j < w.heap.size) hrow (fun k hk => hk.lt) (fun g hg => by obtain ⟨_, cs, hb⟩ := hrow.own hg; exact hb.lt)
  obtain ⟨b, o, _, _, _, _, _, _, eA, hb, _, _, _, _, _, y5, _⟩ := Sr_at hels i hi2
  rw [srs_get h.cb.len i hi] at y5
  have ht := h.cb.tor i hi
  have hn := h.cb.num i hi
  obtain ⟨g, eg, _⟩ := row_some ht (by omega)
  have hr : rs.getD i rD = ⟨some ⟨g, 0, none⟩, (toOf bs i).length, (rs.getD i rD).c⟩ := by
    cases hx : rs.getD i rD with
    | mk A n c =>
      rw [hx] at eg hn
      subst eg hn
      rfl
  have hown : (rs.getD i rD).v.ownBlock = some g := by rw [hr]; rfl
  obtain ⟨_, cs, hbg⟩ := ht.own hown
  obtain ⟨css, c1, c2⟩ := ht.rd (A := (rs.getD i rD).A) (n := (rs.getD i rD).n) (c := (rs.getD i rD).c)
  have hkc : k < css.length := by rw [c1.1]; exact hk
  have hrd := c1.2 k _ _ (List.getElem?_eq_getElem hkc) (List.getElem?_eq_getElem hk)
  have hg2 := fun (j : Nat) (u : Value) (hu : css[k][j]? = some u) => flat_get c1.lens (List.getElem?_eq_getElem hkc) hu
  obtain ⟨Aa, ca, hc, _⟩ := Ed_cells hrd
  rw [hc] at hg2 hrd
  have g0 := hg2 0 _ rfl
  have g1 := hg2 1 _ rfl
  rw [show tEd.size = 2 from rfl] at g0 g1
  rcases c2 with c2 | ⟨b', o', e', _, c2⟩
  · rw [c2] at g0; cases g0
  · rw [eg] at e'
    injection e' with e'
    injection e' with e1 e2 _
    subst e1 e2
    have z0 := c2 _ _ g0
    have z1 := c2 _ _ g1
    rw [Nat.zero_add] at z0 z1
    refine ⟨b, o, g, (rs.getD i rD).c, Aa, ca, eA, hb, ?_, hr, ⟨cs, hbg⟩, z0, z1, hrd⟩
    rw [y5]
    simp only [srOf]
    rw [eg, hn]
end Go.Proofs.Ytiafkakkbbclhaa
