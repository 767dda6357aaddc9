/- Structs of many cells: loaded, stored and boxed in one step. -/
import Derived.WalkKit
import Derived.ProofKit
import Derived.WalkSpells
import Derived.Deep.MidRow
import Derived.Deep.WholeRow
import Derived.Test.YthggdemiddjlgaaSels
namespace Go.Proofs.Ythggdemiddjlgaa
open Go.RowKit
variable {P : Program}

/-- A whole value into the block that was made last. -/
theorem wpList_store_new {ops : Array Oper} {rest : List Oper} {op : Oper} {a : Act} {w : World} {Q : Exit → Act → World → Prop} (hgd : op.guard = none) (ty : TypeId) (x y : Operand) (ho : op.op = .store ty x y)
    (c : Array Value) (ds : List Value) (hx : a.eval x = .pointer (some ⟨w.heap.size, 0, none⟩)) (hy : a.eval y = .agg ds.toArray)
    (hi : (P.info? ty).map (·.size) = some ds.length) (hs : c.size = ds.length) (h1 : ds.all (·.oneCell') = true)
    (h : wpList P ops Q rest (a.put op.dst undef) (w.alloc (.cells ds.toArray ty))) : wpList P ops Q (op :: rest) a (w.alloc (.cells c ty)) :=
  wpList_plain hgd fun _ hK => by
    unfold Oper.wp execOp
    simp only [ho, hx, hy, Sem.run_bind, run_storeAt_new w ty c ds.toArray (by simpa using hi) (by simpa using hs) (by simpa using h1)]
    exact hK _ _ h
theorem wpL_skip {ops : Array Oper} {rest : List Oper} {o : Oper} {a : Act} {w : World} {Q : Exit → Act → World → Prop} (hw : Region.wanted o (yielded ops a.tmps) = false) (h : wpList P ops Q rest (a.put o.dst undef) w) : wpList P ops Q (o :: rest) a w := by
  unfold wpList
  rw [if_neg (by rw [hw]; decide)]
  exact h
theorem wpL_call {ops : Array Oper} {rest : List Oper} {o : Oper} {a : Act} {w : World} {Q : Exit → Act → World → Prop} (hw : Region.wanted o (yielded ops a.tmps) = true)
    (h : ∃ v, (execOp a.eval o).run P w = .ok (.value v) w ∧ wpList P ops Q rest (a.put o.dst v) w) : wpList P ops Q (o :: rest) a w := by
  obtain ⟨v, h1, h2⟩ := h
  refine wpList_step fun K hK => ?_
  rw [if_pos hw]
  unfold Oper.wp
  rw [h1]
  exact hK _ _ h2
/-- The cells of a block known whole, as a stretch. -/
theorem rangeAt_blk {w : World} {p : Nat} {t : TypeId} {cs : Array Value} (h : Blk w p t cs) : w.rangeAt p 0 cs.toList := fun j v hv => by
  rw [Nat.zero_add]
  rw [World.cell?, h]
  simpa using hv
theorem range_cell {w : World} {p o : Nat} {cs : List Value} (h : w.rangeAt p o cs) (i : Nat) {v : Value} (hi : cs[i]? = some v) : w.cell? ⟨p, o + i, none⟩ = some v := h i v hi
theorem fold_set0 : ∀ (ds : List Value) (k : Nat) (pre Z : List Value), pre.length = k → Z.length = ds.length →
    List.foldl (fun (cs : Array Value) (x : Value × Nat) => cs.setIfInBounds x.snd x.fst) (pre ++ Z).toArray (ds.zipIdx k) = (pre ++ ds).toArray
  | [], k, pre, Z, _, h => by
    have : Z = [] := List.eq_nil_of_length_eq_zero h
    subst this
    rfl
  | d :: ds, k, pre, Z, hk, h => by
    obtain ⟨z, Z', rfl⟩ : ∃ z Z', Z = z :: Z' := by cases Z with | nil => simp at h | cons z Z' => exact ⟨z, Z', rfl⟩
    have ih := fold_set0 ds (k + 1) (pre ++ [d]) Z' (by simp [hk]) (by simpa using h)
    rw [List.zipIdx_cons, List.foldl_cons]
    have e : (pre ++ z :: Z').toArray.setIfInBounds k d = (pre ++ [d] ++ Z').toArray := by
      rw [List.setIfInBounds_toArray]
      congr 1
      rw [List.set_append_right _ _ (by omega), ← hk]
      simp
    rw [e, ih]
    simp
theorem fold_set {ds : List Value} {Z : Array Value} (h : Z.size = ds.length) :
    List.foldl (fun (cs : Array Value) (x : Value × Nat) => cs.setIfInBounds x.snd x.fst) Z ds.zipIdx = ds.toArray := by
  have := fold_set0 ds 0 [] Z.toList rfl (by simpa using h)
  simpa using this
theorem Fr.setCells' {M : Nat → Prop} {a : World} {b : Nat} (hb : b < a.heap.size → M b) : ∀ (ds : List Value) (o : Nat) (w : World), Fr M a w → Fr M a (w.setCells b o ds)
  | [], _, _, h => h
  | v :: r, o, w, h => Fr.setCells' hb r (o + 1) _ (h.setCell ⟨b, o, none⟩ v hb)
theorem there_blk {w : World} {p n : Nat} {t : TypeId} {cs : Array Value} (h : Blk w p t cs) (hn : cs.size = n) : w.there p 0 n := fun j hj => by
  rw [Nat.zero_add]
  refine ⟨?_, h.frozen j⟩
  rw [h.cell j]
  have : j < cs.size := by omega
  simp [this]
/-- Results that are a wide struct's cells and a slot. -/
theorem results_wide {fn : Func} {p t : Tmp} {ty : TypeId} (h : fn.results = #[.cell p ty, .tmp t]) (tmps : Array Value) (w : World) (g : Nat) (ds : List Value) (d : TypeDesc)
    (hp : tmps.getD p undef = .pointer (some ⟨g, 0, none⟩)) (hr : w.rangeAt g 0 ds) (hu : P.underlying ty = some d) (hd : d.isRow = true) (hi : (P.info? ty).map (·.size) = some ds.length) :
    (results fn tmps).run P w = .ok (.tuple #[.agg ds.toArray, tmps.getD t undef]) w := by
  have hp' : tmps[p]?.getD undef = .pointer (some ⟨g, 0, none⟩) := by simpa using hp
  simp [results, h, hp', asAddr, run_loadVar_mid w g 0 ty ds d hr hu hd hi]
end Go.Proofs.Ythggdemiddjlgaa
