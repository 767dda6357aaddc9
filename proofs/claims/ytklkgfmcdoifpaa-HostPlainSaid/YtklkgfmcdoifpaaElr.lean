/- Rows of typed elements: append of a row to a row; a slice literal as a row. No condition. -/
import Derived.Test.YtklkgfmcdoifpaaEls
namespace Go.Proofs.Ytklkgfmcdoifpaa
open Go.RowKit

section
variable {α : Type} {t : Ty α} [hok : TyOk t]
/-- append(v, ys...), typed, the source a row of cells. -/
theorem run_appC [TyOne t] {P : Program} {ts e : TypeId} {bytes : Nat} {z : Value} {base B B2 : Nat} {A : Option Addr} (E : ElemOk P ts e t.size bytes z) (w : World) (ty : TypeId) {v : Value} (m c : Nat) {xs ys : List α} {dss : List (List Value)} (hown : t.row w base B e v xs)
    (k1 : Css t w B dss ys) (k2 : Rd w B2 A dss.flatten) (hl : ys.length = m) (h63 : (xs.length + m) ≤ maxLen) (hbytes : (xs.length + m) * bytes ≤ 140737488355328) (hBb : B ≤ base) (hbase : base ≤ w.heap.size) :
    ∃ v' w', (Builtin.append_ #[ts, ts] ty #[v, .slice A m c]).run P w = .ok v' w' ∧ t.row w' base B e v' (xs ++ ys) ∧ Fr (fun k => some k = v.ownBlock) w w' ∧
      (v' = .slice none 0 0 ↔ v = .slice none 0 0 ∧ m = 0) ∧ (v'.ownBlock = v.ownBlock ∨ v'.ownBlock = some w.heap.size) := by
  obtain ⟨css, h1, h2⟩ := hown
  subst hl
  obtain ⟨v', w', hrun, r1, r2, r3, r4⟩ := run_app E w ty c h2 k2 (by rw [k1.len]) k1.ones h63 hbytes hbase
  have hM : ∀ k, k < B → ¬ some k = v.ownBlock := by
    intro k hk he
    rcases h2.2 with ⟨rfl, _⟩ | ⟨g, cap, cur, rfl, hb, _⟩
    · cases he
    · simp only [Value.ownBlock, Option.some.injEq] at he
      omega
  refine ⟨v', w', hrun, ⟨css ++ dss, Css.append (h1.fr (Nat.le_trans hBb hbase) r2 hM) (k1.fr (Nat.le_trans hBb hbase) r2 hM), ?_⟩, r2, r3, r4⟩
  rw [List.flatten_append, List.length_append]; exact r1
theorem Ty.row.rd {w : World} {base B : Nat} {e : TypeId} {A : Option Addr} {n c : Nat} {xs : List α} (h : t.row w base B e (.slice A n c) xs) : ∃ css, Css t w B css xs ∧ Rd w w.heap.size A css.flatten := by
  obtain ⟨css, h1, h2⟩ := h
  refine ⟨css, h1, ?_⟩
  have hl := h1.len
  rcases h2.2 with ⟨hv, h0⟩ | ⟨g, cap, cur, hv, hb, hg, k1, k2, k3, k4⟩
  · have hx : xs = [] := List.eq_nil_of_length_eq_zero h0
    subst hx
    exact .inl (List.eq_nil_of_length_eq_zero (by simpa using hl))
  · injection hv with e1 _ _
    subst e1
    refine .inr ⟨g, 0, rfl, Blk.lt (t := e) (cs := cur) hg, fun k u hu => ?_⟩
    rw [Nat.zero_add, Blk.cell (t := e) (cs := cur) hg k]
    rw [← k4, List.getElem?_take] at hu
    split at hu
    · simpa using hu
    · cases hu
/-- A slice literal as a row. -/
theorem Ty.row.lit {w : World} {base B q : Nat} {e : TypeId} {css : List (List Value)} {xs : List α} (hb : Blk w q e css.flatten.toArray) (hq : base ≤ q) (h : Css t w B css xs) (hm : xs.length ≤ maxLen) : t.row w base B e (.slice (some ⟨q, 0, none⟩) xs.length xs.length) xs :=
  ⟨css, h, h.len, .inr ⟨q, xs.length, css.flatten.toArray, rfl, hq, hb, Nat.le_refl _, hm, by simp [h.len], by rw [← h.len, List.take_of_length_le (by simp)]⟩⟩
end

section
variable {α : Type} {t : Ty α} [hok : TyOk t] [hone : TyOne t]
variable {P : Program} {ts e : TypeId} {bytes : Nat} {z : Value} {B base : Nat} {A : Option Addr}
variable {ops : Array Oper} {rest : List Oper} {o : Oper} {a : Act} {Q : Exit → Act → World → Prop} {w : World}
/-- x = append(y, z...), typed, the source a row. -/
theorem wpList_appR {m cs n0 c0 : Nat} {A0 : Option Addr} {s x : Operand} {xs ys : List α} {base2 : Nat} (E : ElemOk P ts e t.size bytes z) (hgd : o.guard = none)
    (ho : o.op = .call { callee := .builtin .append, args := #[s, x], argTypes := #[ts, ts] })
    (hs : a.eval s = .slice A0 n0 c0) (hx : a.eval x = .slice A m cs) (hown : t.row w base B e (.slice A0 n0 c0) xs) (hr : t.row w base2 B e (.slice A m cs) ys) (hl : ys.length = m)
    (h63 : xs.length + m ≤ 140737488355328) (hbytes : (xs.length + m) * bytes ≤ 140737488355328) (hBb : B ≤ base) (hbase : base ≤ w.heap.size)
    (h : ∀ v' w', t.row w' base B e v' (xs ++ ys) → Fr (fun k => some k = (Value.slice A0 n0 c0).ownBlock) w w' → (v'.ownBlock = (Value.slice A0 n0 c0).ownBlock ∨ v'.ownBlock = some w.heap.size) → wpList P ops Q rest (a.put o.dst v') w') :
    wpList P ops Q (o :: rest) a w := by
  refine wpList_plain hgd fun K hK => ?_
  obtain ⟨dss, k1, k2⟩ := hr.rd
  obtain ⟨v', w', hrun, h2, h3, h4, h5⟩ := run_appC E w o.type m cs hown k1 k2 hl (by simp only [maxLen]; omega) hbytes hBb hbase
  unfold Oper.wp execOp
  simp only [ho, resolve, invoke, builtin, Sem.run_bind, Sem.run_pure, Result.andThen_ok, List.map_toArray, List.map_cons, List.map_nil, hs, hx, hrun]
  exact hK _ _ (h v' w' h2 h3 h5)
end
end Go.Proofs.Ytklkgfmcdoifpaa
