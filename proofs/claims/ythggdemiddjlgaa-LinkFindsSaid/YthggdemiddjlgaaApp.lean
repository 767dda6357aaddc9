/- append, make, copy as run equations over owned rows. No condition. -/
import Derived.Test.YthggdemiddjlgaaLib
import Derived.Maps.AppendAt
import Derived.Laws.MakeOwn
import Derived.Laws.CopyOwn
import Derived.KernelRfl
import Derived.RegionTactic
import Derived.OwnWalk
namespace Go.Proofs.Ythggdemiddjlgaa
open Go.RowKit

structure ElemOk (P : Program) (t e : TypeId) (size bytes : Nat) (z : Value) : Prop where
  slice : P.underlying t = some (.slice e)
  info : ∃ i, P.info? e = some i ∧ i.zero = some z ∧ i.size = size ∧ i.bytes = bytes
  zs : z.cells.size = size
  pos : 0 < size

theorem ElemOk.mk' {P : Program} {t e : TypeId} {size bytes : Nat} {z : Value} (h : P.underlying t = some (.slice e))
    (hi : (P.info? e).map (fun i => (i.zero, i.size, i.bytes)) = some (some z, size, bytes)) (hz : z.cells.size = size) (hp : 0 < size) : ElemOk P t e size bytes z := by
  refine ⟨h, ?_, hz, hp⟩
  cases hq : P.info? e with
  | none => simp [hq] at hi
  | some i =>
    simp [hq] at hi
    exact ⟨i, rfl, hi.1, hi.2.1, hi.2.2⟩

section
variable {P : Program} {t e : TypeId} {size bytes : Nat} {z : Value} {B base : Nat} {A : Option Addr}

theorem run_app_none (E : ElemOk P t e size bytes z) (w : World) (ty : TypeId) {v : Value} {n : Nat} {xs : List Value} (hown : w.ownsRow base e size v n xs) (c : Nat) :
    (Builtin.append_ #[t, t] ty #[v, .slice none 0 c]).run P w = .ok v w := by
  obtain ⟨i, hi, hz0, hz1, hz2⟩ := E.info
  rcases hown.2 with ⟨rfl, rfl⟩ | ⟨g, cap, cur, rfl, _, _, hnc, _⟩
  · simp [Builtin.append_, run_underlying E.slice, sizeOf, typeInfo, hi, Builtin.lenOf, Builtin.firstCells]
  · simp [Builtin.append_, run_underlying E.slice, sizeOf, typeInfo, hi, Builtin.lenOf, Builtin.firstCells, hnc, storeCells]

theorem add_lit' (b o j : Nat) : (⟨b, o, none⟩ : Addr).add j = ⟨b, o + j, none⟩ := by unfold Addr.add; split <;> simp_all

/-- append of what a slice reads as, onto a row that the caller owns (nil or not). -/
theorem run_app (E : ElemOk P t e size bytes z) (w : World) (ty : TypeId) {v : Value} {n m : Nat} (c : Nat) {xs news : List Value} (hown : w.ownsRow base e size v n xs)
    (hr : Rd w B A news) (hl : news.length = m * size) (h1 : ∀ u ∈ news, u.oneCell' = true)
    (h63 : n + m ≤ maxLen) (hbytes : (n + m) * bytes ≤ 140737488355328) (hbase : base ≤ w.heap.size) :
    ∃ v' w', (Builtin.append_ #[t, t] ty #[v, .slice A m c]).run P w = .ok v' w' ∧ w'.ownsRow base e size v' (n + m) (xs ++ news) ∧ Fr (fun k => some k = v.ownBlock) w w' ∧
      (v' = .slice none 0 0 ↔ v = .slice none 0 0 ∧ m = 0) ∧ (v'.ownBlock = v.ownBlock ∨ v'.ownBlock = some w.heap.size) := by
  obtain ⟨i, hi, hz0, hz1, hz2⟩ := E.info
  have key : A = none ∨ ∃ ad : Addr, A = some ad ∧ ∀ j u, news[j]? = some u → w.cell? (ad.add j) = some u := by
    rcases hr with rfl | ⟨b, o, rfl, hb, hc⟩
    · cases A with
      | none => exact .inl rfl
      | some ad => exact .inr ⟨ad, rfl, fun j u hu => by simp at hu⟩
    · exact .inr ⟨⟨b, o, none⟩, rfl, fun j u hu => by rw [add_lit']; exact hc j u hu⟩
  rcases key with rfl | ⟨ad, rfl, hc⟩
  · have hn : news = [] := by
      rcases hr with rfl | ⟨b, o, h, _⟩
      · rfl
      · cases h
    subst hn
    have hm : m = 0 := by
      rcases Nat.eq_zero_or_pos m with h | h
      · exact h
      · have := Nat.mul_pos h E.pos; simp at hl; omega
    subst hm
    exact ⟨v, w, run_app_none E w ty hown c, by simpa using hown, Fr.refl _ _, by simp, .inl rfl⟩
  · obtain ⟨v', w', hrun, h2, h3, h4, h5⟩ := run_append_own_at (P := P) w base t ty e i z size bytes E.slice hi hz0 hz1 hz2 E.zs E.pos v n xs hown ad m c news hl hc h1 h63 hbytes hbase
    exact ⟨v', w', hrun, h2, Fr.of_grown h3, h4, h5⟩
end

/-- A row of the caller's own that is not nil: elements of one cell. -/
def Own (w : World) (q : Nat) (e : TypeId) (c : Nat) (xs : List Value) : Prop := w.ownsRow 0 e 1 (.slice (some ⟨q, 0, none⟩) xs.length c) xs.length xs

section
variable {M : Nat → Prop} {w w' : World} {q c : Nat} {e : TypeId} {xs : List Value}
theorem Own.cur (h : Own w q e c xs) : ∃ cur, Blk w q e cur ∧ xs.length ≤ c ∧ c ≤ maxLen ∧ cur.size = c ∧ cur.toList.take xs.length = xs := by
  rcases h.2 with ⟨h, _⟩ | ⟨g, cap, cur, hv, _, hg, h1, h2, h3, h4⟩
  · cases h
  · injection hv with hv hn hc
    injection hv with hv
    injection hv with hv
    subst hv; subst hc
    exact ⟨cur, hg, h1, h2, by simpa using h3, by simpa using h4⟩
theorem Own.mk {cur : Array Value} (hb : Blk w q e cur) (h1 : xs.length ≤ c) (h2 : c ≤ maxLen) (h3 : cur.size = c) (h4 : cur.toList.take xs.length = xs) : Own w q e c xs :=
  ⟨by simp, .inr ⟨q, c, cur, rfl, Nat.zero_le _, hb, h1, h2, by simpa using h3, by simpa using h4⟩⟩
theorem Own.lt (h : Own w q e c xs) : q < w.heap.size := by obtain ⟨cur, hb, _⟩ := h.cur; exact hb.lt
theorem Own.cell (h : Own w q e c xs) (k : Nat) (hk : k < xs.length) : w.cell? ⟨q, k, none⟩ = some xs[k] := by
  have := World.ownsRow.cellAt h k (by simpa using hk)
  rw [this, List.getElem?_eq_getElem hk]
theorem Own.frozen (h : Own w q e c xs) (k : Nat) : w.frozen? ⟨q, k, none⟩ = false := World.ownsRow.frozenAt h k
theorem Own.fr (h : Own w q e c xs) (f : Fr M w w') (hq : ¬ M q) : Own w' q e c xs := by
  obtain ⟨cur, hb, r1, r2, r3, r4⟩ := h.cur
  exact Own.mk (hb.fr f hq) r1 r2 r3 r4
theorem Own.set_ (h : Own w q e c xs) (k : Nat) (u : Value) : Own (w.setCell ⟨q, k, none⟩ u) q e c (xs.set k u) := by
  obtain ⟨cur, hb, r1, r2, r3, r4⟩ := h.cur
  refine Own.mk (hb.set_ k u) (by simpa using r1) r2 (by simpa using r3) ?_
  rw [Array.toList_setIfInBounds, List.length_set, List.take_set, r4]
theorem Own.rd {B : Nat} (h : Own w q e c xs) (hB : q < B) : Rd w B (some ⟨q, 0, none⟩) xs :=
  .inr ⟨q, 0, rfl, hB, fun k u hu => by
    obtain ⟨hk, rfl⟩ := List.getElem?_eq_some_iff.1 hu
    rw [Nat.zero_add]; exact h.cell k hk⟩
theorem Own.of_row {base : Nat} {v : Value} {n : Nat} (h : w.ownsRow base e 1 v n xs) (hv : v ≠ .slice none 0 0) : ∃ q c, v = .slice (some ⟨q, 0, none⟩) n c ∧ base ≤ q ∧ n = xs.length ∧ Own w q e c xs := by
  rcases h.2 with ⟨h, _⟩ | ⟨g, cap, cur, rfl, hb, hg, h1, h2, h3, h4⟩
  · exact absurd h hv
  · have hn : n = xs.length := by have := h.1; omega
    subst hn
    exact ⟨g, cap, rfl, hb, rfl, Own.mk hg h1 h2 (by simpa using h3) (by simpa using h4)⟩
end

section
variable {P : Program} {t e : TypeId} {bytes : Nat} {z : Value} {B : Nat} {A : Option Addr}
/-- append onto a row that is not nil, elements of one cell. -/
theorem run_app1 (E : ElemOk P t e 1 bytes z) (w : World) (ty : TypeId) {q c m : Nat} (cs : Nat) {xs news : List Value} (hown : Own w q e c xs)
    (hr : Rd w B A news) (hl : news.length = m) (h1 : ∀ u ∈ news, u.oneCell' = true)
    (h63 : xs.length + m ≤ 16777216) (hbytes : bytes ≤ 64) :
    ∃ q' c' w', (Builtin.append_ #[t, t] ty #[.slice (some ⟨q, 0, none⟩) xs.length c, .slice A m cs]).run P w = .ok (.slice (some ⟨q', 0, none⟩) (xs.length + m) c') w' ∧ Own w' q' e c' (xs ++ news) ∧ Fr (One q) w w' ∧
      (q' = q ∨ q' = w.heap.size) := by
  obtain ⟨v', w', hrun, h2, h3, h4, h5⟩ := run_app E w ty cs hown hr (by simpa using hl) h1 (by simp only [maxLen]; omega)
    (Nat.le_trans (Nat.mul_le_mul h63 hbytes) (by decide)) (Nat.zero_le _)
  obtain ⟨q', c', rfl, _, hn, ho⟩ := Own.of_row h2 (by intro h; have := h4.1 h; simp at this)
  refine ⟨q', c', w', hrun, ho, h3.mono (fun i _ h => by simpa [Value.ownBlock, One] using h), ?_⟩
  simpa [Value.ownBlock] using h5

/-- append onto nil, elements of one cell, at least one. -/
theorem run_app0 (E : ElemOk P t e 1 bytes z) (w : World) (ty : TypeId) {m : Nat} (cs : Nat) {news : List Value}
    (hr : Rd w B A news) (hl : news.length = m) (h1 : ∀ u ∈ news, u.oneCell' = true) (hm : 0 < m)
    (h63 : m ≤ 16777216) (hbytes : bytes ≤ 64) :
    ∃ c' w', (Builtin.append_ #[t, t] ty #[.slice none 0 0, .slice A m cs]).run P w = .ok (.slice (some ⟨w.heap.size, 0, none⟩) m c') w' ∧ Own w' w.heap.size e c' news ∧ Fr No w w' := by
  obtain ⟨v', w', hrun, h2, h3, h4, h5⟩ := run_app E w ty cs (World.ownsRow_nil w 0 e 1) hr (by simpa using hl) h1 (by simp only [maxLen]; omega)
    (Nat.le_trans (Nat.mul_le_mul (show 0 + m ≤ 16777216 by omega) hbytes) (by decide)) (Nat.zero_le _)
  obtain ⟨q', c', rfl, _, hn, ho⟩ := Own.of_row h2 (by intro h; have := (h4.1 h).2; omega)
  have e1 : q' = w.heap.size := by simpa [Value.ownBlock] using h5
  subst e1
  simp only [Nat.zero_add, List.nil_append] at hrun ho
  exact ⟨c', w', hrun, ho, h3.mono (fun i _ h => by simp [Value.ownBlock] at h)⟩

theorem madeCells_one (z : Value) (hz : z.cells = #[z]) (n : Nat) : madeCells z.cells n = Array.replicate n z := by
  apply Array.ext
  · simp [madeCells]
  · intro i h1 h2
    simp [madeCells, hz, Nat.mod_one]

/-- make([]T, n), elements of one cell. -/
theorem run_mk (E : ElemOk P t e 1 bytes z) (hz : z.cells = #[z]) (w : World) (kl kc : IntKind) (n : Nat) (hn : n ≤ 16777216) (hbytes : bytes ≤ 64) :
    (Instr.makeSlice t (.int kl (n : Int)) (.int kc (n : Int))).run P w = .ok (.slice (some ⟨w.heap.size, 0, none⟩) n n) (w.alloc (.cells (Array.replicate n z) e)) := by
  obtain ⟨i, hi, hz0, hz1, hz2⟩ := E.info
  have hb : (i.bytes : Int) * (n : Int) ≤ 281474976710656 := by
    rw [hz2]
    have : ((bytes * n : Nat) : Int) ≤ 281474976710656 := by
      have := Nat.mul_le_mul hbytes hn
      omega
    rwa [Int.natCast_mul] at this
  have hr := run_make (P := P) w t e i z E.slice hi hz0 kl kc n n (by omega) (by omega) hb (by omega)
  rw [hr, hz1, Int.toNat_natCast, Nat.mul_one, madeCells_one z hz]

theorem own_mk (w : World) (e : TypeId) (z : Value) (n : Nat) (hn : n ≤ 16777216) : Own (w.alloc (.cells (Array.replicate n z) e)) w.heap.size e n (List.replicate n z) :=
  Own.mk (Blk.new w e _) (by simp) (by simp only [maxLen]; omega) (by simp) (by simp)
/-- a slice literal. -/
theorem own_lit (w : World) (e : TypeId) (l : List Value) (hn : l.length ≤ 16777216) : Own (w.alloc (.cells l.toArray e)) w.heap.size e l.length l :=
  Own.mk (Blk.new w e _) (by simp) (by simp only [maxLen]; omega) (by simp) (by simp)

theorem splice_take {α : Type} (L xs cs : List α) (off : Nat) (h : L.take xs.length = xs) (hf : off + cs.length ≤ xs.length) :
    (L.take off ++ cs ++ L.drop (off + cs.length)).take xs.length = splice xs off cs := by
  have e1 := List.take_append_drop xs.length L
  rw [h] at e1
  generalize L.drop xs.length = r at e1
  subst e1
  rw [List.take_append_of_le_length (l₁ := xs) (by omega), List.drop_append_of_le_length (l₁ := xs) (by omega)]
  have hl : (xs.take off ++ cs ++ xs.drop (off + cs.length)).length = xs.length := by simp; omega
  rw [← List.append_assoc, List.take_append_of_le_length (by omega), List.take_of_length_le (by omega)]
  simp [splice]

/-- copy into an owned row, from a slice that reads as cs (of another row or of the same), within its length. -/
theorem run_cp (E : ElemOk P t e 1 bytes z) (w : World) (ty : TypeId) {q c : Nat} {xs cs : List Value} (hown : Own w q e c xs) (off dLen dCap sLen sCap : Nat)
    (hr : Rd w B A cs) (hn : cs.length = Nat.min sLen dLen) (hfit : off + cs.length ≤ xs.length) (h1 : ∀ u ∈ cs, u.oneCell' = true) :
    ∃ w', (Builtin.copy_ #[t, t] ty #[.slice (some ⟨q, off, none⟩) dLen dCap, .slice A sLen sCap]).run P w = .ok (goInt cs.length) w' ∧ Own w' q e c (splice xs off cs) ∧ Fr (One q) w w' := by
  obtain ⟨i, hi, hz0, hz1, hz2⟩ := E.info
  have hsz : (P.info? e).map (·.size) = some 1 := by simp [hi, hz1]
  obtain ⟨cur, hb, r1, r2, r3, r4⟩ := hown.cur
  by_cases h0 : cs = []
  · subst h0
    refine ⟨w, run_copy_none (P := P) w t t ty e _ _ dLen dCap sLen sCap E.slice hsz (by simpa using hn.symm), by simpa [splice] using hown, Fr.refl _ _⟩
  · rcases hr with h | ⟨b, o, rfl, hbb, hc⟩
    · exact absurd h h0
    · have hrun := run_copy_row (P := P) w t t ty e q off dLen dCap ⟨b, o, none⟩ sLen sCap cur e cs E.slice hsz hb hn (fun j u hu => by rw [add_lit']; exact hc j u hu) (by omega) h1
      refine ⟨_, hrun, Own.mk (setRow_heap w q _ _ e _ hb) (by rw [length_splice _ _ _ hfit]; exact r1) r2 ?_ ?_, ⟨rfl, rfl, rfl, by simp [World.setRow], fun k _ hk => setRow_other w q k _ hk⟩⟩
      · simp only [List.size_toArray, List.length_append, List.length_take, List.length_drop, Array.length_toList]; omega
      · rw [length_splice _ _ _ hfit]
        exact splice_take _ _ _ _ r4 hfit
end

section
variable {P : Program} {t e : TypeId} {bytes : Nat} {z : Value} {B : Nat} {A : Option Addr}
variable {ops : Array Oper} {rest : List Oper} {o : Oper} {a : Act} {Q : Exit → Act → World → Prop} {w : World}

theorem wpList_app1 {q c m : Nat} {s x : Operand} (cs : Nat) {xs news : List Value} (E : ElemOk P t e 1 bytes z) (hgd : o.guard = none)
    (ho : o.op = .call { callee := .builtin .append, args := #[s, x], argTypes := #[t, t] })
    (hs : a.eval s = .slice (some ⟨q, 0, none⟩) xs.length c) (hx : a.eval x = .slice A m cs) (hown : Own w q e c xs)
    (hr : Rd w B A news) (hl : news.length = m) (h1 : ∀ u ∈ news, u.oneCell' = true)
    (h63 : xs.length + m ≤ 16777216) (hbytes : bytes ≤ 64)
    (h : ∀ q' c' w', Own w' q' e c' (xs ++ news) → Fr (One q) w w' → (q' = q ∨ q' = w.heap.size) → wpList P ops Q rest (a.put o.dst (.slice (some ⟨q', 0, none⟩) (xs.length + m) c')) w') :
    wpList P ops Q (o :: rest) a w := by
  refine wpList_plain hgd fun K hK => ?_
  obtain ⟨q', c', w', hrun, h2, h3, h4⟩ := run_app1 E w o.type cs hown hr hl h1 h63 hbytes
  unfold Oper.wp execOp
  simp only [ho, resolve, invoke, builtin, Sem.run_bind, Sem.run_pure, Result.andThen_ok, List.map_toArray, List.map_cons, List.map_nil, hs, hx, hrun]
  exact hK _ _ (h q' c' w' h2 h3 h4)

theorem step_cp {K : Act → World → Prop} {E0 : Prop} {q c off dLen dCap sLen sCap : Nat} {s d : Operand} {xs cs : List Value} (E : ElemOk P t e 1 bytes z) (hgd : o.guard = none)
    (ho : o.op = .call { callee := .builtin .copy, args := #[d, s], argTypes := #[t, t] })
    (hd : a.eval d = .slice (some ⟨q, off, none⟩) dLen dCap) (hs : a.eval s = .slice A sLen sCap) (hown : Own w q e c xs)
    (hr : Rd w B A cs) (hn : cs.length = Nat.min sLen dLen) (hfit : off + cs.length ≤ xs.length) (h1 : ∀ u ∈ cs, u.oneCell' = true)
    (h : ∀ w', Own w' q e c (splice xs off cs) → Fr (One q) w w' → K (a.put o.dst (goInt cs.length)) w') :
    if Region.wanted o (yielded ops a.tmps) = true then Oper.wp P o a w K Q else E0 := by
  rw [if_pos (by simp [Region.wanted, hgd])]
  obtain ⟨w', hrun, h2, h3⟩ := run_cp E w o.type hown off dLen dCap sLen sCap hr hn hfit h1
  unfold Oper.wp execOp
  simp only [ho, resolve, invoke, builtin, Sem.run_bind, Sem.run_pure, Result.andThen_ok, List.map_toArray, List.map_cons, List.map_nil, hs, hd, hrun]
  exact h w' h2 h3

theorem rd_new (w0 : World) (v : Value) (e : TypeId) : Rd (w0.alloc (.cells #[v] e)) (w0.heap.size + 1) (some ⟨w0.heap.size, 0, none⟩) [v] :=
  .inr ⟨_, 0, rfl, by omega, fun k u hu => by
    rw [(Blk.new w0 e #[v]).cell]
    cases k with
    | zero => simpa using hu
    | succ k => simp at hu⟩

theorem rd_lit (w0 : World) (l : List Value) (e : TypeId) : Rd (w0.alloc (.cells l.toArray e)) (w0.heap.size + 1) (some ⟨w0.heap.size, 0, none⟩) l :=
  .inr ⟨_, 0, rfl, by omega, fun k u hu => by
    rw [(Blk.new w0 e l.toArray).cell, Nat.zero_add]
    simpa using hu⟩

/-- x = append(x, v), x not nil. -/
theorem wpList_push {w0 : World} {q c n cs : Nat} {s x : Operand} {v : Value} {xs : List Value} (E : ElemOk P t e 1 bytes z) (hgd : o.guard = none)
    (ho : o.op = .call { callee := .builtin .append, args := #[s, x], argTypes := #[t, t] })
    (hs : a.eval s = .slice (some ⟨q, 0, none⟩) n c) (hx : a.eval x = .slice (some ⟨w0.heap.size, 0, none⟩) 1 cs) (hown : Own w0 q e c xs) (hn : xs.length = n)
    (hv : v.oneCell' = true) (h63 : n + 1 ≤ 16777216) (hbytes : bytes ≤ 64)
    (h : ∀ q' c' w', Own w' q' e c' (xs ++ [v]) → Fr (One q) w0 w' → (q' = q ∨ w0.heap.size ≤ q') → wpList P ops Q rest (a.put o.dst (.slice (some ⟨q', 0, none⟩) (n + 1) c')) w') :
    wpList P ops Q (o :: rest) a (w0.alloc (.cells #[v] e)) := by
  subst hn
  refine wpList_app1 cs E hgd ho hs hx (hown.fr ((Fr.refl No w0).alloc _) (fun x => x)) (rd_new w0 v e) rfl (by simpa using hv) h63 hbytes ?_
  intro q' c' w' h2 h3 h4
  refine h q' c' w' h2 (((Fr.refl (One q) w0).alloc _).trans h3 (fun _ _ h => h)) ?_
  rcases h4 with h4 | h4
  · exact .inl h4
  · exact .inr (by rw [h4]; simp)

/-- x = append(x, v), x nil or a row of the caller's own from block 'base' on. -/
theorem wpList_pushR {w0 : World} {base n cs : Nat} {s x : Operand} {v u : Value} {xs : List Value} (E : ElemOk P t e 1 bytes z) (hgd : o.guard = none)
    (ho : o.op = .call { callee := .builtin .append, args := #[s, x], argTypes := #[t, t] })
    (hs : a.eval s = v) (hx : a.eval x = .slice (some ⟨w0.heap.size, 0, none⟩) 1 cs) (hown : w0.ownsRow base e 1 v n xs)
    (hv : u.oneCell' = true) (h63 : n + 1 ≤ 16777216) (hbytes : bytes ≤ 64) (hbase : base ≤ w0.heap.size)
    (h : ∀ v' w', w'.ownsRow base e 1 v' (n + 1) (xs ++ [u]) → Fr (fun k => some k = v.ownBlock) w0 w' → (v'.ownBlock = v.ownBlock ∨ ∃ g, v'.ownBlock = some g ∧ w0.heap.size ≤ g) → wpList P ops Q rest (a.put o.dst v') w') :
    wpList P ops Q (o :: rest) a (w0.alloc (.cells #[u] e)) := by
  refine wpList_plain hgd fun K hK => ?_
  obtain ⟨v', w', hrun, h2, h3, h4, h5⟩ := run_app (B := w0.heap.size + 1) E (w0.alloc (.cells #[u] e)) o.type cs (hown.alloc _) (rd_new w0 u e) (m := 1) (by simp) (by simpa using hv)
    (by simp only [maxLen]; omega) (Nat.le_trans (Nat.mul_le_mul h63 hbytes) (by decide)) (by simp; omega)
  unfold Oper.wp execOp
  simp only [ho, resolve, invoke, builtin, Sem.run_bind, Sem.run_pure, Result.andThen_ok, List.map_toArray, List.map_cons, List.map_nil, hs, hx, hrun]
  refine hK _ _ (h v' w' h2 (((Fr.refl _ w0).alloc _).trans h3 (fun _ _ h => h)) ?_)
  rcases h5 with h5 | h5
  · exact .inl h5
  · exact .inr ⟨_, h5, by simp⟩

/-- A row of the caller's own, nil or not, as a slice that can be read. -/
theorem row_form {w : World} {base n : Nat} {v : Value} {xs : List Value} (h : w.ownsRow base e 1 v n xs) : ∃ A c, v = .slice A xs.length c ∧ xs.length ≤ c ∧ Rd w w.heap.size A xs ∧ (A = none ∨ ∃ b o, A = some ⟨b, o, none⟩) := by
  by_cases hv : v = .slice none 0 0
  · subst hv
    have hx : xs = [] := by
      rcases h.2 with ⟨_, h0⟩ | ⟨g, cap, cur, h0, _⟩
      · have := h.1; rw [h0] at this; exact List.eq_nil_of_length_eq_zero (by simpa using this)
      · cases h0
    subst hx
    exact ⟨none, 0, rfl, by simp, .inl rfl, .inl rfl⟩
  · obtain ⟨q, c, rfl, _, hn, ho⟩ := Own.of_row h hv
    subst hn
    obtain ⟨_, _, hc, _⟩ := ho.cur
    exact ⟨_, c, rfl, hc, ho.rd ho.lt, .inr ⟨_, _, rfl⟩⟩
end
end Go.Proofs.Ythggdemiddjlgaa
