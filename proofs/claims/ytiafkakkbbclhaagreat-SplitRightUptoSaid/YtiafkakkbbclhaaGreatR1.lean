/- For every input SplitRight returns true, part 1: what the proof rests on. Condition: the arguments are of bulk at most 1048576. -/
import Derived.Below
import Derived.Laws.OwnMore
import Derived.Deep.Draws
import Derived.Laws.Rows
import Derived.Deep.AppendLies
import Derived.Maps.AppendAt
import Derived.Laws.MakeOwn
import Derived.Laws.CopyOwn
import Derived.KernelRfl
import Derived.RegionTactic
import Derived.OwnWalk
import Derived.OpenShut
import Derived.OrdersHeld
import Derived.Deep.RegionHeld3
import Derived.Laws.StructEq
import Derived.Test.YtiafkakkbbclhaaGreatRows
import Derived.ChangeArms
import Derived.Carry
import Derived.SizedLaws
import Derived.WalkKit
import Derived.ProofKit
import Derived.WalkSpells
import Derived.Deep.MidRow
import Derived.Deep.WholeRow
set_option maxRecDepth 100000
set_option maxHeartbeats 12800000
set_option linter.unusedVariables false
set_option linter.unusedSimpArgs false
set_option linter.unusedSectionVars false
namespace Go.Proofs.YtiafkakkbbclhaaGreat
open Go.RowKit
theorem hid {p : Prop} (h : p) : Hid p := h
theorem zA : (∀ {α : Type} {l : List α} {i : Nat} (h : i < l.toArray.size), l.toArray[i] = l[i]'(by simpa using h)) ∧ (∀ {α : Type} (a : α) (l : List α) (i : Nat) (h : i + 1 < (a :: l).length), (a :: l)[i + 1] = l[i]'(by simpa using h)) ∧ ∀ {α : Type} (a : α) (l : List α) (h : 0 < (a :: l).length), (a :: l)[0] = a :=
  ⟨fun h => List.getElem_toArray h, fun _ _ _ _ => rfl, fun _ _ _ => rfl⟩
theorem zC : (∀ {α : Type} {l : List α} {i : Nat} {a : α}, l.toArray.setIfInBounds i a = (l.set i a).toArray) ∧ (∀ {α : Type} (a b : α) (l : List α), (a :: l).set 0 b = b :: l) ∧ ∀ {α : Type} (a b : α) (l : List α) (i : Nat), (a :: l).set (i + 1) b = a :: l.set i b :=
  ⟨fun {_ l i a} => List.setIfInBounds_toArray l i a, fun _ _ _ => rfl, fun _ _ _ _ => rfl⟩
structure Fr (M : Nat → Prop) (w w' : World) : Prop where
  os : w'.os = w.os
  tape : w'.tape = w.tape
  output : w'.output = w.output
  size : w.heap.size ≤ w'.heap.size
  block : ∀ k, k < w.heap.size → ¬ M k → w'.heap[k]? = w.heap[k]?
def No : Nat → Prop := fun _ => False
def One (q : Nat) : Nat → Prop := fun k => k = q
section
variable {M N : Nat → Prop} {a b c w w' : World}
theorem Fr.refl (M : Nat → Prop) (w : World) : Fr M w w := ⟨rfl, rfl, rfl, Nat.le_refl _, fun _ _ _ => rfl⟩
theorem Fr.trans (h : Fr M a b) (k : Fr N b c) (hm : ∀ i, i < a.heap.size → N i → M i) : Fr M a c :=
  ⟨k.os.trans h.os, k.tape.trans h.tape, k.output.trans h.output, Nat.le_trans h.size k.size, fun i hi hn =>
    (k.block i (Nat.lt_of_lt_of_le hi h.size) (fun x => hn (hm i hi x))).trans (h.block i hi hn)⟩
theorem Fr.mono (h : Fr N a b) (hm : ∀ i, i < a.heap.size → N i → M i) : Fr M a b :=
  ⟨h.os, h.tape, h.output, h.size, fun i hi hn => h.block i hi (fun x => hn (hm i hi x))⟩
theorem Fr.drew (h : Fr M a w) : Fr M a w.drew := ⟨h.os, h.tape, h.output, h.size, h.block⟩
theorem Fr.drewN (h : Fr M a w) (n : Nat) : Fr M a (w.drewN n) := ⟨h.os, h.tape, h.output, h.size, h.block⟩
theorem Fr.alloc (h : Fr M a w) (o : Obj) : Fr M a (w.alloc o) :=
  ⟨h.os, h.tape, h.output, by have := h.size; simp; omega, fun k hk hn => (Below.heap_alloc w o k (Nat.lt_of_lt_of_le hk h.size)).trans (h.block k hk hn)⟩
theorem Fr.setCell (h : Fr M a w) (p : Addr) (u : Value) (hp : p.block < a.heap.size → M p.block) : Fr M a (w.setCell p u) :=
  ⟨h.os, h.tape, h.output, by simpa [World.setCell] using h.size, fun k hk hn => by
    by_cases e : k = p.block
    · exact absurd (e ▸ hp (e ▸ hk)) (e ▸ hn)
    · exact (Below.heap_setCell w p u k e).trans (h.block k hk hn)⟩
theorem Fr.below (h : Fr No a b) : Below a.heap.size a b := ⟨h.os, h.tape, h.output, h.size, fun k hk => h.block k hk (fun x => x)⟩
theorem Fr.of_grown {row : Option Nat} (h : a.grownBy b row) : Fr (fun k => some k = row) a b := ⟨h.os, h.tape, h.output, h.size, h.block⟩
theorem Fr.cell (h : Fr M w w') {p : Addr} (hp : p.block < w.heap.size) (hn : ¬ M p.block) : w'.cell? p = w.cell? p := World.cell?_of_block (w := w) (h.block p.block hp hn)
theorem Fr.frozen (h : Fr M w w') {p : Addr} (hp : p.block < w.heap.size) (hn : ¬ M p.block) : w'.frozen? p = w.frozen? p := World.frozen?_of_block (w := w) (h.block p.block hp hn)
end
def Blk (w : World) (g : Nat) (t : TypeId) (cs : Array Value) : Prop := w.heap[g]? = some (.cells cs t (0, 0))
section
variable {M : Nat → Prop} {w w' : World} {g : Nat} {t : TypeId} {cs : Array Value}
theorem Blk.lt (h : Blk w g t cs) : g < w.heap.size := by
  rcases Nat.lt_or_ge g w.heap.size with hlt | hge
  · exact hlt
  · unfold Blk at h; rw [Array.getElem?_eq_none hge] at h; cases h
theorem Blk.cell (h : Blk w g t cs) (i : Nat) : w.cell? ⟨g, i, none⟩ = cs[i]? := cell_of_row w g i cs t (0, 0) h
theorem Blk.frozen (h : Blk w g t cs) (i : Nat) : w.frozen? ⟨g, i, none⟩ = false := by
  unfold Blk at h
  simp [World.frozen?, h]
theorem Blk.new (w : World) (t : TypeId) (cs : Array Value) : Blk (w.alloc (.cells cs t)) w.heap.size t cs := heap_alloc_new w _
theorem Blk.new1 (w : World) (o : Obj) (t : TypeId) (cs : Array Value) : Blk ((w.alloc o).alloc (.cells cs t)) (w.heap.size + 1) t cs := by
  have := Blk.new (w.alloc o) t cs
  simpa using this
theorem Blk.drew (h : Blk w g t cs) : Blk w.drew g t cs := h
theorem Blk.drewN (h : Blk w g t cs) (n : Nat) : Blk (w.drewN n) g t cs := h
theorem Blk.alloc (h : Blk w g t cs) (o : Obj) : Blk (w.alloc o) g t cs := (Below.heap_alloc w o g h.lt).trans h
theorem Blk.set_ (h : Blk w g t cs) (i : Nat) (u : Value) : Blk (w.setCell ⟨g, i, none⟩ u) g t (cs.setIfInBounds i u) := by
  unfold Blk at h ⊢
  simp [World.setCell, Array.getElem?_modify, h]
theorem Blk.fr (h : Blk w g t cs) (f : Fr M w w') (hg : ¬ M g) : Blk w' g t cs := (f.block g h.lt hg).trans h
theorem Blk.below {B : Nat} (h : Blk w g t cs) (hb : Below B w w') (hg : g < B) : Blk w' g t cs := (hb.block g hg).trans h
theorem Blk.ne_ {g' : Nat} {t' : TypeId} {cs' : Array Value} (h : Blk w g t cs) (h' : Blk w g' t' cs') (hne : t ≠ t') : g ≠ g' := by
  rintro rfl
  unfold Blk at h h'
  rw [h] at h'
  injection h' with h'
  injection h' with _ ht
  exact hne ht
end
def Rd (w : World) (B : Nat) (A : Option Addr) (xs : List Value) : Prop :=
  xs = [] ∨ ∃ b o, A = some ⟨b, o, none⟩ ∧ b < B ∧ ∀ k u, xs[k]? = some u → w.cell? ⟨b, o + k, none⟩ = some u
section
variable {M : Nat → Prop} {w w' : World} {B B' : Nat} {A : Option Addr} {xs : List Value}
theorem Rd.nil : Rd w B A [] := .inl rfl
theorem Rd.at_ {k : Nat} (h : Rd w B A xs) (hk : k < xs.length) : ∃ b o, A = some ⟨b, o, none⟩ ∧ b < B ∧ w.cell? ⟨b, o + k, none⟩ = some xs[k] := by
  rcases h with rfl | ⟨b, o, e, hb, hc⟩
  · simp at hk
  · exact ⟨b, o, e, hb, hc k _ (List.getElem?_eq_getElem hk)⟩
theorem Rd.keep (h : Rd w B A xs) (hk : ∀ p : Addr, p.block < B → w'.cell? p = w.cell? p) : Rd w' B A xs := by
  rcases h with rfl | ⟨b, o, e, hb, hc⟩
  · exact .inl rfl
  · exact .inr ⟨b, o, e, hb, fun k u hu => (hk ⟨b, o + k, none⟩ hb).trans (hc k u hu)⟩
theorem Rd.more (h : Rd w B A xs) (hB : B ≤ B') : Rd w B' A xs := by
  rcases h with rfl | ⟨b, o, e, hb, hc⟩
  · exact .inl rfl
  · exact .inr ⟨b, o, e, Nat.lt_of_lt_of_le hb hB, hc⟩
theorem Rd.below (h : Rd w B A xs) (hb : Below B w w') : Rd w' B A xs := h.keep fun _ hp => hb.cell hp
theorem Rd.fr (h : Rd w B A xs) (hb : Fr M w w') (hM : ∀ k, k < B → ¬ M k) : Rd w' B A xs := by
  rcases h with rfl | ⟨b, o, e, hlt, hc⟩
  · exact .inl rfl
  · exact .inr ⟨b, o, e, hlt, fun k u hu => (hb.cell (p := ⟨b, o + k, none⟩) (World.block_lt_of_cell? w ⟨b, o + k, none⟩ (hc k u hu)) (hM b hlt)).trans (hc k u hu)⟩
theorem Rd.frNo (h : Rd w B A xs) (hb : Fr No w w') : Rd w' B A xs := h.fr hb (fun _ _ x => x)
theorem Rd.drew (h : Rd w B A xs) : Rd w.drew B A xs := h
theorem Rd.drewN (h : Rd w B A xs) (n : Nat) : Rd (w.drewN n) B A xs := h
theorem Rd.blk {q : Nat} {t : TypeId} {cs : Array Value} (hq : Blk w q t cs) (hb : q < B) (o : Nat) (hx : ∀ (k : Nat) (u : Value), xs[k]? = some u → cs[o + k]? = some u) : Rd w B (some ⟨q, o, none⟩) xs :=
  .inr ⟨q, o, rfl, hb, fun k u hu => by rw [hq.cell]; exact hx k u hu⟩
end
end Go.Proofs.YtiafkakkbbclhaaGreat
namespace Go.Proofs.YtiafkakkbbclhaaGreat
open Go.RowKit
structure ElemOk (P : Program) (t e : TypeId) (size bytes : Nat) (z : Value) : Prop where
  slice : P.underlying t = some (.slice e)
  info : ∃ i, P.info? e = some i ∧ i.zero = some z ∧ i.size = size ∧ i.bytes = bytes
  zs : z.cells.size = size
  pos : 0 < size
theorem ElemOk.mk' {P : Program} {t e : TypeId} {size bytes : Nat} {z : Value} (h : P.underlying t = some (.slice e))
    (hi : (P.info? e).map (fun i => (i.zero, i.size, i.bytes)) = some (some z, size, bytes)) (hz : z.cells.size = size) (hp : 0 < size) : ElemOk P t e size bytes z := by
  refine ⟨h, ?_, hz, hp⟩
  cases hq : P.info? e with
  | none => simp [hq] at hi
  | some i =>
    simp [hq] at hi
    exact ⟨i, rfl, hi.1, hi.2.1, hi.2.2⟩
section
variable {P : Program} {t e : TypeId} {size bytes : Nat} {z : Value} {B base : Nat} {A : Option Addr}
theorem run_app_none (E : ElemOk P t e size bytes z) (w : World) (ty : TypeId) {v : Value} {n : Nat} {xs : List Value} (hown : w.ownsRow base e size v n xs) (c : Nat) :
    (Builtin.append_ #[t, t] ty #[v, .slice none 0 c]).run P w = .ok v w := by
  obtain ⟨i, hi, hz0, hz1, hz2⟩ := E.info
  rcases hown.2 with ⟨rfl, rfl⟩ | ⟨g, cap, cur, rfl, _, _, hnc, _⟩
  · simp [Builtin.append_, run_underlying E.slice, sizeOf, typeInfo, hi, Builtin.lenOf, Builtin.firstCells]
  · simp [Builtin.append_, run_underlying E.slice, sizeOf, typeInfo, hi, Builtin.lenOf, Builtin.firstCells, hnc, storeCells]
theorem add_lit' (b o j : Nat) : (⟨b, o, none⟩ : Addr).add j = ⟨b, o + j, none⟩ := by unfold Addr.add; split <;> simp_all
theorem run_app (E : ElemOk P t e size bytes z) (w : World) (ty : TypeId) {v : Value} {n m : Nat} (c : Nat) {xs news : List Value} (hown : w.ownsRow base e size v n xs)
    (hr : Rd w B A news) (hl : news.length = m * size) (h1 : ∀ u ∈ news, u.oneCell' = true)
    (h63 : n + m ≤ maxLen) (hbytes : (n + m) * bytes ≤ 140737488355328) (hbase : base ≤ w.heap.size) :
    ∃ v' w', (Builtin.append_ #[t, t] ty #[v, .slice A m c]).run P w = .ok v' w' ∧ w'.ownsRow base e size v' (n + m) (xs ++ news) ∧ Fr (fun k => some k = v.ownBlock) w w' ∧
      (v' = .slice none 0 0 ↔ v = .slice none 0 0 ∧ m = 0) ∧ (v'.ownBlock = v.ownBlock ∨ v'.ownBlock = some w.heap.size) := by
  obtain ⟨i, hi, hz0, hz1, hz2⟩ := E.info
  have key : A = none ∨ ∃ ad : Addr, A = some ad ∧ ∀ j u, news[j]? = some u → w.cell? (ad.add j) = some u := by
    rcases hr with rfl | ⟨b, o, rfl, hb, hc⟩
    · cases A with
      | none => exact .inl rfl
      | some ad => exact .inr ⟨ad, rfl, fun j u hu => by simp at hu⟩
    · exact .inr ⟨⟨b, o, none⟩, rfl, fun j u hu => by rw [add_lit']; exact hc j u hu⟩
  rcases key with rfl | ⟨ad, rfl, hc⟩
  · have hn : news = [] := by
      rcases hr with rfl | ⟨b, o, h, _⟩
      · rfl
      · cases h
    subst hn
    have hm : m = 0 := by
      rcases Nat.eq_zero_or_pos m with h | h
      · exact h
      · have := Nat.mul_pos h E.pos; simp at hl; omega
    subst hm
    exact ⟨v, w, run_app_none E w ty hown c, by simpa using hown, Fr.refl _ _, by simp, .inl rfl⟩
  · obtain ⟨v', w', hrun, h2, h3, h4, h5⟩ := run_append_own_at (P := P) w base t ty e i z size bytes E.slice hi hz0 hz1 hz2 E.zs E.pos v n xs hown ad m c news hl hc h1 h63 hbytes hbase
    exact ⟨v', w', hrun, h2, Fr.of_grown h3, h4, h5⟩
end
def Own (w : World) (q : Nat) (e : TypeId) (c : Nat) (xs : List Value) : Prop := w.ownsRow 0 e 1 (.slice (some ⟨q, 0, none⟩) xs.length c) xs.length xs
section
variable {M : Nat → Prop} {w w' : World} {q c : Nat} {e : TypeId} {xs : List Value}
theorem Own.cur (h : Own w q e c xs) : ∃ cur, Blk w q e cur ∧ xs.length ≤ c ∧ c ≤ maxLen ∧ cur.size = c ∧ cur.toList.take xs.length = xs := by
  rcases h.2 with ⟨h, _⟩ | ⟨g, cap, cur, hv, _, hg, h1, h2, h3, h4⟩
  · cases h
  · injection hv with hv hn hc
    injection hv with hv
    injection hv with hv
    subst hv; subst hc
    exact ⟨cur, hg, h1, h2, by simpa using h3, by simpa using h4⟩
theorem Own.mk {cur : Array Value} (hb : Blk w q e cur) (h1 : xs.length ≤ c) (h2 : c ≤ maxLen) (h3 : cur.size = c) (h4 : cur.toList.take xs.length = xs) : Own w q e c xs :=
  ⟨by simp, .inr ⟨q, c, cur, rfl, Nat.zero_le _, hb, h1, h2, by simpa using h3, by simpa using h4⟩⟩
theorem Own.lt (h : Own w q e c xs) : q < w.heap.size := by obtain ⟨cur, hb, _⟩ := h.cur; exact hb.lt
theorem Own.cell (h : Own w q e c xs) (k : Nat) (hk : k < xs.length) : w.cell? ⟨q, k, none⟩ = some xs[k] := by
  have := World.ownsRow.cellAt h k (by simpa using hk)
  rw [this, List.getElem?_eq_getElem hk]
theorem Own.frozen (h : Own w q e c xs) (k : Nat) : w.frozen? ⟨q, k, none⟩ = false := World.ownsRow.frozenAt h k
theorem Own.fr (h : Own w q e c xs) (f : Fr M w w') (hq : ¬ M q) : Own w' q e c xs := by
  obtain ⟨cur, hb, r1, r2, r3, r4⟩ := h.cur
  exact Own.mk (hb.fr f hq) r1 r2 r3 r4
theorem Own.set_ (h : Own w q e c xs) (k : Nat) (u : Value) : Own (w.setCell ⟨q, k, none⟩ u) q e c (xs.set k u) := by
  obtain ⟨cur, hb, r1, r2, r3, r4⟩ := h.cur
  refine Own.mk (hb.set_ k u) (by simpa using r1) r2 (by simpa using r3) ?_
  rw [Array.toList_setIfInBounds, List.length_set, List.take_set, r4]
theorem Own.rd {B : Nat} (h : Own w q e c xs) (hB : q < B) : Rd w B (some ⟨q, 0, none⟩) xs :=
  .inr ⟨q, 0, rfl, hB, fun k u hu => by
    obtain ⟨hk, rfl⟩ := List.getElem?_eq_some_iff.1 hu
    rw [Nat.zero_add]; exact h.cell k hk⟩
end
section
variable {P : Program} {t e : TypeId} {bytes : Nat} {z : Value} {B : Nat} {A : Option Addr}
theorem madeCells_one (z : Value) (hz : z.cells = #[z]) (n : Nat) : madeCells z.cells n = Array.replicate n z := by
  apply Array.ext
  · simp [madeCells]
  · intro i h1 h2
    simp [madeCells, hz, Nat.mod_one]
theorem run_mk (E : ElemOk P t e 1 bytes z) (hz : z.cells = #[z]) (w : World) (kl kc : IntKind) (n : Nat) (hn : n ≤ 16777216) (hbytes : bytes ≤ 64) :
    (Instr.makeSlice t (.int kl (n : Int)) (.int kc (n : Int))).run P w = .ok (.slice (some ⟨w.heap.size, 0, none⟩) n n) (w.alloc (.cells (Array.replicate n z) e)) := by
  obtain ⟨i, hi, hz0, hz1, hz2⟩ := E.info
  have hb : (i.bytes : Int) * (n : Int) ≤ 281474976710656 := by
    rw [hz2]
    have : ((bytes * n : Nat) : Int) ≤ 281474976710656 := by
      have := Nat.mul_le_mul hbytes hn
      omega
    rwa [Int.natCast_mul] at this
  have hr := run_make (P := P) w t e i z E.slice hi hz0 kl kc n n (by omega) (by omega) hb (by omega)
  rw [hr, hz1, Int.toNat_natCast, Nat.mul_one, madeCells_one z hz]
theorem own_mk (w : World) (e : TypeId) (z : Value) (n : Nat) (hn : n ≤ 16777216) : Own (w.alloc (.cells (Array.replicate n z) e)) w.heap.size e n (List.replicate n z) :=
  Own.mk (Blk.new w e _) (by simp) (by simp only [maxLen]; omega) (by simp) (by simp)
end
end Go.Proofs.YtiafkakkbbclhaaGreat
namespace Go.Proofs.YtiafkakkbbclhaaGreat
end Go.Proofs.YtiafkakkbbclhaaGreat
namespace Go.Proofs.YtiafkakkbbclhaaGreat
open Go.RowKit
theorem wf_i64 {n : Int} (h : (Lit.int .i64 n).wf = true) : -9223372036854775808 ≤ n ∧ n ≤ 9223372036854775807 := by
  have : -9223372036854775808 ≤ n ∧ n ≤ 9223372036854775807 := by simpa [Lit.wf, IntKind.min, IntKind.max, IntKind.signed, IntKind.bits] using h
  omega
end Go.Proofs.YtiafkakkbbclhaaGreat
namespace Go.Proofs.YtiafkakkbbclhaaGreat
open Go
section
variable {P : Program} {ops : Array Oper} {Q : Exit → Act → World → Prop} {md : Region.Mode} {S : World → Prop}
def stillUpon (P : Program) (w : World) (v : Value) : Result Next → Prop
  | .ok (.value u) w' => w' = w ∧ u = v
  | .ok (.enter f args) w' => w' = w ∧ Calls P f args w (fun e w'' => e = .returned v ∧ w'' = w)
  | _ => False
def YieldsQ (P : Program) (ops : Array Oper) (S : World → Prop) (o : Oper) (v : Value) (a : Act) : Prop :=
  (Region.wanted o (yielded ops a.tmps) = true ∧ ∀ w, S w → stillUpon P w v ((execOp a.eval o).run P w)) ∨
  (Region.wanted o (yielded ops a.tmps) = false ∧ v = undef)
theorem YieldsQ.wpOp {i : Nat} {o : Oper} {v : Value} {a : Act} (hi : ops[i]? = some o) (hy : YieldsQ P ops S o v a)
    {K : Act → World → Prop} {w : World} (hS : S w) (h : K (a.put o.dst v) w) : wpOp P ops Q i K a w := by
  unfold Go.wpOp
  simp only [hi]
  rcases hy with ⟨hw, hv⟩ | ⟨hw, rfl⟩
  · simp only [hw, if_true]
    refine .inl ?_
    have h1 := hv w hS
    unfold Oper.wp
    generalize (execOp a.eval o).run P w = r at *
    cases r with
    | ok n w' =>
      cases n <;> simp only [stillUpon] at h1 <;> simp only [Oper.upon]
      case value u => obtain ⟨rfl, rfl⟩ := h1; exact h
      case enter f args =>
        obtain ⟨rfl, h2⟩ := h1
        exact h2.mono fun e w'' ⟨he, hw''⟩ => by subst he; subst hw''; exact h
    | halt x w' => simp only [stillUpon] at h1
  · simp only [hw, Bool.false_eq_true, if_false]; exact h
theorem YieldsQ.of_same {o : Oper} {v : Value} {a a' : Act} (hy : YieldsQ P ops S o v a) (he : execOp a'.eval o = execOp a.eval o)
    (hw : Region.wanted o (yielded ops a'.tmps) = Region.wanted o (yielded ops a.tmps)) : YieldsQ P ops S o v a' := by
  unfold YieldsQ at *
  rw [he, hw]
  exact hy
theorem wpOp_putQ {j : Nat} {oi oj : Oper} {v : Value} (hj : ops[j]? = some oj) (hap : oi.apart ops oj = true)
    (hsi : ∀ cs b, oi.op ≠ .select cs b) (hsj : ∀ cs b, oj.op ≠ .select cs b)
    (hQ : ∀ c a w, Q (.panic c) (a.put oi.dst v) w → Q (.panic c) a w) {K : Act → World → Prop} {a : Act} {w : World}
    (hy : YieldsQ P ops S oi v a) (h : wpOp P ops Q j K (a.put oi.dst v) w) :
    wpOp P ops Q j (fun a' w' => YieldsQ P ops S oi v a' ∧ K (a'.put oi.dst v) w') a w := by
  obtain ⟨h1, h2, h3⟩ := Oper.apart_spec hap
  have keep : ∀ (a : Act), YieldsQ P ops S oi v a → ∀ u, YieldsQ P ops S oi v (a.put oj.dst u) := fun a hy u =>
    hy.of_same (execOp_put oi hsi a oj.dst u h3) (wanted_put oi a oj.dst u h3)
  have keepD : ∀ d, YieldsQ P ops S oi v { a with defers := d :: a.defers } := fun d => hy.of_same rfl rfl
  unfold wpOp at *
  simp only [hj] at *
  rw [wanted_put oj a oi.dst v h1] at h
  split
  · rename_i hw
    simp only [hw, if_true] at h
    rcases h with h | ⟨hasks, hlets⟩
    case inr => exact .inr ⟨by unfold Oper.asks at *; rw [execOp_put oj hsj a oi.dst v h1] at hasks; exact hasks, hlets⟩
    refine .inl ?_
    unfold Oper.wp at *
    rw [execOp_put oj hsj a oi.dst v h1] at h
    generalize (execOp a.eval oj).run P w = r at *
    cases r with
    | ok n w' =>
      cases n <;> simp only [Oper.upon] at h ⊢
      case value u => exact ⟨keep a hy u, by rw [← Act.put_comm a v u h2]; exact h⟩
      case skip => exact ⟨keep a hy _, by rw [← Act.put_comm a v undef h2]; exact h⟩
      case defer d =>
        refine ⟨keep _ (keepD d) _, ?_⟩
        rw [← Act.put_comm _ v undef h2, ← Act.put_defers]
        exact h
      case enter f args =>
        refine Calls.mono h fun e w'' he => ?_
        cases e with
        | returned u => exact ⟨keep a hy u, by rw [← Act.put_comm a v u h2]; exact he⟩
        | panicked c => exact hQ _ _ _ he
        | outgrown => exact he
      case row row args => exact Rows.mono h fun u w'' he => ⟨keep a hy u, by rw [← Act.put_comm a v u h2]; exact he⟩
    | halt x w' =>
      cases x <;> simp only [Oper.upon] at h ⊢
      case panic u => exact hQ _ _ _ h
  · rename_i hw
    simp only [hw] at h
    exact ⟨keep a hy _, by rw [← Act.put_comm a v undef h2]; exact h⟩
def clo (md : Region.Mode) (ops : Array Oper) (L : Array Bool) : Prop :=
  ∀ (j : Nat) (oj : Oper), ops[j]? = some oj → L.getD j false = true → ∀ e ∈ oj.after, Region.binds md e = true → L.getD e.on false = true
theorem clo_set {L : Array Bool} {i : Nat} (h : clo md ops L) (hi : i ∈ Region.ready md ops L) : clo md ops (L.setIfInBounds i true) := by
  obtain ⟨_, oi, hoi, hall⟩ := mem_ready.1 hi
  intro j oj hj hl e he hb
  by_cases hij : i = j
  · subst hij
    have : oj = oi := Option.some.inj (hj.symm.trans hoi)
    subst this
    exact getD_set_true (hall e he hb)
  · rw [getD_set_ne false hij] at hl
    exact getD_set_true (h j oj hj hl e he hb)
def SL (S : World → Prop) (fins : List Nat) (L : Array Bool) (w : World) : Prop := (∀ f ∈ fins, L.getD f false = false) → S w
def wpAnyL (P : Program) (md : Region.Mode) (ops : Array Oper) (Q : Exit → Act → World → Prop) (S : World → Prop) (fins : List Nat) : Nat → Array Bool → Act → World → Prop
  | 0, L, a, w => Region.ready md ops L = [] ∧ Q .normal a w
  | fuel + 1, L, a, w =>
    (Region.ready md ops L = [] → Q .normal a w) ∧
    ∀ i ∈ Region.ready md ops L, wpOp P ops Q i (fun a' w' => SL S fins (L.setIfInBounds i true) w' ∧ wpAnyL P md ops Q S fins fuel (L.setIfInBounds i true) a' w') a w
theorem wpAny_of_L {fins : List Nat} : ∀ (fuel : Nat) (L : Array Bool) (a : Act) (w : World), wpAnyL P md ops Q S fins fuel L a w → wpAny P md ops Q fuel L a w
  | 0, _, _, _, h => h
  | fuel + 1, _, _, _, h => ⟨h.1, fun i hi => wpOp_mono (fun a' w' h' => wpAny_of_L fuel _ a' w' h'.2) (h.2 i hi)⟩
theorem SL_set {fins : List Nat} {L : Array Bool} {w : World} (i : Nat) (h : SL S fins L w) : SL S fins (L.setIfInBounds i true) w := by
  intro hf
  refine h fun f hfm => ?_
  have h1 := hf f hfm
  cases h2 : L.getD f false with
  | false => rfl
  | true => rw [getD_set_true h2] at h1; cases h1
theorem SL_unset {fins : List Nat} {L : Array Bool} {w : World} {i : Nat} (hi : i ∉ fins) (h : SL S fins (L.setIfInBounds i true) w) : SL S fins L w := by
  intro hf
  refine h fun f hfm => ?_
  rw [getD_set_ne false (show i ≠ f from fun e => hi (by rw [e]; exact hfm))]
  exact hf f hfm
theorem wpAnyL_first {fins : List Nat} {i : Nat} {oi : Oper} {v : Value} (hi : ops[i]? = some oi) (hsel : ∀ (j : Nat) (o : Oper) cs b, ops[j]? = some o → o.op ≠ .select cs b)
    (hQ : ∀ c a w, Q (.panic c) (a.put oi.dst v) w → Q (.panic c) a w) (hif : i ∉ fins) (hwait : ∀ f ∈ fins, ∀ L, clo md ops L → L.getD f false = true → L.getD i false = true) :
    ∀ (fuel : Nat) (L : Array Bool) (a : Act) (w : World), clo md ops L →
      (∀ j oj, ops[j]? = some oj → j ≠ i → L.getD j true = false → (∀ e ∈ oj.after, Region.binds md e = true → e.on ≠ i) → oi.apart ops oj = true) →
      i ∈ Region.ready md ops L → YieldsQ P ops S oi v a → SL S fins L w →
      wpAnyL P md ops Q S fins fuel (L.setIfInBounds i true) (a.put oi.dst v) w → wpAnyL P md ops Q S fins (fuel + 1) L a w := by
  have key : ∀ L w, clo md ops L → i ∈ Region.ready md ops L → SL S fins L w → S w := by
    intro L w hc hr h
    refine h fun f hf => ?_
    cases h2 : L.getD f false with
    | false => rfl
    | true =>
      have h3 := hwait f hf L hc h2
      have h4 := (mem_ready.1 hr).1
      rcases Nat.lt_or_ge i L.size with h' | h'
      · simp [h'] at h3 h4; rw [h4] at h3; cases h3
      · simp [Array.getElem?_eq_none h'] at h3
  intro fuel
  induction fuel with
  | zero =>
    intro L a w hc _ hr hy hS H
    refine ⟨fun h => (by rw [h] at hr; cases hr), fun j hj => ?_⟩
    by_cases hji : j = i
    · subst hji; exact hy.wpOp hi (key L w hc hr hS) ⟨SL_set _ hS, H⟩
    · have := ready_mono hj hji
      rw [H.1] at this
      cases this
  | succ fuel ih =>
    intro L a w hc hfree hr hy hS H
    refine ⟨fun h => (by rw [h] at hr; cases hr), fun j hj => ?_⟩
    by_cases hji : j = i
    · subst hji; exact hy.wpOp hi (key L w hc hr hS) ⟨SL_set _ hS, H⟩
    · have h1 := H.2 j (ready_mono hj hji)
      obtain ⟨hjun, oj, hoj, hall⟩ := mem_ready.1 hj
      have hnot : ∀ e ∈ oj.after, Region.binds md e = true → e.on ≠ i := fun e he hb heq => by
        have h1 := hall e he hb
        have h0 := (mem_ready.1 hr).1
        rw [heq] at h1
        rcases Nat.lt_or_ge i L.size with h' | h'
        · simp [h'] at h0 h1; rw [h0] at h1; cases h1
        · simp [Array.getElem?_eq_none h'] at h1
      have h2 := wpOp_putQ hoj (hfree j oj hoj hji hjun hnot) (fun cs b => hsel i oi cs b hi) (fun cs b => hsel j oj cs b hoj) hQ hy h1
      have hfree' : ∀ k ok, ops[k]? = some ok → k ≠ i → (L.setIfInBounds j true).getD k true = false →
          (∀ e ∈ ok.after, Region.binds md e = true → e.on ≠ i) → oi.apart ops ok = true := fun k ok hk hki hun hno => by
        refine hfree k ok hk hki ?_ hno
        by_cases hjk : j = k
        · subst hjk; exact hjun
        · rw [getD_set_ne true hjk] at hun; exact hun
      refine wpOp_mono (fun a' w' h3 => ?_) h2
      have h4 : SL S fins (L.setIfInBounds j true) w' := by
        refine SL_unset (i := i) hif ?_
        rw [← Array.setIfInBounds_comm _ _ (Ne.symm hji)]
        exact h3.2.1
      refine ⟨h4, ih (L.setIfInBounds j true) a' w' (clo_set hc hj) hfree' (ready_mono hr (Ne.symm hji)) h3.1 h4 ?_⟩
      rw [Array.setIfInBounds_comm _ _ hji]
      exact h3.2.2
def ancs (md : Region.Mode) (ops : Array Oper) (f : Nat) : Array Bool :=
  (List.range (f + 1)).reverse.foldl (fun m j => if m.getD j false then (match ops[j]? with
    | some o => o.after.toList.foldl (fun m e => if Region.binds md e then m.setIfInBounds e.on true else m) m
    | none => m) else m) ((Array.replicate ops.size false).setIfInBounds f true)
theorem set_true_only {m : Array Bool} {i k : Nat} (h : (m.setIfInBounds i true).getD k false = true) : k = i ∨ m.getD k false = true := by
  by_cases e : i = k
  · exact .inl e.symm
  · rw [getD_set_ne false e] at h; exact .inr h
theorem ancs_spec {f : Nat} {L : Array Bool} (hc : clo md ops L) (hf : L.getD f false = true) : ∀ k, (ancs md ops f).getD k false = true → L.getD k false = true := by
  have inner : ∀ (l : List Edge) (m : Array Bool), (∀ e ∈ l, Region.binds md e = true → L.getD e.on false = true) → (∀ k, m.getD k false = true → L.getD k false = true) →
      ∀ k, (l.foldl (fun m e => if Region.binds md e then m.setIfInBounds e.on true else m) m).getD k false = true → L.getD k false = true := by
    intro l
    induction l with
    | nil => intro m _ hm k hk; exact hm k hk
    | cons e l ih =>
      intro m he hm k hk
      simp only [List.foldl_cons] at hk
      refine ih _ (fun e' he' hb => he e' (by simp [he']) hb) ?_ k hk
      intro k' hk'
      split at hk'
      · rename_i hb
        rcases set_true_only hk' with rfl | h
        · exact he e (by simp) hb
        · exact hm k' h
      · exact hm k' hk'
  have outer : ∀ (l : List Nat) (m : Array Bool), (∀ k, m.getD k false = true → L.getD k false = true) →
      ∀ k, (l.foldl (fun m j => if m.getD j false then (match ops[j]? with
        | some o => o.after.toList.foldl (fun m e => if Region.binds md e then m.setIfInBounds e.on true else m) m
        | none => m) else m) m).getD k false = true → L.getD k false = true := by
    intro l
    induction l with
    | nil => intro m hm k hk; exact hm k hk
    | cons j l ih =>
      intro m hm k hk
      simp only [List.foldl_cons] at hk
      refine ih _ ?_ k hk
      intro k' hk'
      split at hk'
      · rename_i hj
        split at hk'
        · rename_i o ho
          exact inner _ m (fun e he hb => hc j o ho (hm j hj) e (by simpa using he) hb) hm k' hk'
        · exact hm k' hk'
      · exact hm k' hk'
  intro k hk
  refine outer _ _ ?_ k hk
  intro k' hk'
  rcases set_true_only hk' with rfl | h
  · exact hf
  · rw [Array.getD_eq_getD_getElem?] at h
    rcases Nat.lt_or_ge k' ops.size with h' | h'
    · simp [h'] at h
    · simp [h'] at h
def ordOk (md : Region.Mode) (ops : Array Oper) (fins : List Nat) : List (Nat × Bool) → Array Bool → Bool
  | [], L => (Region.ready md ops L).isEmpty
  | (i, true) :: r, L => Region.free md ops L i && (Region.ready md ops L).contains i && !fins.contains i && fins.all (fun f => (ancs md ops f).getD i false) && ordOk md ops fins r (L.setIfInBounds i true)
  | (i, false) :: r, L => (Region.ready md ops L == [i]) && ordOk md ops fins r (L.setIfInBounds i true)
def wpO (P : Program) (ops : Array Oper) (Q : Exit → Act → World → Prop) (S : World → Prop) (fins : List Nat) : Bool → List (Nat × Bool) → Act → World → Prop
  | _, [], a, w => Q .normal a w
  | d, (i, true) :: r, a, w => ∃ o, ops[i]? = some o ∧ ∃ v, YieldsQ P ops S o v a ∧ wpO P ops Q S fins d r (a.put o.dst v) w
  | d, (i, false) :: r, a, w => wpOp P ops Q i (fun a' w' => ((d || fins.contains i) = false → S w') ∧ wpO P ops Q S fins (d || fins.contains i) r a' w') a w
theorem wpAnyL_of_O {fins : List Nat} (hsel : Region.noSelect ops = true) (hQ : ∀ c a a' w, Q (.panic c) a w → Q (.panic c) a' w) : ∀ (ord : List (Nat × Bool)) (d : Bool) (L : Array Bool) (a : Act) (w : World),
    clo md ops L → ordOk md ops fins ord L = true → (d = true → ∃ f ∈ fins, L.getD f false = true) → SL S fins L w → wpO P ops Q S fins d ord a w → wpAnyL P md ops Q S fins ord.length L a w
  | [], d, L, a, w, _, ho, _, _, h => ⟨by simpa [ordOk] using ho, h⟩
  | (i, true) :: r, d, L, a, w, hc, ho, hd, hS, h => by
    obtain ⟨o, hi, v, hy, hn⟩ := h
    simp only [ordOk, Bool.and_eq_true] at ho
    obtain ⟨⟨⟨⟨h1, h2⟩, h3⟩, h4⟩, h5⟩ := ho
    have hr : i ∈ Region.ready md ops L := by simpa using h2
    have hif : i ∉ fins := by simpa using h3
    refine wpAnyL_first hi (Region.noSelect_spec hsel) (fun c a w hq => hQ c _ _ _ hq) hif ?_ r.length L a w hc (Region.free_spec hi h1) hr hy hS ?_
    · intro f hf L' hc' hl'
      exact ancs_spec hc' hl' i (List.all_eq_true.1 h4 f hf)
    · exact wpAnyL_of_O hsel hQ r d _ _ w (clo_set hc hr) h5 (fun hdt => by obtain ⟨f, hf, hl⟩ := hd hdt; exact ⟨f, hf, getD_set_true hl⟩) (SL_set _ hS) hn
  | (i, false) :: r, d, L, a, w, hc, ho, hd, hS, h => by
    simp only [ordOk, Bool.and_eq_true, beq_iff_eq] at ho
    obtain ⟨h1, h2⟩ := ho
    have hr : i ∈ Region.ready md ops L := by rw [h1]; simp
    refine ⟨fun h0 => (by rw [h0] at h1; cases h1), fun j hj => ?_⟩
    rw [h1] at hj
    have hji : j = i := by simpa using hj
    subst hji
    refine wpOp_mono (fun a' w' ⟨k1, k2⟩ => ?_) h
    have hin : (L.setIfInBounds j true).getD j false = true := by
      obtain ⟨h0, _⟩ := mem_ready.1 hr
      rcases Nat.lt_or_ge j L.size with h' | h'
      · simp [h']
      · simp [Array.getElem?_eq_none h'] at h0
    have hSL : SL S fins (L.setIfInBounds j true) w' := by
      intro hf
      refine k1 ?_
      cases hd' : d with
      | true =>
        obtain ⟨f, hfm, hl⟩ := hd hd'
        have := hf f hfm
        rw [getD_set_true hl] at this; cases this
      | false =>
        cases hcj : fins.contains j with
        | false => rfl
        | true =>
          have := hf j (by simpa using hcj)
          rw [hin] at this; cases this
    refine ⟨hSL, wpAnyL_of_O hsel hQ r _ _ a' w' (clo_set hc hr) h2 ?_ hSL k2⟩
    intro hdt
    cases hd' : d with
    | true => obtain ⟨f, hfm, hl⟩ := hd hd'; exact ⟨f, hfm, getD_set_true hl⟩
    | false => rw [hd'] at hdt; exact ⟨j, by simpa using hdt, hin⟩
theorem wp_region_ord {id : Nat} {a : Act} {w : World} {l : List Oper} (S : World → Prop) (fins : List Nat) (ord : List (Nat × Bool)) (hm : P.follows .mixedOrders = true) (hs : Region.noSelect l.toArray = true)
    (ho : ordOk .any l.toArray fins ord (Array.replicate l.toArray.size false) = true) (hl : ord.length = l.length) (hS : S w.drew) (h : wpO P l.toArray (NoPanic Q) S fins false ord a w.drew) :
    (Code.region id l.toArray true).wp P Q a w := by
  refine wp_region_noPanic (wp_region_any hm ?_)
  have hc : clo .any l.toArray (Array.replicate l.toArray.size false) := by
    intro j oj _ hl
    rw [Array.getD_eq_getD_getElem?] at hl
    rcases Nat.lt_or_ge j l.toArray.size with h' | h'
    · simp at h'; simp [h'] at hl
    · simp at h'; simp [h'] at hl
  have := wpAnyL_of_O (Q := NoPanic Q) (S := S) hs (fun _ _ _ _ h => h) ord false _ a w.drew hc ho (fun h => by cases h) (fun _ => hS) h
  rw [hl] at this
  have h2 := wpAny_of_L _ _ _ _ this
  simpa using h2
theorem wpO_nil {d : Bool} {fins : List Nat} {a : Act} {w : World} (h : Q .normal a w) : wpO P ops (NoPanic Q) S fins d [] a w := h
theorem wpO_skip {d : Bool} {fins : List Nat} {i : Nat} {o : Oper} {r : List (Nat × Bool)} {a : Act} {w : World} (ho : ops[i]? = some o) (hw : Region.wanted o (yielded ops a.tmps) = false)
    (h : wpO P ops Q S fins d r (a.put o.dst undef) w) : wpO P ops Q S fins d ((i, true) :: r) a w := ⟨o, ho, undef, .inr ⟨hw, rfl⟩, h⟩
theorem wpO_call {d : Bool} {fins : List Nat} {i : Nat} {o : Oper} {r : List (Nat × Bool)} {a : Act} {w : World} (ho : ops[i]? = some o) (hw : Region.wanted o (yielded ops a.tmps) = true)
    (h : ∃ v, (∀ X, S X → stillUpon P X v ((execOp a.eval o).run P X)) ∧ wpO P ops Q S fins d r (a.put o.dst v) w) : wpO P ops Q S fins d ((i, true) :: r) a w := by
  obtain ⟨v, h1, h2⟩ := h
  exact ⟨o, ho, v, .inl ⟨hw, h1⟩, h2⟩
theorem stillUpon_value {w : World} {v : Value} : stillUpon P w v (.ok (.value v) w) := ⟨rfl, rfl⟩
theorem wpO_still {d : Bool} {fins : List Nat} {i : Nat} {o : Oper} {r : List (Nat × Bool)} {a : Act} {w : World} {v : Value} (ho : ops[i]? = some o) (hw : Region.wanted o (yielded ops a.tmps) = true)
    (hy : ∀ X, S X → (execOp a.eval o).run P X = .ok (.value v) X) (h : wpO P ops Q S fins d r (a.put o.dst v) w) : wpO P ops Q S fins d ((i, true) :: r) a w := ⟨o, ho, v, .inl ⟨hw, fun X hX => by rw [hy X hX]; exact ⟨rfl, rfl⟩⟩, h⟩
theorem wpO_skipE {d : Bool} {fins : List Nat} {i : Nat} {o : Oper} {r : List (Nat × Bool)} {a : Act} {w : World} (ho : ops[i]? = some o) (hw : Region.wanted o (yielded ops a.tmps) = false) (hS : S w)
    (h : wpO P ops Q S fins (d || fins.contains i) r (a.put o.dst undef) w) : wpO P ops Q S fins d ((i, false) :: r) a w := by
  show wpOp P ops Q i _ a w
  unfold wpOp
  simp only [ho, hw]
  exact ⟨fun _ => hS, h⟩
theorem wpO_eff {d : Bool} {fins : List Nat} {i : Nat} {o : Oper} {r : List (Nat × Bool)} {a : Act} {w : World} (ho : ops[i]? = some o) (hw : Region.wanted o (yielded ops a.tmps) = true)
    (h : ∀ K : Act → World → Prop, (∀ a' w', ((d || fins.contains i) = false → S w') → wpO P ops Q S fins (d || fins.contains i) r a' w' → K a' w') → o.wp P a w K Q) : wpO P ops Q S fins d ((i, false) :: r) a w := by
  show wpOp P ops Q i _ a w
  unfold wpOp
  simp only [ho, hw, if_true]
  exact .inl (h _ fun a' w' h1 h2 => ⟨h1, h2⟩)
theorem oS {d : Bool} {fins : List Nat} {i : Nat} {o : Oper} {r : List (Nat × Bool)} {a a' : Act} {w : World} (h : wpO P ops Q S fins d r a' w) (ho : ops[i]? = some o := by rfl) (hw : Region.wanted o (yielded ops a.tmps) = false := by rfl)
    (ha : a.put o.dst undef = a' := by simp only [zA, zC, Act.put]; rfl) : wpO P ops Q S fins d ((i, true) :: r) a w := wpO_skip ho hw (ha ▸ h)
theorem oX {d : Bool} {fins : List Nat} {i : Nat} {o : Oper} {r : List (Nat × Bool)} {a a' : Act} {w : World} {v : Value} {F : World → Prop} (hF : ∀ X, S X → F X) (h : wpO P ops Q S fins d r a' w) (ho : ops[i]? = some o := by rfl) (hw : Region.wanted o (yielded ops a.tmps) = true := by rfl)
    (hv : ∀ X, F X → stillUpon P X v ((execOp a.eval o).run P X) := by simp only [zA]; intro X hX; (repeat (have := And.left hX; replace hX := And.right hX)); go_simp; exact stillUpon_value) (ha : a.put o.dst v = a' := by simp only [zA, zC, Act.put]; rfl) : wpO P ops Q S fins d ((i, true) :: r) a w :=
  wpO_call ho hw ⟨v, fun X hX => hv X (hF X hX), ha ▸ h⟩
theorem oC {d : Bool} {fins : List Nat} {i : Nat} {o : Oper} {r : List (Nat × Bool)} {a a' : Act} {w : World} {v : Value} (h : wpO P ops Q S fins d r a' w) (ho : ops[i]? = some o := by rfl) (hw : Region.wanted o (yielded ops a.tmps) = true := by rfl)
    (hv : ∀ X, S X → stillUpon P X v ((execOp a.eval o).run P X) := by simp only [zA]; intro X hX; (repeat (have := And.left hX; replace hX := And.right hX)); go_simp; exact stillUpon_value) (ha : a.put o.dst v = a' := by simp only [zA, zC, Act.put]; rfl) : wpO P ops Q S fins d ((i, true) :: r) a w :=
  wpO_call ho hw ⟨v, hv, ha ▸ h⟩
end
end Go.Proofs.YtiafkakkbbclhaaGreat
namespace Go.Proofs.YtiafkakkbbclhaaGreat
open Go
inductive OT where
  | nil
  | rd (i : Nat) (r : OT)
  | eff (i : Nat) (r : OT)
  | alt (i : Nat) (r : OT) (j : Nat) (s : OT)
def OT.len : OT → Nat
  | .nil => 0
  | .rd _ r => r.len + 1
  | .eff _ r => r.len + 1
  | .alt _ r _ _ => r.len + 1
def ordOkT (md : Region.Mode) (ops : Array Oper) : OT → Array Bool → Bool
  | .nil, L => (Region.ready md ops L).isEmpty
  | .rd i r, L => Region.free md ops L i && (Region.ready md ops L).contains i && ordOkT md ops r (L.setIfInBounds i true)
  | .eff i r, L => (Region.ready md ops L == [i]) && ordOkT md ops r (L.setIfInBounds i true)
  | .alt i r j s, L => (Region.ready md ops L == [i, j]) && (s.len == r.len) && ordOkT md ops r (L.setIfInBounds i true) && ordOkT md ops s (L.setIfInBounds j true)
section
variable {P : Program} {ops : Array Oper} {Q : Exit → Act → World → Prop} {md : Region.Mode} {S : World → Prop}
def wpT (P : Program) (ops : Array Oper) (Q : Exit → Act → World → Prop) (S : World → Prop) : OT → Act → World → Prop
  | .nil, a, w => Q .normal a w
  | .rd i r, a, w => ∃ o, ops[i]? = some o ∧ ∃ v, YieldsQ P ops S o v a ∧ wpT P ops Q S r (a.put o.dst v) w
  | .eff i r, a, w => wpOp P ops Q i (fun a' w' => S w' ∧ wpT P ops Q S r a' w') a w
  | .alt i r j s, a, w => wpOp P ops Q i (fun a' w' => S w' ∧ wpT P ops Q S r a' w') a w ∧ wpOp P ops Q j (fun a' w' => S w' ∧ wpT P ops Q S s a' w') a w
theorem wpAnyL_of_T (hsel : Region.noSelect ops = true) (hQ : ∀ c a a' w, Q (.panic c) a w → Q (.panic c) a' w) : ∀ (t : OT) (L : Array Bool) (a : Act) (w : World),
    clo md ops L → ordOkT md ops t L = true → S w → wpT P ops Q S t a w → wpAnyL P md ops Q S [] t.len L a w
  | .nil, L, a, w, _, ho, _, h => ⟨by simpa [ordOkT] using ho, h⟩
  | .rd i r, L, a, w, hc, ho, hS, h => by
    obtain ⟨o, hi, v, hy, hn⟩ := h
    simp only [ordOkT, Bool.and_eq_true] at ho
    obtain ⟨⟨h1, h2⟩, h5⟩ := ho
    have hr : i ∈ Region.ready md ops L := by simpa using h2
    refine wpAnyL_first hi (Region.noSelect_spec hsel) (fun c a w hq => hQ c _ _ _ hq) (by simp) (fun f hf => by cases hf) r.len L a w hc (Region.free_spec hi h1) hr hy (fun _ => hS) ?_
    exact wpAnyL_of_T hsel hQ r _ _ w (clo_set hc hr) h5 hS hn
  | .eff i r, L, a, w, hc, ho, hS, h => by
    simp only [ordOkT, Bool.and_eq_true, beq_iff_eq] at ho
    obtain ⟨h1, h2⟩ := ho
    have hr : i ∈ Region.ready md ops L := by rw [h1]; simp
    refine ⟨fun h0 => (by rw [h0] at h1; cases h1), fun j hj => ?_⟩
    rw [h1] at hj
    have hji : j = i := by simpa using hj
    subst hji
    exact wpOp_mono (fun a' w' ⟨k1, k2⟩ => ⟨fun _ => k1, wpAnyL_of_T hsel hQ r _ a' w' (clo_set hc hr) h2 k1 k2⟩) h
  | .alt i r j s, L, a, w, hc, ho, hS, h => by
    simp only [ordOkT, Bool.and_eq_true, beq_iff_eq] at ho
    obtain ⟨⟨⟨h1, h2⟩, h3⟩, h4⟩ := ho
    have hr : i ∈ Region.ready md ops L := by rw [h1]; simp
    have hs : j ∈ Region.ready md ops L := by rw [h1]; simp
    refine ⟨fun h0 => (by rw [h0] at h1; cases h1), fun k hk => ?_⟩
    rw [h1] at hk
    have hkk : k = i ∨ k = j := by simpa using hk
    rcases hkk with rfl | rfl
    · exact wpOp_mono (fun a' w' ⟨k1, k2⟩ => ⟨fun _ => k1, wpAnyL_of_T hsel hQ r _ a' w' (clo_set hc hr) h3 k1 k2⟩) h.1
    · have := fun a' w' (hh : S w' ∧ wpT P ops Q S s a' w') => wpAnyL_of_T hsel hQ s _ a' w' (clo_set hc hs) h4 hh.1 hh.2
      rw [h2] at this
      exact wpOp_mono (fun a' w' hh => ⟨fun _ => hh.1, this a' w' hh⟩) h.2
theorem wp_region_ort {id : Nat} {a : Act} {w : World} {l : List Oper} (S : World → Prop) (t : OT) (hm : P.follows .mixedOrders = true) (hs : Region.noSelect l.toArray = true)
    (ho : ordOkT .any l.toArray t (Array.replicate l.toArray.size false) = true) (hl : t.len = l.length) (hS : S w.drew) (h : wpT P l.toArray (NoPanic Q) S t a w.drew) :
    (Code.region id l.toArray true).wp P Q a w := by
  refine wp_region_noPanic (wp_region_any hm ?_)
  have hc : clo .any l.toArray (Array.replicate l.toArray.size false) := by
    intro j oj _ hl
    rw [Array.getD_eq_getD_getElem?] at hl
    rcases Nat.lt_or_ge j l.toArray.size with h' | h'
    · simp at h'; simp [h'] at hl
    · simp at h'; simp [h'] at hl
  have := wpAnyL_of_T (Q := NoPanic Q) (S := S) hs (fun _ _ _ _ h => h) t _ a w.drew hc ho hS h
  rw [hl] at this
  have h2 := wpAny_of_L _ _ _ _ this
  simpa using h2
theorem wpT_nil {a : Act} {w : World} (h : Q .normal a w) : wpT P ops (NoPanic Q) S .nil a w := h
theorem wpT_skip {i : Nat} {o : Oper} {r : OT} {a : Act} {w : World} (ho : ops[i]? = some o) (hw : Region.wanted o (yielded ops a.tmps) = false)
    (h : wpT P ops Q S r (a.put o.dst undef) w) : wpT P ops Q S (.rd i r) a w := ⟨o, ho, undef, .inr ⟨hw, rfl⟩, h⟩
theorem wpT_call {i : Nat} {o : Oper} {r : OT} {a : Act} {w : World} (ho : ops[i]? = some o) (hw : Region.wanted o (yielded ops a.tmps) = true)
    (h : ∃ v, (∀ X, S X → stillUpon P X v ((execOp a.eval o).run P X)) ∧ wpT P ops Q S r (a.put o.dst v) w) : wpT P ops Q S (.rd i r) a w := by
  obtain ⟨v, h1, h2⟩ := h
  exact ⟨o, ho, v, .inl ⟨hw, h1⟩, h2⟩
theorem wpT_eff {i : Nat} {o : Oper} {r : OT} {a : Act} {w : World} (ho : ops[i]? = some o) (hw : Region.wanted o (yielded ops a.tmps) = true)
    (h : ∀ K : Act → World → Prop, (∀ a' w', S w' → wpT P ops Q S r a' w' → K a' w') → o.wp P a w K Q) : wpT P ops Q S (.eff i r) a w := by
  show wpOp P ops Q i _ a w
  unfold wpOp
  simp only [ho, hw, if_true]
  exact .inl (h _ fun a' w' h1 h2 => ⟨h1, h2⟩)
theorem wpT_alt {i j : Nat} {r s : OT} {a : Act} {w : World} (h1 : wpT P ops Q S (.eff i r) a w) (h2 : wpT P ops Q S (.eff j s) a w) : wpT P ops Q S (.alt i r j s) a w := ⟨h1, h2⟩
theorem tS {i : Nat} {o : Oper} {r : OT} {a a' : Act} {w : World} (h : wpT P ops Q S r a' w) (ho : ops[i]? = some o := by rfl) (hw : Region.wanted o (yielded ops a.tmps) = false := by rfl)
    (ha : a.put o.dst undef = a' := by simp only [zA, zC, Act.put]; rfl) : wpT P ops Q S (.rd i r) a w := wpT_skip ho hw (ha ▸ h)
theorem tX {i : Nat} {o : Oper} {r : OT} {a a' : Act} {w : World} {v : Value} {F : World → Prop} (hF : ∀ X, S X → F X) (h : wpT P ops Q S r a' w) (ho : ops[i]? = some o := by rfl) (hw : Region.wanted o (yielded ops a.tmps) = true := by rfl)
    (hv : ∀ X, F X → stillUpon P X v ((execOp a.eval o).run P X) := by simp only [zA]; intro X hX; (repeat (have := And.left hX; replace hX := And.right hX)); go_simp; exact stillUpon_value) (ha : a.put o.dst v = a' := by simp only [zA, zC, Act.put]; rfl) : wpT P ops Q S (.rd i r) a w :=
  wpT_call ho hw ⟨v, fun X hX => hv X (hF X hX), ha ▸ h⟩
end
end Go.Proofs.YtiafkakkbbclhaaGreat
namespace Go.Proofs.YtiafkakkbbclhaaGreat
open Go
end Go.Proofs.YtiafkakkbbclhaaGreat
namespace Go.Proofs.YtiafkakkbbclhaaGreat
open Go
end Go.Proofs.YtiafkakkbbclhaaGreat
namespace Go.Proofs.YtiafkakkbbclhaaGreat
section
variable {P : Program} {t : TypeId} {w : World}
theorem isAgg_int {k : IntKind} (h : P.underlying t = some (.int k)) : (isAgg t).run P w = .ok false w := by simp [isAgg, run_underlying h]
theorem run_part1 {cs : Array Value} {off : Nat} {v : Value} (h : (isAgg t).run P w = .ok false w) (hv : cs[off]? = some v) : (part t cs off).run P w = .ok v w := by
  simp [part, h, hv]
theorem eqf_nil {d : Nat} {xs ys : Array Value} : (Op.eqFields d xs ys []).run P w = .ok true w := rfl
theorem eqf_cons {d : Nat} {xs ys : Array Value} {f : Field} {fs : List Field} {a b : Value} {r s : Bool} (hn : f.name ≠ "_") (ha : (part f.type xs f.offset).run P w = .ok a w) (hb : (part f.type ys f.offset).run P w = .ok b w)
    (he : (Op.equalIn d f.type a b).run P w = .ok r w) (h : (Op.eqFields d xs ys fs).run P w = .ok s w) : (Op.eqFields d xs ys (f :: fs)).run P w = .ok (r && s) w := by
  rw [Op.eqFields, if_pos hn]
  simp only [Sem.run_bind, ha, hb, he, Result.andThen_ok]
  cases r <;> simp [h]
theorem eq_st {d : Nat} {xs ys : Array Value} {r : Bool} (ht : P.underlying t = some (.struct (P.fieldsOf t))) (hp : P.stoodInHeld t = false) (h : (Op.eqFields d xs ys (P.fieldsOf t).toList).run P w = .ok r w) :
    (Op.equalIn (d + 1) t (.agg xs) (.agg ys)).run P w = .ok r w := by rw [run_equalIn_struct w d t xs ys ht hp, h]
end
end Go.Proofs.YtiafkakkbbclhaaGreat
namespace Go.Proofs.YtiafkakkbbclhaaGreat
end Go.Proofs.YtiafkakkbbclhaaGreat
namespace Go.Proofs.YtiafkakkbbclhaaGreat
open Go.RowKit
structure Ty (α : Type) where
  size : Nat
  rd : World → (Nat → Prop) → List Value → α → Prop
  le : Nat → α → Prop
  bytes : Nat
  lw : Nat → α → Prop
def Ty.int (k : IntKind) : Ty Int := ⟨1, fun _ _ cs n => cs = [.int k n] ∧ (Lit.int k n).wf = true, fun _ _ => True, k.bits / 8, fun _ _ => True⟩
def Ty.bool : Ty Bool := ⟨1, fun _ _ cs b => cs = [.bool b], fun _ _ => True, 1, fun _ _ => True⟩
def Ty.str : Ty ByteArray := ⟨1, fun _ _ cs s => cs = [.string s] ∧ s.size ≤ maxLen, fun m s => s.size ≤ m, 16, fun m s => s.size ≤ m⟩
def Ty.unit : Ty Unit := ⟨0, fun _ _ cs _ => cs = [], fun _ _ => True, 0, fun _ _ => True⟩
def Ty.pair {α β : Type} (s : Ty α) (t : Ty β) : Ty (α × β) :=
  ⟨s.size + t.size, fun w S cs x => ∃ c1 c2, cs = c1 ++ c2 ∧ s.rd w S c1 x.1 ∧ t.rd w S c2 x.2, fun m x => s.le m x.1 ∧ t.le m x.2, s.bytes + t.bytes, fun m x => s.lw m x.1 ∧ t.lw m x.2⟩
def Ty.iso {α β : Type} (t : Ty β) (g : α → β) : Ty α := ⟨t.size, fun w S cs x => t.rd w S cs (g x), fun m x => t.le m (g x), t.bytes, fun m x => t.lw m (g x)⟩
def Ty.els {α : Type} (t : Ty α) (w : World) (S : Nat → Prop) (A : Option Addr) (xs : List α) : Prop :=
  xs = [] ∨ ∃ b o, A = some ⟨b, o, none⟩ ∧ S b ∧ ∀ (i : Nat) (x : α), xs[i]? = some x →
    ∃ ds, (∀ (j : Nat) (u : Value), ds[j]? = some u → w.cell? ⟨b, o + (i * t.size + j), none⟩ = some u) ∧ t.rd w S ds x
def Ty.slice {α : Type} (t : Ty α) : Ty (List α) :=
  ⟨1, fun w S cs xs => ∃ A c, cs = [.slice A xs.length c] ∧ xs.length ≤ c ∧ c ≤ maxLen ∧ t.els w S A xs, fun m xs => xs.length ≤ m ∧ ∀ x ∈ xs, t.le m x, 24, fun m xs => xs.length ≤ m ∧ xs.length * t.bytes ≤ m ∧ ∀ x ∈ xs, t.lw m x⟩
class TyOk {α : Type} (t : Ty α) : Prop where
  len : ∀ w S cs x, t.rd w S cs x → cs.length = t.size
  keep : ∀ w w' S cs x, t.rd w S cs x → (∀ p : Addr, S p.block → w'.cell? p = w.cell? p) → t.rd w' S cs x
instance (k : IntKind) : TyOk (Ty.int k) := ⟨fun _ _ _ _ h => by rw [h.1]; rfl, fun _ _ _ _ _ h _ => h⟩
instance : TyOk Ty.bool := ⟨fun _ _ _ _ h => by rw [show _ = _ from h]; rfl, fun _ _ _ _ _ h _ => h⟩
instance : TyOk Ty.str := ⟨fun _ _ _ _ h => by rw [h.1]; rfl, fun _ _ _ _ _ h _ => h⟩
instance {α β : Type} (s : Ty α) (t : Ty β) [hs : TyOk s] [ht : TyOk t] : TyOk (s.pair t) :=
  ⟨fun w S cs x ⟨c1, c2, e, h1, h2⟩ => by rw [e, List.length_append, hs.len _ _ _ _ h1, ht.len _ _ _ _ h2]; rfl,
   fun w w' S cs x ⟨c1, c2, e, h1, h2⟩ hk => ⟨c1, c2, e, hs.keep _ _ _ _ _ h1 hk, ht.keep _ _ _ _ _ h2 hk⟩⟩
instance {α β : Type} (t : Ty β) (g : α → β) [ht : TyOk t] : TyOk (t.iso g) :=
  ⟨fun w S cs x h => ht.len w S cs (g x) h, fun w w' S cs x h hk => ht.keep w w' S cs (g x) h hk⟩
theorem Ty.els.keep {α : Type} {t : Ty α} [ht : TyOk t] {w w' : World} {S : Nat → Prop} {A : Option Addr} {xs : List α} (h : t.els w S A xs) (hk : ∀ p : Addr, S p.block → w'.cell? p = w.cell? p) : t.els w' S A xs := by
  rcases h with h | ⟨b, o, e, hb, h⟩
  · exact .inl h
  · refine .inr ⟨b, o, e, hb, fun i x hx => ?_⟩
    obtain ⟨ds, h1, h2⟩ := h i x hx
    exact ⟨ds, fun j u hu => (hk _ hb).trans (h1 j u hu), ht.keep _ _ _ _ _ h2 hk⟩
instance {α : Type} (t : Ty α) [ht : TyOk t] : TyOk t.slice :=
  ⟨fun w S cs xs ⟨A, c, e, _⟩ => by rw [e]; rfl, fun w w' S cs xs ⟨A, c, e, h1, h2, h3⟩ hk => ⟨A, c, e, h1, h2, h3.keep hk⟩⟩
theorem Ty.els.fr {α : Type} {t : Ty α} [TyOk t] {w w' : World} {S : Nat → Prop} {A : Option Addr} {xs : List α} {M : Nat → Prop} (h : t.els w S A xs) (f : Fr M w w') (hM : ∀ k, S k → k < w.heap.size ∧ ¬ M k) : t.els w' S A xs :=
  h.keep fun _ hp => f.cell (hM _ hp).1 (hM _ hp).2
theorem Ty.els.at_ {α : Type} {t : Ty α} {w : World} {S : Nat → Prop} {A : Option Addr} {xs : List α} (h : t.els w S A xs) (i : Nat) (hi : i < xs.length) :
    ∃ b o ds, A = some ⟨b, o, none⟩ ∧ S b ∧ (∀ (j : Nat) (u : Value), ds[j]? = some u → w.cell? ⟨b, o + (i * t.size + j), none⟩ = some u) ∧ t.rd w S ds xs[i] := by
  rcases h with h | ⟨b, o, e, hb, h⟩
  · subst h; simp at hi
  · obtain ⟨ds, h1, h2⟩ := h i _ (List.getElem?_eq_getElem hi)
    exact ⟨b, o, ds, e, hb, h1, h2⟩
def Opens {α : Type} (P : Program) (t : TypeId) (ty : Ty α) : Prop :=
  ∀ (H : Type) (enc : TypeId × Value → H) (w : World) (fuel : Nat) (cs : List Value) (x : DataW H × List MemPlace), DataW.trod enc P w 0 (fun _ => true) true fuel t cs = some x →
    ∃ y, ty.rd w (· < w.heap.size) cs y ∧ (∀ m, Rows.uptoBulk x.1 ≤ m → ty.le m y) ∧ ∀ m, (∀ n ∈ x.1.weights P t, n ≤ m) → ty.lw m y
theorem opens_int {P : Program} {t : TypeId} {k : IntKind} (hu : P.underlying t = some (.int k)) : Opens P t (Ty.int k) := by
  intro H enc w fuel cs x h
  obtain ⟨n, h1, _, h3⟩ := DataW.trod_int hu h
  exact ⟨n, ⟨h1, h3⟩, fun _ _ => trivial, fun _ _ => trivial⟩
theorem opens_bool {P : Program} {t : TypeId} (hu : P.underlying t = some .bool) : Opens P t Ty.bool := by
  intro H enc w fuel cs x h
  obtain ⟨b, h1, _⟩ := DataW.trod_bool hu h
  exact ⟨b, h1, fun _ _ => trivial, fun _ _ => trivial⟩
theorem opens_str {P : Program} {t : TypeId} (hu : P.underlying t = some .string) : Opens P t Ty.str := by
  intro H enc w fuel cs x h
  obtain ⟨s, h1, h2, h3⟩ := DataW.trod_string hu h
  refine ⟨s, ⟨h1, h3⟩, fun m hm => ?_, fun m hm => ?_⟩
  · subst h2
    simp only [Rows.uptoBulk, Array.length_toList] at hm
    show s.size ≤ m
    have : s.data.size = s.size := rfl
    omega
  · subst h2
    have := hm s.data.toList.length (by simp [DataW.weights])
    show s.size ≤ m
    have : s.data.size = s.size := rfl
    simp at *
    omega
theorem opens_iso {α β : Type} {P : Program} {t : TypeId} {ty : Ty β} (g : α → β) (f : β → α) (hgf : ∀ y, g (f y) = y) (h : Opens P t ty) : Opens P t (ty.iso g) := by
  intro H enc w fuel cs x hx
  obtain ⟨y, h1, h2, h3⟩ := h H enc w fuel cs x hx
  exact ⟨f y, by show ty.rd _ _ _ (g (f y)); rw [hgf]; exact h1, fun m hm => by show ty.le m (g (f y)); rw [hgf]; exact h2 m hm, fun m hm => by show ty.lw m (g (f y)); rw [hgf]; exact h3 m hm⟩
theorem bulk_mem {H : Type} {d : DataW H} : ∀ {l : List (DataW H)}, d ∈ l → Rows.uptoBulk d ≤ Rows.uptoBulkAll l
  | [], h => by cases h
  | e :: l, h => by
    simp only [Rows.uptoBulkAll]
    cases h with
    | head => omega
    | tail _ h => have := bulk_mem h; omega
theorem bulk_pos {H : Type} (d : DataW H) : 1 ≤ Rows.uptoBulk d := by
  cases d with
  | lit l => cases l <;> simp [Rows.uptoBulk]
  | _ => simp [Rows.uptoBulk]
theorem bulk_len {H : Type} : ∀ (l : List (DataW H)), l.length ≤ Rows.uptoBulkAll l
  | [] => by simp
  | e :: l => by simp only [Rows.uptoBulkAll, List.length_cons]; have := bulk_len l; have := bulk_pos e; omega
theorem weights_all {H : Type} {P : Program} {e : TypeId} {d : DataW H} {n : Nat} (hn : n ∈ d.weights P e) : ∀ {l : List (DataW H)}, d ∈ l → n ∈ DataW.weightsAll P e l
  | [], h => by cases h
  | c :: l, h => by
    simp only [DataW.weightsAll, List.mem_append]
    cases h with
    | head => exact .inl hn
    | tail _ h => exact .inr (weights_all hn h)
theorem exists_list {α β : Type} (R : β → α → Prop) : ∀ (l : List β), (∀ b ∈ l, ∃ a, R b a) → ∃ ys : List α, ys.length = l.length ∧ ∀ (i : Nat) (b : β) (a : α), l[i]? = some b → ys[i]? = some a → R b a
  | [], _ => ⟨[], rfl, by simp⟩
  | b :: l, h => by
    obtain ⟨a, ha⟩ := h b (by simp)
    obtain ⟨ys, h1, h2⟩ := exists_list R l (fun b hb => h b (by simp [hb]))
    refine ⟨a :: ys, by simp [h1], fun i b' a' e1 e2 => ?_⟩
    cases i with
    | zero => simp at e1 e2; subst e1; subst e2; exact ha
    | succ i => simp at e1 e2; exact h2 i b' a' e1 e2
theorem opens_slice {α : Type} {P : Program} {t e : TypeId} {ty : Ty α} (hu : P.underlying t = some (.slice e)) (hsz : P.cellsOf e = ty.size) (hpos : 0 < ty.size) (ho : Opens P e ty) (hby : decide (0 < P.bytesOf e) = true := by kernel_rfl) (hbw : decide (ty.bytes ≤ P.bytesOf e) = true := by kernel_rfl) : Opens P t ty.slice := by
  have hby' : 0 < P.bytesOf e := of_decide_eq_true hby
  intro H enc w fuel cs x h
  rcases DataW.trod_slice hu h with ⟨h1, h2⟩ | ⟨a, len, cap, elems, rest, n, _, hcs, hx, _, hlc, hcm, hel, hcells, _, _⟩
  · exact ⟨[], ⟨none, 0, h1, by simp, by simp [maxLen], .inl rfl⟩, fun m _ => ⟨by simp, by simp⟩, fun m _ => ⟨by simp, by simp, by simp⟩⟩
  · rw [hsz] at hcells
    have hget : ∀ i, i < len → ∃ (y : α) (ds : List Value) (el : DataW H × List MemPlace), elems[i]? = some el ∧ w.cells? 0 (a.add (i * ty.size)) ty.size = some ds ∧ ty.rd w (· < w.heap.size) ds y ∧ (∀ m, Rows.uptoBulk el.1 ≤ m → ty.le m y) ∧ ∀ m, (∀ n ∈ el.1.weights P e, n ≤ m) → ty.lw m y := by
      intro i hi
      have hc := hcells i hi
      have hsome : elems[i]? = some (elems[i]'(by omega)) := List.getElem?_eq_getElem (by omega)
      rw [hsome, Option.bind_eq_some_iff] at hc
      obtain ⟨ds, h1, h2⟩ := hc
      obtain ⟨y, h3, h4, h5⟩ := ho H enc w n ds _ h2
      exact ⟨y, ds, _, hsome, h1, h3, h4, h5⟩
    obtain ⟨ys, hyl, hys⟩ := exists_list (fun (i : Nat) (y : α) => ∃ (ds : List Value) (el : DataW H × List MemPlace), elems[i]? = some el ∧ w.cells? 0 (a.add (i * ty.size)) ty.size = some ds ∧ ty.rd w (· < w.heap.size) ds y ∧ (∀ m, Rows.uptoBulk el.1 ≤ m → ty.le m y) ∧ ∀ m, (∀ n ∈ el.1.weights P e, n ≤ m) → ty.lw m y) (List.range len)
      (fun i hi => hget i (by simpa using hi))
    simp only [List.length_range] at hyl
    refine ⟨ys, ⟨some a, cap, by rw [hcs, hyl], by omega, hcm, ?_⟩, fun m hm => ?_, fun m hm => ?_⟩
    · by_cases h0 : len = 0
      · left; exact List.eq_nil_of_length_eq_zero (by omega)
      · right
        obtain ⟨y0, ds0, el0, _, hd0, _, _, _⟩ := hget 0 (by omega)
        obtain ⟨_, hl0, hc0⟩ := World.cells?_some hd0
        have hz := hc0 0 (by omega)
        rw [List.getElem?_eq_getElem (by omega)] at hz
        simp only [Nat.zero_mul] at hz
        have hz' : w.cell? a = some ds0[0] := by simpa [Addr.add] using hz
        obtain ⟨b, o, sp⟩ := a
        have hsp : sp = none := World.cell?_spot hz'
        subst hsp
        refine ⟨b, o, rfl, World.block_lt_of_cell? w _ hz', fun i y hy => ?_⟩
        have hi : i < len := by have := (List.getElem?_eq_some_iff.1 hy).1; omega
        obtain ⟨ds, el, _, hd, hr, _, _⟩ := hys i i y (by simp [hi]) hy
        obtain ⟨_, hl, hc⟩ := World.cells?_some hd
        refine ⟨ds, fun j u hu => ?_, hr⟩
        have hj : j < ty.size := by have := (List.getElem?_eq_some_iff.1 hu).1; omega
        have := hc j hj
        rw [hu, add_lit'', add_lit''] at this
        rw [← this, Nat.add_assoc]
    · subst hx
      simp only [Rows.uptoBulk] at hm
      refine ⟨by have := bulk_len (elems.map (·.1)); simp at this; omega, fun y hy => ?_⟩
      obtain ⟨i, hi, rfl⟩ := List.getElem_of_mem hy
      obtain ⟨ds, el, he, _, _, hle, _⟩ := hys i i _ (List.getElem?_range (by omega)) (List.getElem?_eq_getElem hi)
      refine hle m ?_
      have hmem : el ∈ elems := List.mem_of_getElem? he
      have := bulk_mem (List.mem_map_of_mem (f := (·.1)) hmem)
      omega
    · subst hx
      simp only [DataW.weights, hu] at hm
      have hl := hm _ (List.mem_cons_self ..)
      simp only [List.length_map] at hl
      refine ⟨?_, ?_, fun y hy => ?_⟩
      · have := Nat.le_mul_of_pos_right (elems.length + rest.length) hby'
        omega
      · exact Nat.le_trans (Nat.mul_le_mul (by omega) (of_decide_eq_true hbw)) hl
      · obtain ⟨i, hi, rfl⟩ := List.getElem_of_mem hy
        obtain ⟨ds, el, he, _, _, _, hle⟩ := hys i i _ (List.getElem?_range (by omega)) (List.getElem?_eq_getElem hi)
        refine hle m fun n hn => hm n (List.mem_cons_of_mem _ (List.mem_append.2 (.inl ?_)))
        exact weights_all hn (List.mem_map_of_mem (f := (·.1)) (List.mem_of_getElem? he))
where add_lit'' (b o j : Nat) : (⟨b, o, none⟩ : Addr).add j = ⟨b, o + j, none⟩ := by unfold Addr.add; split <;> simp_all
inductive Flds (P : Program) : {α : Type} → List Field → Nat → Ty α → Prop
  | nil {off : Nat} : Flds P [] off Ty.unit
  | one {α : Type} {f : Field} {off : Nat} {ty : Ty α} (h1 : f.offset = off) (h2 : P.cellsOf f.type = ty.size) (h3 : Opens P f.type ty) : Flds P [f] off ty
  | cons {α β : Type} {f : Field} {fs : List Field} {off : Nat} {ty : Ty α} {tys : Ty β} (h1 : f.offset = off) (h2 : P.cellsOf f.type = ty.size) (h3 : Opens P f.type ty) (h4 : Flds P fs (off + ty.size) tys) :
      Flds P (f :: fs) off (ty.pair tys)
theorem flds_open {α : Type} {P : Program} {fs : List Field} {off : Nat} {ty : Ty α} (hf : Flds P fs off ty) : ∀ (H : Type) (enc : TypeId × Value → H) (w : World) (n : Nat) (cs : List Value) (xs : List (DataW H × List MemPlace)),
    cs.length = off + ty.size → xs.length = fs.length →
    (∀ (i : Nat) (f : Field), fs[i]? = some f → DataW.trod enc P w 0 (fun _ => true) true n f.type ((cs.drop f.offset).take (P.cellsOf f.type)) = xs[i]?) →
    ∃ y, ty.rd w (· < w.heap.size) (cs.drop off) y ∧ (∀ m, Rows.uptoBulkAll (xs.map (·.1)) ≤ m → ty.le m y) ∧ ∀ m, (∀ n ∈ DataW.weightsEach P (fs.map (·.type)) (xs.map (·.1)), n ≤ m) → ty.lw m y := by
  induction hf with
  | nil =>
    intro H enc w n cs xs hl _ _
    refine ⟨(), ?_, fun _ _ => trivial, fun _ _ => trivial⟩
    show List.drop _ cs = []
    rw [List.drop_eq_nil_iff]
    simp [Ty.unit] at hl
    omega
  | one h1 h2 h3 =>
    rename_i f off ty
    intro H enc w n cs xs hl hx h
    obtain ⟨x, rfl⟩ : ∃ x, xs = [x] := by
      match xs, hx with
      | [x], _ => exact ⟨x, rfl⟩
    have := h 0 f rfl
    rw [h1, h2] at this
    simp only [List.getElem?_cons_zero] at this
    obtain ⟨y, r1, r2, r3⟩ := h3 H enc w n _ _ this
    rw [List.take_of_length_le (by simp; omega)] at r1
    exact ⟨y, r1, fun m hm => r2 m (by simp only [List.map_cons, List.map_nil, Rows.uptoBulkAll] at hm; omega), fun m hm => r3 m fun n hn => hm n (by simp only [List.map_cons, List.map_nil, DataW.weightsEach, List.append_nil]; exact hn)⟩
  | cons h1 h2 h3 h4 ih =>
    rename_i f fs off ty tys
    intro H enc w n cs xs hl hx h
    obtain ⟨x, xs', rfl⟩ : ∃ x xs', xs = x :: xs' := by
      match xs, hx with
      | x :: xs', _ => exact ⟨x, xs', rfl⟩
    have h0 := h 0 f rfl
    rw [h1, h2] at h0
    simp only [List.getElem?_cons_zero] at h0
    obtain ⟨y, r1, r2, r3⟩ := h3 H enc w n _ _ h0
    have hl' : cs.length = off + ty.size + tys.size := by rw [hl]; show off + (ty.size + tys.size) = _; omega
    obtain ⟨z, s1, s2, s3⟩ := ih H enc w n cs xs' hl' (by simpa using hx) (fun i g hg => by
      have := h (i + 1) g (by simpa using hg)
      simpa using this)
    refine ⟨(y, z), ⟨(cs.drop off).take ty.size, cs.drop (off + ty.size), ?_, r1, s1⟩, fun m hm => ?_, fun m hm => ?_⟩
    · rw [← List.drop_drop, List.take_append_drop]
    · simp only [List.map_cons, Rows.uptoBulkAll] at hm
      exact ⟨r2 m (by omega), s2 m (by omega)⟩
    · simp only [List.map_cons, DataW.weightsEach, List.mem_append] at hm
      exact ⟨r3 m fun n hn => hm n (.inl hn), s3 m fun n hn => hm n (.inr hn)⟩
theorem opens_struct {α : Type} {P : Program} {t : TypeId} {fs : List Field} {ty : Ty α} (hu : P.underlying t = some (.struct fs.toArray)) (hsz : P.cellsOf t = ty.size) (hf : Flds P fs 0 ty) : Opens P t ty := by
  intro H enc w fuel cs x h
  obtain ⟨xs, n, _, hx, hl, hxl, hc⟩ := DataW.trod_struct hu h
  obtain ⟨y, h1, h2, h3⟩ := flds_open hf H enc w n cs xs (by omega) (by simpa using hxl) (fun i f hf' => hc i f (by simpa using hf'))
  refine ⟨y, by simpa using h1, fun m hm => h2 m ?_, fun m hm => h3 m fun n hn => hm n ?_⟩
  · subst hx
    simp only [Rows.uptoBulk] at hm
    omega
  · subst hx
    simpa only [DataW.weights, hu] using hn
end Go.Proofs.YtiafkakkbbclhaaGreat
namespace Go.Proofs.YtiafkakkbbclhaaGreat
class TyMore {α : Type} (t : Ty α) : Prop where
  more : ∀ w (S S' : Nat → Prop) cs x, t.rd w S cs x → (∀ k, S k → S' k) → t.rd w S' cs x
instance (k : IntKind) : TyMore (Ty.int k) := ⟨fun _ _ _ _ _ h _ => h⟩
instance : TyMore Ty.bool := ⟨fun _ _ _ _ _ h _ => h⟩
instance : TyMore Ty.str := ⟨fun _ _ _ _ _ h _ => h⟩
instance {α β : Type} (s : Ty α) (t : Ty β) [hs : TyMore s] [ht : TyMore t] : TyMore (s.pair t) :=
  ⟨fun _ _ _ _ _ ⟨c1, c2, e, h1, h2⟩ hB => ⟨c1, c2, e, hs.more _ _ _ _ _ h1 hB, ht.more _ _ _ _ _ h2 hB⟩⟩
instance {α β : Type} (t : Ty β) (g : α → β) [ht : TyMore t] : TyMore (t.iso g) := ⟨fun w S S' cs x h hB => ht.more w S S' cs (g x) h hB⟩
theorem Ty.els.more {α : Type} {t : Ty α} [ht : TyMore t] {w : World} {S S' : Nat → Prop} {A : Option Addr} {xs : List α} (h : t.els w S A xs) (hB : ∀ k, S k → S' k) : t.els w S' A xs := by
  rcases h with h | ⟨b, o, e, hb, h⟩
  · exact .inl h
  · refine .inr ⟨b, o, e, hB _ hb, fun i x hx => ?_⟩
    obtain ⟨ds, h1, h2⟩ := h i x hx
    exact ⟨ds, h1, ht.more _ _ _ _ _ h2 hB⟩
instance {α : Type} (t : Ty α) [ht : TyMore t] : TyMore t.slice := ⟨fun _ _ _ _ _ ⟨A, c, e, h1, h2, h3⟩ hB => ⟨A, c, e, h1, h2, h3.more hB⟩⟩
end Go.Proofs.YtiafkakkbbclhaaGreat
namespace Go.Proofs.YtiafkakkbbclhaaGreat
open Go.RowKit
class TyOne {α : Type} (t : Ty α) : Prop where
  one : ∀ w S cs x, t.rd w S cs x → ∀ u ∈ cs, u.oneCell' = true
instance (k : IntKind) : TyOne (Ty.int k) := ⟨fun _ _ _ _ h u hu => by rw [h.1] at hu; simp at hu; subst hu; rfl⟩
instance : TyOne Ty.bool := ⟨fun _ _ _ _ h u hu => by rw [show _ = _ from h] at hu; simp at hu; subst hu; rfl⟩
instance : TyOne Ty.str := ⟨fun _ _ _ _ h u hu => by rw [h.1] at hu; simp at hu; subst hu; rfl⟩
instance {α β : Type} (s : Ty α) (t : Ty β) [hs : TyOne s] [ht : TyOne t] : TyOne (s.pair t) :=
  ⟨fun _ _ _ _ ⟨c1, c2, e, h1, h2⟩ u hu => by
    rw [e, List.mem_append] at hu
    rcases hu with hu | hu
    · exact hs.one _ _ _ _ h1 u hu
    · exact ht.one _ _ _ _ h2 u hu⟩
instance {α β : Type} (t : Ty β) (g : α → β) [ht : TyOne t] : TyOne (t.iso g) := ⟨fun w S cs x h => ht.one w S cs (g x) h⟩
instance {α : Type} (t : Ty α) : TyOne t.slice := ⟨fun _ _ _ _ ⟨A, c, e, _⟩ u hu => by rw [e] at hu; simp at hu; subst hu; rfl⟩
def Ty.slen : Ty Nat := ⟨1, fun _ _ cs n => ∃ A c, cs = [.slice A n c] ∧ n ≤ c ∧ c ≤ maxLen, fun m n => n ≤ m, 24, fun m n => n ≤ m⟩
instance : TyOk Ty.slen := ⟨fun _ _ _ _ ⟨A, c, e, _⟩ => by rw [e]; rfl, fun _ _ _ _ _ h _ => h⟩
instance : TyMore Ty.slen := ⟨fun _ _ _ _ _ h _ => h⟩
instance : TyOne Ty.slen := ⟨fun _ _ _ _ ⟨A, c, e, _⟩ u hu => by rw [e] at hu; simp at hu; subst hu; rfl⟩
theorem opens_slen {P : Program} {t e : TypeId} (hu : P.underlying t = some (.slice e)) (hby : decide (0 < P.bytesOf e) = true := by kernel_rfl) : Opens P t Ty.slen := by
  have hby' : 0 < P.bytesOf e := of_decide_eq_true hby
  intro H enc w fuel cs x h
  rcases DataW.trod_slice hu h with ⟨h1, h2⟩ | ⟨a, len, cap, elems, rest, n, _, hcs, hx, _, hlc, hcm, hel, _, _, _⟩
  · exact ⟨0, ⟨none, 0, h1, by simp, by simp [maxLen]⟩, fun m _ => Nat.zero_le m, fun m _ => Nat.zero_le m⟩
  · refine ⟨len, ⟨some a, cap, hcs, hlc, hcm⟩, fun m hm => ?_, fun m hm => ?_⟩
    · subst hx
      simp only [Rows.uptoBulk] at hm
      show len ≤ m
      have := bulk_len (elems.map (·.1))
      simp at this
      omega
    · subst hx
      simp only [DataW.weights, hu] at hm
      have hl := hm _ (List.mem_cons_self ..)
      simp only [List.length_map] at hl
      have := Nat.le_mul_of_pos_right (elems.length + rest.length) hby'
      show len ≤ m
      omega
def Css {α : Type} (t : Ty α) (w : World) (S : Nat → Prop) (css : List (List Value)) (xs : List α) : Prop :=
  css.length = xs.length ∧ ∀ (i : Nat) (c : List Value) (x : α), css[i]? = some c → xs[i]? = some x → t.rd w S c x
section
variable {α : Type} {t : Ty α}
theorem Css.nil {w : World} {S : Nat → Prop} : Css t w S [] [] := ⟨rfl, fun i c x h => by simp at h⟩
theorem Css.append {w : World} {S : Nat → Prop} {css dss : List (List Value)} {xs ys : List α} (h : Css t w S css xs) (k : Css t w S dss ys) : Css t w S (css ++ dss) (xs ++ ys) := by
  refine ⟨by simp [h.1, k.1], fun i c x e1 e2 => ?_⟩
  by_cases hi : i < css.length
  · rw [List.getElem?_append_left hi] at e1
    rw [List.getElem?_append_left (by rw [← h.1]; exact hi)] at e2
    exact h.2 i c x e1 e2
  · rw [List.getElem?_append_right (by omega)] at e1
    rw [List.getElem?_append_right (by rw [← h.1]; omega)] at e2
    exact k.2 _ c x e1 (by rw [h.1]; exact e2)
theorem Css.one {w : World} {S : Nat → Prop} {c : List Value} {x : α} (h : t.rd w S c x) : Css t w S [c] [x] := by
  refine ⟨rfl, fun i c' x' e1 e2 => ?_⟩
  cases i with
  | zero => simp at e1 e2; subst e1; subst e2; exact h
  | succ i => simp at e1
theorem Css.two {w : World} {S : Nat → Prop} {c c' : List Value} {x x' : α} (h : t.rd w S c x) (h' : t.rd w S c' x') : Css t w S [c, c'] [x, x'] := Css.append (css := [c]) (dss := [c']) (xs := [x]) (ys := [x']) (Css.one h) (Css.one h')
theorem Css.more [hm : TyMore t] {w : World} {S S' : Nat → Prop} {css : List (List Value)} {xs : List α} (h : Css t w S css xs) (hS : ∀ k, S k → S' k) : Css t w S' css xs := ⟨h.1, fun i c x e1 e2 => hm.more _ _ _ _ _ (h.2 i c x e1 e2) hS⟩
theorem Css.ones [ho : TyOne t] {w : World} {S : Nat → Prop} {css : List (List Value)} {xs : List α} (h : Css t w S css xs) : ∀ u ∈ css.flatten, u.oneCell' = true := by
  intro u hu
  obtain ⟨c, hc, huc⟩ := List.mem_flatten.1 hu
  obtain ⟨i, hi, rfl⟩ := List.getElem_of_mem hc
  exact ho.one _ _ _ _ (h.2 i _ _ (List.getElem?_eq_getElem hi) (List.getElem?_eq_getElem (by rw [← h.1]; exact hi))) u huc
theorem flat_get {m : Nat} : ∀ {css : List (List Value)} (_ : ∀ c ∈ css, c.length = m) {i j : Nat} {c : List Value} {u : Value}, css[i]? = some c → c[j]? = some u → css.flatten[i * m + j]? = some u
  | [], _, i, j, c, u, h, _ => by simp at h
  | d :: css, hl, i, j, c, u, h, hu => by
    have hd := hl d (by simp)
    cases i with
    | zero =>
      simp at h
      subst h
      rw [List.flatten_cons, Nat.zero_mul, Nat.zero_add, List.getElem?_append_left (List.getElem?_eq_some_iff.1 hu).1]
      exact hu
    | succ i =>
      simp at h
      rw [List.flatten_cons, List.getElem?_append_right (by rw [Nat.add_mul]; omega), show (i + 1) * m + j - d.length = i * m + j by rw [Nat.add_mul]; omega]
      exact flat_get (fun c hc => hl c (by simp [hc])) h hu
def Ty.row (t : Ty α) (w : World) (base : Nat) (S : Nat → Prop) (e : TypeId) (v : Value) (xs : List α) : Prop :=
  ∃ css, Css t w S css xs ∧ w.ownsRow base e t.size v xs.length css.flatten
theorem Ty.row.nil (w : World) (base : Nat) (S : Nat → Prop) (e : TypeId) : t.row w base S e (.slice none 0 0) [] := ⟨[], Css.nil, by simpa using World.ownsRow_nil w base e t.size⟩
theorem Ty.row.more [hm : TyMore t] {w : World} {base base' : Nat} {S S' : Nat → Prop} {e : TypeId} {v : Value} {xs : List α} (h : t.row w base S e v xs) (hb : base' ≤ base) (hS : ∀ k, S k → S' k) : t.row w base' S' e v xs := by
  obtain ⟨css, h1, h2⟩ := h
  refine ⟨css, h1.more hS, h2.1, ?_⟩
  rcases h2.2 with h0 | ⟨g, cap, cur, rfl, hg, k⟩
  · exact .inl h0
  · exact .inr ⟨g, cap, cur, rfl, Nat.le_trans hb hg, k⟩
theorem Ty.row.own {w : World} {base : Nat} {S : Nat → Prop} {e : TypeId} {v : Value} {xs : List α} (h : t.row w base S e v xs) {g : Nat} (hv : v.ownBlock = some g) : base ≤ g ∧ ∃ cs, Blk w g e cs := by
  obtain ⟨css, _, h2⟩ := h
  rcases h2.2 with ⟨rfl, _⟩ | ⟨g', cap, cur, rfl, hb, hg, _⟩
  · cases hv
  · simp only [Value.ownBlock, Option.some.injEq] at hv
    subst hv
    exact ⟨hb, cur, hg⟩
end
section
variable {α : Type} {t : Ty α} [hok : TyOk t]
theorem Css.len {w : World} {S : Nat → Prop} : ∀ {css : List (List Value)} {xs : List α}, Css t w S css xs → css.flatten.length = xs.length * t.size
  | [], [], _ => by simp
  | [], _ :: _, h => by have := h.1; simp at this
  | _ :: _, [], h => by have := h.1; simp at this
  | c :: css, x :: xs, h => by
    have h1 := hok.len _ _ _ _ (h.2 0 c x rfl rfl)
    have h2 := Css.len (css := css) (xs := xs) ⟨by have := h.1; simpa using this, fun i c' x' e1 e2 => h.2 (i + 1) c' x' (by simpa using e1) (by simpa using e2)⟩
    simp only [List.flatten_cons, List.length_append, List.length_cons, h1, h2, Nat.add_mul]
    omega
theorem Css.keep {w w' : World} {S : Nat → Prop} {css : List (List Value)} {xs : List α} (h : Css t w S css xs) (hk : ∀ p : Addr, S p.block → w'.cell? p = w.cell? p) : Css t w' S css xs :=
  ⟨h.1, fun i c x e1 e2 => hok.keep _ _ _ _ _ (h.2 i c x e1 e2) hk⟩
theorem Css.fr {w w' : World} {S : Nat → Prop} {M : Nat → Prop} {css : List (List Value)} {xs : List α} (h : Css t w S css xs) (f : Fr M w w') (hM : ∀ k, S k → k < w.heap.size ∧ ¬ M k) : Css t w' S css xs :=
  h.keep fun _ hp => f.cell (hM _ hp).1 (hM _ hp).2
theorem Css.lens {w : World} {S : Nat → Prop} {css : List (List Value)} {xs : List α} (h : Css t w S css xs) : ∀ c ∈ css, c.length = t.size := by
  intro c hc
  obtain ⟨i, hi, rfl⟩ := List.getElem_of_mem hc
  exact hok.len _ _ _ _ (h.2 i _ _ (List.getElem?_eq_getElem hi) (List.getElem?_eq_getElem (by rw [← h.1]; exact hi)))
theorem els_css {w : World} {S : Nat → Prop} {A : Option Addr} {xs : List α} (h : t.els w S A xs) : ∃ css, Css t w S css xs ∧ (xs = [] ∨ ∃ b o, A = some ⟨b, o, none⟩ ∧ S b ∧ ∀ k u, css.flatten[k]? = some u → w.cell? ⟨b, o + k, none⟩ = some u) := by
  rcases h with rfl | ⟨b, o, e, hb, h⟩
  · exact ⟨[], Css.nil, .inl rfl⟩
  · obtain ⟨css, hl, hc⟩ := exists_list (fun (i : Nat) (c : List Value) => ∀ x, xs[i]? = some x → (∀ (j : Nat) (u : Value), c[j]? = some u → w.cell? ⟨b, o + (i * t.size + j), none⟩ = some u) ∧ t.rd w S c x) (List.range xs.length)
      (fun i hi => by
        obtain ⟨ds, h1, h2⟩ := h i _ (List.getElem?_eq_getElem (List.mem_range.1 hi))
        exact ⟨ds, fun x hx => by rw [List.getElem?_eq_getElem (List.mem_range.1 hi)] at hx; injection hx with hx; subst hx; exact ⟨h1, h2⟩⟩)
    simp only [List.length_range] at hl
    have hcss : Css t w S css xs := ⟨hl, fun i c x e1 e2 => (hc i i c (by rw [List.getElem?_range]; have := (List.getElem?_eq_some_iff.1 e2).1; exact this) e1 x e2).2⟩
    refine ⟨css, hcss, .inr ⟨b, o, e, hb, fun k u hu => ?_⟩⟩
    have hk : k < xs.length * t.size := by rw [← hcss.len]; exact (List.getElem?_eq_some_iff.1 hu).1
    have hs : 0 < t.size := by
      rcases Nat.eq_zero_or_pos t.size with h0 | h0
      · rw [h0] at hk; simp at hk
      · exact h0
    have hi : k / t.size < xs.length := Nat.div_lt_of_lt_mul (by rwa [Nat.mul_comm] at hk)
    have hcl := hcss.lens _ (List.getElem_mem (n := k / t.size) (by omega : k / t.size < css.length))
    have hj : k % t.size < (css[k / t.size]'(by omega)).length := by rw [hcl]; exact Nat.mod_lt _ hs
    have e1 := flat_get hcss.lens (List.getElem?_eq_getElem (by omega : k / t.size < css.length)) (List.getElem?_eq_getElem hj)
    have e2 : k / t.size * t.size + k % t.size = k := by rw [Nat.mul_comm]; exact Nat.div_add_mod k t.size
    rw [e2, hu] at e1
    have := (hc (k / t.size) (k / t.size) _ (List.getElem?_range hi) (List.getElem?_eq_getElem (by omega : k / t.size < css.length)) _ (List.getElem?_eq_getElem hi)).1 _ _ (List.getElem?_eq_getElem hj)
    rw [e2] at this
    rw [this, e1]
theorem els_rd {w : World} {S : Nat → Prop} {A : Option Addr} {xs : List α} {B : Nat} (h : t.els w S A xs) (hS : ∀ k, S k → k < B) : ∃ css, Css t w S css xs ∧ Rd w B A css.flatten := by
  obtain ⟨css, h1, h2⟩ := els_css h
  refine ⟨css, h1, ?_⟩
  rcases h2 with rfl | ⟨b, o, e, hb, h⟩
  · have := h1.len
    exact .inl (List.eq_nil_of_length_eq_zero (by simpa using this))
  · exact .inr ⟨b, o, e, hS _ hb, h⟩
theorem css_els {w : World} {S S' : Nat → Prop} {q : Nat} {css : List (List Value)} {xs : List α} (h : Css t w S css xs) (hm : TyMore t) (hB : ∀ k, S k → S' k) (hq : S' q) (o : Nat) (hc : ∀ (k : Nat) (u : Value), css.flatten[k]? = some u → w.cell? ⟨q, o + k, none⟩ = some u) : t.els w S' (some ⟨q, o, none⟩) xs := by
  refine .inr ⟨q, o, rfl, hq, fun i x hx => ?_⟩
  have hi : i < css.length := by rw [h.1]; exact (List.getElem?_eq_some_iff.1 hx).1
  exact ⟨css[i], fun j u hu => hc _ u (flat_get h.lens (List.getElem?_eq_getElem hi) hu), hm.more _ _ _ _ _ (h.2 i _ x (List.getElem?_eq_getElem hi) hx) hB⟩
theorem Ty.row.els [hm : TyMore t] {w : World} {base : Nat} {S S' : Nat → Prop} {e : TypeId} {v : Value} {xs : List α} (h : t.row w base S e v xs) (hS : ∀ k, S k → S' k) (hv : ∀ g, v.ownBlock = some g → S' g) : ∃ A c, v = .slice A xs.length c ∧ xs.length ≤ c ∧ c ≤ maxLen ∧ t.els w S' A xs := by
  obtain ⟨css, h1, h2⟩ := h
  have hl := h1.len
  rcases h2.2 with ⟨rfl, h0⟩ | ⟨g, cap, cur, rfl, hb, hg, k1, k2, k3, k4⟩
  · have hx : xs = [] := List.eq_nil_of_length_eq_zero h0
    subst hx
    exact ⟨none, 0, rfl, by simp, by simp [maxLen], .inl rfl⟩
  · refine ⟨some ⟨g, 0, none⟩, cap, rfl, k1, k2, css_els h1 hm hS (hv g rfl) 0 fun k u hu => ?_⟩
    rw [Nat.zero_add, Blk.cell (t := e) (cs := cur) hg k]
    rw [← k4, List.getElem?_take] at hu
    split at hu
    · simpa using hu
    · cases hu
theorem Ty.row.els' [hm : TyMore t] {w : World} {base : Nat} {S S' : Nat → Prop} {e : TypeId} {A : Option Addr} {n c : Nat} {xs : List α} (h : t.row w base S e (.slice A n c) xs) (hS : ∀ k, S k → S' k) (hv : ∀ g, (Value.slice A n c).ownBlock = some g → S' g) : t.els w S' A xs := by
  obtain ⟨A', c', hv, _, _, k⟩ := h.els hS hv
  injection hv with h1 _ _
  subst h1
  exact k
theorem Ty.row.fr {w w' : World} {M : Nat → Prop} {base : Nat} {S : Nat → Prop} {e : TypeId} {v : Value} {xs : List α} (h : t.row w base S e v xs) (f : Fr M w w') (hM : ∀ k, S k → k < w.heap.size ∧ ¬ M k) (hv : ∀ k, v.ownBlock = some k → ¬ M k) : t.row w' base S e v xs := by
  obtain ⟨css, h1, h2⟩ := h
  refine ⟨css, h1.fr f hM, h2.1, ?_⟩
  rcases h2.2 with h0 | ⟨g, cap, cur, rfl, hb, hg, k⟩
  · exact .inl h0
  · exact .inr ⟨g, cap, cur, rfl, hb, Blk.fr (t := e) (cs := cur) hg f (hv g rfl), k⟩
theorem Ty.row.rd {w : World} {base : Nat} {S : Nat → Prop} {e : TypeId} {A : Option Addr} {n c : Nat} {xs : List α} (h : t.row w base S e (.slice A n c) xs) : ∃ css, Css t w S css xs ∧ Rd w w.heap.size A css.flatten := by
  obtain ⟨css, h1, h2⟩ := h
  refine ⟨css, h1, ?_⟩
  have hl := h1.len
  rcases h2.2 with ⟨hv, h0⟩ | ⟨g, cap, cur, hv, hb, hg, k1, k2, k3, k4⟩
  · have hx : xs = [] := List.eq_nil_of_length_eq_zero h0
    subst hx
    exact .inl (List.eq_nil_of_length_eq_zero (by simpa using hl))
  · injection hv with e1 _ _
    subst e1
    refine .inr ⟨g, 0, rfl, Blk.lt (t := e) (cs := cur) hg, fun k u hu => ?_⟩
    rw [Nat.zero_add, Blk.cell (t := e) (cs := cur) hg k]
    rw [← k4, List.getElem?_take] at hu
    split at hu
    · simpa using hu
    · cases hu
theorem Ty.row.lit {w : World} {base q : Nat} {S : Nat → Prop} {e : TypeId} {css : List (List Value)} {xs : List α} (hb : Blk w q e css.flatten.toArray) (hq : base ≤ q) (h : Css t w S css xs) (hm : xs.length ≤ maxLen) : t.row w base S e (.slice (some ⟨q, 0, none⟩) xs.length xs.length) xs :=
  ⟨css, h, h.len, .inr ⟨q, xs.length, css.flatten.toArray, rfl, hq, hb, Nat.le_refl _, hm, by simp [h.len], by rw [← h.len, List.take_of_length_le (by simp)]⟩⟩
theorem run_appC [TyOne t] {P : Program} {ts e : TypeId} {bytes : Nat} {z : Value} {base B2 : Nat} {S : Nat → Prop} {A : Option Addr} (E : ElemOk P ts e t.size bytes z) (w : World) (ty : TypeId) {v : Value} (m c : Nat) {xs ys : List α} {dss : List (List Value)} (hown : t.row w base S e v xs)
    (k1 : Css t w S dss ys) (k2 : Rd w B2 A dss.flatten) (hl : ys.length = m) (h63 : (xs.length + m) ≤ maxLen) (hbytes : (xs.length + m) * bytes ≤ 140737488355328) (hS : ∀ k, S k → k < w.heap.size ∧ ¬ some k = v.ownBlock) (hbase : base ≤ w.heap.size) :
    ∃ v' w', (Builtin.append_ #[ts, ts] ty #[v, .slice A m c]).run P w = .ok v' w' ∧ t.row w' base S e v' (xs ++ ys) ∧ Fr (fun k => some k = v.ownBlock) w w' ∧
      (v' = .slice none 0 0 ↔ v = .slice none 0 0 ∧ m = 0) ∧ (v'.ownBlock = v.ownBlock ∨ v'.ownBlock = some w.heap.size) := by
  obtain ⟨css, h1, h2⟩ := hown
  subst hl
  obtain ⟨v', w', hrun, r1, r2, r3, r4⟩ := run_app E w ty c h2 k2 (by rw [k1.len]) k1.ones h63 hbytes hbase
  refine ⟨v', w', hrun, ⟨css ++ dss, Css.append (h1.fr r2 hS) (k1.fr r2 hS), ?_⟩, r2, r3, r4⟩
  rw [List.flatten_append, List.length_append]; exact r1
end
section
variable {α : Type} {t : Ty α} [hok : TyOk t] [hone : TyOne t]
variable {P : Program} {ts e : TypeId} {bytes : Nat} {z : Value} {base : Nat} {S : Nat → Prop} {A : Option Addr}
variable {ops : Array Oper} {rest : List Oper} {o : Oper} {a : Act} {Q : Exit → Act → World → Prop} {w : World}
theorem wpList_appC {m cs B2 : Nat} {s x : Operand} {v : Value} {xs ys : List α} {dss : List (List Value)} (E : ElemOk P ts e t.size bytes z) (hgd : o.guard = none)
    (ho : o.op = .call { callee := .builtin .append, args := #[s, x], argTypes := #[ts, ts] })
    (hs : a.eval s = v) (hx : a.eval x = .slice A m cs) (hown : t.row w base S e v xs) (k1 : Css t w S dss ys) (k2 : Rd w B2 A dss.flatten) (hl : ys.length = m)
    (h63 : xs.length + m ≤ 140737488355328) (hbytes : (xs.length + m) * bytes ≤ 140737488355328) (hS : ∀ k, S k → k < w.heap.size ∧ ¬ some k = v.ownBlock) (hbase : base ≤ w.heap.size)
    (h : ∀ v' w', t.row w' base S e v' (xs ++ ys) → Fr (fun k => some k = v.ownBlock) w w' → (v'.ownBlock = v.ownBlock ∨ v'.ownBlock = some w.heap.size) → wpList P ops Q rest (a.put o.dst v') w') :
    wpList P ops Q (o :: rest) a w := by
  refine wpList_plain hgd fun K hK => ?_
  obtain ⟨v', w', hrun, h2, h3, h4, h5⟩ := run_appC E w o.type m cs hown k1 k2 hl (by simp only [maxLen]; omega) hbytes hS hbase
  unfold Oper.wp execOp
  simp only [ho, resolve, invoke, builtin, Sem.run_bind, Sem.run_pure, Result.andThen_ok, List.map_toArray, List.map_cons, List.map_nil, hs, hx, hrun]
  exact hK _ _ (h v' w' h2 h3 h5)
theorem opwp_appC {K : Act → World → Prop} {m cs B2 : Nat} {s x : Operand} {v : Value} {xs ys : List α} {dss : List (List Value)} (E : ElemOk P ts e t.size bytes z)
    (ho : o.op = .call { callee := .builtin .append, args := #[s, x], argTypes := #[ts, ts] })
    (hs : a.eval s = v) (hx : a.eval x = .slice A m cs) (hown : t.row w base S e v xs) (k1 : Css t w S dss ys) (k2 : Rd w B2 A dss.flatten) (hl : ys.length = m)
    (h63 : xs.length + m ≤ 140737488355328) (hbytes : (xs.length + m) * bytes ≤ 140737488355328) (hS : ∀ k, S k → k < w.heap.size ∧ ¬ some k = v.ownBlock) (hbase : base ≤ w.heap.size)
    (h : ∀ v' w', t.row w' base S e v' (xs ++ ys) → Fr (fun k => some k = v.ownBlock) w w' → (v'.ownBlock = v.ownBlock ∨ v'.ownBlock = some w.heap.size) → K (a.put o.dst v') w') : o.wp P a w K Q := by
  obtain ⟨v', w', hrun, h2, h3, h4, h5⟩ := run_appC E w o.type m cs hown k1 k2 hl (by simp only [maxLen]; omega) hbytes hS hbase
  unfold Oper.wp execOp
  simp only [ho, resolve, invoke, builtin, Sem.run_bind, Sem.run_pure, Result.andThen_ok, List.map_toArray, List.map_cons, List.map_nil, hs, hx, hrun]
  exact h v' w' h2 h3 h5
end
class TyFlat {α : Type} (t : Ty α) : Prop where
  flat : ∀ w w' S S' cs x, t.rd w S cs x → t.rd w' S' cs x
instance (k : IntKind) : TyFlat (Ty.int k) := ⟨fun _ _ _ _ _ _ h => h⟩
instance : TyFlat Ty.str := ⟨fun _ _ _ _ _ _ h => h⟩
instance {α β : Type} (s : Ty α) (t : Ty β) [hs : TyFlat s] [ht : TyFlat t] : TyFlat (s.pair t) :=
  ⟨fun _ _ _ _ _ _ ⟨c1, c2, e, h1, h2⟩ => ⟨c1, c2, e, hs.flat _ _ _ _ _ _ h1, ht.flat _ _ _ _ _ _ h2⟩⟩
instance {α β : Type} (t : Ty β) (g : α → β) [ht : TyFlat t] : TyFlat (t.iso g) := ⟨fun w w' S S' cs x h => ht.flat w w' S S' cs (g x) h⟩
theorem Css.flat {α : Type} {t : Ty α} [hf : TyFlat t] {w : World} {S : Nat → Prop} {css : List (List Value)} {xs : List α} (h : Css t w S css xs) (w' : World) (S' : Nat → Prop) : Css t w' S' css xs :=
  ⟨h.1, fun i c x e1 e2 => hf.flat _ _ _ _ _ _ (h.2 i c x e1 e2)⟩
theorem els_flat {α : Type} {t : Ty α} [TyOk t] [hf : TyFlat t] {w : World} {S : Nat → Prop} {A : Option Addr} {xs : List α} {B : Nat} (h : t.els w S A xs) (hS : ∀ k, S k → k < B) : ∃ css, (∀ w' S', Css t w' S' css xs) ∧ Rd w B A css.flatten := by
  obtain ⟨css, h1, h2⟩ := els_rd h hS
  exact ⟨css, fun w' S' => h1.flat w' S', h2⟩
end Go.Proofs.YtiafkakkbbclhaaGreat
namespace Go.Proofs.YtiafkakkbbclhaaGreat
open Go.RowKit
def setA (cur : Array Value) (o : Nat) : List Value → Array Value
  | [] => cur
  | v :: vs => setA (cur.setIfInBounds o v) (o + 1) vs
def setL (l : List Value) (o : Nat) : List Value → List Value
  | [] => l
  | v :: vs => setL (l.set o v) (o + 1) vs
theorem setA_list : ∀ (vs : List Value) (cur : Array Value) (o : Nat), (setA cur o vs).toList = setL cur.toList o vs
  | [], _, _ => rfl
  | v :: vs, cur, o => by rw [setA, setA_list vs, setL, Array.toList_setIfInBounds]
theorem setA_size : ∀ (vs : List Value) (cur : Array Value) (o : Nat), (setA cur o vs).size = cur.size
  | [], _, _ => rfl
  | v :: vs, cur, o => by rw [setA, setA_size vs]; simp
theorem setL_take : ∀ (vs : List Value) (l : List Value) (o n : Nat), (setL l o vs).take n = setL (l.take n) o vs
  | [], _, _, _ => rfl
  | v :: vs, l, o, n => by rw [setL, setL_take vs, setL, List.take_set]
theorem setL_cons (u : Value) : ∀ (vs : List Value) (l : List Value) (o : Nat), setL (u :: l) (o + 1) vs = u :: setL l o vs
  | [], _, _ => rfl
  | v :: vs, l, o => by rw [setL, List.set_cons_succ, setL_cons u vs, setL]
theorem setL_skip (m : List Value) : ∀ (vs : List Value) (l : List Value) (o : Nat), setL (m ++ l) (m.length + o) vs = m ++ setL l o vs := by
  induction m with
  | nil => intro vs l o; simp
  | cons u m ih =>
    intro vs l o
    rw [List.cons_append, List.length_cons, show m.length + 1 + o = (m.length + o) + 1 by omega, setL_cons, ih]; rfl
theorem setL_all : ∀ (vs c l : List Value), c.length = vs.length → setL (c ++ l) 0 vs = vs ++ l
  | [], c, l, h => by rw [List.eq_nil_of_length_eq_zero h]; rfl
  | v :: vs, [], l, h => by simp at h
  | v :: vs, u :: c, l, h => by
    rw [setL, List.cons_append, List.set_cons_zero, setL_cons, setL_all vs c l (by simpa using h)]; rfl
theorem setL_flat {m : Nat} (ds : List Value) (hd : ds.length = m) : ∀ (css : List (List Value)) (i : Nat), (∀ c ∈ css, c.length = m) → i < css.length → setL css.flatten (i * m) ds = (css.set i ds).flatten
  | [], i, _, h => by simp at h
  | c :: css, 0, hc, _ => by
    rw [List.flatten_cons, Nat.zero_mul, setL_all ds c _ (by rw [hc c (by simp), hd])]; rfl
  | c :: css, i + 1, hc, h => by
    have e : (i + 1) * m = c.length + i * m := by rw [hc c (by simp), Nat.add_mul]; omega
    rw [List.flatten_cons, e, setL_skip, setL_flat ds hd css i (fun d hd => hc d (by simp [hd])) (by simpa using h)]
    rfl
section
variable {α : Type} {t : Ty α}
theorem Css.set {w : World} {S : Nat → Prop} {css : List (List Value)} {xs : List α} (h : Css t w S css xs) {ds : List Value} {x : α} (i : Nat) (hr : t.rd w S ds x) : Css t w S (css.set i ds) (xs.set i x) := by
  refine ⟨by simp [h.1], fun j c y e1 e2 => ?_⟩
  rw [List.getElem?_set] at e1 e2
  by_cases hij : i = j
  · subst hij
    rw [if_pos rfl] at e1 e2
    split at e1
    · split at e2
      · simp only [Option.some.injEq] at e1 e2; subst e1; subst e2; exact hr
      · cases e2
    · cases e1
  · rw [if_neg hij] at e1 e2
    exact h.2 j c y e1 e2
theorem Ty.row.set [hok : TyOk t] {w w' : World} {base : Nat} {S : Nat → Prop} {e : TypeId} {g n c : Nat} {xs : List α} {ds : List Value} {x : α} (h : t.row w base S e (.slice (some ⟨g, 0, none⟩) n c) xs) (i : Nat) (hi : i < xs.length) (hr : t.rd w' S ds x)
    (hk : ∀ p : Addr, S p.block → w'.cell? p = w.cell? p) (hw : ∀ cur, Blk w g e cur → Blk w' g e (setA cur (i * t.size) ds)) : t.row w' base S e (.slice (some ⟨g, 0, none⟩) n c) (xs.set i x) := by
  obtain ⟨css, h1, h2⟩ := h
  have hl := h1.len
  have hlc := h1.1
  have hlens := h1.lens
  refine ⟨css.set i ds, (h1.keep hk).set i hr, ?_⟩
  have hfl : (css.set i ds).flatten = setL css.flatten (i * t.size) ds := (setL_flat ds (hok.len _ _ _ _ hr) css i hlens (by omega)).symm
  have hlen : (css.set i ds).flatten.length = xs.length * t.size := by
    have := ((h1.keep hk).set i hr).len
    rwa [List.length_set] at this
  rcases h2.2 with ⟨hv, _⟩ | ⟨g', cap, cur, hv, hb, hg, k1, k2, k3, k4⟩
  · cases hv
  · injection hv with e1 e2 e3
    injection e1 with e1
    injection e1 with e1 _ _
    subst e1 e2 e3
    refine ⟨by rw [List.length_set]; exact hlen, .inr ⟨g, c, setA cur (i * t.size) ds, by rw [List.length_set], hb, hw cur hg, by rw [List.length_set]; exact k1, k2, by rw [setA_size]; exact k3, ?_⟩⟩
    rw [setA_list, List.length_set, setL_take, k4, hfl]
end
end Go.Proofs.YtiafkakkbbclhaaGreat
namespace Go.Proofs.YtiafkakkbbclhaaGreat
open Go.RowKit
variable {P : Program}
theorem wpL_call {ops : Array Oper} {rest : List Oper} {o : Oper} {a : Act} {w : World} {Q : Exit → Act → World → Prop} (hw : Region.wanted o (yielded ops a.tmps) = true)
    (h : ∃ v, (execOp a.eval o).run P w = .ok (.value v) w ∧ wpList P ops Q rest (a.put o.dst v) w) : wpList P ops Q (o :: rest) a w := by
  obtain ⟨v, h1, h2⟩ := h
  refine wpList_step fun K hK => ?_
  rw [if_pos hw]
  unfold Oper.wp
  rw [h1]
  exact hK _ _ h2
theorem rangeAt_blk {w : World} {p : Nat} {t : TypeId} {cs : Array Value} (h : Blk w p t cs) : w.rangeAt p 0 cs.toList := fun j v hv => by
  rw [Nat.zero_add]
  rw [World.cell?, h]
  simpa using hv
theorem Fr.setCells' {M : Nat → Prop} {a : World} {b : Nat} (hb : b < a.heap.size → M b) : ∀ (ds : List Value) (o : Nat) (w : World), Fr M a w → Fr M a (w.setCells b o ds)
  | [], _, _, h => h
  | v :: r, o, w, h => Fr.setCells' hb r (o + 1) _ (h.setCell ⟨b, o, none⟩ v hb)
theorem there_blk {w : World} {p n : Nat} {t : TypeId} {cs : Array Value} (h : Blk w p t cs) (hn : cs.size = n) : w.there p 0 n := fun j hj => by
  rw [Nat.zero_add]
  refine ⟨?_, h.frozen j⟩
  rw [h.cell j]
  have : j < cs.size := by omega
  simp [this]
theorem results_wide {fn : Func} {p t : Tmp} {ty : TypeId} (h : fn.results = #[.cell p ty, .tmp t]) (tmps : Array Value) (w : World) (g : Nat) (ds : List Value) (d : TypeDesc)
    (hp : tmps.getD p undef = .pointer (some ⟨g, 0, none⟩)) (hr : w.rangeAt g 0 ds) (hu : P.underlying ty = some d) (hd : d.isRow = true) (hi : (P.info? ty).map (·.size) = some ds.length) :
    (results fn tmps).run P w = .ok (.tuple #[.agg ds.toArray, tmps.getD t undef]) w := by
  have hp' : tmps[p]?.getD undef = .pointer (some ⟨g, 0, none⟩) := by simpa using hp
  simp [results, h, hp', asAddr, run_loadVar_mid w g 0 ty ds d hr hu hd hi]
end Go.Proofs.YtiafkakkbbclhaaGreat
