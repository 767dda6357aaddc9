/- Chapter 28: the program's memory: Copy, Fill. -/
import Derived.Test.YtpmnijjfadhocaaMmO
import Derived.Lib.SliceRun
namespace Go.Proofs.Ytpmnijjfadhocaa
open Go.RowKit

theorem own_els {w : World} {p q c : Nat} {l : Lim} {B : List Int} (h : Mo w p q c l B) : RmIn w (some ⟨q, 0, none⟩) c B := by
  have hr : Rd w w.heap.size (some ⟨q, 0, none⟩) (Ks .u8 B) := h.own.rd h.own.lt
  exact ⟨hr, (fun e => by cases e), (fun ad e => ⟨q, 0, by injection e with e; exact e.symm⟩), h.bts, h.cap⟩
theorem mcopy_any (p q c p' q' c' : Nat) (l l' : Lim) (B B' : List Int) (xt xa xn : Int) (w : World) (hM : Mo w p q c l B) (hM' : Mo w p' q' c' l' B') (hn : B.length ≤ 100000) (hn' : B'.length ≤ 100000) (h1 : 0 ≤ xt ∧ xt < 18446744073709551616) (h2 : 0 ≤ xa ∧ xa < 18446744073709551616) (h3 : 0 ≤ xn ∧ xn < 18446744073709551616) :
    Calls Try.prog 22 #[.pointer (some ⟨p, 0, none⟩), .pointer (some ⟨p', 0, none⟩), .int .u64 xt, .int .u64 xa, .int .u64 xn] w (MoTo p q c l (initR B B' (lo xt) (lo xa) (lo xn)).1 (initR B B' (lo xt) (lo xa) (lo xn)).2 w) := by
  have HI := hid (minit_any p q c l B B' _ c' xt xa xn w hM (own_els hM').src hn (by omega) h1 h2 h3)
  have c3 := hM'.hp.cell 3
  generalize initR B B' (lo xt) (lo xa) (lo xn) = r at *
  obtain ⟨R, tr⟩ := r
  clear hM hM'
  go_enter Try.func22, Try.ntmps22
  go_wp2_with fail
  refine HI.out.mono ?_
  rintro e w2 ⟨rfl, hm, f⟩
  have HM := hid hm
  have F := hid f
  clear hm f
  go_wp2
  go_ret
  exact ⟨rfl, HM.out, F.out⟩
theorem splice_cons {α : Type} (xs vs : List α) (o : Nat) (v : α) (h : o + vs.length + 1 ≤ xs.length) : splice (xs.set o v) (o + 1) vs = splice xs o (v :: vs) := by
  apply List.ext_getElem?
  intro i
  rw [splice_get? _ _ _ (by simp; omega), splice_get? _ _ _ (by simp; omega)]
  simp only [List.length_cons, List.getElem?_set]
  by_cases h1 : i < o
  · rw [if_pos (by omega), if_neg (by omega), if_pos h1]
  · by_cases h2 : i = o
    · subst h2
      rw [if_pos (by omega), if_pos rfl, if_pos (by omega), if_neg h1, if_pos (by omega), Nat.sub_self]; rfl
    · by_cases h3 : i < o + 1 + vs.length
      · rw [if_neg (by omega), if_pos h3, if_neg h1, if_pos (by omega), show i - o = (i - (o + 1)) + 1 by omega, List.getElem?_cons_succ]
      · rw [if_neg (by omega), if_neg h3, if_neg (by omega), if_neg h1, if_neg (by omega)]
theorem own_setCells {q c : Nat} {e : TypeId} : ∀ (vs : List Value) (o : Nat) (w : World) (xs : List Value), Own w q e c xs → o + vs.length ≤ xs.length → Own (w.setCells q o vs) q e c (splice xs o vs) := by
  intro vs
  induction vs with
  | nil => intro o w xs h _; rw [splice_nil]; exact h
  | cons v vs ih =>
    intro o w xs h hl
    have := ih (o + 1) _ _ (h.set_ o v) (by simp at hl ⊢; omega)
    rw [splice_cons _ _ _ _ (by simp at hl; omega)] at this
    exact this
theorem fr_setCells {M : Nat → Prop} {q : Nat} : ∀ (vs : List Value) (o : Nat) (w0 w : World), Fr M w0 w → (q < w0.heap.size → M q) → Fr M w0 (w.setCells q o vs) := by
  intro vs
  induction vs with
  | nil => intro o w0 w h _; exact h
  | cons v vs ih => intro o w0 w h hq; exact ih _ _ _ (h.setCell ⟨q, o, none⟩ v hq) hq
theorem run_clear_zero {P : Program} (w : World) (t e ty : TypeId) (z : Value) (ht : P.underlying t = some (.slice e)) (hv : ∀ w, (zeroValue e).run P w = .ok z w) (a : Option Addr) (c : Nat) :
    (Builtin.clear_ #[t] ty #[.slice a 0 c]).run P w = .ok (.tuple #[]) w := by
  cases a <;> simp [Builtin.clear_, run_underlying ht, hv, Builtin.zeroCells]
end Go.Proofs.Ytpmnijjfadhocaa
