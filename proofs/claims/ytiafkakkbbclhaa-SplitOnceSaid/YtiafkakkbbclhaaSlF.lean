/- Chapter 46: Clone. -/
import Derived.Test.YtiafkakkbbclhaaSlE
import Derived.WalkSpells
namespace Go.Proofs.Ytiafkakkbbclhaa
open Go.RowKit

theorem elInts : ElemOk Try.prog 35 3 1 8 (.int .i64 0) := ElemOk.mk' Try.underlying35 (by kernel_rfl) rfl (by decide)
theorem elVals : ElemOk Try.prog 22 63 1 8 (.int .i64 0) := ElemOk.mk' Try.underlying22 (by kernel_rfl) rfl (by decide)
theorem own_frame {w w' w0 : World} {base : Nat} {e : TypeId} {α : Type} {t : Ty α} {S : Nat → Prop} {v : Value} {l : List α} (h : t.row w base S e v l) (F : Fr No w0 w) (f : Fr (fun k => some k = v.ownBlock) w w') (hb : w0.heap.size ≤ base) : Fr No w0 w' :=
  F.trans f (fun i hi hh => by have := (h.own hh.symm).1; omega)
def CloneTo (el : TypeId) (l : List Int) (w : World) (e : Ending) (w' : World) : Prop :=
  ∃ (A : Option Addr) (c : Nat), e = .returned (.slice A l.length c) ∧ tI.row w' w.heap.size Emp el (.slice A l.length c) l ∧ Fr No w w'
theorem CloneTo.els {el : TypeId} {l : List Int} {w w' : World} {A : Option Addr} {c : Nat} (h : tI.row w' w.heap.size Emp el (.slice A l.length c) l) : l.length ≤ c ∧ c ≤ maxLen ∧ tI.els w' (fun k => w.heap.size ≤ k ∧ k < w'.heap.size) A l := by
  obtain ⟨A', c', e, h1, h2, h3⟩ := h.els (S' := fun k => w.heap.size ≤ k ∧ k < w'.heap.size) (fun _ h => h.elim) (fun g hg => by obtain ⟨h0, _, hb⟩ := h.own hg; exact ⟨h0, hb.lt⟩)
  injection e with e1 _ e3
  subst e1 e3
  exact ⟨h1, h2, h3⟩
set_option maxHeartbeats 1600000 in
theorem cloneV_any (A : Option Addr) (c : Nat) (l : List Int) (S : Nat → Prop) (w : World) (h : tI.els w S A l) (hS : ∀ k, S k → k < w.heap.size) (hl : l.length * 8 ≤ 140737488351232) :
    Calls Try.prog 29 #[.slice A l.length c] w (CloneTo 63 l w) := by
  cases A with
  | none =>
    have hn : l = [] := by
      rcases h with h | ⟨b, o, e, _⟩
      · exact h
      · cases e
    subst hn
    have he := fun W => Lib.run_eql_slice_nil (P := Try.prog) W 22 _ none 0 c 0 0 Try.underlying22
    go_enter Try.func29, Try.ntmps29
    go_wp2
    go_ret
    exact ⟨none, 0, rfl, Ty.row.nil _ _ _ _, Fr.refl No w⟩
  | some ad =>
    obtain ⟨css, hcs, hrd⟩ := els_flat h hS
    have F0 := hid ((Fr.refl No w).alloc (.cells #[] 63))
    have R0 := hid (Ty.row.lit (t := tI) (S := Emp) (base := w.heap.size) (css := []) (xs := []) (Blk.new w 63 #[]) (Nat.le_refl _) Css.nil (by decide))
    have HC := hid hcs
    have HR := hid (hrd.fr F0.out (fun _ _ x => x))
    clear h hcs hrd
    obtain ⟨n, hn⟩ : ∃ n, l.length = n := ⟨_, rfl⟩
    have HN := hid hn
    rw [hn] at hl ⊢
    clear hn
    have he := fun W => Lib.run_eql_slice_nil (P := Try.prog) W 22 _ (some ad) n c 0 0 Try.underlying22
    go_enter Try.func29, Try.ntmps29
    go_wp2_with (at_builtin; refine wpList_appC (t := tI) (base := w.heap.size) (S := Emp) (xs := []) (ys := l) (dss := css) (B2 := w.heap.size) elVals rfl rfl rfl rfl R0.out (HC.out _ _) HR.out HN.out (by simp; omega) (by simp; omega) (fun _ h => h.elim) F0.out.size ?_; intro v1 w2 hr1 fr1 hv1; have F2 := hid (own_frame R0.out F0.out fr1 (Nat.le_refl _)); have R1 := hid hr1; clear hr1 fr1 hv1)
    obtain ⟨A1, k1, e1, _, _, _⟩ := R1.out.els (S' := fun _ => True) (fun _ _ => trivial) (fun _ _ => trivial)
    subst e1
    go_ret
    exact ⟨A1, k1, rfl, R1.out, F2.out⟩
set_option maxHeartbeats 1600000 in
theorem cloneI_any (A : Option Addr) (c : Nat) (l : List Int) (S : Nat → Prop) (w : World) (h : tI.els w S A l) (hS : ∀ k, S k → k < w.heap.size) (hl : l.length * 8 ≤ 140737488351232) :
    Calls Try.prog 30 #[.slice A l.length c] w (CloneTo 3 l w) := by
  cases A with
  | none =>
    have hn : l = [] := by
      rcases h with h | ⟨b, o, e, _⟩
      · exact h
      · cases e
    subst hn
    have he := fun W => Lib.run_eql_slice_nil (P := Try.prog) W 35 _ none 0 c 0 0 Try.underlying35
    go_enter Try.func30, Try.ntmps30
    go_wp2
    go_ret
    exact ⟨none, 0, rfl, Ty.row.nil _ _ _ _, Fr.refl No w⟩
  | some ad =>
    obtain ⟨css, hcs, hrd⟩ := els_flat h hS
    have F0 := hid ((Fr.refl No w).alloc (.cells #[] 3))
    have R0 := hid (Ty.row.lit (t := tI) (S := Emp) (base := w.heap.size) (css := []) (xs := []) (Blk.new w 3 #[]) (Nat.le_refl _) Css.nil (by decide))
    have HC := hid hcs
    have HR := hid (hrd.fr F0.out (fun _ _ x => x))
    clear h hcs hrd
    obtain ⟨n, hn⟩ : ∃ n, l.length = n := ⟨_, rfl⟩
    have HN := hid hn
    rw [hn] at hl ⊢
    clear hn
    have he := fun W => Lib.run_eql_slice_nil (P := Try.prog) W 35 _ (some ad) n c 0 0 Try.underlying35
    go_enter Try.func30, Try.ntmps30
    go_wp2_with (at_builtin; refine wpList_appC (t := tI) (base := w.heap.size) (S := Emp) (xs := []) (ys := l) (dss := css) (B2 := w.heap.size) elInts rfl rfl rfl rfl R0.out (HC.out _ _) HR.out HN.out (by simp; omega) (by simp; omega) (fun _ h => h.elim) F0.out.size ?_; intro v1 w2 hr1 fr1 hv1; have F2 := hid (own_frame R0.out F0.out fr1 (Nat.le_refl _)); have R1 := hid hr1; clear hr1 fr1 hv1)
    obtain ⟨A1, k1, e1, _, _, _⟩ := R1.out.els (S' := fun _ => True) (fun _ _ => trivial) (fun _ _ => trivial)
    subst e1
    go_ret
    exact ⟨A1, k1, rfl, R1.out, F2.out⟩
end Go.Proofs.Ytiafkakkbbclhaa
