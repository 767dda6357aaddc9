/- Rows by their elements; contracts of slices.Clone. -/
import Derived.Test.YthggdemiddjlgaaShA
import Derived.WalkSpells
import Derived.WalkKit
import Derived.ProofKit
import Derived.Deep.QuietTactic
import Derived.BigQuiet
import Derived.Deep.RegionHeld3
import Derived.IntWalk
namespace Go.Proofs.Ythggdemiddjlgaa
open Go.RowKit

theorem rt_bool {a b : Bool} (h : a = b) : Ending.returned (.bool a) = .returned (.bool b) := by rw [h]
theorem rt_int {k : IntKind} {a b : Int} (h : a = b) : Ending.returned (.int k a) = .returned (.int k b) := by rw [h]
abbrev tI : Ty Int := Ty.int .i64
abbrev tU : Ty Int := Ty.int .u64
abbrev tB : Ty Int := Ty.int .u8
def Emp : Nat → Prop := fun _ => False
/-- A pointer to cell 0 of a block. -/
def tPt : Ty Nat := ⟨1, fun _ _ cs p => cs = [.pointer (some ⟨p, 0, none⟩)], fun _ _ => True, 8, fun _ _ => True⟩
instance : TyOk tPt := ⟨fun _ _ _ _ h => by rw [show _ = _ from h]; rfl, fun _ _ _ _ _ h _ => h⟩
instance : TyMore tPt := ⟨fun _ _ _ _ _ h _ => h⟩
instance : TyOne tPt := ⟨fun _ _ _ _ h u hu => by rw [show _ = _ from h] at hu; simp at hu; subst hu; rfl⟩
instance : TyFlat tPt := ⟨fun _ _ _ _ _ _ h => h⟩
theorem own_frame {w w' w0 : World} {base : Nat} {e : TypeId} {α : Type} {t : Ty α} {S : Nat → Prop} {v : Value} {l : List α} (h : t.row w base S e v l) (F : Fr No w0 w) (f : Fr (fun k => some k = v.ownBlock) w w') (hb : w0.heap.size ≤ base) : Fr No w0 w' :=
  F.trans f (fun i hi hh => by have := (h.own hh.symm).1; omega)
/-- A fresh row: elements of l, what they refer to in S. -/
def ClonedTo {α : Type} (t : Ty α) (el : TypeId) (S : Nat → Prop) (l : List α) (w : World) (e : Ending) (w' : World) : Prop :=
  ∃ (A : Option Addr) (c : Nat), e = .returned (.slice A l.length c) ∧ t.row w' w.heap.size S el (.slice A l.length c) l ∧ Fr No w w'
theorem row_els {α : Type} {t : Ty α} [TyOk t] [TyMore t] {w : World} {base : Nat} {S : Nat → Prop} {el : TypeId} {l : List α} {A : Option Addr} {c : Nat} (h : t.row w base S el (.slice A l.length c) l) : l.length ≤ c ∧ c ≤ maxLen ∧ t.els w (fun k => S k ∨ base ≤ k ∧ k < w.heap.size) A l := by
  obtain ⟨A', c', e, h1, h2, h3⟩ := h.els (S' := fun k => S k ∨ base ≤ k ∧ k < w.heap.size) (fun _ h => .inl h) (fun g hg => by obtain ⟨h0, _, hb⟩ := h.own hg; exact .inr ⟨h0, hb.lt⟩)
  injection e with e1 _ e3
  subst e1 e3
  exact ⟨h1, h2, h3⟩

theorem elVl : ElemOk Try.prog 116 40 2 16 (.agg #[.int .i64 0, .int .u64 0]) := ElemOk.mk' Try.underlying116 (by kernel_rfl) rfl (by decide)
theorem elAc : ElemOk Try.prog 97 118 5 56 (.agg #[.int .i64 0, .slice none 0 0, .int .i64 0, .int .i64 0, .int .u8 0]) := ElemOk.mk' Try.underlying97 (by kernel_rfl) rfl (by decide)
theorem elVals : ElemOk Try.prog 94 35 1 8 (.int .i64 0) := ElemOk.mk' Try.underlying94 (by kernel_rfl) rfl (by decide)
theorem elInts : ElemOk Try.prog 69 3 1 8 (.int .i64 0) := ElemOk.mk' Try.underlying69 (by kernel_rfl) rfl (by decide)
theorem elU64 : ElemOk Try.prog 180 38 1 8 (.int .u64 0) := ElemOk.mk' Try.underlying180 (by kernel_rfl) rfl (by decide)
theorem elU8 : ElemOk Try.prog 125 5 1 1 (.int .u8 0) := ElemOk.mk' Try.underlying125 (by kernel_rfl) rfl (by decide)
theorem elCa : ElemOk Try.prog 70 215 2 32 (.agg #[.int .i64 0, .slice none 0 0]) := ElemOk.mk' Try.underlying70 (by kernel_rfl) rfl (by decide)
theorem elFi : ElemOk Try.prog 71 134 4 64 (.agg #[.slice none 0 0, .slice none 0 0, .int .i64 0, .int .i64 0]) := ElemOk.mk' Try.underlying71 (by kernel_rfl) rfl (by decide)
theorem elHo : ElemOk Try.prog 68 99 5 104 (.agg #[.string ⟨#[]⟩, .string ⟨#[]⟩, .slice none 0 0, .slice none 0 0, .slice none 0 0]) := ElemOk.mk' Try.underlying68 (by kernel_rfl) rfl (by decide)
theorem elPtT : ElemOk Try.prog 74 138 1 8 (.pointer none) := ElemOk.mk' Try.underlying74 (by kernel_rfl) rfl (by decide)
theorem elPtM : ElemOk Try.prog 77 107 1 8 (.pointer none) := ElemOk.mk' Try.underlying77 (by kernel_rfl) rfl (by decide)
theorem elGg : ElemOk Try.prog 80 106 4 32 (.agg #[.int .i64 0, .bool false, .int .i64 0, .int .u64 0]) := ElemOk.mk' Try.underlying80 (by kernel_rfl) rfl (by decide)
theorem elGs : ElemOk Try.prog 83 217 2 32 (.agg #[.slice none 0 0, .bool false]) := ElemOk.mk' Try.underlying83 (by kernel_rfl) rfl (by decide)
theorem elGb : ElemOk Try.prog 86 219 2 32 (.agg #[.slice none 0 0, .bool false]) := ElemOk.mk' Try.underlying86 (by kernel_rfl) rfl (by decide)
theorem elGi : ElemOk Try.prog 89 223 18 400 (.agg #[.slice none 0 0, .slice none 0 0, .slice none 0 0, .slice none 0 0, .slice none 0 0, .slice none 0 0, .slice none 0 0, .bool false, .int .i64 0, .slice none 0 0, .slice none 0 0, .slice none 0 0, .slice none 0 0, .slice none 0 0, .slice none 0 0, .slice none 0 0, .slice none 0 0, .slice none 0 0]) := ElemOk.mk' Try.underlying89 (by kernel_rfl) rfl (by decide)
theorem elFn : ElemOk Try.prog 53 96 2 48 (.agg #[.slice none 0 0, .slice none 0 0]) := ElemOk.mk' Try.underlying53 (by kernel_rfl) rfl (by decide)
theorem elIm : ElemOk Try.prog 52 47 13 120 (.agg #[.string ⟨#[]⟩, .string ⟨#[]⟩, .int .i64 0, .int .i64 0, .int .i64 0, .int .i64 0, .int .i64 0, .bool false, .int .i64 0, .int .i64 0, .bool false, .int .i64 0, .bool false]) := ElemOk.mk' Try.underlying52 (by kernel_rfl) rfl (by decide)
theorem elTb : ElemOk Try.prog 55 45 4 32 (.agg #[.int .i64 0, .int .i64 0, .int .i64 0, .bool false]) := ElemOk.mk' Try.underlying55 (by kernel_rfl) rfl (by decide)
theorem elLim : ElemOk Try.prog 56 43 3 24 (.agg #[.int .i64 0, .int .i64 0, .bool false]) := ElemOk.mk' Try.underlying56 (by kernel_rfl) rfl (by decide)
theorem elEx : ElemOk Try.prog 58 172 3 32 (.agg #[.string ⟨#[]⟩, .int .i64 0, .int .i64 0]) := ElemOk.mk' Try.underlying58 (by kernel_rfl) rfl (by decide)
theorem elIns : ElemOk Try.prog 157 164 9 104 (.agg #[.int .i64 0, .int .i64 0, .int .i64 0, .int .u64 0, .int .i64 0, .int .i64 0, .int .i64 0, .slice none 0 0, .slice none 0 0]) := ElemOk.mk' Try.underlying157 (by kernel_rfl) rfl (by decide)
theorem elCd : ElemOk Try.prog 54 159 3 56 (.agg #[.int .i64 0, .slice none 0 0, .slice none 0 0]) := ElemOk.mk' Try.underlying54 (by kernel_rfl) rfl (by decide)
theorem elGd : ElemOk Try.prog 57 167 3 40 (.agg #[.int .i64 0, .bool false, .slice none 0 0]) := ElemOk.mk' Try.underlying57 (by kernel_rfl) rfl (by decide)
theorem elEl : ElemOk Try.prog 59 170 5 72 (.agg #[.int .i64 0, .int .i64 0, .slice none 0 0, .int .i64 0, .slice none 0 0]) := ElemOk.mk' Try.underlying59 (by kernel_rfl) rfl (by decide)
theorem elInss : ElemOk Try.prog 168 157 1 24 (.slice none 0 0) := ElemOk.mk' Try.underlying168 (by kernel_rfl) rfl (by decide)
theorem elDa : ElemOk Try.prog 60 211 4 64 (.agg #[.int .i64 0, .int .i64 0, .slice none 0 0, .slice none 0 0]) := ElemOk.mk' Try.underlying60 (by kernel_rfl) rfl (by decide)
theorem elCu : ElemOk Try.prog 61 213 3 48 (.agg #[.int .i64 0, .string ⟨#[]⟩, .slice none 0 0]) := ElemOk.mk' Try.underlying61 (by kernel_rfl) rfl (by decide)
set_option maxHeartbeats 1600000 in
theorem cloneVl_any (A : Option Addr) (c : Nat) (l : List Vl) (S : Nat → Prop) (w : World) (h : tVl.els w S A l) (hS : ∀ k, S k → k < w.heap.size) (hl : l.length * 16 ≤ 140737488351232) :
    Calls Try.prog 28 #[.slice A l.length c] w (ClonedTo tVl 40 S l w) := by
  cases A with
  | none =>
    have hn : l = [] := by
      rcases h with h | ⟨b, o, e, _⟩
      · exact h
      · cases e
    subst hn
    have he := fun W => Lib.run_eql_slice_nil (P := Try.prog) W 116 _ none 0 c 0 0 Try.underlying116
    go_enter Try.func28, Try.ntmps28
    go_wp2
    go_ret
    exact ⟨none, 0, rfl, Ty.row.nil _ _ _ _, Fr.refl No w⟩
  | some ad =>
    obtain ⟨css, hcs, hrd⟩ := els_rd h hS
    have F0 := hid ((Fr.refl No w).alloc (.cells #[] 40))
    have R0 := hid (Ty.row.lit (t := tVl) (S := S) (base := w.heap.size) (css := []) (xs := []) (Blk.new w 40 #[]) (Nat.le_refl _) Css.nil (by decide))
    have HC := hid (hcs.fr F0.out (fun k hk => ⟨hS k hk, fun x => x⟩))
    have HR := hid (hrd.fr F0.out (fun _ _ x => x))
    have HS := hid hS
    clear h hcs hrd hS
    obtain ⟨n, hn⟩ : ∃ n, l.length = n := ⟨_, rfl⟩
    have HN := hid hn
    rw [hn] at hl ⊢
    clear hn
    have he := fun W => Lib.run_eql_slice_nil (P := Try.prog) W 116 _ (some ad) n c 0 0 Try.underlying116
    go_enter Try.func28, Try.ntmps28
    go_wp2_with (at_builtin; refine wpList_appC (t := tVl) (base := w.heap.size) (S := S) (xs := []) (ys := l) (dss := css) (B2 := w.heap.size) elVl rfl rfl rfl rfl R0.out HC.out HR.out HN.out (by simp; omega) (by simp; omega) (fun k hk => ⟨Nat.lt_of_lt_of_le (HS.out k hk) F0.out.size, fun e => by have := HS.out k hk; have e2 := Option.some.inj (show some k = some w.heap.size from e); omega⟩) F0.out.size ?_; intro v1 w2 hr1 fr1 hv1; have F2 := hid (own_frame R0.out F0.out fr1 (Nat.le_refl _)); have R1 := hid hr1; clear hr1 fr1 hv1)
    obtain ⟨A1, k1, e1, _, _, _⟩ := R1.out.els (S' := fun _ => True) (fun _ _ => trivial) (fun _ _ => trivial)
    subst e1
    go_ret
    rw [← HN.out]
    refine ⟨A1, k1, rfl, ?_, F2.out⟩
    have := R1.out
    simpa [HN.out] using this
set_option maxHeartbeats 1600000 in
theorem cloneAc_any (A : Option Addr) (c : Nat) (l : List Ac) (S : Nat → Prop) (w : World) (h : tAc.els w S A l) (hS : ∀ k, S k → k < w.heap.size) (hl : l.length * 56 ≤ 140737488351232) :
    Calls Try.prog 27 #[.slice A l.length c] w (ClonedTo tAc 118 S l w) := by
  cases A with
  | none =>
    have hn : l = [] := by
      rcases h with h | ⟨b, o, e, _⟩
      · exact h
      · cases e
    subst hn
    have he := fun W => Lib.run_eql_slice_nil (P := Try.prog) W 97 _ none 0 c 0 0 Try.underlying97
    go_enter Try.func27, Try.ntmps27
    go_wp2
    go_ret
    exact ⟨none, 0, rfl, Ty.row.nil _ _ _ _, Fr.refl No w⟩
  | some ad =>
    obtain ⟨css, hcs, hrd⟩ := els_rd h hS
    have F0 := hid ((Fr.refl No w).alloc (.cells #[] 118))
    have R0 := hid (Ty.row.lit (t := tAc) (S := S) (base := w.heap.size) (css := []) (xs := []) (Blk.new w 118 #[]) (Nat.le_refl _) Css.nil (by decide))
    have HC := hid (hcs.fr F0.out (fun k hk => ⟨hS k hk, fun x => x⟩))
    have HR := hid (hrd.fr F0.out (fun _ _ x => x))
    have HS := hid hS
    clear h hcs hrd hS
    obtain ⟨n, hn⟩ : ∃ n, l.length = n := ⟨_, rfl⟩
    have HN := hid hn
    rw [hn] at hl ⊢
    clear hn
    have he := fun W => Lib.run_eql_slice_nil (P := Try.prog) W 97 _ (some ad) n c 0 0 Try.underlying97
    go_enter Try.func27, Try.ntmps27
    go_wp2_with (at_builtin; refine wpList_appC (t := tAc) (base := w.heap.size) (S := S) (xs := []) (ys := l) (dss := css) (B2 := w.heap.size) elAc rfl rfl rfl rfl R0.out HC.out HR.out HN.out (by simp; omega) (by simp; omega) (fun k hk => ⟨Nat.lt_of_lt_of_le (HS.out k hk) F0.out.size, fun e => by have := HS.out k hk; have e2 := Option.some.inj (show some k = some w.heap.size from e); omega⟩) F0.out.size ?_; intro v1 w2 hr1 fr1 hv1; have F2 := hid (own_frame R0.out F0.out fr1 (Nat.le_refl _)); have R1 := hid hr1; clear hr1 fr1 hv1)
    obtain ⟨A1, k1, e1, _, _, _⟩ := R1.out.els (S' := fun _ => True) (fun _ _ => trivial) (fun _ _ => trivial)
    subst e1
    go_ret
    rw [← HN.out]
    refine ⟨A1, k1, rfl, ?_, F2.out⟩
    have := R1.out
    simpa [HN.out] using this
set_option maxHeartbeats 1600000 in
theorem cloneV_any (A : Option Addr) (c : Nat) (l : List Int) (S : Nat → Prop) (w : World) (h : tI.els w S A l) (hS : ∀ k, S k → k < w.heap.size) (hl : l.length * 8 ≤ 140737488351232) :
    Calls Try.prog 46 #[.slice A l.length c] w (ClonedTo tI 35 S l w) := by
  cases A with
  | none =>
    have hn : l = [] := by
      rcases h with h | ⟨b, o, e, _⟩
      · exact h
      · cases e
    subst hn
    have he := fun W => Lib.run_eql_slice_nil (P := Try.prog) W 94 _ none 0 c 0 0 Try.underlying94
    go_enter Try.func46, Try.ntmps46
    go_wp2
    go_ret
    exact ⟨none, 0, rfl, Ty.row.nil _ _ _ _, Fr.refl No w⟩
  | some ad =>
    obtain ⟨css, hcs, hrd⟩ := els_rd h hS
    have F0 := hid ((Fr.refl No w).alloc (.cells #[] 35))
    have R0 := hid (Ty.row.lit (t := tI) (S := S) (base := w.heap.size) (css := []) (xs := []) (Blk.new w 35 #[]) (Nat.le_refl _) Css.nil (by decide))
    have HC := hid (hcs.fr F0.out (fun k hk => ⟨hS k hk, fun x => x⟩))
    have HR := hid (hrd.fr F0.out (fun _ _ x => x))
    have HS := hid hS
    clear h hcs hrd hS
    obtain ⟨n, hn⟩ : ∃ n, l.length = n := ⟨_, rfl⟩
    have HN := hid hn
    rw [hn] at hl ⊢
    clear hn
    have he := fun W => Lib.run_eql_slice_nil (P := Try.prog) W 94 _ (some ad) n c 0 0 Try.underlying94
    go_enter Try.func46, Try.ntmps46
    go_wp2_with (at_builtin; refine wpList_appC (t := tI) (base := w.heap.size) (S := S) (xs := []) (ys := l) (dss := css) (B2 := w.heap.size) elVals rfl rfl rfl rfl R0.out HC.out HR.out HN.out (by simp; omega) (by simp; omega) (fun k hk => ⟨Nat.lt_of_lt_of_le (HS.out k hk) F0.out.size, fun e => by have := HS.out k hk; have e2 := Option.some.inj (show some k = some w.heap.size from e); omega⟩) F0.out.size ?_; intro v1 w2 hr1 fr1 hv1; have F2 := hid (own_frame R0.out F0.out fr1 (Nat.le_refl _)); have R1 := hid hr1; clear hr1 fr1 hv1)
    obtain ⟨A1, k1, e1, _, _, _⟩ := R1.out.els (S' := fun _ => True) (fun _ _ => trivial) (fun _ _ => trivial)
    subst e1
    go_ret
    rw [← HN.out]
    refine ⟨A1, k1, rfl, ?_, F2.out⟩
    have := R1.out
    simpa [HN.out] using this
end Go.Proofs.Ythggdemiddjlgaa
