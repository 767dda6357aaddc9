/- Rows by their elements; contracts of slices.Clone. -/
import Derived.Test.YtdckghiipijobaaGreatShA
import Derived.WalkSpells
import Derived.WalkKit
import Derived.ProofKit
import Derived.Deep.QuietTactic
import Derived.BigQuiet
import Derived.Deep.RegionHeld3
import Derived.IntWalk
namespace Go.Proofs.YtdckghiipijobaaGreat
open Go.RowKit

theorem rt_bool {a b : Bool} (h : a = b) : Ending.returned (.bool a) = .returned (.bool b) := by rw [h]
theorem rt_int {k : IntKind} {a b : Int} (h : a = b) : Ending.returned (.int k a) = .returned (.int k b) := by rw [h]
abbrev tI : Ty Int := Ty.int .i64
abbrev tU : Ty Int := Ty.int .u64
abbrev tB : Ty Int := Ty.int .u8
def Emp : Nat → Prop := fun _ => False
/-- A pointer to cell 0 of a block. -/
def tPt : Ty Nat := ⟨1, fun _ _ cs p => cs = [.pointer (some ⟨p, 0, none⟩)], fun _ _ => True, 8, fun _ _ => True⟩
instance : TyOk tPt := ⟨fun _ _ _ _ h => by rw [show _ = _ from h]; rfl, fun _ _ _ _ _ h _ => h⟩
instance : TyMore tPt := ⟨fun _ _ _ _ _ h _ => h⟩
instance : TyOne tPt := ⟨fun _ _ _ _ h u hu => by rw [show _ = _ from h] at hu; simp at hu; subst hu; rfl⟩
instance : TyFlat tPt := ⟨fun _ _ _ _ _ _ h => h⟩
theorem own_frame {w w' w0 : World} {base : Nat} {e : TypeId} {α : Type} {t : Ty α} {S : Nat → Prop} {v : Value} {l : List α} (h : t.row w base S e v l) (F : Fr No w0 w) (f : Fr (fun k => some k = v.ownBlock) w w') (hb : w0.heap.size ≤ base) : Fr No w0 w' :=
  F.trans f (fun i hi hh => by have := (h.own hh.symm).1; omega)
/-- A fresh row: elements of l, what they refer to in S. -/
def ClonedTo {α : Type} (t : Ty α) (el : TypeId) (S : Nat → Prop) (l : List α) (w : World) (e : Ending) (w' : World) : Prop :=
  ∃ (A : Option Addr) (c : Nat), e = .returned (.slice A l.length c) ∧ t.row w' w.heap.size S el (.slice A l.length c) l ∧ Fr No w w'
theorem row_els {α : Type} {t : Ty α} [TyOk t] [TyMore t] {w : World} {base : Nat} {S : Nat → Prop} {el : TypeId} {l : List α} {A : Option Addr} {c : Nat} (h : t.row w base S el (.slice A l.length c) l) : l.length ≤ c ∧ c ≤ maxLen ∧ t.els w (fun k => S k ∨ base ≤ k ∧ k < w.heap.size) A l := by
  obtain ⟨A', c', e, h1, h2, h3⟩ := h.els (S' := fun k => S k ∨ base ≤ k ∧ k < w.heap.size) (fun _ h => .inl h) (fun g hg => by obtain ⟨h0, _, hb⟩ := h.own hg; exact .inr ⟨h0, hb.lt⟩)
  injection e with e1 _ e3
  subst e1 e3
  exact ⟨h1, h2, h3⟩

theorem elVl : ElemOk Tryz.prog 74 57 2 16 (.agg #[.int .i64 0, .int .u64 0]) := ElemOk.mk' Tryz.underlying74 (by kernel_rfl) rfl (by decide)
theorem elAc : ElemOk Tryz.prog 106 110 5 56 (.agg #[.int .i64 0, .slice none 0 0, .int .i64 0, .int .i64 0, .int .u8 0]) := ElemOk.mk' Tryz.underlying106 (by kernel_rfl) rfl (by decide)
theorem elVals : ElemOk Tryz.prog 43 48 1 8 (.int .i64 0) := ElemOk.mk' Tryz.underlying43 (by kernel_rfl) rfl (by decide)
theorem elInts : ElemOk Tryz.prog 29 3 1 8 (.int .i64 0) := ElemOk.mk' Tryz.underlying29 (by kernel_rfl) rfl (by decide)
theorem elU64 : ElemOk Tryz.prog 58 55 1 8 (.int .u64 0) := ElemOk.mk' Tryz.underlying58 (by kernel_rfl) rfl (by decide)
theorem elU8 : ElemOk Tryz.prog 59 5 1 1 (.int .u8 0) := ElemOk.mk' Tryz.underlying59 (by kernel_rfl) rfl (by decide)
theorem elCa : ElemOk Tryz.prog 30 113 2 32 (.agg #[.int .i64 0, .slice none 0 0]) := ElemOk.mk' Tryz.underlying30 (by kernel_rfl) rfl (by decide)
theorem elFi : ElemOk Tryz.prog 31 47 4 64 (.agg #[.slice none 0 0, .slice none 0 0, .int .i64 0, .int .i64 0]) := ElemOk.mk' Tryz.underlying31 (by kernel_rfl) rfl (by decide)
theorem elHo : ElemOk Tryz.prog 22 108 5 104 (.agg #[.string ⟨#[]⟩, .string ⟨#[]⟩, .slice none 0 0, .slice none 0 0, .slice none 0 0]) := ElemOk.mk' Tryz.underlying22 (by kernel_rfl) rfl (by decide)
theorem elPtT : ElemOk Tryz.prog 116 100 1 8 (.pointer none) := ElemOk.mk' Tryz.underlying116 (by kernel_rfl) rfl (by decide)
theorem elPtM : ElemOk Tryz.prog 119 99 1 8 (.pointer none) := ElemOk.mk' Tryz.underlying119 (by kernel_rfl) rfl (by decide)
theorem elGg : ElemOk Tryz.prog 122 180 4 32 (.agg #[.int .i64 0, .bool false, .int .i64 0, .int .u64 0]) := ElemOk.mk' Tryz.underlying122 (by kernel_rfl) rfl (by decide)
theorem elGs : ElemOk Tryz.prog 125 182 2 32 (.agg #[.slice none 0 0, .bool false]) := ElemOk.mk' Tryz.underlying125 (by kernel_rfl) rfl (by decide)
theorem elGb : ElemOk Tryz.prog 128 184 2 32 (.agg #[.slice none 0 0, .bool false]) := ElemOk.mk' Tryz.underlying128 (by kernel_rfl) rfl (by decide)
theorem elGi : ElemOk Tryz.prog 131 208 18 400 (.agg #[.slice none 0 0, .slice none 0 0, .slice none 0 0, .slice none 0 0, .slice none 0 0, .slice none 0 0, .slice none 0 0, .bool false, .int .i64 0, .slice none 0 0, .slice none 0 0, .slice none 0 0, .slice none 0 0, .slice none 0 0, .slice none 0 0, .slice none 0 0, .slice none 0 0, .slice none 0 0]) := ElemOk.mk' Tryz.underlying131 (by kernel_rfl) rfl (by decide)
theorem elBool : ElemOk Tryz.prog 81 4 1 1 (.bool false) := ElemOk.mk' Tryz.underlying81 (by kernel_rfl) rfl (by decide)
theorem elBss : ElemOk Tryz.prog 79 59 1 24 (.slice none 0 0) := ElemOk.mk' Tryz.underlying79 (by kernel_rfl) rfl (by decide)
theorem elUss : ElemOk Tryz.prog 80 58 1 24 (.slice none 0 0) := ElemOk.mk' Tryz.underlying80 (by kernel_rfl) rfl (by decide)
theorem elFn : ElemOk Tryz.prog 60 45 2 48 (.agg #[.slice none 0 0, .slice none 0 0]) := ElemOk.mk' Tryz.underlying60 (by kernel_rfl) rfl (by decide)
theorem elIm : ElemOk Tryz.prog 61 292 13 120 (.agg #[.string ⟨#[]⟩, .string ⟨#[]⟩, .int .i64 0, .int .i64 0, .int .i64 0, .int .i64 0, .int .i64 0, .bool false, .int .i64 0, .int .i64 0, .bool false, .int .i64 0, .bool false]) := ElemOk.mk' Tryz.underlying61 (by kernel_rfl) rfl (by decide)
theorem elTb : ElemOk Tryz.prog 63 52 4 32 (.agg #[.int .i64 0, .int .i64 0, .int .i64 0, .bool false]) := ElemOk.mk' Tryz.underlying63 (by kernel_rfl) rfl (by decide)
theorem elLim : ElemOk Tryz.prog 64 50 3 24 (.agg #[.int .i64 0, .int .i64 0, .bool false]) := ElemOk.mk' Tryz.underlying64 (by kernel_rfl) rfl (by decide)
theorem elEx : ElemOk Tryz.prog 66 297 3 32 (.agg #[.string ⟨#[]⟩, .int .i64 0, .int .i64 0]) := ElemOk.mk' Tryz.underlying66 (by kernel_rfl) rfl (by decide)
theorem elIns : ElemOk Tryz.prog 299 339 9 104 (.agg #[.int .i64 0, .int .i64 0, .int .i64 0, .int .u64 0, .int .i64 0, .int .i64 0, .int .i64 0, .slice none 0 0, .slice none 0 0]) := ElemOk.mk' Tryz.underlying299 (by kernel_rfl) rfl (by decide)
theorem elCd : ElemOk Tryz.prog 62 301 3 56 (.agg #[.int .i64 0, .slice none 0 0, .slice none 0 0]) := ElemOk.mk' Tryz.underlying62 (by kernel_rfl) rfl (by decide)
theorem elGd : ElemOk Tryz.prog 65 306 3 40 (.agg #[.int .i64 0, .bool false, .slice none 0 0]) := ElemOk.mk' Tryz.underlying65 (by kernel_rfl) rfl (by decide)
theorem elEl : ElemOk Tryz.prog 67 311 5 72 (.agg #[.int .i64 0, .int .i64 0, .slice none 0 0, .int .i64 0, .slice none 0 0]) := ElemOk.mk' Tryz.underlying67 (by kernel_rfl) rfl (by decide)
theorem elInss : ElemOk Tryz.prog 309 299 1 24 (.slice none 0 0) := ElemOk.mk' Tryz.underlying309 (by kernel_rfl) rfl (by decide)
theorem elDa : ElemOk Tryz.prog 68 316 4 64 (.agg #[.int .i64 0, .int .i64 0, .slice none 0 0, .slice none 0 0]) := ElemOk.mk' Tryz.underlying68 (by kernel_rfl) rfl (by decide)
theorem elCu : ElemOk Tryz.prog 69 320 3 48 (.agg #[.int .i64 0, .string ⟨#[]⟩, .slice none 0 0]) := ElemOk.mk' Tryz.underlying69 (by kernel_rfl) rfl (by decide)
theorem elRt : ElemOk Tryz.prog 32 170 5 56 (.agg #[.int .i64 0, .int .i64 0, .int .i64 0, .bool false, .slice none 0 0]) := ElemOk.mk' Tryz.underlying32 (by kernel_rfl) rfl (by decide)
theorem elRm : ElemOk Tryz.prog 33 143 4 48 (.agg #[.int .i64 0, .int .i64 0, .bool false, .slice none 0 0]) := ElemOk.mk' Tryz.underlying33 (by kernel_rfl) rfl (by decide)
theorem elRg : ElemOk Tryz.prog 34 187 4 32 (.agg #[.int .i64 0, .bool false, .int .i64 0, .int .u64 0]) := ElemOk.mk' Tryz.underlying34 (by kernel_rfl) rfl (by decide)
theorem elRs : ElemOk Tryz.prog 35 189 2 32 (.agg #[.slice none 0 0, .bool false]) := ElemOk.mk' Tryz.underlying35 (by kernel_rfl) rfl (by decide)
theorem elRb : ElemOk Tryz.prog 36 191 2 32 (.agg #[.slice none 0 0, .bool false]) := ElemOk.mk' Tryz.underlying36 (by kernel_rfl) rfl (by decide)
theorem elRi : ElemOk Tryz.prog 37 265 18 400 (.agg #[.slice none 0 0, .slice none 0 0, .slice none 0 0, .slice none 0 0, .slice none 0 0, .slice none 0 0, .slice none 0 0, .bool false, .int .i64 0, .slice none 0 0, .slice none 0 0, .slice none 0 0, .slice none 0 0, .slice none 0 0, .slice none 0 0, .slice none 0 0, .slice none 0 0, .slice none 0 0]) := ElemOk.mk' Tryz.underlying37 (by kernel_rfl) rfl (by decide)
set_option maxHeartbeats 1600000 in
theorem cloneU_any (A : Option Addr) (c : Nat) (l : List Int) (S : Nat → Prop) (w : World) (h : tU.els w S A l) (hS : ∀ k, S k → k < w.heap.size) (hl : l.length * 8 ≤ 140737488351232) :
    Calls Tryz.prog 83 #[.slice A l.length c] w (ClonedTo tU 55 S l w) := by
  cases A with
  | none =>
    have hn : l = [] := by
      rcases h with h | ⟨b, o, e, _⟩
      · exact h
      · cases e
    subst hn
    have he := fun W => Lib.run_eql_slice_nil (P := Tryz.prog) W 58 _ none 0 c 0 0 Tryz.underlying58
    go_enter Tryz.func83, Tryz.ntmps83
    go_wp2
    go_ret
    exact ⟨none, 0, rfl, Ty.row.nil _ _ _ _, Fr.refl No w⟩
  | some ad =>
    obtain ⟨css, hcs, hrd⟩ := els_rd h hS
    have F0 := hid ((Fr.refl No w).alloc (.cells #[] 55))
    have R0 := hid (Ty.row.lit (t := tU) (S := S) (base := w.heap.size) (css := []) (xs := []) (Blk.new w 55 #[]) (Nat.le_refl _) Css.nil (by decide))
    have HC := hid (hcs.fr F0.out (fun k hk => ⟨hS k hk, fun x => x⟩))
    have HR := hid (hrd.fr F0.out (fun _ _ x => x))
    have HS := hid hS
    clear h hcs hrd hS
    obtain ⟨n, hn⟩ : ∃ n, l.length = n := ⟨_, rfl⟩
    have HN := hid hn
    rw [hn] at hl ⊢
    clear hn
    have he := fun W => Lib.run_eql_slice_nil (P := Tryz.prog) W 58 _ (some ad) n c 0 0 Tryz.underlying58
    go_enter Tryz.func83, Tryz.ntmps83
    go_wp2_with (at_builtin; refine wpList_appC (t := tU) (base := w.heap.size) (S := S) (xs := []) (ys := l) (dss := css) (B2 := w.heap.size) elU64 rfl rfl rfl rfl R0.out HC.out HR.out HN.out (by simp; omega) (by simp; omega) (fun k hk => ⟨Nat.lt_of_lt_of_le (HS.out k hk) F0.out.size, fun e => by have := HS.out k hk; have e2 := Option.some.inj (show some k = some w.heap.size from e); omega⟩) F0.out.size ?_; intro v1 w2 hr1 fr1 hv1; have F2 := hid (own_frame R0.out F0.out fr1 (Nat.le_refl _)); have R1 := hid hr1; clear hr1 fr1 hv1)
    obtain ⟨A1, k1, e1, _, _, _⟩ := R1.out.els (S' := fun _ => True) (fun _ _ => trivial) (fun _ _ => trivial)
    subst e1
    go_ret
    rw [← HN.out]
    refine ⟨A1, k1, rfl, ?_, F2.out⟩
    have := R1.out
    simpa [HN.out] using this
set_option maxHeartbeats 1600000 in
theorem cloneB_any (A : Option Addr) (c : Nat) (l : List Int) (S : Nat → Prop) (w : World) (h : tB.els w S A l) (hS : ∀ k, S k → k < w.heap.size) (hl : l.length * 1 ≤ 140737488351232) :
    Calls Tryz.prog 85 #[.slice A l.length c] w (ClonedTo tB 5 S l w) := by
  cases A with
  | none =>
    have hn : l = [] := by
      rcases h with h | ⟨b, o, e, _⟩
      · exact h
      · cases e
    subst hn
    have he := fun W => Lib.run_eql_slice_nil (P := Tryz.prog) W 59 _ none 0 c 0 0 Tryz.underlying59
    go_enter Tryz.func85, Tryz.ntmps85
    go_wp2
    go_ret
    exact ⟨none, 0, rfl, Ty.row.nil _ _ _ _, Fr.refl No w⟩
  | some ad =>
    obtain ⟨css, hcs, hrd⟩ := els_rd h hS
    have F0 := hid ((Fr.refl No w).alloc (.cells #[] 5))
    have R0 := hid (Ty.row.lit (t := tB) (S := S) (base := w.heap.size) (css := []) (xs := []) (Blk.new w 5 #[]) (Nat.le_refl _) Css.nil (by decide))
    have HC := hid (hcs.fr F0.out (fun k hk => ⟨hS k hk, fun x => x⟩))
    have HR := hid (hrd.fr F0.out (fun _ _ x => x))
    have HS := hid hS
    clear h hcs hrd hS
    obtain ⟨n, hn⟩ : ∃ n, l.length = n := ⟨_, rfl⟩
    have HN := hid hn
    rw [hn] at hl ⊢
    clear hn
    have he := fun W => Lib.run_eql_slice_nil (P := Tryz.prog) W 59 _ (some ad) n c 0 0 Tryz.underlying59
    go_enter Tryz.func85, Tryz.ntmps85
    go_wp2_with (at_builtin; refine wpList_appC (t := tB) (base := w.heap.size) (S := S) (xs := []) (ys := l) (dss := css) (B2 := w.heap.size) elU8 rfl rfl rfl rfl R0.out HC.out HR.out HN.out (by simp; omega) (by simp; omega) (fun k hk => ⟨Nat.lt_of_lt_of_le (HS.out k hk) F0.out.size, fun e => by have := HS.out k hk; have e2 := Option.some.inj (show some k = some w.heap.size from e); omega⟩) F0.out.size ?_; intro v1 w2 hr1 fr1 hv1; have F2 := hid (own_frame R0.out F0.out fr1 (Nat.le_refl _)); have R1 := hid hr1; clear hr1 fr1 hv1)
    obtain ⟨A1, k1, e1, _, _, _⟩ := R1.out.els (S' := fun _ => True) (fun _ _ => trivial) (fun _ _ => trivial)
    subst e1
    go_ret
    rw [← HN.out]
    refine ⟨A1, k1, rfl, ?_, F2.out⟩
    have := R1.out
    simpa [HN.out] using this
set_option maxHeartbeats 1600000 in
theorem cloneVl_any (A : Option Addr) (c : Nat) (l : List Vl) (S : Nat → Prop) (w : World) (h : tVl.els w S A l) (hS : ∀ k, S k → k < w.heap.size) (hl : l.length * 16 ≤ 140737488351232) :
    Calls Tryz.prog 90 #[.slice A l.length c] w (ClonedTo tVl 57 S l w) := by
  cases A with
  | none =>
    have hn : l = [] := by
      rcases h with h | ⟨b, o, e, _⟩
      · exact h
      · cases e
    subst hn
    have he := fun W => Lib.run_eql_slice_nil (P := Tryz.prog) W 74 _ none 0 c 0 0 Tryz.underlying74
    go_enter Tryz.func90, Tryz.ntmps90
    go_wp2
    go_ret
    exact ⟨none, 0, rfl, Ty.row.nil _ _ _ _, Fr.refl No w⟩
  | some ad =>
    obtain ⟨css, hcs, hrd⟩ := els_rd h hS
    have F0 := hid ((Fr.refl No w).alloc (.cells #[] 57))
    have R0 := hid (Ty.row.lit (t := tVl) (S := S) (base := w.heap.size) (css := []) (xs := []) (Blk.new w 57 #[]) (Nat.le_refl _) Css.nil (by decide))
    have HC := hid (hcs.fr F0.out (fun k hk => ⟨hS k hk, fun x => x⟩))
    have HR := hid (hrd.fr F0.out (fun _ _ x => x))
    have HS := hid hS
    clear h hcs hrd hS
    obtain ⟨n, hn⟩ : ∃ n, l.length = n := ⟨_, rfl⟩
    have HN := hid hn
    rw [hn] at hl ⊢
    clear hn
    have he := fun W => Lib.run_eql_slice_nil (P := Tryz.prog) W 74 _ (some ad) n c 0 0 Tryz.underlying74
    go_enter Tryz.func90, Tryz.ntmps90
    go_wp2_with (at_builtin; refine wpList_appC (t := tVl) (base := w.heap.size) (S := S) (xs := []) (ys := l) (dss := css) (B2 := w.heap.size) elVl rfl rfl rfl rfl R0.out HC.out HR.out HN.out (by simp; omega) (by simp; omega) (fun k hk => ⟨Nat.lt_of_lt_of_le (HS.out k hk) F0.out.size, fun e => by have := HS.out k hk; have e2 := Option.some.inj (show some k = some w.heap.size from e); omega⟩) F0.out.size ?_; intro v1 w2 hr1 fr1 hv1; have F2 := hid (own_frame R0.out F0.out fr1 (Nat.le_refl _)); have R1 := hid hr1; clear hr1 fr1 hv1)
    obtain ⟨A1, k1, e1, _, _, _⟩ := R1.out.els (S' := fun _ => True) (fun _ _ => trivial) (fun _ _ => trivial)
    subst e1
    go_ret
    rw [← HN.out]
    refine ⟨A1, k1, rfl, ?_, F2.out⟩
    have := R1.out
    simpa [HN.out] using this
set_option maxHeartbeats 1600000 in
theorem cloneAc_any (A : Option Addr) (c : Nat) (l : List Ac) (S : Nat → Prop) (w : World) (h : tAc.els w S A l) (hS : ∀ k, S k → k < w.heap.size) (hl : l.length * 56 ≤ 140737488351232) :
    Calls Tryz.prog 115 #[.slice A l.length c] w (ClonedTo tAc 110 S l w) := by
  cases A with
  | none =>
    have hn : l = [] := by
      rcases h with h | ⟨b, o, e, _⟩
      · exact h
      · cases e
    subst hn
    have he := fun W => Lib.run_eql_slice_nil (P := Tryz.prog) W 106 _ none 0 c 0 0 Tryz.underlying106
    go_enter Tryz.func115, Tryz.ntmps115
    go_wp2
    go_ret
    exact ⟨none, 0, rfl, Ty.row.nil _ _ _ _, Fr.refl No w⟩
  | some ad =>
    obtain ⟨css, hcs, hrd⟩ := els_rd h hS
    have F0 := hid ((Fr.refl No w).alloc (.cells #[] 110))
    have R0 := hid (Ty.row.lit (t := tAc) (S := S) (base := w.heap.size) (css := []) (xs := []) (Blk.new w 110 #[]) (Nat.le_refl _) Css.nil (by decide))
    have HC := hid (hcs.fr F0.out (fun k hk => ⟨hS k hk, fun x => x⟩))
    have HR := hid (hrd.fr F0.out (fun _ _ x => x))
    have HS := hid hS
    clear h hcs hrd hS
    obtain ⟨n, hn⟩ : ∃ n, l.length = n := ⟨_, rfl⟩
    have HN := hid hn
    rw [hn] at hl ⊢
    clear hn
    have he := fun W => Lib.run_eql_slice_nil (P := Tryz.prog) W 106 _ (some ad) n c 0 0 Tryz.underlying106
    go_enter Tryz.func115, Tryz.ntmps115
    go_wp2_with (at_builtin; refine wpList_appC (t := tAc) (base := w.heap.size) (S := S) (xs := []) (ys := l) (dss := css) (B2 := w.heap.size) elAc rfl rfl rfl rfl R0.out HC.out HR.out HN.out (by simp; omega) (by simp; omega) (fun k hk => ⟨Nat.lt_of_lt_of_le (HS.out k hk) F0.out.size, fun e => by have := HS.out k hk; have e2 := Option.some.inj (show some k = some w.heap.size from e); omega⟩) F0.out.size ?_; intro v1 w2 hr1 fr1 hv1; have F2 := hid (own_frame R0.out F0.out fr1 (Nat.le_refl _)); have R1 := hid hr1; clear hr1 fr1 hv1)
    obtain ⟨A1, k1, e1, _, _, _⟩ := R1.out.els (S' := fun _ => True) (fun _ _ => trivial) (fun _ _ => trivial)
    subst e1
    go_ret
    rw [← HN.out]
    refine ⟨A1, k1, rfl, ?_, F2.out⟩
    have := R1.out
    simpa [HN.out] using this
set_option maxHeartbeats 1600000 in
theorem cloneV_any (A : Option Addr) (c : Nat) (l : List Int) (S : Nat → Prop) (w : World) (h : tI.els w S A l) (hS : ∀ k, S k → k < w.heap.size) (hl : l.length * 8 ≤ 140737488351232) :
    Calls Tryz.prog 157 #[.slice A l.length c] w (ClonedTo tI 48 S l w) := by
  cases A with
  | none =>
    have hn : l = [] := by
      rcases h with h | ⟨b, o, e, _⟩
      · exact h
      · cases e
    subst hn
    have he := fun W => Lib.run_eql_slice_nil (P := Tryz.prog) W 43 _ none 0 c 0 0 Tryz.underlying43
    go_enter Tryz.func157, Tryz.ntmps157
    go_wp2
    go_ret
    exact ⟨none, 0, rfl, Ty.row.nil _ _ _ _, Fr.refl No w⟩
  | some ad =>
    obtain ⟨css, hcs, hrd⟩ := els_rd h hS
    have F0 := hid ((Fr.refl No w).alloc (.cells #[] 48))
    have R0 := hid (Ty.row.lit (t := tI) (S := S) (base := w.heap.size) (css := []) (xs := []) (Blk.new w 48 #[]) (Nat.le_refl _) Css.nil (by decide))
    have HC := hid (hcs.fr F0.out (fun k hk => ⟨hS k hk, fun x => x⟩))
    have HR := hid (hrd.fr F0.out (fun _ _ x => x))
    have HS := hid hS
    clear h hcs hrd hS
    obtain ⟨n, hn⟩ : ∃ n, l.length = n := ⟨_, rfl⟩
    have HN := hid hn
    rw [hn] at hl ⊢
    clear hn
    have he := fun W => Lib.run_eql_slice_nil (P := Tryz.prog) W 43 _ (some ad) n c 0 0 Tryz.underlying43
    go_enter Tryz.func157, Tryz.ntmps157
    go_wp2_with (at_builtin; refine wpList_appC (t := tI) (base := w.heap.size) (S := S) (xs := []) (ys := l) (dss := css) (B2 := w.heap.size) elVals rfl rfl rfl rfl R0.out HC.out HR.out HN.out (by simp; omega) (by simp; omega) (fun k hk => ⟨Nat.lt_of_lt_of_le (HS.out k hk) F0.out.size, fun e => by have := HS.out k hk; have e2 := Option.some.inj (show some k = some w.heap.size from e); omega⟩) F0.out.size ?_; intro v1 w2 hr1 fr1 hv1; have F2 := hid (own_frame R0.out F0.out fr1 (Nat.le_refl _)); have R1 := hid hr1; clear hr1 fr1 hv1)
    obtain ⟨A1, k1, e1, _, _, _⟩ := R1.out.els (S' := fun _ => True) (fun _ _ => trivial) (fun _ _ => trivial)
    subst e1
    go_ret
    rw [← HN.out]
    refine ⟨A1, k1, rfl, ?_, F2.out⟩
    have := R1.out
    simpa [HN.out] using this
set_option maxHeartbeats 1600000 in
theorem cloneCa_any (A : Option Addr) (c : Nat) (l : List Ca) (S : Nat → Prop) (w : World) (h : tCa.els w S A l) (hS : ∀ k, S k → k < w.heap.size) (hl : l.length * 32 ≤ 140737488351232) :
    Calls Tryz.prog 153 #[.slice A l.length c] w (ClonedTo tCa 113 S l w) := by
  cases A with
  | none =>
    have hn : l = [] := by
      rcases h with h | ⟨b, o, e, _⟩
      · exact h
      · cases e
    subst hn
    have he := fun W => Lib.run_eql_slice_nil (P := Tryz.prog) W 30 _ none 0 c 0 0 Tryz.underlying30
    go_enter Tryz.func153, Tryz.ntmps153
    go_wp2
    go_ret
    exact ⟨none, 0, rfl, Ty.row.nil _ _ _ _, Fr.refl No w⟩
  | some ad =>
    obtain ⟨css, hcs, hrd⟩ := els_rd h hS
    have F0 := hid ((Fr.refl No w).alloc (.cells #[] 113))
    have R0 := hid (Ty.row.lit (t := tCa) (S := S) (base := w.heap.size) (css := []) (xs := []) (Blk.new w 113 #[]) (Nat.le_refl _) Css.nil (by decide))
    have HC := hid (hcs.fr F0.out (fun k hk => ⟨hS k hk, fun x => x⟩))
    have HR := hid (hrd.fr F0.out (fun _ _ x => x))
    have HS := hid hS
    clear h hcs hrd hS
    obtain ⟨n, hn⟩ : ∃ n, l.length = n := ⟨_, rfl⟩
    have HN := hid hn
    rw [hn] at hl ⊢
    clear hn
    have he := fun W => Lib.run_eql_slice_nil (P := Tryz.prog) W 30 _ (some ad) n c 0 0 Tryz.underlying30
    go_enter Tryz.func153, Tryz.ntmps153
    go_wp2_with (at_builtin; refine wpList_appC (t := tCa) (base := w.heap.size) (S := S) (xs := []) (ys := l) (dss := css) (B2 := w.heap.size) elCa rfl rfl rfl rfl R0.out HC.out HR.out HN.out (by simp; omega) (by simp; omega) (fun k hk => ⟨Nat.lt_of_lt_of_le (HS.out k hk) F0.out.size, fun e => by have := HS.out k hk; have e2 := Option.some.inj (show some k = some w.heap.size from e); omega⟩) F0.out.size ?_; intro v1 w2 hr1 fr1 hv1; have F2 := hid (own_frame R0.out F0.out fr1 (Nat.le_refl _)); have R1 := hid hr1; clear hr1 fr1 hv1)
    obtain ⟨A1, k1, e1, _, _, _⟩ := R1.out.els (S' := fun _ => True) (fun _ _ => trivial) (fun _ _ => trivial)
    subst e1
    go_ret
    rw [← HN.out]
    refine ⟨A1, k1, rfl, ?_, F2.out⟩
    have := R1.out
    simpa [HN.out] using this
set_option maxHeartbeats 1600000 in
theorem cloneI_any (A : Option Addr) (c : Nat) (l : List Int) (S : Nat → Prop) (w : World) (h : tI.els w S A l) (hS : ∀ k, S k → k < w.heap.size) (hl : l.length * 8 ≤ 140737488351232) :
    Calls Tryz.prog 95 #[.slice A l.length c] w (ClonedTo tI 3 S l w) := by
  cases A with
  | none =>
    have hn : l = [] := by
      rcases h with h | ⟨b, o, e, _⟩
      · exact h
      · cases e
    subst hn
    have he := fun W => Lib.run_eql_slice_nil (P := Tryz.prog) W 29 _ none 0 c 0 0 Tryz.underlying29
    go_enter Tryz.func95, Tryz.ntmps95
    go_wp2
    go_ret
    exact ⟨none, 0, rfl, Ty.row.nil _ _ _ _, Fr.refl No w⟩
  | some ad =>
    obtain ⟨css, hcs, hrd⟩ := els_rd h hS
    have F0 := hid ((Fr.refl No w).alloc (.cells #[] 3))
    have R0 := hid (Ty.row.lit (t := tI) (S := S) (base := w.heap.size) (css := []) (xs := []) (Blk.new w 3 #[]) (Nat.le_refl _) Css.nil (by decide))
    have HC := hid (hcs.fr F0.out (fun k hk => ⟨hS k hk, fun x => x⟩))
    have HR := hid (hrd.fr F0.out (fun _ _ x => x))
    have HS := hid hS
    clear h hcs hrd hS
    obtain ⟨n, hn⟩ : ∃ n, l.length = n := ⟨_, rfl⟩
    have HN := hid hn
    rw [hn] at hl ⊢
    clear hn
    have he := fun W => Lib.run_eql_slice_nil (P := Tryz.prog) W 29 _ (some ad) n c 0 0 Tryz.underlying29
    go_enter Tryz.func95, Tryz.ntmps95
    go_wp2_with (at_builtin; refine wpList_appC (t := tI) (base := w.heap.size) (S := S) (xs := []) (ys := l) (dss := css) (B2 := w.heap.size) elInts rfl rfl rfl rfl R0.out HC.out HR.out HN.out (by simp; omega) (by simp; omega) (fun k hk => ⟨Nat.lt_of_lt_of_le (HS.out k hk) F0.out.size, fun e => by have := HS.out k hk; have e2 := Option.some.inj (show some k = some w.heap.size from e); omega⟩) F0.out.size ?_; intro v1 w2 hr1 fr1 hv1; have F2 := hid (own_frame R0.out F0.out fr1 (Nat.le_refl _)); have R1 := hid hr1; clear hr1 fr1 hv1)
    obtain ⟨A1, k1, e1, _, _, _⟩ := R1.out.els (S' := fun _ => True) (fun _ _ => trivial) (fun _ _ => trivial)
    subst e1
    go_ret
    rw [← HN.out]
    refine ⟨A1, k1, rfl, ?_, F2.out⟩
    have := R1.out
    simpa [HN.out] using this
set_option maxHeartbeats 1600000 in
theorem cloneIm_any (A : Option Addr) (c : Nat) (l : List Im) (S : Nat → Prop) (w : World) (h : tIm.els w S A l) (hS : ∀ k, S k → k < w.heap.size) (hl : l.length * 120 ≤ 140737488351232) :
    Calls Tryz.prog 163 #[.slice A l.length c] w (ClonedTo tIm 292 S l w) := by
  cases A with
  | none =>
    have hn : l = [] := by
      rcases h with h | ⟨b, o, e, _⟩
      · exact h
      · cases e
    subst hn
    have he := fun W => Lib.run_eql_slice_nil (P := Tryz.prog) W 61 _ none 0 c 0 0 Tryz.underlying61
    go_enter Tryz.func163, Tryz.ntmps163
    go_wp2
    go_ret
    exact ⟨none, 0, rfl, Ty.row.nil _ _ _ _, Fr.refl No w⟩
  | some ad =>
    obtain ⟨css, hcs, hrd⟩ := els_rd h hS
    have F0 := hid ((Fr.refl No w).alloc (.cells #[] 292))
    have R0 := hid (Ty.row.lit (t := tIm) (S := S) (base := w.heap.size) (css := []) (xs := []) (Blk.new w 292 #[]) (Nat.le_refl _) Css.nil (by decide))
    have HC := hid (hcs.fr F0.out (fun k hk => ⟨hS k hk, fun x => x⟩))
    have HR := hid (hrd.fr F0.out (fun _ _ x => x))
    have HS := hid hS
    clear h hcs hrd hS
    obtain ⟨n, hn⟩ : ∃ n, l.length = n := ⟨_, rfl⟩
    have HN := hid hn
    rw [hn] at hl ⊢
    clear hn
    have he := fun W => Lib.run_eql_slice_nil (P := Tryz.prog) W 61 _ (some ad) n c 0 0 Tryz.underlying61
    go_enter Tryz.func163, Tryz.ntmps163
    go_wp2_with (at_builtin; refine wpList_appC (t := tIm) (base := w.heap.size) (S := S) (xs := []) (ys := l) (dss := css) (B2 := w.heap.size) elIm rfl rfl rfl rfl R0.out HC.out HR.out HN.out (by simp; omega) (by simp; omega) (fun k hk => ⟨Nat.lt_of_lt_of_le (HS.out k hk) F0.out.size, fun e => by have := HS.out k hk; have e2 := Option.some.inj (show some k = some w.heap.size from e); omega⟩) F0.out.size ?_; intro v1 w2 hr1 fr1 hv1; have F2 := hid (own_frame R0.out F0.out fr1 (Nat.le_refl _)); have R1 := hid hr1; clear hr1 fr1 hv1)
    obtain ⟨A1, k1, e1, _, _, _⟩ := R1.out.els (S' := fun _ => True) (fun _ _ => trivial) (fun _ _ => trivial)
    subst e1
    go_ret
    rw [← HN.out]
    refine ⟨A1, k1, rfl, ?_, F2.out⟩
    have := R1.out
    simpa [HN.out] using this
set_option maxHeartbeats 1600000 in
theorem cloneTb_any (A : Option Addr) (c : Nat) (l : List Tb) (S : Nat → Prop) (w : World) (h : tTb.els w S A l) (hS : ∀ k, S k → k < w.heap.size) (hl : l.length * 32 ≤ 140737488351232) :
    Calls Tryz.prog 164 #[.slice A l.length c] w (ClonedTo tTb 52 S l w) := by
  cases A with
  | none =>
    have hn : l = [] := by
      rcases h with h | ⟨b, o, e, _⟩
      · exact h
      · cases e
    subst hn
    have he := fun W => Lib.run_eql_slice_nil (P := Tryz.prog) W 63 _ none 0 c 0 0 Tryz.underlying63
    go_enter Tryz.func164, Tryz.ntmps164
    go_wp2
    go_ret
    exact ⟨none, 0, rfl, Ty.row.nil _ _ _ _, Fr.refl No w⟩
  | some ad =>
    obtain ⟨css, hcs, hrd⟩ := els_rd h hS
    have F0 := hid ((Fr.refl No w).alloc (.cells #[] 52))
    have R0 := hid (Ty.row.lit (t := tTb) (S := S) (base := w.heap.size) (css := []) (xs := []) (Blk.new w 52 #[]) (Nat.le_refl _) Css.nil (by decide))
    have HC := hid (hcs.fr F0.out (fun k hk => ⟨hS k hk, fun x => x⟩))
    have HR := hid (hrd.fr F0.out (fun _ _ x => x))
    have HS := hid hS
    clear h hcs hrd hS
    obtain ⟨n, hn⟩ : ∃ n, l.length = n := ⟨_, rfl⟩
    have HN := hid hn
    rw [hn] at hl ⊢
    clear hn
    have he := fun W => Lib.run_eql_slice_nil (P := Tryz.prog) W 63 _ (some ad) n c 0 0 Tryz.underlying63
    go_enter Tryz.func164, Tryz.ntmps164
    go_wp2_with (at_builtin; refine wpList_appC (t := tTb) (base := w.heap.size) (S := S) (xs := []) (ys := l) (dss := css) (B2 := w.heap.size) elTb rfl rfl rfl rfl R0.out HC.out HR.out HN.out (by simp; omega) (by simp; omega) (fun k hk => ⟨Nat.lt_of_lt_of_le (HS.out k hk) F0.out.size, fun e => by have := HS.out k hk; have e2 := Option.some.inj (show some k = some w.heap.size from e); omega⟩) F0.out.size ?_; intro v1 w2 hr1 fr1 hv1; have F2 := hid (own_frame R0.out F0.out fr1 (Nat.le_refl _)); have R1 := hid hr1; clear hr1 fr1 hv1)
    obtain ⟨A1, k1, e1, _, _, _⟩ := R1.out.els (S' := fun _ => True) (fun _ _ => trivial) (fun _ _ => trivial)
    subst e1
    go_ret
    rw [← HN.out]
    refine ⟨A1, k1, rfl, ?_, F2.out⟩
    have := R1.out
    simpa [HN.out] using this
set_option maxHeartbeats 1600000 in
theorem cloneLim_any (A : Option Addr) (c : Nat) (l : List Lim) (S : Nat → Prop) (w : World) (h : tLim.els w S A l) (hS : ∀ k, S k → k < w.heap.size) (hl : l.length * 24 ≤ 140737488351232) :
    Calls Tryz.prog 165 #[.slice A l.length c] w (ClonedTo tLim 50 S l w) := by
  cases A with
  | none =>
    have hn : l = [] := by
      rcases h with h | ⟨b, o, e, _⟩
      · exact h
      · cases e
    subst hn
    have he := fun W => Lib.run_eql_slice_nil (P := Tryz.prog) W 64 _ none 0 c 0 0 Tryz.underlying64
    go_enter Tryz.func165, Tryz.ntmps165
    go_wp2
    go_ret
    exact ⟨none, 0, rfl, Ty.row.nil _ _ _ _, Fr.refl No w⟩
  | some ad =>
    obtain ⟨css, hcs, hrd⟩ := els_rd h hS
    have F0 := hid ((Fr.refl No w).alloc (.cells #[] 50))
    have R0 := hid (Ty.row.lit (t := tLim) (S := S) (base := w.heap.size) (css := []) (xs := []) (Blk.new w 50 #[]) (Nat.le_refl _) Css.nil (by decide))
    have HC := hid (hcs.fr F0.out (fun k hk => ⟨hS k hk, fun x => x⟩))
    have HR := hid (hrd.fr F0.out (fun _ _ x => x))
    have HS := hid hS
    clear h hcs hrd hS
    obtain ⟨n, hn⟩ : ∃ n, l.length = n := ⟨_, rfl⟩
    have HN := hid hn
    rw [hn] at hl ⊢
    clear hn
    have he := fun W => Lib.run_eql_slice_nil (P := Tryz.prog) W 64 _ (some ad) n c 0 0 Tryz.underlying64
    go_enter Tryz.func165, Tryz.ntmps165
    go_wp2_with (at_builtin; refine wpList_appC (t := tLim) (base := w.heap.size) (S := S) (xs := []) (ys := l) (dss := css) (B2 := w.heap.size) elLim rfl rfl rfl rfl R0.out HC.out HR.out HN.out (by simp; omega) (by simp; omega) (fun k hk => ⟨Nat.lt_of_lt_of_le (HS.out k hk) F0.out.size, fun e => by have := HS.out k hk; have e2 := Option.some.inj (show some k = some w.heap.size from e); omega⟩) F0.out.size ?_; intro v1 w2 hr1 fr1 hv1; have F2 := hid (own_frame R0.out F0.out fr1 (Nat.le_refl _)); have R1 := hid hr1; clear hr1 fr1 hv1)
    obtain ⟨A1, k1, e1, _, _, _⟩ := R1.out.els (S' := fun _ => True) (fun _ _ => trivial) (fun _ _ => trivial)
    subst e1
    go_ret
    rw [← HN.out]
    refine ⟨A1, k1, rfl, ?_, F2.out⟩
    have := R1.out
    simpa [HN.out] using this
set_option maxHeartbeats 1600000 in
theorem cloneEx_any (A : Option Addr) (c : Nat) (l : List Ex) (S : Nat → Prop) (w : World) (h : tEx.els w S A l) (hS : ∀ k, S k → k < w.heap.size) (hl : l.length * 32 ≤ 140737488351232) :
    Calls Tryz.prog 166 #[.slice A l.length c] w (ClonedTo tEx 297 S l w) := by
  cases A with
  | none =>
    have hn : l = [] := by
      rcases h with h | ⟨b, o, e, _⟩
      · exact h
      · cases e
    subst hn
    have he := fun W => Lib.run_eql_slice_nil (P := Tryz.prog) W 66 _ none 0 c 0 0 Tryz.underlying66
    go_enter Tryz.func166, Tryz.ntmps166
    go_wp2
    go_ret
    exact ⟨none, 0, rfl, Ty.row.nil _ _ _ _, Fr.refl No w⟩
  | some ad =>
    obtain ⟨css, hcs, hrd⟩ := els_rd h hS
    have F0 := hid ((Fr.refl No w).alloc (.cells #[] 297))
    have R0 := hid (Ty.row.lit (t := tEx) (S := S) (base := w.heap.size) (css := []) (xs := []) (Blk.new w 297 #[]) (Nat.le_refl _) Css.nil (by decide))
    have HC := hid (hcs.fr F0.out (fun k hk => ⟨hS k hk, fun x => x⟩))
    have HR := hid (hrd.fr F0.out (fun _ _ x => x))
    have HS := hid hS
    clear h hcs hrd hS
    obtain ⟨n, hn⟩ : ∃ n, l.length = n := ⟨_, rfl⟩
    have HN := hid hn
    rw [hn] at hl ⊢
    clear hn
    have he := fun W => Lib.run_eql_slice_nil (P := Tryz.prog) W 66 _ (some ad) n c 0 0 Tryz.underlying66
    go_enter Tryz.func166, Tryz.ntmps166
    go_wp2_with (at_builtin; refine wpList_appC (t := tEx) (base := w.heap.size) (S := S) (xs := []) (ys := l) (dss := css) (B2 := w.heap.size) elEx rfl rfl rfl rfl R0.out HC.out HR.out HN.out (by simp; omega) (by simp; omega) (fun k hk => ⟨Nat.lt_of_lt_of_le (HS.out k hk) F0.out.size, fun e => by have := HS.out k hk; have e2 := Option.some.inj (show some k = some w.heap.size from e); omega⟩) F0.out.size ?_; intro v1 w2 hr1 fr1 hv1; have F2 := hid (own_frame R0.out F0.out fr1 (Nat.le_refl _)); have R1 := hid hr1; clear hr1 fr1 hv1)
    obtain ⟨A1, k1, e1, _, _, _⟩ := R1.out.els (S' := fun _ => True) (fun _ _ => trivial) (fun _ _ => trivial)
    subst e1
    go_ret
    rw [← HN.out]
    refine ⟨A1, k1, rfl, ?_, F2.out⟩
    have := R1.out
    simpa [HN.out] using this
set_option maxHeartbeats 1600000 in
theorem cloneHo_any (A : Option Addr) (c : Nat) (l : List Ho) (S : Nat → Prop) (w : World) (h : tHo.els w S A l) (hS : ∀ k, S k → k < w.heap.size) (hl : l.length * 104 ≤ 140737488351232) :
    Calls Tryz.prog 94 #[.slice A l.length c] w (ClonedTo tHo 108 S l w) := by
  cases A with
  | none =>
    have hn : l = [] := by
      rcases h with h | ⟨b, o, e, _⟩
      · exact h
      · cases e
    subst hn
    have he := fun W => Lib.run_eql_slice_nil (P := Tryz.prog) W 22 _ none 0 c 0 0 Tryz.underlying22
    go_enter Tryz.func94, Tryz.ntmps94
    go_wp2
    go_ret
    exact ⟨none, 0, rfl, Ty.row.nil _ _ _ _, Fr.refl No w⟩
  | some ad =>
    obtain ⟨css, hcs, hrd⟩ := els_rd h hS
    have F0 := hid ((Fr.refl No w).alloc (.cells #[] 108))
    have R0 := hid (Ty.row.lit (t := tHo) (S := S) (base := w.heap.size) (css := []) (xs := []) (Blk.new w 108 #[]) (Nat.le_refl _) Css.nil (by decide))
    have HC := hid (hcs.fr F0.out (fun k hk => ⟨hS k hk, fun x => x⟩))
    have HR := hid (hrd.fr F0.out (fun _ _ x => x))
    have HS := hid hS
    clear h hcs hrd hS
    obtain ⟨n, hn⟩ : ∃ n, l.length = n := ⟨_, rfl⟩
    have HN := hid hn
    rw [hn] at hl ⊢
    clear hn
    have he := fun W => Lib.run_eql_slice_nil (P := Tryz.prog) W 22 _ (some ad) n c 0 0 Tryz.underlying22
    go_enter Tryz.func94, Tryz.ntmps94
    go_wp2_with (at_builtin; refine wpList_appC (t := tHo) (base := w.heap.size) (S := S) (xs := []) (ys := l) (dss := css) (B2 := w.heap.size) elHo rfl rfl rfl rfl R0.out HC.out HR.out HN.out (by simp; omega) (by simp; omega) (fun k hk => ⟨Nat.lt_of_lt_of_le (HS.out k hk) F0.out.size, fun e => by have := HS.out k hk; have e2 := Option.some.inj (show some k = some w.heap.size from e); omega⟩) F0.out.size ?_; intro v1 w2 hr1 fr1 hv1; have F2 := hid (own_frame R0.out F0.out fr1 (Nat.le_refl _)); have R1 := hid hr1; clear hr1 fr1 hv1)
    obtain ⟨A1, k1, e1, _, _, _⟩ := R1.out.els (S' := fun _ => True) (fun _ _ => trivial) (fun _ _ => trivial)
    subst e1
    go_ret
    rw [← HN.out]
    refine ⟨A1, k1, rfl, ?_, F2.out⟩
    have := R1.out
    simpa [HN.out] using this
set_option maxHeartbeats 1600000 in
theorem cloneFi_any (A : Option Addr) (c : Nat) (l : List Fi) (S : Nat → Prop) (w : World) (h : tFi.els w S A l) (hS : ∀ k, S k → k < w.heap.size) (hl : l.length * 64 ≤ 140737488351232) :
    Calls Tryz.prog 96 #[.slice A l.length c] w (ClonedTo tFi 47 S l w) := by
  cases A with
  | none =>
    have hn : l = [] := by
      rcases h with h | ⟨b, o, e, _⟩
      · exact h
      · cases e
    subst hn
    have he := fun W => Lib.run_eql_slice_nil (P := Tryz.prog) W 31 _ none 0 c 0 0 Tryz.underlying31
    go_enter Tryz.func96, Tryz.ntmps96
    go_wp2
    go_ret
    exact ⟨none, 0, rfl, Ty.row.nil _ _ _ _, Fr.refl No w⟩
  | some ad =>
    obtain ⟨css, hcs, hrd⟩ := els_rd h hS
    have F0 := hid ((Fr.refl No w).alloc (.cells #[] 47))
    have R0 := hid (Ty.row.lit (t := tFi) (S := S) (base := w.heap.size) (css := []) (xs := []) (Blk.new w 47 #[]) (Nat.le_refl _) Css.nil (by decide))
    have HC := hid (hcs.fr F0.out (fun k hk => ⟨hS k hk, fun x => x⟩))
    have HR := hid (hrd.fr F0.out (fun _ _ x => x))
    have HS := hid hS
    clear h hcs hrd hS
    obtain ⟨n, hn⟩ : ∃ n, l.length = n := ⟨_, rfl⟩
    have HN := hid hn
    rw [hn] at hl ⊢
    clear hn
    have he := fun W => Lib.run_eql_slice_nil (P := Tryz.prog) W 31 _ (some ad) n c 0 0 Tryz.underlying31
    go_enter Tryz.func96, Tryz.ntmps96
    go_wp2_with (at_builtin; refine wpList_appC (t := tFi) (base := w.heap.size) (S := S) (xs := []) (ys := l) (dss := css) (B2 := w.heap.size) elFi rfl rfl rfl rfl R0.out HC.out HR.out HN.out (by simp; omega) (by simp; omega) (fun k hk => ⟨Nat.lt_of_lt_of_le (HS.out k hk) F0.out.size, fun e => by have := HS.out k hk; have e2 := Option.some.inj (show some k = some w.heap.size from e); omega⟩) F0.out.size ?_; intro v1 w2 hr1 fr1 hv1; have F2 := hid (own_frame R0.out F0.out fr1 (Nat.le_refl _)); have R1 := hid hr1; clear hr1 fr1 hv1)
    obtain ⟨A1, k1, e1, _, _, _⟩ := R1.out.els (S' := fun _ => True) (fun _ _ => trivial) (fun _ _ => trivial)
    subst e1
    go_ret
    rw [← HN.out]
    refine ⟨A1, k1, rfl, ?_, F2.out⟩
    have := R1.out
    simpa [HN.out] using this
set_option maxHeartbeats 1600000 in
theorem cloneGg_any (A : Option Addr) (c : Nat) (l : List Rg) (S : Nat → Prop) (w : World) (h : tRg.els w S A l) (hS : ∀ k, S k → k < w.heap.size) (hl : l.length * 32 ≤ 140737488351232) :
    Calls Tryz.prog 99 #[.slice A l.length c] w (ClonedTo tRg 180 S l w) := by
  cases A with
  | none =>
    have hn : l = [] := by
      rcases h with h | ⟨b, o, e, _⟩
      · exact h
      · cases e
    subst hn
    have he := fun W => Lib.run_eql_slice_nil (P := Tryz.prog) W 122 _ none 0 c 0 0 Tryz.underlying122
    go_enter Tryz.func99, Tryz.ntmps99
    go_wp2
    go_ret
    exact ⟨none, 0, rfl, Ty.row.nil _ _ _ _, Fr.refl No w⟩
  | some ad =>
    obtain ⟨css, hcs, hrd⟩ := els_rd h hS
    have F0 := hid ((Fr.refl No w).alloc (.cells #[] 180))
    have R0 := hid (Ty.row.lit (t := tRg) (S := S) (base := w.heap.size) (css := []) (xs := []) (Blk.new w 180 #[]) (Nat.le_refl _) Css.nil (by decide))
    have HC := hid (hcs.fr F0.out (fun k hk => ⟨hS k hk, fun x => x⟩))
    have HR := hid (hrd.fr F0.out (fun _ _ x => x))
    have HS := hid hS
    clear h hcs hrd hS
    obtain ⟨n, hn⟩ : ∃ n, l.length = n := ⟨_, rfl⟩
    have HN := hid hn
    rw [hn] at hl ⊢
    clear hn
    have he := fun W => Lib.run_eql_slice_nil (P := Tryz.prog) W 122 _ (some ad) n c 0 0 Tryz.underlying122
    go_enter Tryz.func99, Tryz.ntmps99
    go_wp2_with (at_builtin; refine wpList_appC (t := tRg) (base := w.heap.size) (S := S) (xs := []) (ys := l) (dss := css) (B2 := w.heap.size) elGg rfl rfl rfl rfl R0.out HC.out HR.out HN.out (by simp; omega) (by simp; omega) (fun k hk => ⟨Nat.lt_of_lt_of_le (HS.out k hk) F0.out.size, fun e => by have := HS.out k hk; have e2 := Option.some.inj (show some k = some w.heap.size from e); omega⟩) F0.out.size ?_; intro v1 w2 hr1 fr1 hv1; have F2 := hid (own_frame R0.out F0.out fr1 (Nat.le_refl _)); have R1 := hid hr1; clear hr1 fr1 hv1)
    obtain ⟨A1, k1, e1, _, _, _⟩ := R1.out.els (S' := fun _ => True) (fun _ _ => trivial) (fun _ _ => trivial)
    subst e1
    go_ret
    rw [← HN.out]
    refine ⟨A1, k1, rfl, ?_, F2.out⟩
    have := R1.out
    simpa [HN.out] using this
set_option maxHeartbeats 1600000 in
theorem cloneGs_any (A : Option Addr) (c : Nat) (l : List Rs) (S : Nat → Prop) (w : World) (h : tRs.els w S A l) (hS : ∀ k, S k → k < w.heap.size) (hl : l.length * 32 ≤ 140737488351232) :
    Calls Tryz.prog 100 #[.slice A l.length c] w (ClonedTo tRs 182 S l w) := by
  cases A with
  | none =>
    have hn : l = [] := by
      rcases h with h | ⟨b, o, e, _⟩
      · exact h
      · cases e
    subst hn
    have he := fun W => Lib.run_eql_slice_nil (P := Tryz.prog) W 125 _ none 0 c 0 0 Tryz.underlying125
    go_enter Tryz.func100, Tryz.ntmps100
    go_wp2
    go_ret
    exact ⟨none, 0, rfl, Ty.row.nil _ _ _ _, Fr.refl No w⟩
  | some ad =>
    obtain ⟨css, hcs, hrd⟩ := els_rd h hS
    have F0 := hid ((Fr.refl No w).alloc (.cells #[] 182))
    have R0 := hid (Ty.row.lit (t := tRs) (S := S) (base := w.heap.size) (css := []) (xs := []) (Blk.new w 182 #[]) (Nat.le_refl _) Css.nil (by decide))
    have HC := hid (hcs.fr F0.out (fun k hk => ⟨hS k hk, fun x => x⟩))
    have HR := hid (hrd.fr F0.out (fun _ _ x => x))
    have HS := hid hS
    clear h hcs hrd hS
    obtain ⟨n, hn⟩ : ∃ n, l.length = n := ⟨_, rfl⟩
    have HN := hid hn
    rw [hn] at hl ⊢
    clear hn
    have he := fun W => Lib.run_eql_slice_nil (P := Tryz.prog) W 125 _ (some ad) n c 0 0 Tryz.underlying125
    go_enter Tryz.func100, Tryz.ntmps100
    go_wp2_with (at_builtin; refine wpList_appC (t := tRs) (base := w.heap.size) (S := S) (xs := []) (ys := l) (dss := css) (B2 := w.heap.size) elGs rfl rfl rfl rfl R0.out HC.out HR.out HN.out (by simp; omega) (by simp; omega) (fun k hk => ⟨Nat.lt_of_lt_of_le (HS.out k hk) F0.out.size, fun e => by have := HS.out k hk; have e2 := Option.some.inj (show some k = some w.heap.size from e); omega⟩) F0.out.size ?_; intro v1 w2 hr1 fr1 hv1; have F2 := hid (own_frame R0.out F0.out fr1 (Nat.le_refl _)); have R1 := hid hr1; clear hr1 fr1 hv1)
    obtain ⟨A1, k1, e1, _, _, _⟩ := R1.out.els (S' := fun _ => True) (fun _ _ => trivial) (fun _ _ => trivial)
    subst e1
    go_ret
    rw [← HN.out]
    refine ⟨A1, k1, rfl, ?_, F2.out⟩
    have := R1.out
    simpa [HN.out] using this
set_option maxHeartbeats 1600000 in
theorem cloneGb_any (A : Option Addr) (c : Nat) (l : List Rb) (S : Nat → Prop) (w : World) (h : tRb.els w S A l) (hS : ∀ k, S k → k < w.heap.size) (hl : l.length * 32 ≤ 140737488351232) :
    Calls Tryz.prog 101 #[.slice A l.length c] w (ClonedTo tRb 184 S l w) := by
  cases A with
  | none =>
    have hn : l = [] := by
      rcases h with h | ⟨b, o, e, _⟩
      · exact h
      · cases e
    subst hn
    have he := fun W => Lib.run_eql_slice_nil (P := Tryz.prog) W 128 _ none 0 c 0 0 Tryz.underlying128
    go_enter Tryz.func101, Tryz.ntmps101
    go_wp2
    go_ret
    exact ⟨none, 0, rfl, Ty.row.nil _ _ _ _, Fr.refl No w⟩
  | some ad =>
    obtain ⟨css, hcs, hrd⟩ := els_rd h hS
    have F0 := hid ((Fr.refl No w).alloc (.cells #[] 184))
    have R0 := hid (Ty.row.lit (t := tRb) (S := S) (base := w.heap.size) (css := []) (xs := []) (Blk.new w 184 #[]) (Nat.le_refl _) Css.nil (by decide))
    have HC := hid (hcs.fr F0.out (fun k hk => ⟨hS k hk, fun x => x⟩))
    have HR := hid (hrd.fr F0.out (fun _ _ x => x))
    have HS := hid hS
    clear h hcs hrd hS
    obtain ⟨n, hn⟩ : ∃ n, l.length = n := ⟨_, rfl⟩
    have HN := hid hn
    rw [hn] at hl ⊢
    clear hn
    have he := fun W => Lib.run_eql_slice_nil (P := Tryz.prog) W 128 _ (some ad) n c 0 0 Tryz.underlying128
    go_enter Tryz.func101, Tryz.ntmps101
    go_wp2_with (at_builtin; refine wpList_appC (t := tRb) (base := w.heap.size) (S := S) (xs := []) (ys := l) (dss := css) (B2 := w.heap.size) elGb rfl rfl rfl rfl R0.out HC.out HR.out HN.out (by simp; omega) (by simp; omega) (fun k hk => ⟨Nat.lt_of_lt_of_le (HS.out k hk) F0.out.size, fun e => by have := HS.out k hk; have e2 := Option.some.inj (show some k = some w.heap.size from e); omega⟩) F0.out.size ?_; intro v1 w2 hr1 fr1 hv1; have F2 := hid (own_frame R0.out F0.out fr1 (Nat.le_refl _)); have R1 := hid hr1; clear hr1 fr1 hv1)
    obtain ⟨A1, k1, e1, _, _, _⟩ := R1.out.els (S' := fun _ => True) (fun _ _ => trivial) (fun _ _ => trivial)
    subst e1
    go_ret
    rw [← HN.out]
    refine ⟨A1, k1, rfl, ?_, F2.out⟩
    have := R1.out
    simpa [HN.out] using this
set_option maxHeartbeats 1600000 in
theorem cloneGi_any (A : Option Addr) (c : Nat) (l : List Ri) (S : Nat → Prop) (w : World) (h : tRi.els w S A l) (hS : ∀ k, S k → k < w.heap.size) (hl : l.length * 400 ≤ 140737488351232) :
    Calls Tryz.prog 102 #[.slice A l.length c] w (ClonedTo tRi 208 S l w) := by
  cases A with
  | none =>
    have hn : l = [] := by
      rcases h with h | ⟨b, o, e, _⟩
      · exact h
      · cases e
    subst hn
    have he := fun W => Lib.run_eql_slice_nil (P := Tryz.prog) W 131 _ none 0 c 0 0 Tryz.underlying131
    go_enter Tryz.func102, Tryz.ntmps102
    go_wp2
    go_ret
    exact ⟨none, 0, rfl, Ty.row.nil _ _ _ _, Fr.refl No w⟩
  | some ad =>
    obtain ⟨css, hcs, hrd⟩ := els_rd h hS
    have F0 := hid ((Fr.refl No w).alloc (.cells #[] 208))
    have R0 := hid (Ty.row.lit (t := tRi) (S := S) (base := w.heap.size) (css := []) (xs := []) (Blk.new w 208 #[]) (Nat.le_refl _) Css.nil (by decide))
    have HC := hid (hcs.fr F0.out (fun k hk => ⟨hS k hk, fun x => x⟩))
    have HR := hid (hrd.fr F0.out (fun _ _ x => x))
    have HS := hid hS
    clear h hcs hrd hS
    obtain ⟨n, hn⟩ : ∃ n, l.length = n := ⟨_, rfl⟩
    have HN := hid hn
    rw [hn] at hl ⊢
    clear hn
    have he := fun W => Lib.run_eql_slice_nil (P := Tryz.prog) W 131 _ (some ad) n c 0 0 Tryz.underlying131
    go_enter Tryz.func102, Tryz.ntmps102
    go_wp2_with (at_builtin; refine wpList_appC (t := tRi) (base := w.heap.size) (S := S) (xs := []) (ys := l) (dss := css) (B2 := w.heap.size) elGi rfl rfl rfl rfl R0.out HC.out HR.out HN.out (by simp; omega) (by simp; omega) (fun k hk => ⟨Nat.lt_of_lt_of_le (HS.out k hk) F0.out.size, fun e => by have := HS.out k hk; have e2 := Option.some.inj (show some k = some w.heap.size from e); omega⟩) F0.out.size ?_; intro v1 w2 hr1 fr1 hv1; have F2 := hid (own_frame R0.out F0.out fr1 (Nat.le_refl _)); have R1 := hid hr1; clear hr1 fr1 hv1)
    obtain ⟨A1, k1, e1, _, _, _⟩ := R1.out.els (S' := fun _ => True) (fun _ _ => trivial) (fun _ _ => trivial)
    subst e1
    go_ret
    rw [← HN.out]
    refine ⟨A1, k1, rfl, ?_, F2.out⟩
    have := R1.out
    simpa [HN.out] using this
end Go.Proofs.YtdckghiipijobaaGreat
