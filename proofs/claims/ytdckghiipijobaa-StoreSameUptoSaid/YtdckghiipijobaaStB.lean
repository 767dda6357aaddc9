/- Rows by their elements; contracts of slices.Clone. -/
import Derived.Test.YtdckghiipijobaaShA
import Derived.WalkSpells
import Derived.WalkKit
import Derived.ProofKit
import Derived.Deep.QuietTactic
import Derived.BigQuiet
import Derived.Deep.RegionHeld3
import Derived.IntWalk
namespace Go.Proofs.Ytdckghiipijobaa
open Go.RowKit

theorem rt_bool {a b : Bool} (h : a = b) : Ending.returned (.bool a) = .returned (.bool b) := by rw [h]
theorem rt_int {k : IntKind} {a b : Int} (h : a = b) : Ending.returned (.int k a) = .returned (.int k b) := by rw [h]
abbrev tI : Ty Int := Ty.int .i64
abbrev tU : Ty Int := Ty.int .u64
abbrev tB : Ty Int := Ty.int .u8
def Emp : Nat → Prop := fun _ => False
/-- A pointer to cell 0 of a block. -/
def tPt : Ty Nat := ⟨1, fun _ _ cs p => cs = [.pointer (some ⟨p, 0, none⟩)], fun _ _ => True, 8, fun _ _ => True⟩
instance : TyOk tPt := ⟨fun _ _ _ _ h => by rw [show _ = _ from h]; rfl, fun _ _ _ _ _ h _ => h⟩
instance : TyMore tPt := ⟨fun _ _ _ _ _ h _ => h⟩
instance : TyOne tPt := ⟨fun _ _ _ _ h u hu => by rw [show _ = _ from h] at hu; simp at hu; subst hu; rfl⟩
instance : TyFlat tPt := ⟨fun _ _ _ _ _ _ h => h⟩
theorem own_frame {w w' w0 : World} {base : Nat} {e : TypeId} {α : Type} {t : Ty α} {S : Nat → Prop} {v : Value} {l : List α} (h : t.row w base S e v l) (F : Fr No w0 w) (f : Fr (fun k => some k = v.ownBlock) w w') (hb : w0.heap.size ≤ base) : Fr No w0 w' :=
  F.trans f (fun i hi hh => by have := (h.own hh.symm).1; omega)
/-- A fresh row: elements of l, what they refer to in S. -/
def ClonedTo {α : Type} (t : Ty α) (el : TypeId) (S : Nat → Prop) (l : List α) (w : World) (e : Ending) (w' : World) : Prop :=
  ∃ (A : Option Addr) (c : Nat), e = .returned (.slice A l.length c) ∧ t.row w' w.heap.size S el (.slice A l.length c) l ∧ Fr No w w'
theorem row_els {α : Type} {t : Ty α} [TyOk t] [TyMore t] {w : World} {base : Nat} {S : Nat → Prop} {el : TypeId} {l : List α} {A : Option Addr} {c : Nat} (h : t.row w base S el (.slice A l.length c) l) : l.length ≤ c ∧ c ≤ maxLen ∧ t.els w (fun k => S k ∨ base ≤ k ∧ k < w.heap.size) A l := by
  obtain ⟨A', c', e, h1, h2, h3⟩ := h.els (S' := fun k => S k ∨ base ≤ k ∧ k < w.heap.size) (fun _ h => .inl h) (fun g hg => by obtain ⟨h0, _, hb⟩ := h.own hg; exact .inr ⟨h0, hb.lt⟩)
  injection e with e1 _ e3
  subst e1 e3
  exact ⟨h1, h2, h3⟩

theorem elVl : ElemOk Try.prog 63 80 2 16 (.agg #[.int .i64 0, .int .u64 0]) := ElemOk.mk' Try.underlying63 (by kernel_rfl) rfl (by decide)
theorem elAc : ElemOk Try.prog 75 74 5 56 (.agg #[.int .i64 0, .slice none 0 0, .int .i64 0, .int .i64 0, .int .u8 0]) := ElemOk.mk' Try.underlying75 (by kernel_rfl) rfl (by decide)
theorem elVals : ElemOk Try.prog 70 69 1 8 (.int .i64 0) := ElemOk.mk' Try.underlying70 (by kernel_rfl) rfl (by decide)
theorem elInts : ElemOk Try.prog 27 3 1 8 (.int .i64 0) := ElemOk.mk' Try.underlying27 (by kernel_rfl) rfl (by decide)
theorem elU64 : ElemOk Try.prog 22 54 1 8 (.int .u64 0) := ElemOk.mk' Try.underlying22 (by kernel_rfl) rfl (by decide)
theorem elU8 : ElemOk Try.prog 23 5 1 1 (.int .u8 0) := ElemOk.mk' Try.underlying23 (by kernel_rfl) rfl (by decide)
theorem elCa : ElemOk Try.prog 28 93 2 32 (.agg #[.int .i64 0, .slice none 0 0]) := ElemOk.mk' Try.underlying28 (by kernel_rfl) rfl (by decide)
theorem elFi : ElemOk Try.prog 29 185 4 64 (.agg #[.slice none 0 0, .slice none 0 0, .int .i64 0, .int .i64 0]) := ElemOk.mk' Try.underlying29 (by kernel_rfl) rfl (by decide)
theorem elHo : ElemOk Try.prog 26 77 5 104 (.agg #[.string ⟨#[]⟩, .string ⟨#[]⟩, .slice none 0 0, .slice none 0 0, .slice none 0 0]) := ElemOk.mk' Try.underlying26 (by kernel_rfl) rfl (by decide)
theorem elPtT : ElemOk Try.prog 32 129 1 8 (.pointer none) := ElemOk.mk' Try.underlying32 (by kernel_rfl) rfl (by decide)
theorem elPtM : ElemOk Try.prog 35 120 1 8 (.pointer none) := ElemOk.mk' Try.underlying35 (by kernel_rfl) rfl (by decide)
theorem elGg : ElemOk Try.prog 38 127 4 32 (.agg #[.int .i64 0, .bool false, .int .i64 0, .int .u64 0]) := ElemOk.mk' Try.underlying38 (by kernel_rfl) rfl (by decide)
theorem elGs : ElemOk Try.prog 41 96 2 32 (.agg #[.slice none 0 0, .bool false]) := ElemOk.mk' Try.underlying41 (by kernel_rfl) rfl (by decide)
theorem elGb : ElemOk Try.prog 44 100 2 32 (.agg #[.slice none 0 0, .bool false]) := ElemOk.mk' Try.underlying44 (by kernel_rfl) rfl (by decide)
theorem elGi : ElemOk Try.prog 47 201 18 400 (.agg #[.slice none 0 0, .slice none 0 0, .slice none 0 0, .slice none 0 0, .slice none 0 0, .slice none 0 0, .slice none 0 0, .bool false, .int .i64 0, .slice none 0 0, .slice none 0 0, .slice none 0 0, .slice none 0 0, .slice none 0 0, .slice none 0 0, .slice none 0 0, .slice none 0 0, .slice none 0 0]) := ElemOk.mk' Try.underlying47 (by kernel_rfl) rfl (by decide)
theorem elBool : ElemOk Try.prog 64 4 1 1 (.bool false) := ElemOk.mk' Try.underlying64 (by kernel_rfl) rfl (by decide)
theorem elBss : ElemOk Try.prog 61 23 1 24 (.slice none 0 0) := ElemOk.mk' Try.underlying61 (by kernel_rfl) rfl (by decide)
theorem elUss : ElemOk Try.prog 62 22 1 24 (.slice none 0 0) := ElemOk.mk' Try.underlying62 (by kernel_rfl) rfl (by decide)
theorem elFn : ElemOk Try.prog 186 72 2 48 (.agg #[.slice none 0 0, .slice none 0 0]) := ElemOk.mk' Try.underlying186 (by kernel_rfl) rfl (by decide)
theorem elIm : ElemOk Try.prog 187 206 13 120 (.agg #[.string ⟨#[]⟩, .string ⟨#[]⟩, .int .i64 0, .int .i64 0, .int .i64 0, .int .i64 0, .int .i64 0, .bool false, .int .i64 0, .int .i64 0, .bool false, .int .i64 0, .bool false]) := ElemOk.mk' Try.underlying187 (by kernel_rfl) rfl (by decide)
theorem elTb : ElemOk Try.prog 189 161 4 32 (.agg #[.int .i64 0, .int .i64 0, .int .i64 0, .bool false]) := ElemOk.mk' Try.underlying189 (by kernel_rfl) rfl (by decide)
theorem elLim : ElemOk Try.prog 190 86 3 24 (.agg #[.int .i64 0, .int .i64 0, .bool false]) := ElemOk.mk' Try.underlying190 (by kernel_rfl) rfl (by decide)
theorem elEx : ElemOk Try.prog 192 213 3 32 (.agg #[.string ⟨#[]⟩, .int .i64 0, .int .i64 0]) := ElemOk.mk' Try.underlying192 (by kernel_rfl) rfl (by decide)
theorem elIns : ElemOk Try.prog 207 225 9 104 (.agg #[.int .i64 0, .int .i64 0, .int .i64 0, .int .u64 0, .int .i64 0, .int .i64 0, .int .i64 0, .slice none 0 0, .slice none 0 0]) := ElemOk.mk' Try.underlying207 (by kernel_rfl) rfl (by decide)
theorem elCd : ElemOk Try.prog 188 209 3 56 (.agg #[.int .i64 0, .slice none 0 0, .slice none 0 0]) := ElemOk.mk' Try.underlying188 (by kernel_rfl) rfl (by decide)
theorem elGd : ElemOk Try.prog 191 211 3 40 (.agg #[.int .i64 0, .bool false, .slice none 0 0]) := ElemOk.mk' Try.underlying191 (by kernel_rfl) rfl (by decide)
theorem elEl : ElemOk Try.prog 193 216 5 72 (.agg #[.int .i64 0, .int .i64 0, .slice none 0 0, .int .i64 0, .slice none 0 0]) := ElemOk.mk' Try.underlying193 (by kernel_rfl) rfl (by decide)
theorem elInss : ElemOk Try.prog 214 207 1 24 (.slice none 0 0) := ElemOk.mk' Try.underlying214 (by kernel_rfl) rfl (by decide)
theorem elDa : ElemOk Try.prog 194 218 4 64 (.agg #[.int .i64 0, .int .i64 0, .slice none 0 0, .slice none 0 0]) := ElemOk.mk' Try.underlying194 (by kernel_rfl) rfl (by decide)
theorem elCu : ElemOk Try.prog 195 220 3 48 (.agg #[.int .i64 0, .string ⟨#[]⟩, .slice none 0 0]) := ElemOk.mk' Try.underlying195 (by kernel_rfl) rfl (by decide)
set_option maxHeartbeats 1600000 in
theorem cloneU_any (A : Option Addr) (c : Nat) (l : List Int) (S : Nat → Prop) (w : World) (h : tU.els w S A l) (hS : ∀ k, S k → k < w.heap.size) (hl : l.length * 8 ≤ 140737488351232) :
    Calls Try.prog 21 #[.slice A l.length c] w (ClonedTo tU 54 S l w) := by
  cases A with
  | none =>
    have hn : l = [] := by
      rcases h with h | ⟨b, o, e, _⟩
      · exact h
      · cases e
    subst hn
    have he := fun W => Lib.run_eql_slice_nil (P := Try.prog) W 22 _ none 0 c 0 0 Try.underlying22
    go_enter Try.func21, Try.ntmps21
    go_wp2
    go_ret
    exact ⟨none, 0, rfl, Ty.row.nil _ _ _ _, Fr.refl No w⟩
  | some ad =>
    obtain ⟨css, hcs, hrd⟩ := els_rd h hS
    have F0 := hid ((Fr.refl No w).alloc (.cells #[] 54))
    have R0 := hid (Ty.row.lit (t := tU) (S := S) (base := w.heap.size) (css := []) (xs := []) (Blk.new w 54 #[]) (Nat.le_refl _) Css.nil (by decide))
    have HC := hid (hcs.fr F0.out (fun k hk => ⟨hS k hk, fun x => x⟩))
    have HR := hid (hrd.fr F0.out (fun _ _ x => x))
    have HS := hid hS
    clear h hcs hrd hS
    obtain ⟨n, hn⟩ : ∃ n, l.length = n := ⟨_, rfl⟩
    have HN := hid hn
    rw [hn] at hl ⊢
    clear hn
    have he := fun W => Lib.run_eql_slice_nil (P := Try.prog) W 22 _ (some ad) n c 0 0 Try.underlying22
    go_enter Try.func21, Try.ntmps21
    go_wp2_with (at_builtin; refine wpList_appC (t := tU) (base := w.heap.size) (S := S) (xs := []) (ys := l) (dss := css) (B2 := w.heap.size) elU64 rfl rfl rfl rfl R0.out HC.out HR.out HN.out (by simp; omega) (by simp; omega) (fun k hk => ⟨Nat.lt_of_lt_of_le (HS.out k hk) F0.out.size, fun e => by have := HS.out k hk; have e2 := Option.some.inj (show some k = some w.heap.size from e); omega⟩) F0.out.size ?_; intro v1 w2 hr1 fr1 hv1; have F2 := hid (own_frame R0.out F0.out fr1 (Nat.le_refl _)); have R1 := hid hr1; clear hr1 fr1 hv1)
    obtain ⟨A1, k1, e1, _, _, _⟩ := R1.out.els (S' := fun _ => True) (fun _ _ => trivial) (fun _ _ => trivial)
    subst e1
    go_ret
    rw [← HN.out]
    refine ⟨A1, k1, rfl, ?_, F2.out⟩
    have := R1.out
    simpa [HN.out] using this
set_option maxHeartbeats 1600000 in
theorem cloneB_any (A : Option Addr) (c : Nat) (l : List Int) (S : Nat → Prop) (w : World) (h : tB.els w S A l) (hS : ∀ k, S k → k < w.heap.size) (hl : l.length * 1 ≤ 140737488351232) :
    Calls Try.prog 23 #[.slice A l.length c] w (ClonedTo tB 5 S l w) := by
  cases A with
  | none =>
    have hn : l = [] := by
      rcases h with h | ⟨b, o, e, _⟩
      · exact h
      · cases e
    subst hn
    have he := fun W => Lib.run_eql_slice_nil (P := Try.prog) W 23 _ none 0 c 0 0 Try.underlying23
    go_enter Try.func23, Try.ntmps23
    go_wp2
    go_ret
    exact ⟨none, 0, rfl, Ty.row.nil _ _ _ _, Fr.refl No w⟩
  | some ad =>
    obtain ⟨css, hcs, hrd⟩ := els_rd h hS
    have F0 := hid ((Fr.refl No w).alloc (.cells #[] 5))
    have R0 := hid (Ty.row.lit (t := tB) (S := S) (base := w.heap.size) (css := []) (xs := []) (Blk.new w 5 #[]) (Nat.le_refl _) Css.nil (by decide))
    have HC := hid (hcs.fr F0.out (fun k hk => ⟨hS k hk, fun x => x⟩))
    have HR := hid (hrd.fr F0.out (fun _ _ x => x))
    have HS := hid hS
    clear h hcs hrd hS
    obtain ⟨n, hn⟩ : ∃ n, l.length = n := ⟨_, rfl⟩
    have HN := hid hn
    rw [hn] at hl ⊢
    clear hn
    have he := fun W => Lib.run_eql_slice_nil (P := Try.prog) W 23 _ (some ad) n c 0 0 Try.underlying23
    go_enter Try.func23, Try.ntmps23
    go_wp2_with (at_builtin; refine wpList_appC (t := tB) (base := w.heap.size) (S := S) (xs := []) (ys := l) (dss := css) (B2 := w.heap.size) elU8 rfl rfl rfl rfl R0.out HC.out HR.out HN.out (by simp; omega) (by simp; omega) (fun k hk => ⟨Nat.lt_of_lt_of_le (HS.out k hk) F0.out.size, fun e => by have := HS.out k hk; have e2 := Option.some.inj (show some k = some w.heap.size from e); omega⟩) F0.out.size ?_; intro v1 w2 hr1 fr1 hv1; have F2 := hid (own_frame R0.out F0.out fr1 (Nat.le_refl _)); have R1 := hid hr1; clear hr1 fr1 hv1)
    obtain ⟨A1, k1, e1, _, _, _⟩ := R1.out.els (S' := fun _ => True) (fun _ _ => trivial) (fun _ _ => trivial)
    subst e1
    go_ret
    rw [← HN.out]
    refine ⟨A1, k1, rfl, ?_, F2.out⟩
    have := R1.out
    simpa [HN.out] using this
set_option maxHeartbeats 1600000 in
theorem cloneVl_any (A : Option Addr) (c : Nat) (l : List Vl) (S : Nat → Prop) (w : World) (h : tVl.els w S A l) (hS : ∀ k, S k → k < w.heap.size) (hl : l.length * 16 ≤ 140737488351232) :
    Calls Try.prog 38 #[.slice A l.length c] w (ClonedTo tVl 80 S l w) := by
  cases A with
  | none =>
    have hn : l = [] := by
      rcases h with h | ⟨b, o, e, _⟩
      · exact h
      · cases e
    subst hn
    have he := fun W => Lib.run_eql_slice_nil (P := Try.prog) W 63 _ none 0 c 0 0 Try.underlying63
    go_enter Try.func38, Try.ntmps38
    go_wp2
    go_ret
    exact ⟨none, 0, rfl, Ty.row.nil _ _ _ _, Fr.refl No w⟩
  | some ad =>
    obtain ⟨css, hcs, hrd⟩ := els_rd h hS
    have F0 := hid ((Fr.refl No w).alloc (.cells #[] 80))
    have R0 := hid (Ty.row.lit (t := tVl) (S := S) (base := w.heap.size) (css := []) (xs := []) (Blk.new w 80 #[]) (Nat.le_refl _) Css.nil (by decide))
    have HC := hid (hcs.fr F0.out (fun k hk => ⟨hS k hk, fun x => x⟩))
    have HR := hid (hrd.fr F0.out (fun _ _ x => x))
    have HS := hid hS
    clear h hcs hrd hS
    obtain ⟨n, hn⟩ : ∃ n, l.length = n := ⟨_, rfl⟩
    have HN := hid hn
    rw [hn] at hl ⊢
    clear hn
    have he := fun W => Lib.run_eql_slice_nil (P := Try.prog) W 63 _ (some ad) n c 0 0 Try.underlying63
    go_enter Try.func38, Try.ntmps38
    go_wp2_with (at_builtin; refine wpList_appC (t := tVl) (base := w.heap.size) (S := S) (xs := []) (ys := l) (dss := css) (B2 := w.heap.size) elVl rfl rfl rfl rfl R0.out HC.out HR.out HN.out (by simp; omega) (by simp; omega) (fun k hk => ⟨Nat.lt_of_lt_of_le (HS.out k hk) F0.out.size, fun e => by have := HS.out k hk; have e2 := Option.some.inj (show some k = some w.heap.size from e); omega⟩) F0.out.size ?_; intro v1 w2 hr1 fr1 hv1; have F2 := hid (own_frame R0.out F0.out fr1 (Nat.le_refl _)); have R1 := hid hr1; clear hr1 fr1 hv1)
    obtain ⟨A1, k1, e1, _, _, _⟩ := R1.out.els (S' := fun _ => True) (fun _ _ => trivial) (fun _ _ => trivial)
    subst e1
    go_ret
    rw [← HN.out]
    refine ⟨A1, k1, rfl, ?_, F2.out⟩
    have := R1.out
    simpa [HN.out] using this
set_option maxHeartbeats 1600000 in
theorem cloneAc_any (A : Option Addr) (c : Nat) (l : List Ac) (S : Nat → Prop) (w : World) (h : tAc.els w S A l) (hS : ∀ k, S k → k < w.heap.size) (hl : l.length * 56 ≤ 140737488351232) :
    Calls Try.prog 57 #[.slice A l.length c] w (ClonedTo tAc 74 S l w) := by
  cases A with
  | none =>
    have hn : l = [] := by
      rcases h with h | ⟨b, o, e, _⟩
      · exact h
      · cases e
    subst hn
    have he := fun W => Lib.run_eql_slice_nil (P := Try.prog) W 75 _ none 0 c 0 0 Try.underlying75
    go_enter Try.func57, Try.ntmps57
    go_wp2
    go_ret
    exact ⟨none, 0, rfl, Ty.row.nil _ _ _ _, Fr.refl No w⟩
  | some ad =>
    obtain ⟨css, hcs, hrd⟩ := els_rd h hS
    have F0 := hid ((Fr.refl No w).alloc (.cells #[] 74))
    have R0 := hid (Ty.row.lit (t := tAc) (S := S) (base := w.heap.size) (css := []) (xs := []) (Blk.new w 74 #[]) (Nat.le_refl _) Css.nil (by decide))
    have HC := hid (hcs.fr F0.out (fun k hk => ⟨hS k hk, fun x => x⟩))
    have HR := hid (hrd.fr F0.out (fun _ _ x => x))
    have HS := hid hS
    clear h hcs hrd hS
    obtain ⟨n, hn⟩ : ∃ n, l.length = n := ⟨_, rfl⟩
    have HN := hid hn
    rw [hn] at hl ⊢
    clear hn
    have he := fun W => Lib.run_eql_slice_nil (P := Try.prog) W 75 _ (some ad) n c 0 0 Try.underlying75
    go_enter Try.func57, Try.ntmps57
    go_wp2_with (at_builtin; refine wpList_appC (t := tAc) (base := w.heap.size) (S := S) (xs := []) (ys := l) (dss := css) (B2 := w.heap.size) elAc rfl rfl rfl rfl R0.out HC.out HR.out HN.out (by simp; omega) (by simp; omega) (fun k hk => ⟨Nat.lt_of_lt_of_le (HS.out k hk) F0.out.size, fun e => by have := HS.out k hk; have e2 := Option.some.inj (show some k = some w.heap.size from e); omega⟩) F0.out.size ?_; intro v1 w2 hr1 fr1 hv1; have F2 := hid (own_frame R0.out F0.out fr1 (Nat.le_refl _)); have R1 := hid hr1; clear hr1 fr1 hv1)
    obtain ⟨A1, k1, e1, _, _, _⟩ := R1.out.els (S' := fun _ => True) (fun _ _ => trivial) (fun _ _ => trivial)
    subst e1
    go_ret
    rw [← HN.out]
    refine ⟨A1, k1, rfl, ?_, F2.out⟩
    have := R1.out
    simpa [HN.out] using this
set_option maxHeartbeats 1600000 in
theorem cloneV_any (A : Option Addr) (c : Nat) (l : List Int) (S : Nat → Prop) (w : World) (h : tI.els w S A l) (hS : ∀ k, S k → k < w.heap.size) (hl : l.length * 8 ≤ 140737488351232) :
    Calls Try.prog 68 #[.slice A l.length c] w (ClonedTo tI 69 S l w) := by
  cases A with
  | none =>
    have hn : l = [] := by
      rcases h with h | ⟨b, o, e, _⟩
      · exact h
      · cases e
    subst hn
    have he := fun W => Lib.run_eql_slice_nil (P := Try.prog) W 70 _ none 0 c 0 0 Try.underlying70
    go_enter Try.func68, Try.ntmps68
    go_wp2
    go_ret
    exact ⟨none, 0, rfl, Ty.row.nil _ _ _ _, Fr.refl No w⟩
  | some ad =>
    obtain ⟨css, hcs, hrd⟩ := els_rd h hS
    have F0 := hid ((Fr.refl No w).alloc (.cells #[] 69))
    have R0 := hid (Ty.row.lit (t := tI) (S := S) (base := w.heap.size) (css := []) (xs := []) (Blk.new w 69 #[]) (Nat.le_refl _) Css.nil (by decide))
    have HC := hid (hcs.fr F0.out (fun k hk => ⟨hS k hk, fun x => x⟩))
    have HR := hid (hrd.fr F0.out (fun _ _ x => x))
    have HS := hid hS
    clear h hcs hrd hS
    obtain ⟨n, hn⟩ : ∃ n, l.length = n := ⟨_, rfl⟩
    have HN := hid hn
    rw [hn] at hl ⊢
    clear hn
    have he := fun W => Lib.run_eql_slice_nil (P := Try.prog) W 70 _ (some ad) n c 0 0 Try.underlying70
    go_enter Try.func68, Try.ntmps68
    go_wp2_with (at_builtin; refine wpList_appC (t := tI) (base := w.heap.size) (S := S) (xs := []) (ys := l) (dss := css) (B2 := w.heap.size) elVals rfl rfl rfl rfl R0.out HC.out HR.out HN.out (by simp; omega) (by simp; omega) (fun k hk => ⟨Nat.lt_of_lt_of_le (HS.out k hk) F0.out.size, fun e => by have := HS.out k hk; have e2 := Option.some.inj (show some k = some w.heap.size from e); omega⟩) F0.out.size ?_; intro v1 w2 hr1 fr1 hv1; have F2 := hid (own_frame R0.out F0.out fr1 (Nat.le_refl _)); have R1 := hid hr1; clear hr1 fr1 hv1)
    obtain ⟨A1, k1, e1, _, _, _⟩ := R1.out.els (S' := fun _ => True) (fun _ _ => trivial) (fun _ _ => trivial)
    subst e1
    go_ret
    rw [← HN.out]
    refine ⟨A1, k1, rfl, ?_, F2.out⟩
    have := R1.out
    simpa [HN.out] using this
set_option maxHeartbeats 1600000 in
theorem cloneCa_any (A : Option Addr) (c : Nat) (l : List Ca) (S : Nat → Prop) (w : World) (h : tCa.els w S A l) (hS : ∀ k, S k → k < w.heap.size) (hl : l.length * 32 ≤ 140737488351232) :
    Calls Try.prog 64 #[.slice A l.length c] w (ClonedTo tCa 93 S l w) := by
  cases A with
  | none =>
    have hn : l = [] := by
      rcases h with h | ⟨b, o, e, _⟩
      · exact h
      · cases e
    subst hn
    have he := fun W => Lib.run_eql_slice_nil (P := Try.prog) W 28 _ none 0 c 0 0 Try.underlying28
    go_enter Try.func64, Try.ntmps64
    go_wp2
    go_ret
    exact ⟨none, 0, rfl, Ty.row.nil _ _ _ _, Fr.refl No w⟩
  | some ad =>
    obtain ⟨css, hcs, hrd⟩ := els_rd h hS
    have F0 := hid ((Fr.refl No w).alloc (.cells #[] 93))
    have R0 := hid (Ty.row.lit (t := tCa) (S := S) (base := w.heap.size) (css := []) (xs := []) (Blk.new w 93 #[]) (Nat.le_refl _) Css.nil (by decide))
    have HC := hid (hcs.fr F0.out (fun k hk => ⟨hS k hk, fun x => x⟩))
    have HR := hid (hrd.fr F0.out (fun _ _ x => x))
    have HS := hid hS
    clear h hcs hrd hS
    obtain ⟨n, hn⟩ : ∃ n, l.length = n := ⟨_, rfl⟩
    have HN := hid hn
    rw [hn] at hl ⊢
    clear hn
    have he := fun W => Lib.run_eql_slice_nil (P := Try.prog) W 28 _ (some ad) n c 0 0 Try.underlying28
    go_enter Try.func64, Try.ntmps64
    go_wp2_with (at_builtin; refine wpList_appC (t := tCa) (base := w.heap.size) (S := S) (xs := []) (ys := l) (dss := css) (B2 := w.heap.size) elCa rfl rfl rfl rfl R0.out HC.out HR.out HN.out (by simp; omega) (by simp; omega) (fun k hk => ⟨Nat.lt_of_lt_of_le (HS.out k hk) F0.out.size, fun e => by have := HS.out k hk; have e2 := Option.some.inj (show some k = some w.heap.size from e); omega⟩) F0.out.size ?_; intro v1 w2 hr1 fr1 hv1; have F2 := hid (own_frame R0.out F0.out fr1 (Nat.le_refl _)); have R1 := hid hr1; clear hr1 fr1 hv1)
    obtain ⟨A1, k1, e1, _, _, _⟩ := R1.out.els (S' := fun _ => True) (fun _ _ => trivial) (fun _ _ => trivial)
    subst e1
    go_ret
    rw [← HN.out]
    refine ⟨A1, k1, rfl, ?_, F2.out⟩
    have := R1.out
    simpa [HN.out] using this
end Go.Proofs.Ytdckghiipijobaa
