/- Merged: SbA SbB SbC SbD SbE SbF. -/
import Derived.Test.YtdckghiipijobaaGreatGm
import Derived.WalkKit
import Derived.WalkSpells
import Derived.WalkLawsBesides
import Derived.Deep.QuietTactic
import Derived.BigQuiet
import Derived.RegionTactic
import Derived.ChangeAlike
import Derived.Deep.RegionHeld3
import Derived.Test.YtdckghiipijobaaGreatList

namespace Go.Proofs.YtdckghiipijobaaGreat
open Go.RowKit

theorem bcell {W w1 : World} (hb : Below W.heap.size W w1) : (∀ b o, b < W.heap.size → w1.cell? ⟨b, o, none⟩ = W.cell? ⟨b, o, none⟩) ∧ (∀ b o, b < W.heap.size → w1.frozen? ⟨b, o, none⟩ = W.frozen? ⟨b, o, none⟩) :=
  ⟨fun b o h => hb.cell (p := ⟨b, o, none⟩) h, fun b o h => hb.frozen (p := ⟨b, o, none⟩) h⟩

set_option maxHeartbeats 400000 in
theorem tlow_any (n : Int) (w : World) (_h0 : 0 ≤ n) :
    Calls Tryz.prog 198 #[.int .u64 n] w fun e w' => e = .returned (.int .u64 (n % 4294967296)) ∧ w = w' := by
  go_enter Tryz.func198, Tryz.ntmps198
  go_wp2
  go_ret
  exact ⟨rfl, rfl⟩

def thereB (len : Nat) (f n : Int) : Bool := decide (f % 4294967296 + n % 4294967296 ≤ (len : Int))

set_option maxHeartbeats 400000 in
theorem tthere_any (A : Option Addr) (len c : Nat) (f n : Int) (w : World) (hl : len ≤ 9223372036854775807) (h0 : 0 ≤ f) (h1 : 0 ≤ n) :
    Calls Tryz.prog 208 #[.slice A len c, .int .u64 f, .int .u64 n] w fun e w' => e = .returned (.bool (thereB len f n)) ∧ w = w' := by
  go_enter Tryz.func208, Tryz.ntmps208
  go_wp2_with (go_at_call 198; refine (tlow_any _ _ (by omega)).mono ?_; rintro e w' ⟨rfl, rfl⟩)
  go_ret
  refine ⟨ret_bool ?_, rfl⟩
  rfl

set_option maxHeartbeats 400000 in
theorem list_nil (w : World) :
    Calls Tryz.prog 152 #[.pointer none] w fun e w' => e = .returned (.slice none 0 0) ∧ w = w' := by
  go_enter Tryz.func152, Tryz.ntmps152
  go_wp2
  go_ret
  exact ⟨rfl, rfl⟩

set_option maxHeartbeats 400000 in
theorem list_at (b : Nat) (w : World) (v : Value) (h : w.cell? ⟨b, 4, none⟩ = some v) :
    Calls Tryz.prog 152 #[.pointer (some ⟨b, 0, none⟩)] w fun e w' => e = .returned v ∧ w = w' := by
  go_enter Tryz.func152, Tryz.ntmps152
  go_wp2
  go_ret
  exact ⟨rfl, rfl⟩

def refB (e : Int) : Bool := e == 3 || e == 4
def limB (mn mx : Int) (h : Bool) (most : Int) : Bool :=
  if mn < 0 ∨ most < mn then false else if h then decide (mn ≤ mx) && decide (mx ≤ most) else mx == 0
def tabB (e mn mx : Int) (h : Bool) : Bool := refB e && limB mn mx h 1024

set_option maxHeartbeats 400000 in
theorem tref_any (e : Int) (w : World) :
    Calls Tryz.prog 158 #[.int .i64 e] w fun e' w' => e' = .returned (.bool (refB e)) ∧ w = w' := by
  go_enter Tryz.func158, Tryz.ntmps158
  go_wp2
  all_goals go_ret
  all_goals simp_all [refB]
set_option maxHeartbeats 400000 in
theorem lim_any (mn mx : Int) (h : Bool) (most : Int) (w : World) :
    Calls Tryz.prog 159 #[.agg #[.int .i64 mn, .int .i64 mx, .bool h], .int .i64 most] w fun e' w' => e' = .returned (.bool (limB mn mx h most)) ∧ Below w.heap.size w w' := by
  go_enter Tryz.func159, Tryz.ntmps159
  go_wp2
  all_goals go_ret
  all_goals (refine ⟨ret_bool ?_, (Below.refl _ _).alloc (Nat.le_refl _) _⟩)
  all_goals (first | (simp [limB, *] <;> omega) | (cases h <;> simp_all [limB] <;> omega))

set_option maxHeartbeats 400000 in
theorem table_any (e mn mx : Int) (h : Bool) (w : World) :
    Calls Tryz.prog 74 #[.agg #[.int .i64 e, .int .i64 mn, .int .i64 mx, .bool h]] w fun e' w' => e' = .returned (.bool (tabB e mn mx h)) ∧ Below w.heap.size w w' := by
  cases hr : refB e
  all_goals
    go_enter Tryz.func74, Tryz.ntmps74
    go_wp2_with (first
     | (go_at_call 158; refine (tref_any _ _).mono ?_; rintro e w' ⟨rfl, rfl⟩)
     | (go_at_call 159; refine (lim_any _ _ _ _ _).mono ?_; rintro e w' ⟨rfl, hb⟩))
    go_ret
  · exact ⟨ret_bool (by simp [tabB, hr]), (Below.refl _ _).alloc (Nat.le_refl _) _⟩
  · exact ⟨ret_bool (by simp [tabB, hr]), ((Below.refl _ _).alloc (Nat.le_refl _) _).trans (hb.mono (by simp))⟩

theorem u64s : ElemOk Tryz.prog 58 55 1 8 (.int .u64 0) := ElemOk.mk' Tryz.underlying58 (by kernel_rfl) rfl (by omega)

def Us (xs : List Int) : List Value := xs.map (Value.int .u64)
@[simp] theorem len_Us (xs : List Int) : (Us xs).length = xs.length := by simp [Us]
theorem one_Us (xs : List Int) : ∀ u ∈ Us xs, u.oneCell' = true := by
  intro u hu
  simp only [Us, List.mem_map] at hu
  obtain ⟨a, _, rfl⟩ := hu
  rfl
theorem Us_at (xs : List Int) (k : Nat) (hk : k < xs.length) : (Us xs)[k]'(by simpa using hk) = .int .u64 xs[k] := by simp [Us]

def Cloned (E : TypeId) (xs : List Value) (w : World) (e : Ending) (w' : World) : Prop :=
  ∃ q c, e = .returned (.slice (some ⟨q, 0, none⟩) xs.length c) ∧ Own w' q E c xs ∧ w.heap.size ≤ q ∧ Fr No w w'

set_option maxHeartbeats 400000 in
theorem clone_any (b o c : Nat) (B : Nat) (xs : List Value) (w : World) (hr : Rd w B (some ⟨b, o, none⟩) xs) (h1 : ∀ u ∈ xs, u.oneCell' = true) (hl : xs.length ≤ 1048576) :
    Calls Tryz.prog 83 #[.slice (some ⟨b, o, none⟩) xs.length c] w (Cloned 55 xs w) := by
  go_enter Tryz.func83, Tryz.ntmps83
  have q22 : ∀ (w : World) (a : Option Addr) (n c n' c' : Nat), (binOp .eql 58 (.slice a n c) (.slice none n' c')).run Tryz.prog w = .ok (.bool a.isNone) w := fun w a n c n' c' => Lib.run_eql_slice_nil w _ _ a n c n' c' Tryz.underlying58
  go_wp2_with (at_builtin; refine wpList_app1 c u64s rfl rfl (xs := []) rfl rfl (own_lit w 55 [] (by simp)) (hr.frNo ((Fr.refl No w).alloc _)) rfl h1 (by simp; omega) (by omega) ?_; intro q c' w' hown hf hq)
  go_ret
  refine ⟨q, c', by simp, hown, ?_, ((Fr.refl No w).alloc _).trans hf (by intro i hi h; have : i = w.heap.size := h; omega)⟩
  rcases hq with rfl | rfl <;> simp
end Go.Proofs.YtdckghiipijobaaGreat

namespace Go.Proofs.YtdckghiipijobaaGreat
open Go.RowKit

structure TabAt (w : World) (p q c : Nat) (e mn mx : Int) (h : Bool) (xs : List Int) : Prop where
  ne : p ≠ q
  blk : Blk w p 276 #[.int .i64 e, .int .i64 mn, .int .i64 mx, .bool h, .slice (some ⟨q, 0, none⟩) xs.length c, .bool true]
  own : Own w q 55 c (Us xs)
  len : xs.length ≤ 1024
  lim : h = true → 0 ≤ mx ∧ mx ≤ 1024

section
variable {M : Nat → Prop} {w w' : World} {p q c : Nat} {e mn mx : Int} {h : Bool} {xs : List Int}
theorem TabAt.fr (t : TabAt w p q c e mn mx h xs) (f : Fr M w w') (h1 : ¬ M p) (h2 : ¬ M q) : TabAt w' p q c e mn mx h xs :=
  ⟨t.ne, t.blk.fr f h1, t.own.fr f h2, t.len, t.lim⟩
theorem TabAt.c0 (t : TabAt w p q c e mn mx h xs) : w.cell? ⟨p, 0, none⟩ = some (.int .i64 e) := by rw [t.blk.cell]; rfl
theorem TabAt.c1 (t : TabAt w p q c e mn mx h xs) : w.cell? ⟨p, 1, none⟩ = some (.int .i64 mn) := by rw [t.blk.cell]; rfl
theorem TabAt.c2 (t : TabAt w p q c e mn mx h xs) : w.cell? ⟨p, 2, none⟩ = some (.int .i64 mx) := by rw [t.blk.cell]; rfl
theorem TabAt.c3 (t : TabAt w p q c e mn mx h xs) : w.cell? ⟨p, 3, none⟩ = some (.bool h) := by rw [t.blk.cell]; rfl
theorem TabAt.c4 (t : TabAt w p q c e mn mx h xs) : w.cell? ⟨p, 4, none⟩ = some (.slice (some ⟨q, 0, none⟩) xs.length c) := by rw [t.blk.cell]; rfl
theorem TabAt.c5 (t : TabAt w p q c e mn mx h xs) : w.cell? ⟨p, 5, none⟩ = some (.bool true) := by rw [t.blk.cell]; rfl
theorem TabAt.fz (t : TabAt w p q c e mn mx h xs) : w.frozen? ⟨p, 4, none⟩ = false := t.blk.frozen 4
theorem TabAt.drewN (t : TabAt w p q c e mn mx h xs) (n : Nat) : TabAt (w.drewN n) p q c e mn mx h xs := t.fr (M := No) ((Fr.refl _ _).drewN n) (fun x => x) (fun x => x)
theorem TabAt.cap (t : TabAt w p q c e mn mx h xs) : xs.length ≤ c := by obtain ⟨_, _, h, _⟩ := t.own.cur; simpa using h
end

theorem tabB_lim {e mn mx : Int} {h : Bool} (hk : tabB e mn mx h = true) : 0 ≤ mn ∧ mn ≤ 1024 ∧ (h = true → mn ≤ mx ∧ mx ≤ 1024) := by
  simp only [tabB, limB, Bool.and_eq_true] at hk
  obtain ⟨_, hk⟩ := hk
  split at hk
  · cases hk
  · refine ⟨by omega, by omega, fun hh => ?_⟩
    subst hh
    simpa using hk

def NewYes (e mn mx : Int) (h : Bool) (w : World) (e' : Ending) (w' : World) : Prop :=
  ∃ p q, e' = .returned (.pointer (some ⟨p, 0, none⟩)) ∧ TabAt w' p q mn.toNat e mn mx h (List.replicate mn.toNat 0) ∧ w.heap.size ≤ p ∧ w.heap.size ≤ q ∧ Fr No w w'

set_option maxHeartbeats 400000 in
theorem new_no (e mn mx : Int) (h : Bool) (w : World) (hk : tabB e mn mx h = false) :
    Calls Tryz.prog 76 #[.agg #[.int .i64 e, .int .i64 mn, .int .i64 mx, .bool h]] w fun e' w' => e' = .returned (.pointer none) ∧ Fr No w w' := by
  go_enter Tryz.func76, Tryz.ntmps76
  go_wp2_with (first
   | (go_at_call 74; refine (table_any _ _ _ _ _).mono ?_; rintro e w' ⟨rfl, hb⟩))
  go_ret
  exact ⟨rfl, ((Fr.refl No w).alloc _).trans (Fr.of_below (M := No) hb) (fun _ _ x => x)⟩

set_option maxHeartbeats 400000 in
theorem new_yes (e mn mx : Int) (h : Bool) (w : World) (hk : tabB e mn mx h = true) :
    Calls Tryz.prog 76 #[.agg #[.int .i64 e, .int .i64 mn, .int .i64 mx, .bool h]] w (NewYes e mn mx h w) := by
  obtain ⟨h0, h1, h2⟩ := tabB_lim hk
  obtain ⟨n, rfl⟩ := Int.eq_ofNat_of_zero_le h0
  have hmk := fun (W : World) => run_mk u64s rfl W .i64 .i64 n (by omega) (by omega)
  have hh : Hid (h = true → (n : Int) ≤ mx ∧ mx ≤ 1024) := h2
  clear h2
  go_enter Tryz.func76, Tryz.ntmps76
  go_wp2_with (first
   | (go_at_call 74; refine (table_any _ _ _ _ _).mono ?_; rintro e w' ⟨rfl, hb⟩; obtain ⟨hc, hf⟩ := bcell hb))
  have c0 : w'.cell? ⟨w.heap.size, 0, none⟩ = some (.int .i64 e) := by rw [hc _ _ (by simp)]; go_simp
  have c1 : w'.cell? ⟨w.heap.size, 1, none⟩ = some (.int .i64 n) := by rw [hc _ _ (by simp)]; go_simp
  have c2 : w'.cell? ⟨w.heap.size, 2, none⟩ = some (.int .i64 mx) := by rw [hc _ _ (by simp)]; go_simp
  have c3 : w'.cell? ⟨w.heap.size, 3, none⟩ = some (.bool h) := by rw [hc _ _ (by simp)]; go_simp
  clear hc hf
  go_region_held3 (fun W => W.cell? ⟨w.heap.size, 0, none⟩ = some (.int .i64 e) ∧ W.cell? ⟨w.heap.size, 1, none⟩ = some (.int .i64 n) ∧ W.cell? ⟨w.heap.size, 2, none⟩ = some (.int .i64 mx) ∧ W.cell? ⟨w.heap.size, 3, none⟩ = some (.bool h)) (go_keep) (fail)
  go_wp2
  go_ret
  refine ⟨w'.heap.size + 1, w'.heap.size, rfl, ⟨by omega, ?_, ?_, by simp; omega, fun hh' => ?_⟩, ?_, ?_, ?_⟩
  · have := (Blk.new1 w' (Obj.cells (Array.replicate n (Value.int IntKind.u64 0)) 55) 276 #[Value.int IntKind.i64 e, Value.int IntKind.i64 ↑n, Value.int IntKind.i64 mx, Value.bool h, Value.slice (some { block := w'.heap.size, off := 0 }) n n, Value.bool true]).drew
    simpa using this
  · have := (own_mk w' 55 (.int .u64 0) n (by omega)).fr (((Fr.refl No _).alloc (Obj.cells
            #[Value.int IntKind.i64 e, Value.int IntKind.i64 ↑n, Value.int IntKind.i64 mx, Value.bool h,
              Value.slice (some { block := w'.heap.size, off := 0 }) n n, Value.bool true]
            276)).drew) (fun x => x)
    simpa [Us] using this
  · have := hh.out hh'; omega
  · have := hb.size; simp at this; omega
  · have := hb.size; simp at this; omega
  · exact ((((Fr.refl No w).alloc _).trans (Fr.of_below (M := No) hb) (fun _ _ x => x)).alloc _).alloc _ |>.drew
end Go.Proofs.YtdckghiipijobaaGreat

namespace Go.Proofs.YtdckghiipijobaaGreat
open Go.RowKit

section
variable {w : World} {p q c : Nat} {e mn mx : Int} {h : Bool} {xs : List Int}
set_option maxHeartbeats 400000 in
theorem size_any (t : TabAt w p q c e mn mx h xs) :
    Calls Tryz.prog 62 #[.pointer (some ⟨p, 0, none⟩)] w fun e' w' => e' = .returned (.int .i64 xs.length) ∧ w = w' := by
  go_enter Tryz.func62, Tryz.ntmps62
  go_wp2_with (go_at_call 152; refine (list_at _ _ _ t.c4).mono ?_; rintro e w' ⟨rfl, rfl⟩)
  go_ret
  exact ⟨rfl, rfl⟩

def AllOf (xs : List Int) (w : World) (e' : Ending) (w' : World) : Prop :=
  ∃ q c, e' = .returned (.slice (some ⟨q, 0, none⟩) xs.length c) ∧ Own w' q 55 c (Us xs) ∧ w.heap.size ≤ q ∧ Fr No w w'

set_option maxHeartbeats 400000 in
theorem tall_any (t : TabAt w p q c e mn mx h xs) :
    Calls Tryz.prog 68 #[.pointer (some ⟨p, 0, none⟩)] w (AllOf xs w) := by
  go_enter Tryz.func68, Tryz.ntmps68
  have hc := clone_any q 0 c w.heap.size (Us xs) w (t.own.rd t.own.lt) (one_Us xs) (by have := t.len; simp; omega)
  rw [len_Us] at hc
  have HC := hid hc
  clear hc
  go_wp2_with (first
    | (go_at_call 152; refine (list_at _ _ _ t.c4).mono ?_; rintro e w' ⟨rfl, rfl⟩)
    | (go_at_call 83; refine HC.out.mono ?_; rintro e w' ⟨q', c', rfl, ho, hq, hf⟩))
  go_ret
  exact ⟨q', c', rfl, ho, hq, hf⟩

theorem there_false {n : Nat} {i m : Int} (hi : ¬ i % 4294967296 + m % 4294967296 ≤ (n : Int)) : thereB n i m = false := by simp only [thereB, decide_eq_false_iff_not]; exact hi
theorem there_true {n : Nat} {i m : Int} (hi : i % 4294967296 + m % 4294967296 ≤ (n : Int)) : thereB n i m = true := by simp only [thereB, decide_eq_true_eq]; exact hi

end
end Go.Proofs.YtdckghiipijobaaGreat

namespace Go.Proofs.YtdckghiipijobaaGreat
open Go.RowKit

section
variable {w : World} {p q c : Nat} {e mn mx : Int} {h : Bool} {xs : List Int}

def Fits (n m : Nat) (tz at_ k : Int) : Prop := tz % 4294967296 + k % 4294967296 ≤ (n : Int) ∧ at_ % 4294967296 + k % 4294967296 ≤ (m : Int)

set_option maxHeartbeats 400000 in
theorem init_no (t : TabAt w p q c e mn mx h xs) (A : Option Addr) (m cl : Nat) (tz at_ k : Int) (h0 : 0 ≤ tz) (h1 : 0 ≤ at_) (h2 : 0 ≤ k) (hm : m ≤ 1048576) (hi : ¬ Fits xs.length m tz at_ k) :
    Calls Tryz.prog 199 #[.pointer (some ⟨p, 0, none⟩), .slice A m cl, .int .u64 tz, .int .u64 at_, .int .u64 k] w fun e' w' => e' = .returned (.int .i64 3) ∧ w = w' := by
  have hl := t.len
  by_cases hf : tz % 4294967296 + k % 4294967296 ≤ (xs.length : Int)
  · have hb := there_true hf
    have hb2 := there_false (n := m) (i := at_) (m := k) (fun hx => hi ⟨hf, hx⟩)
    clear hi hf
    go_enter Tryz.func199, Tryz.ntmps199
    go_wp2_with (first
      | (go_at_call 152; refine (list_at _ _ _ t.c4).mono ?_; rintro e w' ⟨rfl, rfl⟩)
      | (go_at_call 208; refine (tthere_any _ _ _ _ _ _ (by omega) (by omega) (by omega)).mono ?_; rintro e w' ⟨rfl, rfl⟩))
    go_ret
    exact ⟨rfl, rfl⟩
  · have hb := there_false hf
    clear hi hf
    go_enter Tryz.func199, Tryz.ntmps199
    go_wp2_with (first
      | (go_at_call 152; refine (list_at _ _ _ t.c4).mono ?_; rintro e w' ⟨rfl, rfl⟩)
      | (go_at_call 208; refine (tthere_any _ _ _ _ _ _ (by omega) (by omega) (by omega)).mono ?_; rintro e w' ⟨rfl, rfl⟩))
    go_ret
    exact ⟨rfl, rfl⟩

set_option maxHeartbeats 400000 in
theorem init_zero (t : TabAt w p q c e mn mx h xs) (A : Option Addr) (m cl : Nat) (tz at_ k : Int) (h0 : 0 ≤ tz) (h1 : 0 ≤ at_) (h2 : 0 ≤ k) (hm : m ≤ 1048576) (hi : Fits xs.length m tz at_ k) (hk : k % 4294967296 = 0) :
    Calls Tryz.prog 199 #[.pointer (some ⟨p, 0, none⟩), .slice A m cl, .int .u64 tz, .int .u64 at_, .int .u64 k] w fun e' w' => e' = .returned (.int .i64 0) ∧ w = w' := by
  have hl := t.len
  have hb := there_true hi.1
  have hb2 := there_true hi.2
  clear hi
  go_enter Tryz.func199, Tryz.ntmps199
  go_wp2_with (first
      | (go_at_call 152; refine (list_at _ _ _ t.c4).mono ?_; rintro e w' ⟨rfl, rfl⟩)
      | (go_at_call 198; refine (tlow_any _ _ (by omega)).mono ?_; rintro e w' ⟨rfl, rfl⟩)
      | (go_at_call 208; refine (tthere_any _ _ _ _ _ _ (by omega) (by omega) (by omega)).mono ?_; rintro e w' ⟨rfl, rfl⟩))
  go_ret
  exact ⟨rfl, rfl⟩

set_option maxHeartbeats 800000 in
theorem init_pos (t : TabAt w p q c e mn mx h xs) (A : Option Addr) (ys : List Int) (B cl T U N : Nat) (tz at_ k : Int) (h0 : 0 ≤ tz) (h1 : 0 ≤ at_) (h2 : 0 ≤ k) (hm : ys.length ≤ 1048576) (hcl : ys.length ≤ cl)
    (hr : Rd w B A (Us ys)) (eT : tz % 4294967296 = T) (eU : at_ % 4294967296 = U) (eN : k % 4294967296 = N) (hN : 0 < N) (f1 : T + N ≤ xs.length) (f2 : U + N ≤ ys.length) :
    Calls Tryz.prog 199 #[.pointer (some ⟨p, 0, none⟩), .slice A ys.length cl, .int .u64 tz, .int .u64 at_, .int .u64 k] w
      fun e' w' => e' = .returned (.int .i64 0) ∧ TabAt w' p q c e mn mx h (splice xs T ((ys.drop U).take N)) ∧ Fr (One q) w w' := by
  have hl := t.len
  have hb := there_true (n := xs.length) (i := tz) (m := k) (by omega)
  have hb2 := there_true (n := ys.length) (i := at_) (m := k) (by omega)
  have hne : q ≠ p := fun h => t.ne h.symm
  have h4 := t.c4
  have hcap := t.cap
  have hr' : ∃ b o, A = some ⟨b, o, none⟩ ∧ b < B ∧ Rd w B (some ⟨b, o + U, none⟩) (Us ((ys.drop U).take N)) := by
    rcases hr with hx | ⟨b, o, rfl, hb, hc⟩
    · have h' : (Us ys).length = 0 := by rw [hx]; rfl
      rw [len_Us] at h'; omega
    · refine ⟨b, o, rfl, hb, .inr ⟨b, o + U, rfl, hb, fun j u hu => ?_⟩⟩
      have := hc (U + j) u (by
        simp only [Us, List.getElem?_map, List.getElem?_take, List.getElem?_drop] at hu ⊢
        split at hu
        · exact hu
        · simp at hu)
      rwa [← Nat.add_assoc] at this
  obtain ⟨b, o, rfl, hbB, hr2⟩ := hr'
  clear hr
  have hlen : ((ys.drop U).take N).length = N := by simp; omega
  generalize hcs : (ys.drop U).take N = cs at *
  have HR := hid hr2; clear hr2
  have HL := hid hlen; clear hlen hcs
  have i1 : (0 : Int) ≤ T := by omega
  have i2 : (T : Int) ≤ xs.length := by omega
  have i3 : (0 : Int) ≤ U := by omega
  have i4 : (U : Int) + N ≤ cl := by omega
  have i5 : (U : Int) ≤ U + N := by omega
  have i6 : (0 : Int) ≤ U + N := by omega
  have ws : IntKind.u64.wrap ((U : Int) + (N : Int)) = (U : Int) + (N : Int) := IntWalk.u64_in _ (by omega)
  have wt : ((U : Int) + (N : Int)).toNat = U + N := by omega
  have n1 : ¬ c = T := by omega
  have n2 : ¬ cl = U := by omega
  go_enter Tryz.func199, Tryz.ntmps199
  go_wp2_with (first
      | (go_at_call 152; refine (list_at _ _ _ t.c4).mono ?_; rintro e w' ⟨rfl, rfl⟩)
      | (go_at_call 198; refine (tlow_any _ _ (by omega)).mono ?_; rintro e w' ⟨rfl, rfl⟩)
      | (go_at_call 208; refine (tthere_any _ _ _ _ _ _ (by omega) (by omega) (by omega)).mono ?_; rintro e w' ⟨rfl, rfl⟩))
  obtain ⟨w', hrun, ho, hf⟩ := run_cp (E := u64s) w.drew 3 (t.own.fr ((Fr.refl No w).drew) (fun x => x)) T (xs.length - T) (c - T) N (cl - U) HR.out.drew
    (by rw [len_Us, HL.out]; exact (Nat.min_eq_left (by omega)).symm) (by rw [len_Us, len_Us, HL.out]; omega) (one_Us cs)
  have HO := hid ho; clear ho
  have h4' : w'.cell? ⟨p, 4, none⟩ = some (.slice (some ⟨q, 0, none⟩) xs.length c) := (hf.cell (p := ⟨p, 4, none⟩) t.blk.lt (fun h => hne h.symm)).trans h4
  go_region_held3 (fun W => W.cell? ⟨p, 4, none⟩ = some (.slice (some ⟨q, 0, none⟩) xs.length c)) (first | go_keep) (first
      | (go_at_call 198; refine (tlow_any _ _ (by omega)).mono ?_; rintro e w' ⟨rfl, rfl⟩))
  go_wp2
  go_ret
  have hsl : (splice xs T cs).length = xs.length := length_splice _ _ _ (by rw [HL.out]; omega)
  refine ⟨rfl, ⟨t.ne, ?_, ?_, by rw [hsl]; exact hl, t.lim⟩, (Fr.refl (One q) w).drew.trans hf (fun _ _ h => h)⟩
  · rw [hsl]; exact t.blk.drew.fr hf (fun h => hne h.symm)
  · have e1 : Us (splice xs T cs) = splice (Us xs) T (Us cs) := by simp [Us, splice]
    rw [e1]; exact HO.out

instance (n m : Nat) (a b c : Int) : Decidable (Fits n m a b c) := by unfold Fits; infer_instance
def initS (xs ys : List Int) (tz at_ k : Int) : Int × List Int :=
  if Fits xs.length ys.length tz at_ k then (0, splice xs (tz % 4294967296).toNat ((ys.drop (at_ % 4294967296).toNat).take (k % 4294967296).toNat)) else (3, xs)

theorem init_any (t : TabAt w p q c e mn mx h xs) (A : Option Addr) (ys : List Int) (B cl : Nat) (tz at_ k : Int) (h0 : 0 ≤ tz) (h1 : 0 ≤ at_) (h2 : 0 ≤ k) (hm : ys.length ≤ 1048576) (hcl : ys.length ≤ cl)
    (hr : Rd w B A (Us ys)) :
    Calls Tryz.prog 199 #[.pointer (some ⟨p, 0, none⟩), .slice A ys.length cl, .int .u64 tz, .int .u64 at_, .int .u64 k] w
      fun e' w' => e' = .returned (.int .i64 (initS xs ys tz at_ k).1) ∧ TabAt w' p q c e mn mx h (initS xs ys tz at_ k).2 ∧ Fr (One q) w w' := by
  unfold initS
  by_cases hf : Fits xs.length ys.length tz at_ k
  · simp only [if_pos hf]
    by_cases hk : k % 4294967296 = 0
    · refine (init_zero t A _ cl tz at_ k h0 h1 h2 hm hf hk).mono ?_
      rintro e w' ⟨rfl, rfl⟩
      refine ⟨rfl, ?_, Fr.refl _ _⟩
      have : splice xs (tz % 4294967296).toNat ((ys.drop (at_ % 4294967296).toNat).take (k % 4294967296).toNat) = xs := by
        rw [hk]; simp [splice]
      rw [this]; exact t
    · obtain ⟨f1, f2⟩ := hf
      refine (init_pos t A ys B cl (tz % 4294967296).toNat (at_ % 4294967296).toNat (k % 4294967296).toNat tz at_ k h0 h1 h2 hm hcl hr (by omega) (by omega) (by omega) (by omega) (by omega) (by omega)).mono ?_
      rintro e w' ⟨rfl, ht, hfr⟩
      exact ⟨rfl, ht, hfr⟩
  · simp only [if_neg hf]
    refine (init_no t A _ cl tz at_ k h0 h1 h2 hm hf).mono ?_
    rintro e w' ⟨rfl, rfl⟩
    exact ⟨rfl, t, Fr.refl _ _⟩

set_option maxHeartbeats 400000 in
theorem copy_at (t : TabAt w p q c e mn mx h xs) {p2 : Nat} (A : Option Addr) (ys : List Int) (B cl : Nat) (tz at_ k : Int) (h0 : 0 ≤ tz) (h1 : 0 ≤ at_) (h2 : 0 ≤ k) (hm : ys.length ≤ 1048576) (hcl : ys.length ≤ cl)
    (hr : Rd w B A (Us ys)) (h4 : w.cell? ⟨p2, 4, none⟩ = some (.slice A ys.length cl)) :
    Calls Tryz.prog 181 #[.pointer (some ⟨p, 0, none⟩), .pointer (some ⟨p2, 0, none⟩), .int .u64 tz, .int .u64 at_, .int .u64 k] w
      fun e' w' => e' = .returned (.int .i64 (initS xs ys tz at_ k).1) ∧ TabAt w' p q c e mn mx h (initS xs ys tz at_ k).2 ∧ Fr (One q) w w' := by
  have HI := hid (init_any t A ys B cl tz at_ k h0 h1 h2 hm hcl hr)
  go_enter Tryz.func181, Tryz.ntmps181
  go_wp2_with (first
      | (go_at_call 152; refine (list_at _ _ _ h4).mono ?_; rintro e w' ⟨rfl, rfl⟩)
      | (go_at_call 199; refine HI.out.mono ?_; rintro e w' ⟨rfl, hd⟩; have HD := hid hd; clear hd))
  go_ret
  exact ⟨rfl, HD.out⟩

set_option maxHeartbeats 400000 in
theorem copy_nil (t : TabAt w p q c e mn mx h xs) (tz at_ k : Int) (h0 : 0 ≤ tz) (h1 : 0 ≤ at_) (h2 : 0 ≤ k) :
    Calls Tryz.prog 181 #[.pointer (some ⟨p, 0, none⟩), .pointer none, .int .u64 tz, .int .u64 at_, .int .u64 k] w
      fun e' w' => e' = .returned (.int .i64 (initS xs [] tz at_ k).1) ∧ TabAt w' p q c e mn mx h (initS xs [] tz at_ k).2 ∧ Fr (One q) w w' := by
  have HI := hid (init_any t none [] 0 0 tz at_ k h0 h1 h2 (by simp) (by simp) (.inl rfl))
  go_enter Tryz.func181, Tryz.ntmps181
  go_wp2_with (first
      | (go_at_call 152; refine (list_nil _).mono ?_; rintro e w' ⟨rfl, rfl⟩)
      | (go_at_call 199; refine HI.out.mono ?_; rintro e w' ⟨rfl, hd⟩; have HD := hid hd; clear hd))
  go_ret
  exact ⟨rfl, HD.out⟩

def mostS (mx : Int) (h : Bool) : Int := if h then mx else 1024
def GrowTo (p q : Nat) (e mn mx : Int) (h : Bool) (xs : List Int) (w w' : World) : Prop :=
  ∃ q' c', TabAt w' p q' c' e mn mx h xs ∧ Fr (Two p q) w w' ∧ (q' = q ∨ w.heap.size ≤ q')

set_option maxHeartbeats 400000 in
theorem grow_no (t : TabAt w p q c e mn mx h xs) (n x : Int) (h0 : 0 ≤ n) (hi : mostS mx h < xs.length + n % 4294967296) :
    Calls Tryz.prog 180 #[.pointer (some ⟨p, 0, none⟩), .int .u64 n, .int .u64 x] w fun e' w' => e' = .returned (.int .u64 4294967295) ∧ w = w' := by
  have hl := t.len
  have h2 := t.c2
  have h3 := t.c3
  have h4 := t.c4
  have h5 := t.c5
  have hm := t.lim
  cases h
  all_goals
    simp [mostS] at hi
    simp at hm
    go_enter Tryz.func180, Tryz.ntmps180
    go_wp2_with (first
      | (go_at_call 198; refine (tlow_any _ _ (by omega)).mono ?_; rintro e w' ⟨rfl, rfl⟩))
    go_ret
    exact ⟨rfl, rfl⟩

set_option maxHeartbeats 400000 in
theorem grow_yes (t : TabAt w p q c e mn mx h xs) (n x : Int) (N : Nat) (h0 : 0 ≤ n) (eN : n % 4294967296 = N) (hi : xs.length + N ≤ mostS mx h) :
    Calls Tryz.prog 180 #[.pointer (some ⟨p, 0, none⟩), .int .u64 n, .int .u64 x] w fun e' w' => e' = .returned (.int .u64 xs.length) ∧ GrowTo p q e mn mx h (xs ++ List.replicate N x) w w' := by
  have hl := t.len
  have h2 := t.c2
  have h3 := t.c3
  have h4 := t.c4
  have h5 := t.c5
  have hm := t.lim
  have hi' : xs.length + N ≤ 1024 := by
    unfold mostS at hi
    cases h
    · simp at hi; omega
    · simp at hi hm; omega
  have HI := hid hi
  clear hi
  cases h
  all_goals
    simp at hm
    have hi := HI.out
    simp [mostS] at hi
    have hd : decide ((1024 : Int) < (xs.length : Int) + (N : Int)) = false := by simp; omega
    have hd2 : decide (mx < (xs.length : Int) + (N : Int)) = false ∨ True := by right; trivial
    first | (have hd' : decide (mx < (xs.length : Int) + (N : Int)) = false := by simp; omega) | skip
    clear hd2
    go_enter Tryz.func180, Tryz.ntmps180
    go_wp2_with (first
      | (go_at_call 198; refine (tlow_any _ _ (by omega)).mono ?_; rintro e w' ⟨rfl, rfl⟩))
    go_loopw [45] (fun i wr => ∃ k : Nat, k ≤ N ∧ i = .int .u64 k ∧ GrowTo p q e mn mx _ (xs ++ List.replicate k x) w wr) (fun i _ => N - (intOf i).toNat)
    case atStart => exact ⟨0, by omega, rfl, q, c, by simpa using t, Fr.refl _ _, .inl rfl⟩
    case round =>
      obtain ⟨k, hk, rfl, q', c', t', hf, hq⟩ := hrel
      clear h2 h3 h4 h5 hd HI
      by_cases hlt : k < N
      · have hln : (xs ++ List.replicate k x).length < 1024 := by simp; omega
        have hys : ∀ ys, ys = xs ++ List.replicate k x → Hid (ys ++ [x] = xs ++ List.replicate (k + 1) x) := by
          rintro _ rfl; simp [Hid, List.replicate_succ']
        generalize xs ++ List.replicate k x = ys at t' hln hys
        have hy := hys _ rfl
        clear hys
        have h4 := t'.c4
        have hz := t'.fz
        have hne : q' ≠ p := fun h => t'.ne h.symm
        go_wp2_with (at_builtin; refine wpList_push u64s rfl rfl rfl rfl t'.own (len_Us _) rfl (by omega) (by omega) ?_; intro q2 c2 w2 ho2 hf2 hq2; have hz2 := (hf2.frozen (p := ⟨p, 4, none⟩) t'.blk.lt (fun h => hne h.symm)).trans hz; have h42 := (hf2.cell (p := ⟨p, 4, none⟩) t'.blk.lt (fun h => hne h.symm)).trans h4)
        go_roundw
        case rel =>
          have hb2 := t'.blk.fr hf2 (fun h => hne h.symm)
          have hp2 : q2 ≠ p := by have := t'.blk.lt; rcases hq2 with rfl | h <;> omega
          refine ⟨k + 1, by omega, by go_num, q2, c2, ⟨fun h => hp2 h.symm, ?_, ?_, by rw [← hy.out]; simp; omega, t.lim⟩, ?_, ?_⟩
          · have := hb2.set_ 4 (.slice (some ⟨q2, 0, none⟩) (ys.length + 1) c2)
            rw [← hy.out]; simpa using this
          · have := ho2.fr ((Fr.refl (One p) _).setCell ⟨p, 4, none⟩ (.slice (some ⟨q2, 0, none⟩) (ys.length + 1) c2) (fun _ => rfl)) hp2
            rw [← hy.out]; simpa [Us] using this
          · refine (hf.trans hf2 ?_).setCell _ _ (fun _ => .inl rfl)
            intro i hi h
            have h : i = q' := h
            rcases hq with rfl | hq
            · exact .inr h
            · omega
          · have := hf.size
            rcases hq2 with rfl | h2
            · exact hq
            · exact .inr (by omega)
        case measure => simp [intOf]; omega
      · go_wp2
        go_ret
        obtain rfl : k = N := by omega
        exact ⟨rfl, q', c', t', hf, hq⟩
end
end Go.Proofs.YtdckghiipijobaaGreat

namespace Go.Proofs.YtdckghiipijobaaGreat
open Go.RowKit

section
variable {w : World} {p q c : Nat} {e mn mx : Int} {h : Bool} {xs : List Int}

def fillS (xs : List Int) (tz x n : Int) : Int × List Int :=
  if tz % 4294967296 + n % 4294967296 ≤ (xs.length : Int) then (0, splice xs (tz % 4294967296).toNat (List.replicate (n % 4294967296).toNat x)) else (3, xs)

set_option maxHeartbeats 400000 in
theorem type_any (t : TabAt w p q c e mn mx h xs) :
    Calls Tryz.prog 61 #[.pointer (some ⟨p, 0, none⟩)] w fun e' w' => e' = .returned (.agg #[.int .i64 e, .int .i64 mn, .int .i64 mx, .bool h]) ∧ Fr No w w' := by
  have h0 := t.c0
  have h1 := t.c1
  have h2 := t.c2
  have h3 := t.c3
  have hlt := t.blk.lt
  go_enter Tryz.func61, Tryz.ntmps61
  go_wp2
  exact bodyPost_ret (v := .agg #[.int .i64 e, .int .i64 mn, .int .i64 mx, .bool h]) (by simp [results, Tryz.results61, go_sem]) rfl ⟨rfl, (Fr.refl No w).alloc _⟩
end
end Go.Proofs.YtdckghiipijobaaGreat

namespace Go.Proofs.YtdckghiipijobaaGreat
open Go.RowKit

theorem Us_rd {w : World} {B : Nat} {A : Option Addr} {xs : List Int} (h : Rd w B A (Us xs)) (k : Nat) (hk : k < xs.length) : ∃ b o, A = some ⟨b, o, none⟩ ∧ w.cell? ⟨b, o + k, none⟩ = some (.int .u64 xs[k]) := by
  obtain ⟨b, o, h1, _, h2⟩ := h.at_ (k := k) (by simpa using hk)
  rw [Us_at _ _ hk] at h2
  exact ⟨b, o, h1, h2⟩

end Go.Proofs.YtdckghiipijobaaGreat
