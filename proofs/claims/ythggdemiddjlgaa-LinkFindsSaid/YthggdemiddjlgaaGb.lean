/- Merged: SbA SbB SbC SbD SbE SbF. -/
import Derived.Test.YthggdemiddjlgaaGm
import Derived.WalkKit
import Derived.WalkSpells
import Derived.WalkLawsBesides
import Derived.Deep.QuietTactic
import Derived.BigQuiet
import Derived.RegionTactic
import Derived.ChangeAlike
import Derived.Deep.RegionHeld3
import Derived.Test.YthggdemiddjlgaaList

namespace Go.Proofs.Ythggdemiddjlgaa
open Go.RowKit

theorem bcell {W w1 : World} (hb : Below W.heap.size W w1) : (∀ b o, b < W.heap.size → w1.cell? ⟨b, o, none⟩ = W.cell? ⟨b, o, none⟩) ∧ (∀ b o, b < W.heap.size → w1.frozen? ⟨b, o, none⟩ = W.frozen? ⟨b, o, none⟩) :=
  ⟨fun b o h => hb.cell (p := ⟨b, o, none⟩) h, fun b o h => hb.frozen (p := ⟨b, o, none⟩) h⟩

def thereB (len : Nat) (f n : Int) : Bool := decide (f % 4294967296 + n % 4294967296 ≤ (len : Int))

set_option maxHeartbeats 400000 in
theorem list_nil (w : World) :
    Calls Try.prog 57 #[.pointer none] w fun e w' => e = .returned (.slice none 0 0) ∧ w = w' := by
  go_enter Try.func57, Try.ntmps57
  go_wp2
  go_ret
  exact ⟨rfl, rfl⟩

set_option maxHeartbeats 400000 in
theorem list_at (b : Nat) (w : World) (v : Value) (h : w.cell? ⟨b, 4, none⟩ = some v) :
    Calls Try.prog 57 #[.pointer (some ⟨b, 0, none⟩)] w fun e w' => e = .returned v ∧ w = w' := by
  go_enter Try.func57, Try.ntmps57
  go_wp2
  go_ret
  exact ⟨rfl, rfl⟩

def refB (e : Int) : Bool := e == 3 || e == 4
def limB (mn mx : Int) (h : Bool) (most : Int) : Bool :=
  if mn < 0 ∨ most < mn then false else if h then decide (mn ≤ mx) && decide (mx ≤ most) else mx == 0
def tabB (e mn mx : Int) (h : Bool) : Bool := refB e && limB mn mx h 1024

set_option maxHeartbeats 400000 in
theorem tref_any (e : Int) (w : World) :
    Calls Try.prog 48 #[.int .i64 e] w fun e' w' => e' = .returned (.bool (refB e)) ∧ w = w' := by
  go_enter Try.func48, Try.ntmps48
  go_wp2
  all_goals go_ret
  all_goals simp_all [refB]
theorem u64s : ElemOk Try.prog 180 38 1 8 (.int .u64 0) := ElemOk.mk' Try.underlying180 (by kernel_rfl) rfl (by omega)

def Us (xs : List Int) : List Value := xs.map (Value.int .u64)
@[simp] theorem len_Us (xs : List Int) : (Us xs).length = xs.length := by simp [Us]
theorem one_Us (xs : List Int) : ∀ u ∈ Us xs, u.oneCell' = true := by
  intro u hu
  simp only [Us, List.mem_map] at hu
  obtain ⟨a, _, rfl⟩ := hu
  rfl
theorem Us_at (xs : List Int) (k : Nat) (hk : k < xs.length) : (Us xs)[k]'(by simpa using hk) = .int .u64 xs[k] := by simp [Us]

def Cloned (E : TypeId) (xs : List Value) (w : World) (e : Ending) (w' : World) : Prop :=
  ∃ q c, e = .returned (.slice (some ⟨q, 0, none⟩) xs.length c) ∧ Own w' q E c xs ∧ w.heap.size ≤ q ∧ Fr No w w'

end Go.Proofs.Ythggdemiddjlgaa

namespace Go.Proofs.Ythggdemiddjlgaa
open Go.RowKit

structure TabAt (w : World) (p q c : Nat) (e mn mx : Int) (h : Bool) (xs : List Int) : Prop where
  ne : p ≠ q
  blk : Blk w p 182 #[.int .i64 e, .int .i64 mn, .int .i64 mx, .bool h, .slice (some ⟨q, 0, none⟩) xs.length c, .bool true]
  own : Own w q 38 c (Us xs)
  len : xs.length ≤ 1024
  lim : h = true → 0 ≤ mx ∧ mx ≤ 1024

section
variable {M : Nat → Prop} {w w' : World} {p q c : Nat} {e mn mx : Int} {h : Bool} {xs : List Int}
theorem TabAt.fr (t : TabAt w p q c e mn mx h xs) (f : Fr M w w') (h1 : ¬ M p) (h2 : ¬ M q) : TabAt w' p q c e mn mx h xs :=
  ⟨t.ne, t.blk.fr f h1, t.own.fr f h2, t.len, t.lim⟩
theorem TabAt.c0 (t : TabAt w p q c e mn mx h xs) : w.cell? ⟨p, 0, none⟩ = some (.int .i64 e) := by rw [t.blk.cell]; rfl
theorem TabAt.c1 (t : TabAt w p q c e mn mx h xs) : w.cell? ⟨p, 1, none⟩ = some (.int .i64 mn) := by rw [t.blk.cell]; rfl
theorem TabAt.c2 (t : TabAt w p q c e mn mx h xs) : w.cell? ⟨p, 2, none⟩ = some (.int .i64 mx) := by rw [t.blk.cell]; rfl
theorem TabAt.c3 (t : TabAt w p q c e mn mx h xs) : w.cell? ⟨p, 3, none⟩ = some (.bool h) := by rw [t.blk.cell]; rfl
theorem TabAt.c4 (t : TabAt w p q c e mn mx h xs) : w.cell? ⟨p, 4, none⟩ = some (.slice (some ⟨q, 0, none⟩) xs.length c) := by rw [t.blk.cell]; rfl
theorem TabAt.c5 (t : TabAt w p q c e mn mx h xs) : w.cell? ⟨p, 5, none⟩ = some (.bool true) := by rw [t.blk.cell]; rfl
theorem TabAt.fz (t : TabAt w p q c e mn mx h xs) : w.frozen? ⟨p, 4, none⟩ = false := t.blk.frozen 4
theorem TabAt.drewN (t : TabAt w p q c e mn mx h xs) (n : Nat) : TabAt (w.drewN n) p q c e mn mx h xs := t.fr (M := No) ((Fr.refl _ _).drewN n) (fun x => x) (fun x => x)
theorem TabAt.cap (t : TabAt w p q c e mn mx h xs) : xs.length ≤ c := by obtain ⟨_, _, h, _⟩ := t.own.cur; simpa using h
end

theorem tabB_lim {e mn mx : Int} {h : Bool} (hk : tabB e mn mx h = true) : 0 ≤ mn ∧ mn ≤ 1024 ∧ (h = true → mn ≤ mx ∧ mx ≤ 1024) := by
  simp only [tabB, limB, Bool.and_eq_true] at hk
  obtain ⟨_, hk⟩ := hk
  split at hk
  · cases hk
  · refine ⟨by omega, by omega, fun hh => ?_⟩
    subst hh
    simpa using hk

def NewYes (e mn mx : Int) (h : Bool) (w : World) (e' : Ending) (w' : World) : Prop :=
  ∃ p q, e' = .returned (.pointer (some ⟨p, 0, none⟩)) ∧ TabAt w' p q mn.toNat e mn mx h (List.replicate mn.toNat 0) ∧ w.heap.size ≤ p ∧ w.heap.size ≤ q ∧ Fr No w w'

end Go.Proofs.Ythggdemiddjlgaa

namespace Go.Proofs.Ythggdemiddjlgaa
open Go.RowKit

section
variable {w : World} {p q c : Nat} {e mn mx : Int} {h : Bool} {xs : List Int}
set_option maxHeartbeats 400000 in
theorem size_any (t : TabAt w p q c e mn mx h xs) :
    Calls Try.prog 38 #[.pointer (some ⟨p, 0, none⟩)] w fun e' w' => e' = .returned (.int .i64 xs.length) ∧ w = w' := by
  go_enter Try.func38, Try.ntmps38
  go_wp2_with (go_at_call 57; refine (list_at _ _ _ t.c4).mono ?_; rintro e w' ⟨rfl, rfl⟩)
  go_ret
  exact ⟨rfl, rfl⟩

def AllOf (xs : List Int) (w : World) (e' : Ending) (w' : World) : Prop :=
  ∃ q c, e' = .returned (.slice (some ⟨q, 0, none⟩) xs.length c) ∧ Own w' q 38 c (Us xs) ∧ w.heap.size ≤ q ∧ Fr No w w'

theorem there_false {n : Nat} {i m : Int} (hi : ¬ i % 4294967296 + m % 4294967296 ≤ (n : Int)) : thereB n i m = false := by simp only [thereB, decide_eq_false_iff_not]; exact hi
theorem there_true {n : Nat} {i m : Int} (hi : i % 4294967296 + m % 4294967296 ≤ (n : Int)) : thereB n i m = true := by simp only [thereB, decide_eq_true_eq]; exact hi

end
end Go.Proofs.Ythggdemiddjlgaa

namespace Go.Proofs.Ythggdemiddjlgaa
open Go.RowKit

section
variable {w : World} {p q c : Nat} {e mn mx : Int} {h : Bool} {xs : List Int}

def Fits (n m : Nat) (tz at_ k : Int) : Prop := tz % 4294967296 + k % 4294967296 ≤ (n : Int) ∧ at_ % 4294967296 + k % 4294967296 ≤ (m : Int)

instance (n m : Nat) (a b c : Int) : Decidable (Fits n m a b c) := by unfold Fits; infer_instance
def initS (xs ys : List Int) (tz at_ k : Int) : Int × List Int :=
  if Fits xs.length ys.length tz at_ k then (0, splice xs (tz % 4294967296).toNat ((ys.drop (at_ % 4294967296).toNat).take (k % 4294967296).toNat)) else (3, xs)

def mostS (mx : Int) (h : Bool) : Int := if h then mx else 1024
def GrowTo (p q : Nat) (e mn mx : Int) (h : Bool) (xs : List Int) (w w' : World) : Prop :=
  ∃ q' c', TabAt w' p q' c' e mn mx h xs ∧ Fr (Two p q) w w' ∧ (q' = q ∨ w.heap.size ≤ q')

end
end Go.Proofs.Ythggdemiddjlgaa

namespace Go.Proofs.Ythggdemiddjlgaa
open Go.RowKit

section
variable {w : World} {p q c : Nat} {e mn mx : Int} {h : Bool} {xs : List Int}

def fillS (xs : List Int) (tz x n : Int) : Int × List Int :=
  if tz % 4294967296 + n % 4294967296 ≤ (xs.length : Int) then (0, splice xs (tz % 4294967296).toNat (List.replicate (n % 4294967296).toNat x)) else (3, xs)

set_option maxHeartbeats 400000 in
theorem type_any (t : TabAt w p q c e mn mx h xs) :
    Calls Try.prog 36 #[.pointer (some ⟨p, 0, none⟩)] w fun e' w' => e' = .returned (.agg #[.int .i64 e, .int .i64 mn, .int .i64 mx, .bool h]) ∧ Fr No w w' := by
  have h0 := t.c0
  have h1 := t.c1
  have h2 := t.c2
  have h3 := t.c3
  have hlt := t.blk.lt
  go_enter Try.func36, Try.ntmps36
  go_wp2
  exact bodyPost_ret (v := .agg #[.int .i64 e, .int .i64 mn, .int .i64 mx, .bool h]) (by simp [results, Try.results36, go_sem]) rfl ⟨rfl, (Fr.refl No w).alloc _⟩
end
end Go.Proofs.Ythggdemiddjlgaa

namespace Go.Proofs.Ythggdemiddjlgaa
open Go.RowKit

theorem Us_rd {w : World} {B : Nat} {A : Option Addr} {xs : List Int} (h : Rd w B A (Us xs)) (k : Nat) (hk : k < xs.length) : ∃ b o, A = some ⟨b, o, none⟩ ∧ w.cell? ⟨b, o + k, none⟩ = some (.int .u64 xs[k]) := by
  obtain ⟨b, o, h1, _, h2⟩ := h.at_ (k := k) (by simpa using hk)
  rw [Us_at _ _ hk] at h2
  exact ⟨b, o, h1, h2⟩

end Go.Proofs.Ythggdemiddjlgaa
