/- Contracts of the methods of a table, continued. -/
import Derived.Test.YtndhbamfgihncaaTabB
namespace Go.Proofs.Ytndhbamfgihncaa
open Go.RowKit

section
variable {w : World} {p q c : Nat} {e mn mx : Int} {h : Bool} {xs : List Int}
set_option maxHeartbeats 400000 in
theorem size_any (t : TabAt w p q c e mn mx h xs) :
    Calls Try.prog 17 #[.pointer (some ⟨p, 0, none⟩)] w fun e' w' => e' = .returned (.int .i64 xs.length) ∧ w = w' := by
  go_enter Try.func17, Try.ntmps17
  go_wp2_with (go_at_call 25; refine (list_at _ _ _ t.c4).mono ?_; rintro e w' ⟨rfl, rfl⟩)
  go_ret
  exact ⟨rfl, rfl⟩

def AllOf (xs : List Int) (w : World) (e' : Ending) (w' : World) : Prop :=
  ∃ q c, e' = .returned (.slice (some ⟨q, 0, none⟩) xs.length c) ∧ Own w' q 23 c (Us xs) ∧ w.heap.size ≤ q ∧ Fr No w w'

set_option maxHeartbeats 400000 in
theorem all_any (t : TabAt w p q c e mn mx h xs) :
    Calls Try.prog 13 #[.pointer (some ⟨p, 0, none⟩)] w (AllOf xs w) := by
  go_enter Try.func13, Try.ntmps13
  have hc := clone_any q 0 c w.heap.size (Us xs) w (t.own.rd t.own.lt) (one_Us xs) (by have := t.len; simp; omega)
  rw [len_Us] at hc
  have HC := hid hc
  clear hc
  go_wp2_with (first
    | (go_at_call 25; refine (list_at _ _ _ t.c4).mono ?_; rintro e w' ⟨rfl, rfl⟩)
    | (go_at_call 28; refine HC.out.mono ?_; rintro e w' ⟨q', c', rfl, ho, hq, hf⟩))
  go_ret
  exact ⟨q', c', rfl, ho, hq, hf⟩

theorem there_false {n : Nat} {i m : Int} (hi : ¬ i % 4294967296 + m % 4294967296 ≤ (n : Int)) : thereB n i m = false := by simp only [thereB, decide_eq_false_iff_not]; exact hi
theorem there_true {n : Nat} {i m : Int} (hi : i % 4294967296 + m % 4294967296 ≤ (n : Int)) : thereB n i m = true := by simp only [thereB, decide_eq_true_eq]; exact hi

set_option maxHeartbeats 400000 in
theorem get_no (t : TabAt w p q c e mn mx h xs) (i : Int) (h0 : 0 ≤ i) (hi : ¬ i % 4294967296 < xs.length) :
    Calls Try.prog 19 #[.pointer (some ⟨p, 0, none⟩), .int .u64 i] w fun e' w' => e' = .returned (.tuple #[.int .u64 0, .int .i64 3]) ∧ w = w' := by
  have hb := there_false (n := xs.length) (i := i) (m := 1) (by omega)
  have hl := t.len
  go_enter Try.func19, Try.ntmps19
  go_wp2_with (first
    | (go_at_call 25; refine (list_at _ _ _ t.c4).mono ?_; rintro e w' ⟨rfl, rfl⟩)
    | (go_at_call 26; refine (there_any _ _ _ _ _ _ (by omega) (by omega) (by omega)).mono ?_; rintro e w' ⟨rfl, rfl⟩))
  go_ret2
  exact ⟨rfl, rfl⟩

set_option maxHeartbeats 400000 in
theorem get_yes (t : TabAt w p q c e mn mx h xs) (i : Int) (h0 : 0 ≤ i) (k : Nat) (hk : k < xs.length) (hik : i % 4294967296 = k) :
    Calls Try.prog 19 #[.pointer (some ⟨p, 0, none⟩), .int .u64 i] w fun e' w' => e' = .returned (.tuple #[.int .u64 xs[k], .int .i64 0]) ∧ ∃ n, w' = w.drewN n := by
  have hb := there_true (n := xs.length) (i := i) (m := 1) (by omega)
  have hl := t.len
  have hc := t.own.cell k (by simpa using hk)
  rw [Us_at _ _ hk] at hc
  have h4 := t.c4
  have hk' : (k : Int) < xs.length := by omega
  have k0 : (0 : Int) ≤ k := by omega
  go_enter Try.func19, Try.ntmps19
  go_wp2_with (first
    | (go_at_call 25; refine (list_at _ _ _ t.c4).mono ?_; rintro e w' ⟨rfl, rfl⟩)
    | (go_at_call 26; refine (there_any _ _ _ _ _ _ (by omega) (by omega) (by omega)).mono ?_; rintro e w' ⟨rfl, rfl⟩))
  go_quiet ((go_at_call 27; exact Calls.quiet_of_same ((low_any _ _ (by omega)).mono (fun e w' ⟨h1, h2⟩ => ⟨h1, h2.symm⟩))))
  go_wp2
  go_ret2
  exact ⟨rfl, _, rfl⟩

set_option maxHeartbeats 400000 in
theorem set_no (t : TabAt w p q c e mn mx h xs) (i x : Int) (h0 : 0 ≤ i) (hi : ¬ i % 4294967296 < xs.length) :
    Calls Try.prog 18 #[.pointer (some ⟨p, 0, none⟩), .int .u64 i, .int .u64 x] w fun e' w' => e' = .returned (.int .i64 3) ∧ w = w' := by
  have hb := there_false (n := xs.length) (i := i) (m := 1) (by omega)
  have hl := t.len
  go_enter Try.func18, Try.ntmps18
  go_wp2_with (first
    | (go_at_call 25; refine (list_at _ _ _ t.c4).mono ?_; rintro e w' ⟨rfl, rfl⟩)
    | (go_at_call 26; refine (there_any _ _ _ _ _ _ (by omega) (by omega) (by omega)).mono ?_; rintro e w' ⟨rfl, rfl⟩))
  go_ret
  exact ⟨rfl, rfl⟩

set_option maxHeartbeats 400000 in
theorem set_yes (t : TabAt w p q c e mn mx h xs) (i x : Int) (h0 : 0 ≤ i) (k : Nat) (hk : k < xs.length) (hik : i % 4294967296 = k) :
    Calls Try.prog 18 #[.pointer (some ⟨p, 0, none⟩), .int .u64 i, .int .u64 x] w fun e' w' => e' = .returned (.int .i64 0) ∧ TabAt w' p q c e mn mx h (xs.set k x) ∧ Fr (One q) w w' := by
  have hb := there_true (n := xs.length) (i := i) (m := 1) (by omega)
  have hl := t.len
  have hc := t.own.cell k (by simpa using hk)
  have hz := t.own.frozen k
  rw [Us_at _ _ hk] at hc
  have h4 := t.c4
  have hne : q ≠ p := fun h => t.ne h.symm
  have hk' : (k : Int) < xs.length := by omega
  have k0 : (0 : Int) ≤ k := by omega
  go_enter Try.func18, Try.ntmps18
  go_wp2_with (first
    | (go_at_call 25; refine (list_at _ _ _ t.c4).mono ?_; rintro e w' ⟨rfl, rfl⟩)
    | (go_at_call 26; refine (there_any _ _ _ _ _ _ (by omega) (by omega) (by omega)).mono ?_; rintro e w' ⟨rfl, rfl⟩))
  go_region_held3 (fun W => W.cell? ⟨p, 4, none⟩ = some (.slice (some ⟨q, 0, none⟩) xs.length c)) (go_keep) (first | (go_at_call 27; refine (low_any _ _ (by omega)).mono ?_; rintro e w' ⟨rfl, rfl⟩))
  go_wp2
  go_ret
  refine ⟨rfl, ?_, ((Fr.refl (One q) w).setCell ⟨q, k, none⟩ (.int .u64 x) (fun _ => rfl)).drew⟩
  refine ⟨t.ne, ?_, ?_, by simpa using hl, t.lim⟩
  · rw [List.length_set]; exact (t.blk.far (p := ⟨q, k, none⟩) t.ne _).drew
  · have := (t.own.set_ k (.int .u64 x)).fr ((Fr.refl No _).drew) (fun x => x)
    simpa [Us] using this
end
end Go.Proofs.Ytndhbamfgihncaa
