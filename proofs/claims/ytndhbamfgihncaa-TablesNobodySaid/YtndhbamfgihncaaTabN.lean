/- Contracts of the methods of a nil table and of a zero table. -/
import Derived.Test.YtndhbamfgihncaaTabG
namespace Go.Proofs.Ytndhbamfgihncaa
open Go.RowKit

/-- pv is nil, or leads to a zero table. -/
def Nobody (w : World) (pv : Value) : Prop :=
  pv = .pointer none ∨ ∃ p, pv = .pointer (some ⟨p, 0, none⟩) ∧ Blk w p 60 #[.int .i64 0, .int .i64 0, .int .i64 0, .bool false, .slice none 0 0, .bool false]
theorem Nobody.fr {w w' : World} {pv : Value} {M : Nat → Prop} (h : Nobody w pv) (f : Fr M w w') (hM : ∀ p, pv = .pointer (some ⟨p, 0, none⟩) → ¬ M p) : Nobody w' pv := by
  rcases h with h | ⟨p, h1, h2⟩
  · exact .inl h
  · exact .inr ⟨p, h1, h2.fr f (hM p h1)⟩

section
variable {w : World} {pv : Value}
theorem nlist (h : Nobody w pv) : Calls Try.prog 25 #[pv] w fun e w' => e = .returned (.slice none 0 0) ∧ w = w' := by
  rcases h with rfl | ⟨p, rfl, hb⟩
  · exact list_nil w
  · exact list_at p w _ (by rw [hb.cell]; rfl)

set_option maxHeartbeats 400000 in
theorem nsize (h : Nobody w pv) : Calls Try.prog 17 #[pv] w fun e w' => e = .returned (.int .i64 0) ∧ w = w' := by
  go_enter Try.func17, Try.ntmps17
  go_wp2_with (go_at_call 25; refine (nlist h).mono ?_; rintro e w' ⟨rfl, rfl⟩)
  go_ret
  exact ⟨rfl, rfl⟩

set_option maxHeartbeats 400000 in
theorem clone_nil (w : World) : Calls Try.prog 28 #[.slice none 0 0] w fun e w' => e = .returned (.slice none 0 0) ∧ w = w' := by
  have q22 : ∀ (w : World) (a : Option Addr) (n c n' c' : Nat), (binOp .eql 22 (.slice a n c) (.slice none n' c')).run Try.prog w = .ok (.bool a.isNone) w := fun w a n c n' c' => Lib.run_eql_slice_nil w _ _ a n c n' c' Try.underlying22
  go_enter Try.func28, Try.ntmps28
  go_wp2
  go_ret
  exact ⟨rfl, rfl⟩

set_option maxHeartbeats 400000 in
theorem nall (h : Nobody w pv) : Calls Try.prog 13 #[pv] w fun e w' => e = .returned (.slice none 0 0) ∧ w = w' := by
  go_enter Try.func13, Try.ntmps13
  go_wp2_with (first
    | (go_at_call 25; refine (nlist h).mono ?_; rintro e w' ⟨rfl, rfl⟩)
    | (go_at_call 28; refine (clone_nil _).mono ?_; rintro e w' ⟨rfl, rfl⟩))
  go_ret
  exact ⟨rfl, rfl⟩

set_option maxHeartbeats 400000 in
theorem nget (h : Nobody w pv) (i : Int) (h0 : 0 ≤ i) :
    Calls Try.prog 19 #[pv, .int .u64 i] w fun e' w' => e' = .returned (.tuple #[.int .u64 0, .int .i64 3]) ∧ w = w' := by
  have hb := there_false (n := 0) (i := i) (m := 1) (by omega)
  go_enter Try.func19, Try.ntmps19
  go_wp2_with (first
    | (go_at_call 25; refine (nlist h).mono ?_; rintro e w' ⟨rfl, rfl⟩)
    | (go_at_call 26; refine (there_any _ _ _ _ _ _ (by omega) (by omega) (by omega)).mono ?_; rintro e w' ⟨rfl, rfl⟩))
  go_ret2
  exact ⟨rfl, rfl⟩

set_option maxHeartbeats 400000 in
theorem nset (h : Nobody w pv) (i x : Int) (h0 : 0 ≤ i) :
    Calls Try.prog 18 #[pv, .int .u64 i, .int .u64 x] w fun e' w' => e' = .returned (.int .i64 3) ∧ w = w' := by
  have hb := there_false (n := 0) (i := i) (m := 1) (by omega)
  go_enter Try.func18, Try.ntmps18
  go_wp2_with (first
    | (go_at_call 25; refine (nlist h).mono ?_; rintro e w' ⟨rfl, rfl⟩)
    | (go_at_call 26; refine (there_any _ _ _ _ _ _ (by omega) (by omega) (by omega)).mono ?_; rintro e w' ⟨rfl, rfl⟩))
  go_ret
  exact ⟨rfl, rfl⟩

set_option maxHeartbeats 400000 in
theorem ngrow (h : Nobody w pv) (n x : Int) :
    Calls Try.prog 16 #[pv, .int .u64 n, .int .u64 x] w fun e' w' => e' = .returned (.int .u64 4294967295) ∧ w = w' := by
  rcases h with rfl | ⟨p, rfl, hb⟩
  · go_enter Try.func16, Try.ntmps16
    go_wp2
    go_ret
    exact ⟨rfl, rfl⟩
  · have h5 : w.cell? ⟨p, 5, none⟩ = some (.bool false) := by rw [hb.cell]; rfl
    go_enter Try.func16, Try.ntmps16
    go_wp2
    go_ret
    exact ⟨rfl, rfl⟩

set_option maxHeartbeats 400000 in
theorem ntype (h : Nobody w pv) :
    Calls Try.prog 23 #[pv] w fun e' w' => e' = .returned (.agg #[.int .i64 0, .int .i64 0, .int .i64 0, .bool false]) ∧ Fr No w w' := by
  rcases h with rfl | ⟨p, rfl, hb⟩
  · go_enter Try.func23, Try.ntmps23
    go_wp2
    exact bodyPost_ret (v := .agg #[.int .i64 0, .int .i64 0, .int .i64 0, .bool false]) (by simp [results, Try.results23, go_sem]) rfl ⟨rfl, (Fr.refl No w).alloc _⟩
  · have hlt := hb.lt
    have b0 : w.cell? ⟨p, 0, none⟩ = some (.int .i64 0) := by rw [hb.cell]; rfl
    have b1 : w.cell? ⟨p, 1, none⟩ = some (.int .i64 0) := by rw [hb.cell]; rfl
    have b2 : w.cell? ⟨p, 2, none⟩ = some (.int .i64 0) := by rw [hb.cell]; rfl
    have b3 : w.cell? ⟨p, 3, none⟩ = some (.bool false) := by rw [hb.cell]; rfl
    go_enter Try.func23, Try.ntmps23
    go_wp2
    exact bodyPost_ret (v := .agg #[.int .i64 0, .int .i64 0, .int .i64 0, .bool false]) (by simp [results, Try.results23, go_sem]) rfl ⟨rfl, (Fr.refl No w).alloc _⟩

def zeroE (b : Bool) : Int := if b then 0 else 3
set_option maxHeartbeats 400000 in
theorem nfill (h : Nobody w pv) (to x n : Int) (h0 : 0 ≤ to) (h1 : 0 ≤ n) :
    Calls Try.prog 24 #[pv, .int .u64 to, .int .u64 x, .int .u64 n] w fun e' w' => e' = .returned (.int .i64 (zeroE (decide (to % 4294967296 + n % 4294967296 ≤ 0)))) ∧ w = w' := by
  by_cases hf : to % 4294967296 + n % 4294967296 ≤ 0
  · have hb := there_true (n := 0) (i := to) (m := n) (by omega)
    have hz : n % 4294967296 = 0 := by omega
    have HF := hid (decide_eq_true hf)
    clear hf
    go_enter Try.func24, Try.ntmps24
    go_wp2_with (first
      | (go_at_call 25; refine (nlist h).mono ?_; rintro e w' ⟨rfl, rfl⟩)
      | (go_at_call 27; refine (low_any _ _ (by omega)).mono ?_; rintro e w' ⟨rfl, rfl⟩)
      | (go_at_call 26; refine (there_any _ _ _ _ _ _ (by omega) (by omega) (by omega)).mono ?_; rintro e w' ⟨rfl, rfl⟩))
    go_loopw [18] (fun i wr => i = .int .u64 0 ∧ wr = w) (fun _ _ => 0)
    case atStart => exact ⟨rfl, rfl⟩
    case round =>
      obtain ⟨rfl, rfl⟩ := hrel
      go_wp2
      go_ret
      exact ⟨by rw [HF.out]; rfl, rfl⟩
  · have hb := there_false (n := 0) (i := to) (m := n) (by omega)
    have HF := hid (decide_eq_false hf)
    clear hf
    go_enter Try.func24, Try.ntmps24
    go_wp2_with (first
      | (go_at_call 25; refine (nlist h).mono ?_; rintro e w' ⟨rfl, rfl⟩)
      | (go_at_call 26; refine (there_any _ _ _ _ _ _ (by omega) (by omega) (by omega)).mono ?_; rintro e w' ⟨rfl, rfl⟩))
    go_ret
    exact ⟨by rw [HF.out]; rfl, rfl⟩

set_option maxHeartbeats 400000 in
theorem ninit (h : Nobody w pv) (A : Option Addr) (m cl : Nat) (to at_ n : Int) (h0 : 0 ≤ to) (h1 : 0 ≤ at_) (h2 : 0 ≤ n) (hm : m ≤ 1048576) :
    Calls Try.prog 11 #[pv, .slice A m cl, .int .u64 to, .int .u64 at_, .int .u64 n] w
      fun e' w' => e' = .returned (.int .i64 (zeroE (decide (to % 4294967296 + n % 4294967296 ≤ 0 ∧ at_ % 4294967296 ≤ (m : Int))))) ∧ w = w' := by
  by_cases hf : to % 4294967296 + n % 4294967296 ≤ 0
  · have hb := there_true (n := 0) (i := to) (m := n) (by omega)
    have hz : n % 4294967296 = 0 := by omega
    have HF := hid hf
    clear hf
    by_cases hg : at_ % 4294967296 ≤ (m : Int)
    · have hb2 := there_true (n := m) (i := at_) (m := n) (by omega)
      have HG := hid (decide_eq_true (And.intro HF.out hg))
      clear hg HF
      go_enter Try.func11, Try.ntmps11
      go_wp2_with (first
        | (go_at_call 25; refine (nlist h).mono ?_; rintro e w' ⟨rfl, rfl⟩)
        | (go_at_call 27; refine (low_any _ _ (by omega)).mono ?_; rintro e w' ⟨rfl, rfl⟩)
        | (go_at_call 26; refine (there_any _ _ _ _ _ _ (by omega) (by omega) (by omega)).mono ?_; rintro e w' ⟨rfl, rfl⟩))
      go_ret
      exact ⟨by rw [HG.out]; rfl, rfl⟩
    · have hb2 := there_false (n := m) (i := at_) (m := n) (by omega)
      have HG := hid (decide_eq_false (fun h : to % 4294967296 + n % 4294967296 ≤ 0 ∧ at_ % 4294967296 ≤ (m : Int) => hg h.2))
      clear hg HF
      go_enter Try.func11, Try.ntmps11
      go_wp2_with (first
        | (go_at_call 25; refine (nlist h).mono ?_; rintro e w' ⟨rfl, rfl⟩)
        | (go_at_call 26; refine (there_any _ _ _ _ _ _ (by omega) (by omega) (by omega)).mono ?_; rintro e w' ⟨rfl, rfl⟩))
      go_ret
      exact ⟨by rw [HG.out]; rfl, rfl⟩
  · have hb := there_false (n := 0) (i := to) (m := n) (by omega)
    have HF := hid (decide_eq_false (fun h : to % 4294967296 + n % 4294967296 ≤ 0 ∧ at_ % 4294967296 ≤ (m : Int) => hf h.1))
    clear hf
    go_enter Try.func11, Try.ntmps11
    go_wp2_with (first
      | (go_at_call 25; refine (nlist h).mono ?_; rintro e w' ⟨rfl, rfl⟩)
      | (go_at_call 26; refine (there_any _ _ _ _ _ _ (by omega) (by omega) (by omega)).mono ?_; rintro e w' ⟨rfl, rfl⟩))
    go_ret
    exact ⟨by rw [HF.out]; rfl, rfl⟩

set_option maxHeartbeats 400000 in
theorem ncopy (h : Nobody w pv) (to at_ n : Int) (h0 : 0 ≤ to) (h1 : 0 ≤ at_) (h2 : 0 ≤ n) :
    Calls Try.prog 10 #[pv, .pointer none, .int .u64 to, .int .u64 at_, .int .u64 n] w
      fun e' w' => e' = .returned (.int .i64 (zeroE (decide (to % 4294967296 + n % 4294967296 ≤ 0 ∧ at_ % 4294967296 ≤ ((0 : Nat) : Int))))) ∧ w = w' := by
  have HI := hid (ninit h none 0 0 to at_ n h0 h1 h2 (by omega))
  generalize decide (to % 4294967296 + n % 4294967296 ≤ 0 ∧ at_ % 4294967296 ≤ ((0 : Nat) : Int)) = bb at *
  go_enter Try.func10, Try.ntmps10
  go_wp2_with (first
      | (go_at_call 25; refine (list_nil _).mono ?_; rintro e w' ⟨rfl, rfl⟩)
      | (go_at_call 11; refine HI.out.mono ?_; rintro e w' ⟨rfl, rfl⟩))
  go_ret
  exact ⟨rfl, rfl⟩
end
end Go.Proofs.Ytndhbamfgihncaa
