/- Contract of Fill and Type of a table. -/
import Derived.Test.YtndhbamfgihncaaTabD
import Derived.Test.YtndhbamfgihncaaList
namespace Go.Proofs.Ytndhbamfgihncaa
open Go.RowKit

section
variable {w : World} {p q c : Nat} {e mn mx : Int} {h : Bool} {xs : List Int}

set_option maxHeartbeats 400000 in
theorem fill_no (t : TabAt w p q c e mn mx h xs) (to x k : Int) (h0 : 0 ≤ to) (h2 : 0 ≤ k) (hf : ¬ to % 4294967296 + k % 4294967296 ≤ (xs.length : Int)) :
    Calls Try.prog 24 #[.pointer (some ⟨p, 0, none⟩), .int .u64 to, .int .u64 x, .int .u64 k] w fun e' w' => e' = .returned (.int .i64 3) ∧ w = w' := by
  have hl := t.len
  have hb := there_false hf
  clear hf
  go_enter Try.func24, Try.ntmps24
  go_wp2_with (first
      | (go_at_call 25; refine (list_at _ _ _ t.c4).mono ?_; rintro e w' ⟨rfl, rfl⟩)
      | (go_at_call 26; refine (there_any _ _ _ _ _ _ (by omega) (by omega) (by omega)).mono ?_; rintro e w' ⟨rfl, rfl⟩))
  go_ret
  exact ⟨rfl, rfl⟩

set_option maxHeartbeats 800000 in
theorem fill_yes (t : TabAt w p q c e mn mx h xs) (to x n : Int) (T N : Nat) (h0 : 0 ≤ to) (h2 : 0 ≤ n) (eT : to % 4294967296 = T) (eN : n % 4294967296 = N) (hf : T + N ≤ xs.length) :
    Calls Try.prog 24 #[.pointer (some ⟨p, 0, none⟩), .int .u64 to, .int .u64 x, .int .u64 n] w
      fun e' w' => e' = .returned (.int .i64 0) ∧ TabAt w' p q c e mn mx h (splice xs T (List.replicate N x)) ∧ Fr (One q) w w' := by
  have hl := t.len
  have hb := there_true (n := xs.length) (i := to) (m := n) (by omega)
  have hcap := t.cap
  have hne : q ≠ p := fun h => t.ne h.symm
  go_enter Try.func24, Try.ntmps24
  go_wp2_with (first
      | (go_at_call 25; refine (list_at _ _ _ t.c4).mono ?_; rintro e w' ⟨rfl, rfl⟩)
      | (go_at_call 27; refine (low_any _ _ (by omega)).mono ?_; rintro e w' ⟨rfl, rfl⟩)
      | (go_at_call 26; refine (there_any _ _ _ _ _ _ (by omega) (by omega) (by omega)).mono ?_; rintro e w' ⟨rfl, rfl⟩))
  go_loopw [9, 18] (fun j i wr => ∃ k : Nat, k ≤ N ∧ i = .int .u64 k ∧ TabAt wr p q c e mn mx h (splice xs T (List.replicate k x)) ∧ Fr (One q) w wr) (fun _ i _ => N - (intOf i).toNat)
  case atStart => exact ⟨0, by omega, rfl, by rw [List.replicate_zero, splice_nil]; exact t, Fr.refl _ _⟩
  case round =>
    obtain ⟨k, hk, rfl, t', hfr⟩ := hrel
    by_cases hlt : k < N
    · have hln : (splice xs T (List.replicate k x)).length = xs.length := length_splice _ _ _ (by simp; omega)
      have hys : ∀ ys, ys = splice xs T (List.replicate k x) → Hid (ys.set (T + k) x = splice xs T (List.replicate (k + 1) x)) := by
          rintro _ rfl
          have := splice_set xs (List.replicate k x) T x (by simp; omega)
          rw [List.length_replicate, ← List.replicate_succ'] at this
          exact this
      generalize splice xs T (List.replicate k x) = ys at t' hln hys
      have hy := hys _ rfl
      clear hys
      have h4 := t'.c4
      rw [hln] at h4
      obtain ⟨u, hc⟩ : ∃ u, wr.cell? ⟨q, T + k, none⟩ = some u := ⟨_, t'.own.cell (T + k) (by simp; omega)⟩
      have hz := t'.own.frozen (T + k)
      have hL := hid hln
      clear hln
      have i0 : (0 : Int) ≤ (T : Int) + k := by omega
      have i1 : (T : Int) + k < xs.length := by omega
      have ws : IntKind.u64.wrap ((T : Int) + (k : Int)) = (T : Int) + (k : Int) := IntWalk.u64_in _ (by omega)
      have wt : ((T : Int) + (k : Int)).toNat = T + k := by omega
      go_wp2
      go_region_held3 (fun W => W.cell? ⟨p, 4, none⟩ = some (.slice (some ⟨q, 0, none⟩) xs.length c)) (go_keep) (first
        | (go_at_call 27; refine (low_any _ _ (by omega)).mono ?_; rintro e w' ⟨rfl, rfl⟩))
      go_wp2
      go_roundw
      case rel =>
        refine ⟨k + 1, by omega, by go_num, ?_, (hfr.setCell ⟨q, T + k, none⟩ (.int .u64 x) (fun _ => rfl)).drew⟩
        rw [← hy.out]
        refine ⟨t'.ne, ?_, ?_, by simpa using t'.len, t'.lim⟩
        · rw [List.length_set]; exact (t'.blk.far (p := ⟨q, T + k, none⟩) t'.ne _).drew
        · have := (t'.own.set_ (T + k) (.int .u64 x)).fr ((Fr.refl No _).drew) (fun x => x)
          simpa [Us] using this
      case measure => simp [intOf]; omega
    · go_wp2
      go_ret
      obtain rfl : k = N := by omega
      exact ⟨rfl, t', hfr⟩

def fillS (xs : List Int) (to x n : Int) : Int × List Int :=
  if to % 4294967296 + n % 4294967296 ≤ (xs.length : Int) then (0, splice xs (to % 4294967296).toNat (List.replicate (n % 4294967296).toNat x)) else (3, xs)

theorem fill_any (t : TabAt w p q c e mn mx h xs) (to x n : Int) (h0 : 0 ≤ to) (h2 : 0 ≤ n) :
    Calls Try.prog 24 #[.pointer (some ⟨p, 0, none⟩), .int .u64 to, .int .u64 x, .int .u64 n] w
      fun e' w' => e' = .returned (.int .i64 (fillS xs to x n).1) ∧ TabAt w' p q c e mn mx h (fillS xs to x n).2 ∧ Fr (One q) w w' := by
  unfold fillS
  by_cases hf : to % 4294967296 + n % 4294967296 ≤ (xs.length : Int)
  · simp only [if_pos hf]
    exact fill_yes t to x n _ _ h0 h2 (by omega) (by omega) (by omega)
  · simp only [if_neg hf]
    refine (fill_no t to x n h0 h2 hf).mono ?_
    rintro e w' ⟨rfl, rfl⟩
    exact ⟨rfl, t, Fr.refl _ _⟩

set_option maxHeartbeats 400000 in
theorem type_any (t : TabAt w p q c e mn mx h xs) :
    Calls Try.prog 23 #[.pointer (some ⟨p, 0, none⟩)] w fun e' w' => e' = .returned (.agg #[.int .i64 e, .int .i64 mn, .int .i64 mx, .bool h]) ∧ Fr No w w' := by
  have h0 := t.c0
  have h1 := t.c1
  have h2 := t.c2
  have h3 := t.c3
  have hlt := t.blk.lt
  go_enter Try.func23, Try.ntmps23
  go_wp2
  exact bodyPost_ret (v := .agg #[.int .i64 e, .int .i64 mn, .int .i64 mx, .bool h]) (by simp [results, Try.results23, go_sem]) rfl ⟨rfl, (Fr.refl No w).alloc _⟩
end
end Go.Proofs.Ytndhbamfgihncaa
