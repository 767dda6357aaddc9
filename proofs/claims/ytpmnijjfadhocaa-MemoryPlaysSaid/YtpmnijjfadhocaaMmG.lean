/- Chapter 28: reading methods of a memory. -/
import Derived.Test.YtpmnijjfadhocaaMmF
namespace Go.Proofs.Ytpmnijjfadhocaa
open Go.RowKit

def hasB (n : Nat) (addr off k : Int) : Bool := decide (0 ≤ k ∧ off ≤ n ∧ addr % 4294967296 ≤ n - off ∧ k ≤ n - off - addr % 4294967296)
theorem has_any (p : Nat) (A : Option Addr) (n c : Nat) (addr off k : Int) (w : World) (h3 : w.cell? ⟨p, 3, none⟩ = some (.slice A n c)) (hn : n ≤ 1000000) (ha : 0 ≤ addr ∧ addr < 18446744073709551616) (ho : 0 ≤ off ∧ off < 18446744073709551616) (hk : -9223372036854775808 ≤ k ∧ k ≤ 9223372036854775807) :
    Calls Try.prog 24 #[.pointer (some ⟨p, 0, none⟩), .int .u64 addr, .int .u64 off, .int .i64 k] w fun e w' => e = .returned (.bool (hasB n addr off k)) ∧ w = w' := by
  have hl := hid (low_any addr w ha)
  have hm : 0 ≤ addr % 4294967296 ∧ addr % 4294967296 < 4294967296 := by omega
  unfold hasB
  generalize addr % 4294967296 = a at *
  by_cases h0 : 0 ≤ k
  · by_cases h1 : off ≤ n
    · by_cases h2 : a ≤ n - off
      · by_cases h4 : k ≤ n - off - a
        · go_enter Try.func24, Try.ntmps24
          go_wp2_with fail
          refine hl.out.mono ?_
          rintro e w' ⟨rfl, rfl⟩
          go_wp2
          go_ret
          exact ⟨ret_bool (by rw [Bool.eq_iff_iff]; simp; omega), rfl⟩
        · go_enter Try.func24, Try.ntmps24
          go_wp2_with fail
          refine hl.out.mono ?_
          rintro e w' ⟨rfl, rfl⟩
          go_wp2
          go_ret
          exact ⟨ret_bool (by rw [Bool.eq_iff_iff]; simp; omega), rfl⟩
      · go_enter Try.func24, Try.ntmps24
        go_wp2_with fail
        refine hl.out.mono ?_
        rintro e w' ⟨rfl, rfl⟩
        go_wp2
        go_ret
        exact ⟨ret_bool (by rw [Bool.eq_iff_iff]; simp; omega), rfl⟩
    · go_enter Try.func24, Try.ntmps24
      go_wp2_with fail
      refine hl.out.mono ?_
      rintro e w' ⟨rfl, rfl⟩
      go_wp2
      go_ret
      exact ⟨ret_bool (by rw [Bool.eq_iff_iff]; simp; omega), rfl⟩
  · go_enter Try.func24, Try.ntmps24
    go_wp2
    go_ret
    exact ⟨ret_bool (by rw [Bool.eq_iff_iff]; simp; omega), rfl⟩
theorem has_nil (addr off k : Int) (w : World) :
    Calls Try.prog 24 #[.pointer none, .int .u64 addr, .int .u64 off, .int .i64 k] w fun e w' => e = .returned (.bool false) ∧ w = w' := by
  go_enter Try.func24, Try.ntmps24
  go_wp2
  go_ret
  exact ⟨rfl, rfl⟩
theorem pages_any (p : Nat) (A : Option Addr) (n c : Nat) (w : World) (h3 : w.cell? ⟨p, 3, none⟩ = some (.slice A n c)) (hn : n ≤ 1000000) :
    Calls Try.prog 11 #[.pointer (some ⟨p, 0, none⟩)] w fun e w' => e = .returned (.int .i64 ((n / 256 : Nat) : Int)) ∧ w = w' := by
  go_enter Try.func11, Try.ntmps11
  go_wp2
  go_ret
  exact ⟨ret_int (by omega), rfl⟩
theorem pages_nil (w : World) :
    Calls Try.prog 11 #[.pointer none] w fun e w' => e = .returned (.int .i64 0) ∧ w = w' := by
  go_enter Try.func11, Try.ntmps11
  go_wp2
  go_ret
  exact ⟨rfl, rfl⟩
/-- The reference's memory as a value. -/
def rmv (l : Lim) (A : Option Addr) (n c : Nat) : Value := .agg #[.int .i64 l.min, .int .i64 l.max, .bool l.has, .slice A n c]
theorem rpages_any (l : Lim) (A : Option Addr) (n c : Nat) (w : World) (hn : n ≤ 1000000) :
    Calls Try.prog 18 #[rmv l A n c] w fun e w' => e = .returned (.int .i64 ((n / 256 : Nat) : Int)) ∧ Fr No w w' := by
  have F0 := hid ((Fr.refl No w).alloc (.cells #[.int .i64 l.min, .int .i64 l.max, .bool l.has, .slice A n c] 28))
  unfold rmv
  go_enter Try.func18, Try.ntmps18
  go_wp2
  go_ret
  exact ⟨ret_int (by omega), F0.out⟩
set_option maxRecDepth 100000 in
set_option maxHeartbeats 1600000 in
theorem rhas_any (l : Lim) (A : Option Addr) (n c : Nat) (addr off k : Int) (w : World) (hn : n ≤ 1000000) (ha : 0 ≤ addr ∧ addr < 18446744073709551616) (ho : 0 ≤ off ∧ off < 18446744073709551616) (hk : -9223372036854775808 ≤ k ∧ k ≤ 9223372036854775807) :
    Calls Try.prog 36 #[rmv l A n c, .int .u64 addr, .int .u64 off, .int .i64 k] w fun e w' => e = .returned (.bool (hasB n addr off k)) ∧ Fr No w w' := by
  have F0 := hid ((Fr.refl No w).alloc (.cells #[.int .i64 l.min, .int .i64 l.max, .bool l.has, .slice A n c] 28))
  have G0 := hid (Blk.new w 28 #[.int .i64 l.min, .int .i64 l.max, .bool l.has, .slice A n c])
  have hl := hid (fun W => rlow_any addr W ha)
  have hm : 0 ≤ addr % 4294967296 ∧ addr % 4294967296 < 4294967296 := by omega
  unfold hasB rmv
  generalize addr % 4294967296 = a at *
  by_cases h1 : off ≤ n
  · have hR := hid (fun W => room_any n (a + off) k W (by omega) (by omega) hk)
    have hB : (decide (0 ≤ a + off ∧ 0 ≤ k) && fits n (a + off) k) = decide (0 ≤ k ∧ off ≤ n ∧ a ≤ n - off ∧ k ≤ n - off - a) := by
      rw [fits, Bool.eq_iff_iff]; simp; omega
    rw [hB] at hR
    generalize decide (0 ≤ k ∧ off ≤ n ∧ a ≤ n - off ∧ k ≤ n - off - a) = bb at *
    clear hB
    go_enter Try.func36, Try.ntmps36
    go_wp2
    generalize w.alloc (.cells #[.int .i64 l.min, .int .i64 l.max, .bool l.has, .slice A n c] 28) = W at *
    have hw1 : IntKind.i64.wrap off = off := by rw [IntKind.wrap_i64]; omega
    have hw2 : IntKind.i64.wrap (a + off) = a + off := by rw [IntKind.wrap_i64]; omega
    have HX : Hid (∀ X, Fr No W X → X.cell? ⟨w.heap.size, 3, none⟩ = some (.slice A n c)) := fun X f => (G0.out.fr f (fun x => x)).cell 3
    refine wp_region_ord (fun X => X.cell? ⟨w.heap.size, 3, none⟩ = some (.slice A n c)) [] [(0, true), (1, true), (2, true), (3, true), (5, true), (6, true), (8, true), (4, false), (7, true), (9, false), (10, true)] (by kernel_rfl) (by kernel_rfl) (by kernel_rfl) rfl (G0.out.cell 3) ?_
    repeat (first
      | (refine wpO_skip rfl rfl ?_; simp only [List.getElem_toArray, List.getElem_cons_succ, List.getElem_cons_zero, Act.put, List.setIfInBounds_toArray, List.set_cons_zero, List.set_cons_succ])
      | (refine wpO_call rfl rfl ?_; simp only [List.getElem_toArray, List.getElem_cons_succ, List.getElem_cons_zero]; apply Exists.intro; refine ⟨fun X hX => ?_, ?_⟩
         · (have s0 := hX; go_simp; exact stillUpon_value)
         simp only [Act.put, List.setIfInBounds_toArray, List.set_cons_zero, List.set_cons_succ]))
    refine wpO_eff rfl rfl (fun K hK => ?_)
    simp only [List.getElem_toArray, List.getElem_cons_succ, List.getElem_cons_zero]
    go_simp
    refine (hl.out _).mono ?_
    rintro e w' ⟨rfl, rfl⟩
    refine hK _ _ (fun _ => HX.out _ (Fr.refl _ _).drew) ?_
    clear hK K
    repeat (first
      | (refine wpO_skip rfl rfl ?_; simp only [List.getElem_toArray, List.getElem_cons_succ, List.getElem_cons_zero, Act.put, List.setIfInBounds_toArray, List.set_cons_zero, List.set_cons_succ])
      | (refine wpO_call rfl rfl ?_; simp only [List.getElem_toArray, List.getElem_cons_succ, List.getElem_cons_zero]; apply Exists.intro; refine ⟨fun X hX => ?_, ?_⟩
         · (have s0 := hX; go_simp; exact stillUpon_value)
         simp only [Act.put, List.setIfInBounds_toArray, List.set_cons_zero, List.set_cons_succ]))
    refine wpO_eff rfl rfl (fun K hK => ?_)
    simp only [List.getElem_toArray, List.getElem_cons_succ, List.getElem_cons_zero]
    go_simp
    refine (hR.out _).mono ?_
    rintro e w' ⟨rfl, rfl⟩
    refine hK _ _ (fun _ => HX.out _ (Fr.refl _ _).drew) ?_
    clear hK K
    repeat (first
      | (refine wpO_skip rfl rfl ?_; simp only [List.getElem_toArray, List.getElem_cons_succ, List.getElem_cons_zero, Act.put, List.setIfInBounds_toArray, List.set_cons_zero, List.set_cons_succ])
      | (refine wpO_call rfl rfl ?_; simp only [List.getElem_toArray, List.getElem_cons_succ, List.getElem_cons_zero]; apply Exists.intro; refine ⟨fun X hX => ?_, ?_⟩
         · (have s0 := hX; go_simp; exact stillUpon_value)
         simp only [Act.put, List.setIfInBounds_toArray, List.set_cons_zero, List.set_cons_succ]))
    refine wpO_nil ?_
    go_wp2
    go_ret
    exact ⟨rfl, F0.out.drew⟩
  · go_enter Try.func36, Try.ntmps36
    go_wp2
    go_ret
    exact ⟨ret_bool (by rw [Bool.eq_iff_iff]; simp; omega), F0.out⟩
end Go.Proofs.Ytpmnijjfadhocaa
