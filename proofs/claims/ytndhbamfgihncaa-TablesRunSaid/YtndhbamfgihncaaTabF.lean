/- Contract of same: two slices of numbers are equal. -/
import Derived.Test.YtndhbamfgihncaaTabA
namespace Go.Proofs.Ytndhbamfgihncaa
open Go.RowKit

theorem Us_rd {w : World} {B : Nat} {A : Option Addr} {xs : List Int} (h : Rd w B A (Us xs)) (k : Nat) (hk : k < xs.length) : ∃ b o, A = some ⟨b, o, none⟩ ∧ w.cell? ⟨b, o + k, none⟩ = some (.int .u64 xs[k]) := by
  obtain ⟨b, o, h1, _, h2⟩ := h.at_ (k := k) (by simpa using hk)
  rw [Us_at _ _ hk] at h2
  exact ⟨b, o, h1, h2⟩

set_option maxHeartbeats 400000 in
theorem same_any (A B : Option Addr) (xs ys : List Int) (c d B1 B2 : Nat) (w : World) (ha : Rd w B1 A (Us xs)) (hb : Rd w B2 B (Us ys)) (h1 : xs.length ≤ 1048576) (h2 : ys.length ≤ 1048576) :
    Calls Try.prog 12 #[.slice A xs.length c, .slice B ys.length d] w fun e w' => e = .returned (.bool (decide (xs = ys))) ∧ ∃ n, w' = w.drewN n := by
  by_cases hl : xs.length = ys.length
  · have e1 : (((xs.length : Nat) : Int) != ((ys.length : Nat) : Int)) = false := by simp [hl]
    have hL := hid hl
    have hl1 : xs.length ≤ ys.length := by omega
    clear hl
    go_enter Try.func12, Try.ntmps12
    go_wp2
    go_loopw [5] (fun i wr => ∃ k m : Nat, k ≤ xs.length ∧ i = .int .i64 k ∧ wr = w.drewN m ∧ xs.take k = ys.take k) (fun i _ => xs.length - (intOf i).toNat)
    case atStart => exact ⟨0, 0, by omega, rfl, rfl, by simp⟩
    case round =>
      obtain ⟨k, m, hk, rfl, rfl, hq⟩ := hrel
      have HQ := hid hq
      clear hq e1
      by_cases hlt : k < xs.length
      · obtain ⟨b, o, rfl, c1⟩ := Us_rd ha k hlt
        obtain ⟨b', o', rfl, c2⟩ := Us_rd hb k (by omega)
        have i0 : (0 : Int) ≤ k := by omega
        have i1 : (k : Int) < xs.length := by omega
        have i2 : (k : Int) < ys.length := by omega
        generalize hx : xs[k] = x at c1
        generalize hy : ys[k] = y at c2
        have HX := hid hx
        have HY := hid hy
        clear hx hy ha hb
        by_cases hxy : x = y
        · have hn : (x != y) = false := by simp [hxy]
          have HXY := hid hxy
          clear hxy
          go_wp2
          go_quiet (fail)
          go_wp2
          go_roundw
          case rel =>
            refine ⟨k + 1, _, by omega, by go_num, rfl, ?_⟩
            rw [List.take_succ_eq_append_getElem hlt, List.take_succ_eq_append_getElem (by omega), HQ.out, HX.out, HY.out, HXY.out]
          case measure => simp [intOf]; omega
        · have hn : (x != y) = true := by simp [hxy]
          have HXY := hid hxy
          clear hxy
          go_wp2
          go_quiet (fail)
          go_wp2
          go_ret
          refine ⟨ret_bool ?_, m + nq, World.drewN_drewN _ _ _⟩
          symm
          rw [decide_eq_false_iff_not]
          rintro rfl
          exact HXY.out (HX.out.symm.trans HY.out)
      · go_wp2
        go_ret
        refine ⟨ret_bool ?_, _, rfl⟩
        symm
        rw [decide_eq_true_eq]
        have h := HQ.out
        have h' := hL.out
        rwa [List.take_of_length_le (by omega), List.take_of_length_le (by omega)] at h
  · have e1 : (((xs.length : Nat) : Int) != ((ys.length : Nat) : Int)) = true := by simp; omega
    have hL := hid hl
    clear hl
    go_enter Try.func12, Try.ntmps12
    go_wp2
    go_ret
    refine ⟨ret_bool ?_, 0, rfl⟩
    symm
    rw [decide_eq_false_iff_not]
    rintro rfl
    exact hL.out rfl

theorem same_at (A B : Option Addr) (xs ys : List Int) (n m c d B1 B2 : Nat) (w : World) (hn : xs.length = n) (hm : ys.length = m) (ha : Rd w B1 A (Us xs)) (hb : Rd w B2 B (Us ys)) (h1 : n ≤ 1048576) (h2 : m ≤ 1048576) :
    Calls Try.prog 12 #[.slice A n c, .slice B m d] w fun e w' => e = .returned (.bool (decide (xs = ys))) ∧ ∃ n, w' = w.drewN n := by
  subst hn; subst hm
  exact same_any A B xs ys c d B1 B2 w ha hb h1 h2
end Go.Proofs.Ytndhbamfgihncaa
