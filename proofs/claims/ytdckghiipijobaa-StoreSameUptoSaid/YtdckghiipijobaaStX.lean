/- Contracts: Refs and flags: two slices are equal. -/
import Derived.Test.YtdckghiipijobaaStL
namespace Go.Proofs.Ytdckghiipijobaa
open Go.RowKit

theorem u_at {w : World} {S : Nat → Prop} {A : Option Addr} {l : List Int} (h : tU.els w S A l) (i : Nat) (hi : i < l.length) : ∃ (b o : Nat), A = some ⟨b, o, none⟩ ∧ S b ∧ w.cell? ⟨b, o + i, none⟩ = some (.int .u64 l[i]) ∧ (Lit.int .u64 l[i]).wf = true := by
  obtain ⟨b, o, ds, rfl, hb, hc, hr⟩ := h.at_ i hi
  obtain ⟨rfl, hw⟩ := hr
  have := hc 0 _ rfl
  have e : tU.size = 1 := rfl
  rw [e, Nat.mul_one, Nat.add_zero] at this
  exact ⟨b, o, rfl, hb, this, hw⟩
theorem bl_at {w : World} {S : Nat → Prop} {A : Option Addr} {l : List Bool} (h : Ty.bool.els w S A l) (i : Nat) (hi : i < l.length) : ∃ (b o : Nat), A = some ⟨b, o, none⟩ ∧ S b ∧ w.cell? ⟨b, o + i, none⟩ = some (.bool l[i]) := by
  obtain ⟨b, o, ds, rfl, hb, hc, hr⟩ := h.at_ i hi
  have hr : ds = [.bool l[i]] := hr
  subst hr
  have := hc 0 _ rfl
  have e : Ty.bool.size = 1 := rfl
  rw [e, Nat.mul_one, Nat.add_zero] at this
  exact ⟨b, o, rfl, hb, this⟩

set_option maxHeartbeats 800000 in
theorem refs_any (A B : Option Addr) (xs ys : List Int) (c d : Nat) (S T : Nat → Prop) (w : World) (ha : tU.els w S A xs) (hb : tU.els w T B ys) (h1 : xs.length ≤ 140737488351232) (h2 : ys.length ≤ 140737488351232) :
    Calls Try.prog 10 #[.slice A xs.length c, .slice B ys.length d] w fun e w' => e = .returned (.bool (decide (xs = ys))) ∧ ∃ n, w' = w.drewN n := by
  by_cases hl : xs.length = ys.length
  · have e1 : (((xs.length : Nat) : Int) != ((ys.length : Nat) : Int)) = false := by simp [hl]
    have hL := hid hl
    have hl1 : xs.length ≤ ys.length := by omega
    clear hl
    go_enter Try.func10, Try.ntmps10
    go_wp2
    go_loopw [5] (fun i wr => ∃ k m : Nat, k ≤ xs.length ∧ i = .int .i64 k ∧ wr = w.drewN m ∧ xs.take k = ys.take k) (fun i _ => xs.length - (intOf i).toNat)
    case atStart => exact ⟨0, 0, by omega, rfl, rfl, by simp⟩
    case round =>
      obtain ⟨k, m, hk, rfl, rfl, hq⟩ := hrel
      have HQ := hid hq
      clear hq e1
      by_cases hlt : k < xs.length
      · obtain ⟨b, o, rfl, _, c1, _⟩ := u_at ha k hlt
        obtain ⟨b', o', rfl, _, c2, _⟩ := u_at hb k (by omega)
        have i0 : (0 : Int) ≤ k := by omega
        have i1 : (k : Int) < xs.length := by omega
        have i2 : (k : Int) < ys.length := by omega
        generalize hx : xs[k] = x at c1
        generalize hy : ys[k] = y at c2
        have HX := hid hx
        have HY := hid hy
        clear hx hy ha hb
        by_cases hxy : x = y
        · have hn : (x != y) = false := by simp [hxy]
          have HXY := hid hxy
          clear hxy
          go_wp2
          go_quiet (fail)
          go_wp2
          go_roundw
          case rel =>
            refine ⟨k + 1, _, by omega, by go_num, rfl, ?_⟩
            rw [List.take_succ_eq_append_getElem hlt, List.take_succ_eq_append_getElem (by omega), HQ.out, HX.out, HY.out, HXY.out]
          case measure => simp [intOf]; omega
        · have hn : (x != y) = true := by simp [hxy]
          have HXY := hid hxy
          clear hxy
          go_wp2
          go_quiet (fail)
          go_wp2
          go_ret
          refine ⟨ret_bool ?_, m + nq, World.drewN_drewN _ _ _⟩
          symm
          rw [decide_eq_false_iff_not]
          rintro rfl
          exact HXY.out (HX.out.symm.trans HY.out)
      · go_wp2
        go_ret
        refine ⟨ret_bool ?_, _, rfl⟩
        symm
        rw [decide_eq_true_eq]
        have h := HQ.out
        have h' := hL.out
        rwa [List.take_of_length_le (by omega), List.take_of_length_le (by omega)] at h
  · have e1 : (((xs.length : Nat) : Int) != ((ys.length : Nat) : Int)) = true := by simp; omega
    have hL := hid hl
    clear hl
    go_enter Try.func10, Try.ntmps10
    go_wp2
    go_ret
    refine ⟨ret_bool ?_, 0, rfl⟩
    symm
    rw [decide_eq_false_iff_not]
    rintro rfl
    exact hL.out rfl

set_option maxHeartbeats 800000 in
theorem flags_any (A B : Option Addr) (xs ys : List Bool) (c d : Nat) (S T : Nat → Prop) (w : World) (ha : Ty.bool.els w S A xs) (hb : Ty.bool.els w T B ys) (h1 : xs.length ≤ 140737488351232) (h2 : ys.length ≤ 140737488351232) :
    Calls Try.prog 34 #[.slice A xs.length c, .slice B ys.length d] w fun e w' => e = .returned (.bool (decide (xs = ys))) ∧ ∃ n, w' = w.drewN n := by
  by_cases hl : xs.length = ys.length
  · have e1 : (((xs.length : Nat) : Int) != ((ys.length : Nat) : Int)) = false := by simp [hl]
    have hL := hid hl
    have hl1 : xs.length ≤ ys.length := by omega
    clear hl
    go_enter Try.func34, Try.ntmps34
    go_wp2
    go_loopw [5] (fun i wr => ∃ k m : Nat, k ≤ xs.length ∧ i = .int .i64 k ∧ wr = w.drewN m ∧ xs.take k = ys.take k) (fun i _ => xs.length - (intOf i).toNat)
    case atStart => exact ⟨0, 0, by omega, rfl, rfl, by simp⟩
    case round =>
      obtain ⟨k, m, hk, rfl, rfl, hq⟩ := hrel
      have HQ := hid hq
      clear hq e1
      by_cases hlt : k < xs.length
      · obtain ⟨b, o, rfl, _, c1⟩ := bl_at ha k hlt
        obtain ⟨b', o', rfl, _, c2⟩ := bl_at hb k (by omega)
        have i0 : (0 : Int) ≤ k := by omega
        have i1 : (k : Int) < xs.length := by omega
        have i2 : (k : Int) < ys.length := by omega
        generalize hx : xs[k] = x at c1
        generalize hy : ys[k] = y at c2
        have HX := hid hx
        have HY := hid hy
        clear hx hy ha hb
        cases x with
        | true =>
          cases y with
          | true =>
            go_wp2
            go_quiet (fail)
            go_wp2
            go_roundw
            case rel =>
              refine ⟨k + 1, _, by omega, by go_num, rfl, ?_⟩
              rw [List.take_succ_eq_append_getElem hlt, List.take_succ_eq_append_getElem (by omega), HQ.out, HX.out, HY.out]
            case measure => simp [intOf]; omega
          | false =>
            go_wp2
            go_quiet (fail)
            go_wp2
            go_ret
            refine ⟨ret_bool ?_, m + nq, World.drewN_drewN _ _ _⟩
            symm
            rw [decide_eq_false_iff_not]
            rintro rfl
            cases HX.out.symm.trans HY.out
        | false =>
          cases y with
          | true =>
            go_wp2
            go_quiet (fail)
            go_wp2
            go_ret
            refine ⟨ret_bool ?_, m + nq, World.drewN_drewN _ _ _⟩
            symm
            rw [decide_eq_false_iff_not]
            rintro rfl
            cases HX.out.symm.trans HY.out
          | false =>
            go_wp2
            go_quiet (fail)
            go_wp2
            go_roundw
            case rel =>
              refine ⟨k + 1, _, by omega, by go_num, rfl, ?_⟩
              rw [List.take_succ_eq_append_getElem hlt, List.take_succ_eq_append_getElem (by omega), HQ.out, HX.out, HY.out]
            case measure => simp [intOf]; omega
      · go_wp2
        go_ret
        refine ⟨ret_bool ?_, _, rfl⟩
        symm
        rw [decide_eq_true_eq]
        have h := HQ.out
        have h' := hL.out
        rwa [List.take_of_length_le (by omega), List.take_of_length_le (by omega)] at h
  · have e1 : (((xs.length : Nat) : Int) != ((ys.length : Nat) : Int)) = true := by simp; omega
    have hL := hid hl
    clear hl
    go_enter Try.func34, Try.ntmps34
    go_wp2
    go_ret
    refine ⟨ret_bool ?_, 0, rfl⟩
    symm
    rw [decide_eq_false_iff_not]
    rintro rfl
    exact hL.out rfl
end Go.Proofs.Ytdckghiipijobaa
