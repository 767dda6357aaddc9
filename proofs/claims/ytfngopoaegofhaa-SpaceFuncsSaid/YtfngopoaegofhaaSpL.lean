/- The reference's contracts: Imported, nth, own, Types, Datas, names. -/
import Derived.Test.YtfngopoaegofhaaSpK
namespace Go.Proofs.Ytfngopoaegofhaa
open Go.RowKit

/-- How many imports are of the kind kd. -/
def impN (ims : List Im) (kd : Int) : Nat := ims.countP (fun im => im.kind == kd)
theorem impN_yes {ims : List Im} {kd : Int} {k : Nat} (hk : k < ims.length) (h : ims[k].kind = kd) : impN (ims.take (k + 1)) kd = impN (ims.take k) kd + 1 := by
  rw [impN, impN, List.take_succ_eq_append_getElem hk, List.countP_append]; simp [h]
theorem impN_no {ims : List Im} {kd : Int} {k : Nat} (hk : k < ims.length) (h : ¬ ims[k].kind = kd) : impN (ims.take (k + 1)) kd = impN (ims.take k) kd := by
  rw [impN, impN, List.take_succ_eq_append_getElem hk, List.countP_append]; simp [h]
theorem impN_le (ims : List Im) (kd : Int) : impN ims kd ≤ ims.length := List.countP_le_length
theorem take_len_le {α : Type} (l : List α) (k : Nat) : (l.take k).length ≤ k := by simp; omega

theorem rTypes_any (nt ni nf nta nm ng ne nel nd nc ct ci cf cta cm cg ce cel cd cc : Nat) (At Ai Af Ata Am Ag Ae Ael Ad Ac : Option Addr) (bst : Bool) (vst : Int) (w : World) :
    Calls Try.prog 18 #[.agg #[.slice At nt ct, .slice Ai ni ci, .slice Af nf cf, .slice Ata nta cta, .slice Am nm cm, .slice Ag ng cg, .slice Ae ne ce, .bool bst, .int .i64 vst, .slice Ael nel cel, .slice Ad nd cd, .slice Ac nc cc]] w fun e w' => e = .returned (.int .i64 nt) ∧ Fr No w w' := by
  have F0 := hid ((Fr.refl No w).alloc (.cells #[.slice At nt ct, .slice Ai ni ci, .slice Af nf cf, .slice Ata nta cta, .slice Am nm cm, .slice Ag ng cg, .slice Ae ne ce, .bool bst, .int .i64 vst, .slice Ael nel cel, .slice Ad nd cd, .slice Ac nc cc] 33))
  go_enter Try.func18, Try.ntmps18
  go_wp2
  go_ret
  exact ⟨rfl, F0.out⟩
theorem rDatas_any (nt ni nf nta nm ng ne nel nd nc ct ci cf cta cm cg ce cel cd cc : Nat) (At Ai Af Ata Am Ag Ae Ael Ad Ac : Option Addr) (bst : Bool) (vst : Int) (w : World) :
    Calls Try.prog 42 #[.agg #[.slice At nt ct, .slice Ai ni ci, .slice Af nf cf, .slice Ata nta cta, .slice Am nm cm, .slice Ag ng cg, .slice Ae ne ce, .bool bst, .int .i64 vst, .slice Ael nel cel, .slice Ad nd cd, .slice Ac nc cc]] w fun e w' => e = .returned (.int .i64 nd) ∧ Fr No w w' := by
  have F0 := hid ((Fr.refl No w).alloc (.cells #[.slice At nt ct, .slice Ai ni ci, .slice Af nf cf, .slice Ata nta cta, .slice Am nm cm, .slice Ag ng cg, .slice Ae ne ce, .bool bst, .int .i64 vst, .slice Ael nel cel, .slice Ad nd cd, .slice Ac nc cc] 33))
  go_enter Try.func42, Try.ntmps42
  go_wp2
  go_ret
  exact ⟨rfl, F0.out⟩

set_option maxHeartbeats 800000 in
theorem rImp_any (nt ni nf nta nm ng ne nel nd nc ct ci cf cta cm cg ce cel cd cc : Nat) (At Ai Af Ata Am Ag Ae Ael Ad Ac : Option Addr) (bst : Bool) (vst : Int) (w : World) (ims : List Im) (kd : Int) (S : Nat → Prop) (h : tIm.els w S Ai ims) (hS : ∀ k, S k → k < w.heap.size) (hn : Hid (ims.length = ni)) (hl : ni ≤ 101) :
    Calls Try.prog 43 #[.agg #[.slice At nt ct, .slice Ai ni ci, .slice Af nf cf, .slice Ata nta cta, .slice Am nm cm, .slice Ag ng cg, .slice Ae ne ce, .bool bst, .int .i64 vst, .slice Ael nel cel, .slice Ad nd cd, .slice Ac nc cc], .int .i64 kd] w fun e w' => e = .returned (.int .i64 (impN ims kd)) ∧ Fr No w w' := by
  have F0 := hid ((Fr.refl No w).alloc (.cells #[.slice At nt ct, .slice Ai ni ci, .slice Af nf cf, .slice Ata nta cta, .slice Am nm cm, .slice Ag ng cg, .slice Ae ne ce, .bool bst, .int .i64 vst, .slice Ael nel cel, .slice Ad nd cd, .slice Ac nc cc] 33))
  go_enter Try.func43, Try.ntmps43
  go_wp2
  go_loop [5, 6] (fun n i => ∃ k m : Nat, k ≤ ni ∧ m ≤ k ∧ i = .int .i64 k ∧ n = .int .i64 m ∧ Hid (impN (ims.take k) kd = m)) (fun _ i => ni - (intOf i).toNat)
  case atStart => exact ⟨0, 0, by omega, by omega, rfl, rfl, by simp [Hid, impN]⟩
  case round =>
    obtain ⟨k, m, hk, hm, rfl, rfl, HA⟩ := hrel
    by_cases hlt : k < ni
    · have hlk : k < ims.length := by have := hn.out; omega
      obtain ⟨b, o, rfl, hb, _, _, c2, _⟩ := Im_at h k hlk
      have hbl := hS b hb
      by_cases he : ims[k].kind = kd
      · have HE := hid (impN_yes hlk he)
        rw [he] at c2
        clear he h hS
        go_wp2
        go_round
        case rel => exact ⟨k + 1, m + 1, by omega, by omega, by go_num, by go_num, by rw [Hid, HE.out, HA.out]⟩
        case measure => simp [intOf]; omega
      · have HE := hid (impN_no hlk he)
        have hq : (ims[k].kind == kd) = false := by simpa using he
        clear he h hS
        go_wp2
        go_round
        case rel => exact ⟨k + 1, m, by omega, by omega, by go_num, rfl, by rw [Hid, HE.out, HA.out]⟩
        case measure => simp [intOf]; omega
    · go_wp2
      go_ret
      refine ⟨rt_int ?_, F0.out⟩
      have h1 := HA.out
      have h2 := hn.out
      rw [List.take_of_length_le (by omega)] at h1
      rw [h1]

/-- Item i among n own ones behind N imported ones, or -1. -/
def ownI (N n : Nat) (i : Int) : Int := if i < 0 then -1 else if i - N < 0 then -1 else if i - N ≥ n then -1 else i - N
set_option maxHeartbeats 800000 in
theorem rOwn_any (nt ni nf nta nm ng ne nel nd nc ct ci cf cta cm cg ce cel cd cc : Nat) (At Ai Af Ata Am Ag Ae Ael Ad Ac : Option Addr) (bst : Bool) (vst : Int) (w : World) (ims : List Im) (kd : Int) (i : Int) (n : Nat) (S : Nat → Prop) (h : tIm.els w S Ai ims) (hS : ∀ k, S k → k < w.heap.size) (hn : Hid (ims.length = ni)) (hl : ni ≤ 101) (hi1 : i ≤ 9223372036854775807) :
    Calls Try.prog 52 #[.agg #[.slice At nt ct, .slice Ai ni ci, .slice Af nf cf, .slice Ata nta cta, .slice Am nm cm, .slice Ag ng cg, .slice Ae ne ce, .bool bst, .int .i64 vst, .slice Ael nel cel, .slice Ad nd cd, .slice Ac nc cc], .int .i64 kd, .int .i64 i, .int .i64 n] w fun e w' => e = .returned (.int .i64 (ownI (impN ims kd) n i)) ∧ Fr No w w' := by
  have F0 := hid ((Fr.refl No w).alloc (.cells #[.slice At nt ct, .slice Ai ni ci, .slice Af nf cf, .slice Ata nta cta, .slice Am nm cm, .slice Ag ng cg, .slice Ae ne ce, .bool bst, .int .i64 vst, .slice Ael nel cel, .slice Ad nd cd, .slice Ac nc cc] 33))
  have h' := h.fr F0.out (fun k hk => ⟨hS k hk, fun x => x⟩)
  have HI := hid (rImp_any nt ni nf nta nm ng ne nel nd nc ct ci cf cta cm cg ce cel cd cc At Ai Af Ata Am Ag Ae Ael Ad Ac bst vst _ ims kd S h' (fun k hk => Nat.lt_of_lt_of_le (hS k hk) F0.out.size) hn hl)
  have hN := hid (impN_le ims kd)
  have hN2 : impN ims kd ≤ 101 := by have := hN.out; have := hn.out; omega
  unfold ownI
  generalize impN ims kd = N at *
  clear h h' hS
  by_cases h0 : i < 0
  · go_enter Try.func52, Try.ntmps52
    go_wp2
    go_ret
    exact ⟨rt_int rfl, F0.out⟩
  · go_enter Try.func52, Try.ntmps52
    go_wp2_with fail
    refine HI.out.mono ?_
    rintro e w' ⟨rfl, f1⟩
    have F1 := hid (F0.out.trans f1 (fun _ _ h => h))
    clear f1 HI
    by_cases h1 : i - N < 0
    · go_wp2
      go_ret
      exact ⟨rt_int rfl, F1.out⟩
    · by_cases h2 : i - N ≥ n
      · go_wp2
        go_ret
        exact ⟨rt_int rfl, F1.out⟩
      · go_wp2
        go_ret
        exact ⟨rt_int rfl, F1.out⟩

/-- Whether an expression names function i. -/
def namesB (l : List Ins) (i : Int) : Bool := l.any (fun x => x.op == 210 && x.a == i)
theorem names_stop {l : List Ins} {i : Int} {k : Nat} (hk : k < l.length) (h1 : l[k].op = 210) (h2 : l[k].a = i) : namesB l i = true := by
  rw [namesB, List.any_eq_true]; exact ⟨l[k], List.getElem_mem hk, by simp [h1, h2]⟩
theorem names_step {l : List Ins} {i : Int} {k : Nat} (hk : k < l.length) (h : namesB (l.take k) i = false) (h1 : ¬ (l[k].op = 210 ∧ l[k].a = i)) : namesB (l.take (k + 1)) i = false := by
  rw [namesB, List.take_succ_eq_append_getElem hk, List.any_append]
  rw [namesB] at h
  simp only [h, Bool.false_or, List.any_cons, List.any_nil, Bool.or_false]
  simpa using h1
set_option maxHeartbeats 800000 in
theorem rNames_any (A : Option Addr) (n c : Nat) (l : List Ins) (i : Int) (w : World) (S : Nat → Prop) (h : tIns.els w S A l) (hn : Hid (l.length = n)) (hl : n ≤ 140737488351232) :
    Calls Try.prog 54 #[.slice A n c, .int .i64 i] w fun e w' => e = .returned (.bool (namesB l i)) ∧ w = w' := by
  go_enter Try.func54, Try.ntmps54
  go_wp2
  go_loop [5] (fun j => ∃ k : Nat, k ≤ n ∧ j = .int .i64 k ∧ Hid (namesB (l.take k) i = false)) (fun j => n - (intOf j).toNat)
  case atStart => exact ⟨0, by omega, rfl, by simp [Hid, namesB]⟩
  case round =>
    obtain ⟨k, hk, rfl, HA⟩ := hrel
    by_cases hlt : k < n
    · have hlk : k < l.length := by have := hn.out; omega
      have HX := hid (Ins_at h k hlk)
      obtain ⟨b, o, _, _, _, _, rfl, hb, c0, c1, _⟩ := HX.out
      by_cases e0 : l[k].op = 210
      · rw [e0] at c0
        by_cases e1 : l[k].a = i
        · rw [e1] at c1
          have HE := hid (names_stop hlk e0 e1)
          clear e0 e1 h HX
          go_wp2
          go_ret
          exact ⟨rt_bool HE.out.symm, rfl⟩
        · have HE := hid (names_step hlk HA.out (fun h => e1 h.2))
          have hq : (l[k].a == i) = false := by simpa using e1
          clear e0 e1 h HX
          go_wp2
          go_round
          case rel => exact ⟨k + 1, by omega, by go_num, HE.out⟩
          case measure => simp [intOf]; omega
      · have HE := hid (names_step hlk HA.out (fun h => e0 h.1))
        have hq : (l[k].op == 210) = false := by simpa using e0
        clear e0 h HX
        go_wp2
        go_round
        case rel => exact ⟨k + 1, by omega, by go_num, HE.out⟩
        case measure => simp [intOf]; omega
    · go_wp2
      go_ret
      refine ⟨rt_bool ?_, rfl⟩
      have h1 := HA.out
      have h2 := hn.out
      rw [List.take_of_length_le (by omega)] at h1
      exact h1.symm
end Go.Proofs.Ytfngopoaegofhaa
