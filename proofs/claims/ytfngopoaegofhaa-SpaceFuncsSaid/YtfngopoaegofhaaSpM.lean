/- The reference's contracts: Type, Elem, nth. -/
import Derived.Test.YtfngopoaegofhaaSpL
namespace Go.Proofs.Ytfngopoaegofhaa
open Go.RowKit

set_option maxRecDepth 100000 in
set_option maxHeartbeats 800000 in
theorem rType_any (nt ni nf nta nm ng ne nel nd nc ct ci cf cta cm cg ce cel cd cc : Nat) (At Ai Af Ata Am Ag Ae Ael Ad Ac : Option Addr) (bst : Bool) (vst : Int) (w : World) (tys : List Fn) (i : Int) (S : Nat → Prop) (h : tFn.els w S At tys) (hS : ∀ k, S k → k < w.heap.size) (hn : Hid (tys.length = nt)) (hl : nt ≤ 100) :
    Calls Try.prog 14 #[.agg #[.slice At nt ct, .slice Ai ni ci, .slice Af nf cf, .slice Ata nta cta, .slice Am nm cm, .slice Ag ng cg, .slice Ae ne ce, .bool bst, .int .i64 vst, .slice Ael nel cel, .slice Ad nd cd, .slice Ac nc cc], .int .i64 i] w (AtFn (atD zFn tys i).1 (atD zFn tys i).2 S w) := by
  have F1 := hid (((Fr.refl No w).alloc (.cells #[.slice At nt ct, .slice Ai ni ci, .slice Af nf cf, .slice Ata nta cta, .slice Am nm cm, .slice Ag ng cg, .slice Ae ne ce, .bool bst, .int .i64 vst, .slice Ael nel cel, .slice Ad nd cd, .slice Ac nc cc] 33)).alloc (.cells #[.slice none 0 0, .slice none 0 0] 38))
  rcases at_cases tys i with ⟨k, hk, rfl⟩ | hi | ⟨hi0, hi⟩
  · obtain ⟨b, o, A1, c1, A2, c2, rfl, hb, y0, y1, _, _, e1, _, _, e2⟩ := Fn_at h k hk
    have hbx := hS b hb
    rw [atD_yes hk]
    have i0 : (0 : Int) ≤ k := by omega
    have i1 : (k : Int) < nt := by have := hn.out; omega
    have HS := hid hS
    have E1 := hid e1
    have E2 := hid e2
    generalize tys[k] = y at *
    clear h hS e1 e2 hk
    go_enter Try.func14, Try.ntmps14
    go_wp2
    refine bodyPost_ret (v := .tuple #[.agg #[.slice A1 y.params.length c1, .slice A2 y.results.length c2], .bool true]) (by simp [results, Try.results14, go_sem]) rfl ⟨A1, c1, A2, c2, rfl, ?_, ?_, ?_⟩
    · exact E1.out.fr (((Fr.refl No w).alloc _).alloc _) (fun k hk => ⟨HS.out k hk, fun x => x⟩)
    · exact E2.out.fr (((Fr.refl No w).alloc _).alloc _) (fun k hk => ⟨HS.out k hk, fun x => x⟩)
    · exact ((Fr.refl No w).alloc _).alloc _
  · rw [atD_no (.inl hi)]
    clear h hS
    go_enter Try.func14, Try.ntmps14
    go_wp2
    exact bodyPost_ret (v := .tuple #[.agg #[.slice none 0 0, .slice none 0 0], .bool false]) (by simp [results, Try.results14, go_sem]) rfl ⟨none, 0, none, 0, rfl, .inl rfl, .inl rfl, F1.out⟩
  · rw [atD_no (.inr hi)]
    have hi1 : (nt : Int) ≤ i := by have := hn.out; omega
    clear h hS hi
    go_enter Try.func14, Try.ntmps14
    go_wp2
    exact bodyPost_ret (v := .tuple #[.agg #[.slice none 0 0, .slice none 0 0], .bool false]) (by simp [results, Try.results14, go_sem]) rfl ⟨none, 0, none, 0, rfl, .inl rfl, .inl rfl, F1.out⟩

set_option maxRecDepth 100000 in
set_option maxHeartbeats 800000 in
theorem rElem_any (nt ni nf nta nm ng ne nel nd nc ct ci cf cta cm cg ce cel cd cc : Nat) (At Ai Af Ata Am Ag Ae Ael Ad Ac : Option Addr) (bst : Bool) (vst : Int) (w : World) (els : List El) (i : Int) (S : Nat → Prop) (h : tEl.els w S Ael els) (hS : ∀ k, S k → k < w.heap.size) (hn : Hid (els.length = nel)) (hl : nel ≤ 50) :
    Calls Try.prog 38 #[.agg #[.slice At nt ct, .slice Ai ni ci, .slice Af nf cf, .slice Ata nta cta, .slice Am nm cm, .slice Ag ng cg, .slice Ae ne ce, .bool bst, .int .i64 vst, .slice Ael nel cel, .slice Ad nd cd, .slice Ac nc cc], .int .i64 i] w fun e w' => e = .returned (.tuple #[.int .i64 (atD 0 (els.map (·.type)) i).1, .bool (atD 0 (els.map (·.type)) i).2]) ∧ Fr No w w' := by
  have F1 := hid ((Fr.refl No w).alloc (.cells #[.slice At nt ct, .slice Ai ni ci, .slice Af nf cf, .slice Ata nta cta, .slice Am nm cm, .slice Ag ng cg, .slice Ae ne ce, .bool bst, .int .i64 vst, .slice Ael nel cel, .slice Ad nd cd, .slice Ac nc cc] 33))
  have hm : els.length = (els.map (·.type)).length := by simp
  rcases at_cases els i with ⟨k, hk, rfl⟩ | hi | ⟨hi0, hi⟩
  · have HX := hid (El_at h k hk)
    obtain ⟨b, o, _, _, _, _, rfl, hb, _, _, _, c3, _⟩ := HX.out
    have hbx := hS b hb
    rw [atD_yes (hm ▸ hk), List.getElem_map]
    have i0 : (0 : Int) ≤ k := by omega
    have i1 : (k : Int) < nel := by have := hn.out; omega
    generalize els[k].type = y at *
    clear h hS HX hm
    go_enter Try.func38, Try.ntmps38
    go_wp2
    go_ret2
    exact ⟨rfl, F1.out⟩
  · rw [atD_no (.inl hi)]
    clear h hS hm
    go_enter Try.func38, Try.ntmps38
    go_wp2
    go_ret2
    exact ⟨rfl, F1.out⟩
  · rw [atD_no (.inr (hm ▸ hi))]
    have hi1 : (nel : Int) ≤ i := by have := hn.out; omega
    clear h hS hi hm
    go_enter Try.func38, Try.ntmps38
    go_wp2
    go_ret2
    exact ⟨rfl, F1.out⟩

/-- The i-th import of the kind kd. -/
def ofKind (ims : List Im) (kd : Int) : List Im := ims.filter (fun im => im.kind == kd)
theorem ofKind_len (ims : List Im) (kd : Int) : (ofKind ims kd).length = impN ims kd := by rw [ofKind, impN, List.countP_eq_length_filter]
theorem ofKind_get {ims : List Im} {kd : Int} {k : Nat} (hk : k < ims.length) (h : ims[k].kind = kd) : (ofKind ims kd)[impN (ims.take k) kd]? = some ims[k] := by
  have e : ims = ims.take k ++ ims[k] :: ims.drop (k + 1) := by rw [List.getElem_cons_drop, List.take_append_drop]
  have this : ofKind (ims.take k ++ ims[k] :: ims.drop (k + 1)) kd = ofKind (ims.take k) kd ++ ims[k] :: ofKind (ims.drop (k + 1)) kd := by
    simp only [ofKind, List.filter_append, List.filter_cons, h, beq_self_eq_true, if_true]
  rw [← e] at this
  rw [this, List.getElem?_append_right (by rw [ofKind_len]; exact Nat.le_refl _), ofKind_len]; simp
def imCells (im : Im) : List Value := [.string im.mod, .string im.name, .int .i64 im.kind, .int .i64 im.func, .int .i64 im.table.elem, .int .i64 im.table.lim.min, .int .i64 im.table.lim.max, .bool im.table.lim.has, .int .i64 im.mem.min, .int .i64 im.mem.max, .bool im.mem.has, .int .i64 im.glob.val, .bool im.glob.mut_]
def zIm : Im := ⟨⟨#[]⟩, ⟨#[]⟩, 0, 0, zTb, zLim, zGl⟩
def zBytes : ByteArray := ⟨#[]⟩
/-- i after m rounds of i--. -/
def downTo (i j : Int) (m : Nat) : Prop := j = i - m ∨ j = i - m + 18446744073709551616
theorem wrap_dec {j : Int} (h : -9223372036854775808 ≤ j ∧ j ≤ 9223372036854775807) : IntKind.i64.wrap (j - 1) = if j = -9223372036854775808 then 9223372036854775807 else j - 1 := by
  simp only [IntKind.wrap, IntKind.signed, IntKind.bits, Bool.true_and, decide_eq_true_eq, Int.reducePow, ge_iff_le, Nat.reduceSub]
  split <;> split <;> omega
theorem atD_get {α : Type} {d a : α} {l : List α} {k : Nat} (h : l[k]? = some a) : atD d l (k : Int) = (a, true) := by
  obtain ⟨h1, h2⟩ := List.getElem?_eq_some_iff.1 h
  rw [atD_yes h1, h2]
/-- i is none of the first m numbers. -/
def noneOf (i : Int) (m : Nat) : Prop := i < 0 ∨ (m : Int) ≤ i
set_option maxRecDepth 100000 in
set_option maxHeartbeats 1600000 in
theorem rNth_any (nt ni nf nta nm ng ne nel nd nc ct ci cf cta cm cg ce cel cd cc : Nat) (At Ai Af Ata Am Ag Ae Ael Ad Ac : Option Addr) (bst : Bool) (vst : Int) (w : World) (ims : List Im) (kd i : Int) (S : Nat → Prop) (h : tIm.els w S Ai ims) (hS : ∀ k, S k → k < w.heap.size) (hn : Hid (ims.length = ni)) (hl : ni ≤ 101) (hi : -9223372036854775808 ≤ i ∧ i ≤ 9223372036854775807) :
    Calls Try.prog 51 #[.agg #[.slice At nt ct, .slice Ai ni ci, .slice Af nf cf, .slice Ata nta cta, .slice Am nm cm, .slice Ag ng cg, .slice Ae ne ce, .bool bst, .int .i64 vst, .slice Ael nel cel, .slice Ad nd cd, .slice Ac nc cc], .int .i64 kd, .int .i64 i] w fun e w' => e = .returned (.tuple #[imv (atD zIm (ofKind ims kd) i).1, .bool (atD zIm (ofKind ims kd) i).2]) ∧ Fr No w w' := by
  generalize hP : atD zIm (ofKind ims kd) i = P
  have HP := hid hP
  clear hP
  obtain ⟨x, ok⟩ := P
  go_enter Try.func51, Try.ntmps51
  go_wp2
  go_loop [2, 8] (fun it ix => ∃ (k m : Nat) (j : Int), k ≤ ni ∧ m ≤ k ∧ ix = .int .i64 k ∧ it = .int .i64 j ∧ (-9223372036854775808 ≤ j ∧ j ≤ 9223372036854775807) ∧ Hid (downTo i j m) ∧ Hid (noneOf i m) ∧ Hid (impN (ims.take k) kd = m)) (fun _ ix => ni - (intOf ix).toNat)
  case atStart => exact ⟨0, 0, i, by omega, by omega, rfl, rfl, hi, .inl (by simp), by simp only [Hid, noneOf]; omega, by simp [Hid, impN]⟩
  case round =>
    obtain ⟨k, m, j, hk, hm, rfl, rfl, hj, HD, HQ, HA⟩ := hrel
    by_cases hlt : k < ni
    · have hlk : k < ims.length := by have := hn.out; omega
      obtain ⟨b, o, rfl, hb, c0, c1, c2, c3, c4, c5, c6, c7, c8, c9, c10, c11, c12, _⟩ := Im_at h k hlk
      have hbl := hS b hb
      have i0 : (0 : Int) ≤ k := by omega
      have i1 : (k : Int) < ni := by omega
      by_cases he : ims[k].kind = kd
      · have HE := hid (impN_yes hlk he)
        by_cases h0 : j = 0
        · subst h0
          have hR := hid (ofKind_get hlk he)
          rw [HA.out] at hR
          have hi' : i = m := by rcases HD.out with h | h <;> omega
          subst hi'
          have hR2 := HP.out
          rw [atD_get hR.out] at hR2
          injection hR2 with e1 e2
          subst e1 e2
          have hkk : (ims[k].kind == kd) = true := by simpa using he
          clear he h hS HE hR HP
          go_wp2
          exact bodyPost_ret (v := .tuple #[imv ims[k], .bool true]) (by simp [results, Try.results51, go_sem, imv]) rfl ⟨rfl, ((Fr.refl No w).alloc _).alloc _⟩
        · have hkk : (ims[k].kind == kd) = true := by simpa using he
          have hj0 : (j == 0) = false := by simpa using h0
          have hw : wrap64 (j - 1) = if j = -9223372036854775808 then 9223372036854775807 else j - 1 := by
            simp only [wrap64]; split <;> omega
          clear he h hS
          generalize ims[k].kind = y at *
          go_wp2
          go_round
          case rel => exact ⟨k + 1, m + 1, wrap64 (j - 1), by omega, by omega, by go_num, rfl, by split at hw <;> omega, by (have := HD.out; simp only [Hid, downTo] at *; split at hw <;> omega), by (have := HD.out; have := HQ.out; simp only [Hid, noneOf, downTo] at *; omega), by rw [Hid, HE.out, HA.out]⟩
          case measure => simp [intOf]; omega
      · have HE := hid (impN_no hlk he)
        have hkk : (ims[k].kind == kd) = false := by simpa using he
        clear he h hS
        generalize ims[k].kind = y at *
        clear HP
        go_wp2
        go_round
        case rel => exact ⟨k + 1, m, j, by omega, by omega, by go_num, rfl, hj, HD, HQ, by rw [Hid, HE.out, HA.out]⟩
        case measure => simp [intOf]; omega
    · have hR : Hid (atD zIm (ofKind ims kd) i = (zIm, false)) := by
        have h1 := HA.out
        have h2 := hn.out
        have h3 := HQ.out
        rw [List.take_of_length_le (by omega)] at h1
        refine atD_no ?_
        rw [ofKind_len, h1]
        exact h3
      have hR2 := HP.out
      rw [hR.out] at hR2
      injection hR2 with e1 e2
      subst e1 e2
      go_wp2
      exact bodyPost_ret (v := .tuple #[imv zIm, .bool false]) (by simp [results, Try.results51, go_sem, imv, zIm, zTb, zLim, zGl]) rfl ⟨rfl, ((Fr.refl No w).alloc _).alloc _⟩
end Go.Proofs.Ytfngopoaegofhaa
