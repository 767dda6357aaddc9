/- Contracts: Few. -/
import Derived.Test.YtfngopoaegofhaaSpS
namespace Go.Proofs.Ytfngopoaegofhaa
open Go.RowKit

structure FewOk (els : List El) (nt ni nf nta nm ng ne nel nd : Nat) : Prop where
  lt : nt ≤ 100
  li : ni ≤ 100
  lf : nf ≤ 100
  lta : nta ≤ 50
  lm : nm ≤ 50
  lg : ng ≤ 100
  le : ne ≤ 200
  lel : nel ≤ 50
  ld : nd ≤ 50
  it : ∀ e ∈ els, e.items.length ≤ 500
def FewTo (els : List El) (nt ni nf nta nm ng ne nel nd : Nat) (w : World) (e : Ending) (w' : World) : Prop :=
  (∃ r : Bool, e = .returned (.bool r) ∧ (r = true → FewOk els nt ni nf nta nm ng ne nel nd)) ∧ Fr No w w'
def sums (els : List El) : Nat := els.foldl (fun n e => n + e.items.length) 0
theorem sums_mono (els : List El) (a : Nat) : a ≤ els.foldl (fun n e => n + e.items.length) a := by
  induction els generalizing a with
  | nil => exact Nat.le_refl _
  | cons x l ih => exact Nat.le_trans (Nat.le_add_right _ _) (ih _)
theorem sums_mem (els : List El) (a : Nat) : ∀ e ∈ els, e.items.length ≤ els.foldl (fun n e => n + e.items.length) a := by
  induction els generalizing a with
  | nil => intro e h; cases h
  | cons x l ih =>
    intro e h
    cases h with
    | head => exact Nat.le_trans (Nat.le_add_left _ _) (sums_mono _ _)
    | tail _ h => exact ih _ e h
theorem sums_step {els : List El} {k : Nat} (hk : k < els.length) : sums (els.take (k + 1)) = sums (els.take k) + els[k].items.length := by
  rw [sums, sums, List.take_succ_eq_append_getElem hk, List.foldl_append]; rfl
set_option maxRecDepth 100000 in
set_option maxHeartbeats 3200000 in
theorem few_any (nt ni nf nta nm ng ne nel nd nc ct ci cf cta cm cg ce cel cd cc : Nat) (At Ai Af Ata Am Ag Ae Ael Ad Ac : Option Addr) (bst : Bool) (vst : Int) (w : World) (els : List El) (S : Nat → Prop) (h : tEl.els w S Ael els) (hS : ∀ k, S k → k < w.heap.size) (hn : Hid (els.length = nel)) (hi : Hid (∀ e ∈ els, e.items.length ≤ 140737488351232)) :
    Calls Try.prog 9 #[.agg #[.slice At nt ct, .slice Ai ni ci, .slice Af nf cf, .slice Ata nta cta, .slice Am nm cm, .slice Ag ng cg, .slice Ae ne ce, .bool bst, .int .i64 vst, .slice Ael nel cel, .slice Ad nd cd, .slice Ac nc cc]] w (FewTo els nt ni nf nta nm ng ne nel nd w) := by
  have F0 := hid ((Fr.refl No w).alloc (.cells #[.slice At nt ct, .slice Ai ni ci, .slice Af nf cf, .slice Ata nta cta, .slice Am nm cm, .slice Ag ng cg, .slice Ae ne ce, .bool bst, .int .i64 vst, .slice Ael nel cel, .slice Ad nd cd, .slice Ac nc cc] 33))
  go_enter Try.func9, Try.ntmps9
  go_wp2
  go_loop [3, 4] (fun n i => ∃ k m : Nat, k ≤ nel ∧ k ≤ 100 ∧ i = .int .i64 k ∧ n = .int .i64 m ∧ m ≤ 1000000000000000 ∧ Hid (sums (els.take k) = m)) (fun _ i => nel - (intOf i).toNat)
  case atStart => exact ⟨0, 0, by omega, by omega, rfl, rfl, by omega, rfl⟩
  case round =>
    obtain ⟨k, m, hk, hk1, rfl, rfl, hm, HA⟩ := hrel
    by_cases hgo : k < nel ∧ k < 100 ∧ m ≤ 500
    · obtain ⟨g0, g1, g2⟩ := hgo
      have hlk : k < els.length := by have := hn.out; omega
      have HX := hid (El_at h k hlk)
      obtain ⟨b, o, _, _, _, _, rfl, hb, _, _, _, _, c4, _⟩ := HX.out
      have hbl := hS b hb
      have HE := hid (sums_step hlk)
      have hle := hi.out _ (List.getElem_mem hlk)
      generalize els[k].items.length = q at *
      have i0 : (0 : Int) ≤ k := by omega
      have i1 : (k : Int) < nel := by omega
      clear h hS HX
      go_wp2
      go_round
      case rel => exact ⟨k + 1, m + q, by omega, by omega, by go_num, by go_num, by omega, by rw [Hid, HE.out, HA.out]⟩
      case measure => simp [intOf]; omega
    · have HG := hid hgo
      clear h hS
      by_cases g0 : k < nel
      · by_cases g1 : k < 100
        · have g2 : 500 < m := by omega
          clear hgo
          go_wp2
          exact bodyPost_ret (v := .bool false) (by simp [results, Try.results9, go_sem]) rfl ⟨⟨false, rfl, fun h => by cases h⟩, F0.out⟩
        · clear hgo
          by_cases c0 : m ≤ 500
          case neg =>
            go_wp2
            exact bodyPost_ret (v := .bool false) (by simp [results, Try.results9, go_sem]) rfl ⟨⟨false, rfl, fun h => by cases h⟩, F0.out⟩
          by_cases c1 : nt ≤ 100
          case neg =>
            go_wp2
            exact bodyPost_ret (v := .bool false) (by simp [results, Try.results9, go_sem]) rfl ⟨⟨false, rfl, fun h => by cases h⟩, F0.out⟩
          by_cases c2 : ni ≤ 100
          case neg =>
            go_wp2
            exact bodyPost_ret (v := .bool false) (by simp [results, Try.results9, go_sem]) rfl ⟨⟨false, rfl, fun h => by cases h⟩, F0.out⟩
          by_cases c3 : nf ≤ 100
          case neg =>
            go_wp2
            exact bodyPost_ret (v := .bool false) (by simp [results, Try.results9, go_sem]) rfl ⟨⟨false, rfl, fun h => by cases h⟩, F0.out⟩
          by_cases c4 : nta ≤ 50
          case neg =>
            go_wp2
            exact bodyPost_ret (v := .bool false) (by simp [results, Try.results9, go_sem]) rfl ⟨⟨false, rfl, fun h => by cases h⟩, F0.out⟩
          by_cases c5 : nm ≤ 50
          case neg =>
            go_wp2
            exact bodyPost_ret (v := .bool false) (by simp [results, Try.results9, go_sem]) rfl ⟨⟨false, rfl, fun h => by cases h⟩, F0.out⟩
          by_cases c6 : ng ≤ 100
          case neg =>
            go_wp2
            exact bodyPost_ret (v := .bool false) (by simp [results, Try.results9, go_sem]) rfl ⟨⟨false, rfl, fun h => by cases h⟩, F0.out⟩
          by_cases c7 : ne ≤ 200
          case neg =>
            go_wp2
            exact bodyPost_ret (v := .bool false) (by simp [results, Try.results9, go_sem]) rfl ⟨⟨false, rfl, fun h => by cases h⟩, F0.out⟩
          by_cases c8 : nel ≤ 50
          case neg =>
            go_wp2
            exact bodyPost_ret (v := .bool false) (by simp [results, Try.results9, go_sem]) rfl ⟨⟨false, rfl, fun h => by cases h⟩, F0.out⟩
          exact absurd c8 (by omega)
      · clear hgo
        by_cases c0 : m ≤ 500
        case neg =>
          go_wp2
          exact bodyPost_ret (v := .bool false) (by simp [results, Try.results9, go_sem]) rfl ⟨⟨false, rfl, fun h => by cases h⟩, F0.out⟩
        by_cases c1 : nt ≤ 100
        case neg =>
          go_wp2
          exact bodyPost_ret (v := .bool false) (by simp [results, Try.results9, go_sem]) rfl ⟨⟨false, rfl, fun h => by cases h⟩, F0.out⟩
        by_cases c2 : ni ≤ 100
        case neg =>
          go_wp2
          exact bodyPost_ret (v := .bool false) (by simp [results, Try.results9, go_sem]) rfl ⟨⟨false, rfl, fun h => by cases h⟩, F0.out⟩
        by_cases c3 : nf ≤ 100
        case neg =>
          go_wp2
          exact bodyPost_ret (v := .bool false) (by simp [results, Try.results9, go_sem]) rfl ⟨⟨false, rfl, fun h => by cases h⟩, F0.out⟩
        by_cases c4 : nta ≤ 50
        case neg =>
          go_wp2
          exact bodyPost_ret (v := .bool false) (by simp [results, Try.results9, go_sem]) rfl ⟨⟨false, rfl, fun h => by cases h⟩, F0.out⟩
        by_cases c5 : nm ≤ 50
        case neg =>
          go_wp2
          exact bodyPost_ret (v := .bool false) (by simp [results, Try.results9, go_sem]) rfl ⟨⟨false, rfl, fun h => by cases h⟩, F0.out⟩
        by_cases c6 : ng ≤ 100
        case neg =>
          go_wp2
          exact bodyPost_ret (v := .bool false) (by simp [results, Try.results9, go_sem]) rfl ⟨⟨false, rfl, fun h => by cases h⟩, F0.out⟩
        by_cases c7 : ne ≤ 200
        case neg =>
          go_wp2
          exact bodyPost_ret (v := .bool false) (by simp [results, Try.results9, go_sem]) rfl ⟨⟨false, rfl, fun h => by cases h⟩, F0.out⟩
        by_cases c8 : nel ≤ 50
        case neg =>
          go_wp2
          exact bodyPost_ret (v := .bool false) (by simp [results, Try.results9, go_sem]) rfl ⟨⟨false, rfl, fun h => by cases h⟩, F0.out⟩
        by_cases c9 : nd ≤ 50
        case neg =>
          go_wp2
          exact bodyPost_ret (v := .bool false) (by simp [results, Try.results9, go_sem]; omega) rfl ⟨⟨false, rfl, fun h => by cases h⟩, F0.out⟩
        go_wp2
        refine bodyPost_ret (v := .bool true) (by simp [results, Try.results9, go_sem]; omega) rfl ⟨⟨true, rfl, fun _ => ⟨c1, c2, c3, c4, c5, c6, c7, c8, c9, ?_⟩⟩, F0.out⟩
        have h1 := HA.out
        have h2 := hn.out
        rw [List.take_of_length_le (by omega)] at h1
        intro e he
        have := sums_mem els 0 e he
        rw [← sums, h1] at this
        omega
end Go.Proofs.Ytfngopoaegofhaa
