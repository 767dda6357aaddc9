/- Chapter 28: plays of any call; few. -/
import Derived.Test.YtpmnijjfadhocaaMnD
namespace Go.Proofs.Ytpmnijjfadhocaa
open Go.RowKit

theorem plays_any (p q c : Nat) (l lx : Lim) (A : Option Addr) (cx : Nat) (B : List Int) (a : Ac) (Ab : Option Addr) (cb : Nat) (w : World) (hM : Mo w p q c l B) (hR : RmIn w A cx B) (hS : Sep p q A B) (hK : Okm l B) (hm : most l = most lx) (ha : Oka a) (hAb : SrcIn w Ab cb a.b) (hAs : Sep p q Ab a.b) (hcb : -9223372036854775808 ≤ a.call ∧ a.call ≤ 9223372036854775807) :
    Calls Try.prog 17 #[.pointer (some ⟨p, 0, none⟩), .agg #[.int .i64 lx.min, .int .i64 lx.max, .bool lx.has, .slice A B.length cx], .agg #[.int .i64 a.call, .int .i64 a.op, .int .u64 a.to_, .int .u64 a.at_, .int .u64 a.n, .int .u64 a.x, .slice Ab a.b.length cb]] w (PlTo p q l lx A B (playR l B a) w) := by
  by_cases h1 : a.call = 1
  · rw [h1]; exact play1 p q c l lx A cx B a Ab cb w hM hR hS hK hm ha hAb hAs h1
  by_cases h2 : a.call = 2
  · rw [h2]; exact play2 p q c l lx A cx B a Ab cb w hM hR hS hK hm ha hAb hAs h2
  by_cases h3 : a.call = 3
  · rw [h3]; exact play3 p q c l lx A cx B a Ab cb w hM hR hS hK hm ha hAb hAs h3
  by_cases h4 : a.call = 4
  · rw [h4]; exact play4 p q c l lx A cx B a Ab cb w hM hR hS hK hm ha hAb hAs h4
  by_cases h5 : a.call = 5
  · rw [h5]; exact play5 p q c l lx A cx B a Ab cb w hM hR hS hK hm ha hAb hAs h5
  by_cases h6 : a.call = 6
  · rw [h6]; exact play6 p q c l lx A cx B a Ab cb w hM hR hS hK hm ha hAb hAs h6
  exact play0 p q c l lx A cx B a Ab cb w hM hR hS hK hm ha hAb hAs ⟨h1, h2, h3, h4, h5, h6⟩ hcb
theorem okm_len {l : Lim} {B B' : List Int} (h : Okm l B) (e : B'.length = B.length) : Okm l B' := ⟨by rw [e]; exact h.len, by rw [e]; exact h.whole, by rw [e]; exact h.pages, h.most_⟩
theorem okm_grow {l : Lim} {B : List Int} (h : Okm l B) (m : Nat) : Okm l (growR l B m).1 := by
  unfold growR
  split
  · rename_i hg
    have h1 := h.len; have h2 := h.whole; have h3 := h.pages; have h4 := h.most_
    refine ⟨?_, ?_, ?_, h4⟩ <;> simp only [List.length_append, List.length_replicate] <;> omega
  · exact h
theorem len_store (op : Int) (B : List Int) (a o x : Int) (ho : 0 ≤ o) : (storeR op B a o x).1.length = B.length := by
  unfold storeR
  split
  · rfl
  · split
    · rename_i h
      have h1 := of_decide_eq_true h
      rw [splice_len]
      rw [leB_len]; omega
    · rfl
theorem len_fill (B : List Int) (t : Nat) (x : Int) (n : Nat) : (fillR B t x n).1.length = B.length := by
  unfold fillR
  split
  · rw [splice_len]; rw [List.length_replicate]; omega
  · rfl
theorem len_init (B bs : List Int) (t a n : Nat) : (initR B bs t a n).1.length = B.length := by
  unfold initR
  split
  · split
    · rw [splice_len]; rw [List.length_take, List.length_drop]; omega
    · rfl
  · rfl
theorem okm_play {l : Lim} {B : List Int} (h : Okm l B) (a : Ac) (ha : Oka a) : Okm l (playR l B a) := by
  unfold playR
  split
  · exact okm_grow h _
  split
  · exact okm_len h (len_store _ _ _ _ _ ha.at_.1)
  split
  · exact h
  split
  · exact okm_len h (len_fill ..)
  split
  · exact okm_len h (len_init ..)
  split
  · exact okm_len h (len_init ..)
  · exact h
def FewT (l : List Ac) (w : World) (e : Ending) (w' : World) : Prop := (∃ b, e = .returned (.bool b) ∧ (b = true → ∀ a ∈ l, a.b.length ≤ 300)) ∧ Fr No w w'
set_option maxRecDepth 100000 in
set_option maxHeartbeats 1600000 in
theorem few_any (A : Option Addr) (c : Nat) (l : List Ac) (S : Nat → Prop) (w : World) (h : tAc.els w S A l) (hS : ∀ k, S k → k < w.heap.size) (hl : ∀ a ∈ l, a.b.length ≤ 140737488351232) (hll : l.length ≤ 140737488351232) :
    Calls Try.prog 15 #[.slice A l.length c] w (FewT l w) := by
  have HL := hid hl
  go_enter Try.func15, Try.ntmps15
  go_wp2
  have HH := hid h
  have HS := hid hS
  clear h hS hl
  obtain ⟨n, hn⟩ : ∃ n, l.length = n := ⟨_, rfl⟩
  rw [hn] at hll ⊢
  have HN := hid hn
  go_loop [3] (fun i => ∃ k : Nat, k ≤ n ∧ i = .int .i64 k ∧ Hid (∀ (j : Nat) (hj : j < l.length), j < k → l[j].b.length ≤ 300)) (fun i => n - (intOf i).toNat)
  case atStart => exact ⟨0, by omega, rfl, fun j _ h => by omega⟩
  case round =>
    obtain ⟨k, hk, rfl, HK⟩ := hrel
    by_cases hgo : k < n ∧ k < 100
    · obtain ⟨g0, g1⟩ := hgo
      have hlk : k < l.length := by have := HN.out; omega
      have HX := hid (Ac_at HH.out k hlk)
      obtain ⟨b, o, Ab, cb, rfl, hb, c0, _, _, _, c4, _, c6, _⟩ := HX.out
      have hbl := HS.out b hb
      have hle := HL.out _ (List.getElem_mem hlk)
      have HE := hid (fun (h : l[k].b.length ≤ 300) (j : Nat) (hj : j < l.length) (h2 : j < k + 1) => (by by_cases e : j = k; (subst e; exact h); exact HK.out j hj (by omega) : l[j].b.length ≤ 300))
      generalize l[k].b.length = q at *
      generalize l[k].call = cl at *
      generalize l[k].n = m at *
      have i0 : (0 : Int) ≤ k := by omega
      have i1 : (k : Int) < n := by omega
      clear hn hll HX
      go_wp2
      all_goals first
        | exact ⟨⟨k + 1, by omega, by go_num, HE.out (by omega)⟩, by simp [intOf]; omega⟩
        | (go_ret; exact ⟨⟨false, rfl, fun h => by cases h⟩, Fr.refl _ _⟩)
    · have HG := hid hgo
      by_cases g0 : k < n
      · have g1 : 100 ≤ k := by omega
        have h40 : decide ((n : Int) ≤ 40) = false := decide_eq_false (by omega)
        clear hn hgo
        go_wp2
        go_ret
        exact ⟨⟨false, rfl, fun h => by cases h⟩, Fr.refl _ _⟩
      · have g1 : k = n := by omega
        have HA := hid (fun (a : Ac) (ha : a ∈ l) => (by obtain ⟨j, hj, rfl⟩ := List.getElem_of_mem ha; exact HK.out j hj (by have := HN.out; omega) : a.b.length ≤ 300))
        clear hn hgo
        go_wp2
        go_ret
        exact ⟨⟨_, rfl, fun _ => HA.out⟩, Fr.refl _ _⟩
end Go.Proofs.Ytpmnijjfadhocaa
