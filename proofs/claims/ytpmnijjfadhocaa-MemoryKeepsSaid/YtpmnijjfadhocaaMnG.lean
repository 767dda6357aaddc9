/- Chapter 28: plain law of MemoryKeeps. -/
import Derived.Test.YtpmnijjfadhocaaMnF
namespace Go.Proofs.Ytpmnijjfadhocaa
open Go.RowKit

def wrA (a : Ac) : Bool := decide (a.call = 2) || decide (a.call = 4) || decide (a.call = 5) || decide (a.call = 6)
def fromA (a : Ac) : Nat := if a.call = 2 ∧ a.at_ < 256 then lo a.to_ + a.at_.toNat else lo a.to_
def numA (a : Ac) : Nat := if a.call = 2 then 8 else lo a.n
theorem keep_splice {B bs : List Int} {s i : Nat} (h : s + bs.length ≤ B.length) (hne : (splice B s bs)[i]? ≠ B[i]?) : s ≤ i ∧ i < s + bs.length := by
  rw [splice_get? _ _ _ h] at hne
  by_cases h1 : i < s
  · rw [if_pos h1] at hne; exact absurd rfl hne
  · rw [if_neg h1] at hne
    by_cases h2 : i < s + bs.length
    · omega
    · rw [if_neg h2] at hne; exact absurd rfl hne
/-- What a call keeps. -/
structure Keeps (a : Ac) (B B2 : List Int) : Prop where
  len : 256 ≤ B2.length
  old : ∀ i : Nat, i < 256 → B2[i]? ≠ B[i]? → wrA a = true ∧ fromA a ≤ i ∧ i < fromA a + numA a
  new : ∀ i : Nat, 256 ≤ i → i < B2.length → B2[i]? = some 0
theorem keeps_same {a : Ac} {B : List Int} (hB : B.length = 256) : Keeps a B B := ⟨by omega, fun i _ h => absurd rfl h, fun i h1 h2 => by omega⟩
theorem keeps_splice {a : Ac} {B bs : List Int} {s : Nat} (hB : B.length = 256) (h : s + bs.length ≤ B.length) (hw : wrA a = true) (hs : s = fromA a) (hn : bs.length ≤ numA a) : Keeps a B (splice B s bs) :=
  ⟨by rw [splice_len h]; omega, fun i _ hne => by have := keep_splice h hne; exact ⟨hw, by omega, by omega⟩, fun i h1 h2 => by rw [splice_len h] at h2; omega⟩
theorem wst_le (op : Int) : wst op ≤ 8 := by
  by_cases h : wst op = 0
  · omega
  · have := wst_form h; omega
theorem keeps_law {l : Lim} {B : List Int} (a : Ac) (ha : Oka a) (hB : B.length = 256) : Keeps a B (playR l B a) := by
  unfold playR
  by_cases h1 : a.call = 1
  · rw [if_pos h1]
    unfold growR
    split
    · refine ⟨by simp; omega, fun i hi hne => ?_, fun i h2 h3 => ?_⟩
      · rw [List.getElem?_append_left (by omega)] at hne; exact absurd rfl hne
      · rw [List.length_append, List.length_replicate] at h3
        rw [List.getElem?_append_right (by omega), List.getElem?_replicate, if_pos (by omega)]
    · exact keeps_same hB
  rw [if_neg h1]
  by_cases h2 : a.call = 2
  · rw [if_pos h2]
    unfold storeR
    split
    · exact keeps_same hB
    · split
      · rename_i h0 hh
        have hh := of_decide_eq_true hh
        have := wst_form h0
        have e1 := lo_eq a.to_
        have h3 := ha.at_
        rw [hB] at hh
        have hat : a.at_ < 256 := by omega
        refine keeps_splice hB (by rw [leB_len]; omega) (by simp [wrA, h2]) ?_ (by rw [leB_len, numA, if_pos h2]; exact wst_le _)
        rw [fromA, if_pos ⟨h2, hat⟩]
        omega
      · exact keeps_same hB
  rw [if_neg h2]
  by_cases h3 : a.call = 3
  · rw [if_pos h3]; exact keeps_same hB
  rw [if_neg h3]
  by_cases h4 : a.call = 4
  · rw [if_pos h4]
    unfold fillR
    split
    · refine keeps_splice hB (by rw [List.length_replicate]; omega) (by simp [wrA, h4]) ?_ (by rw [List.length_replicate, numA, if_neg h2]; exact Nat.le_refl _)
      rw [fromA, if_neg (fun h => h2 h.1)]
    · exact keeps_same hB
  rw [if_neg h4]
  have hin : ∀ bs : List Int, wrA a = true → Keeps a B (initR B bs (lo a.to_) (lo a.at_) (lo a.n)).1 := fun bs hw => by
    unfold initR
    split
    · split
      · refine keeps_splice hB (by rw [List.length_take, List.length_drop]; omega) hw ?_ (by rw [List.length_take, List.length_drop, numA, if_neg h2]; omega)
        rw [fromA, if_neg (fun h => h2 h.1)]
      · exact keeps_same hB
    · exact keeps_same hB
  by_cases h5 : a.call = 5
  · rw [if_pos h5]; exact hin _ (by simp [wrA, h5])
  rw [if_neg h5]
  by_cases h6 : a.call = 6
  · rw [if_pos h6]; exact hin _ (by simp [wrA, h6])
  rw [if_neg h6]
  exact keeps_same hB
theorem lo_small {n : Nat} (h : n < 4294967296) : lo (n : Int) = n := by unfold lo; omega
theorem init_all {b : List Int} (h : b.length ≤ 256) : (initR (List.replicate 256 0) b (lo 0) (lo 0) (lo (b.length : Int))).2 = 0 := by
  rw [lo_small (by omega), show lo 0 = 0 from rfl, initR, if_pos (by omega), if_pos (by rw [List.length_replicate]; omega)]
end Go.Proofs.Ytpmnijjfadhocaa
