/- Contracts of the functions of chapter 03, part 1: the reference's decoding. -/
import Derived.Test.YthggdemiddjlgaaInts
import Derived.Test.YthggdemiddjlgaaUtg
namespace Go.Proofs.Ythggdemiddjlgaa
open Go.RowKit

theorem isR_int (n : Int) : okI n = decide ((0 ≤ n ∧ n < 55296) ∨ (57343 < n ∧ n ≤ 1114111)) := by
  simp only [okI, isR]; rw [Bool.eq_iff_iff]; simp; omega

theorem get_toList (s : ByteArray) (i : Nat) (h : i < s.size) : s.data.toList[i]? = some s[i] := by
  rw [Array.getElem?_toList]; exact Array.getElem?_eq_getElem h
theorem drop_cons (s : ByteArray) (i : Nat) (h : i < s.size) : s.data.toList.drop i = s[i] :: s.data.toList.drop (i + 1) := by
  have hl : i < s.data.toList.length := by simpa using h
  rw [List.drop_eq_getElem_cons hl]
  rfl
theorem conts_stop : ∀ (k j : Nat) (l : List UInt8) (x : Nat), j < k → (∀ c, l[j]? = some c → cb c = false) → conts k l x = none
  | 0, j, l, x, h, _ => by omega
  | k + 1, j, [], x, h, hc => rfl
  | k + 1, 0, c :: l, x, h, hc => by simp [conts, hc c rfl]
  | k + 1, j + 1, c :: l, x, h, hc => by
    simp only [conts]
    split
    · exact conts_stop k j l _ (by omega) (fun c' h' => hc c' (by simpa using h'))
    · rfl
/-- The rounds of the loop: what is left to read. -/
theorem conts_step (s : ByteArray) (i k : Nat) (x : Nat) (h : i < s.size) (hc : cb s[i] = true) : conts (k + 1) (s.data.toList.drop i) x = conts k (s.data.toList.drop (i + 1)) (x * 64 + (s[i].toNat - 128)) := by
  rw [drop_cons s i h]; simp [conts, hc]
theorem conts_bad (s : ByteArray) (i k : Nat) (x : Nat) (h : i < s.size) (hc : cb s[i] = false) : conts (k + 1) (s.data.toList.drop i) x = none := by
  rw [drop_cons s i h]; simp [conts, hc]

/-- The reference's answer: the rune and its length, or 0 and 0. -/
def decI (l : List UInt8) : Int × Int := match dec l with | some (c, n) => ((c : Int), (n : Int)) | none => (0, 0)

def Rune1To (l : List UInt8) (w : World) (e : Ending) (w' : World) : Prop := e = .returned (.tuple #[.int .i64 (decI l).1, .int .i64 (decI l).2]) ∧ w = w'









end Go.Proofs.Ythggdemiddjlgaa
