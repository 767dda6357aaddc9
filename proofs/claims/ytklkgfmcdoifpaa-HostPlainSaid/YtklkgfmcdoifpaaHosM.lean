/- Contracts: Find. -/
import Derived.Test.YtklkgfmcdoifpaaHosL
namespace Go.Proofs.Ytklkgfmcdoifpaa
open Go.RowKit

def findAt (m n : ByteArray) (h : Ho) : Bool := h.mod.toList == m.toList && h.name.toList == n.toList
/-- The first index whose names are m and n, or -1. -/
def findFrom (m n : ByteArray) : List Ho → Int → Int
  | [], _ => -1
  | h :: t, i => if findAt m n h then i else findFrom m n t (i + 1)
theorem findFrom_no {m n : ByteArray} {l : List Ho} {k : Nat} (hk : k < l.length) (h : findAt m n l[k] = false) : findFrom m n (l.drop k) k = findFrom m n (l.drop (k + 1)) (k + 1 : Nat) := by
  rw [List.drop_eq_getElem_cons hk, findFrom, h]; simp
theorem findFrom_yes {m n : ByteArray} {l : List Ho} {k : Nat} (hk : k < l.length) (h : findAt m n l[k] = true) : findFrom m n (l.drop k) k = k := by
  rw [List.drop_eq_getElem_cons hk, findFrom, h]; simp
theorem rt_int {k : IntKind} {a b : Int} (h : a = b) : Ending.returned (.int k a) = .returned (.int k b) := by rw [h]

set_option maxHeartbeats 800000 in
theorem find_any (A : Option Addr) (l : List Ho) (m n : ByteArray) (c B : Nat) (w : World) (ha : tHo.els w B A l) (hl : l.length ≤ 140737488351232) :
    Calls Try.prog 18 #[.slice A l.length c, .string m, .string n] w fun e w' => e = .returned (.int .i64 (findFrom m n l 0)) ∧ w = w' := by
  go_enter Try.func18, Try.ntmps18
  go_wp2
  go_loop [10] (fun i => ∃ k : Nat, k ≤ l.length ∧ i = .int .i64 k ∧ Hid (findFrom m n l 0 = findFrom m n (l.drop k) k)) (fun i => l.length - (intOf i).toNat)
  case atStart => exact ⟨0, by omega, rfl, rfl⟩
  case round =>
    obtain ⟨k, hk, rfl, HQ⟩ := hrel
    by_cases hlt : k < l.length
    · obtain ⟨b, o, rfl, hb, y0, y1, _⟩ := ho_at ha k hlt
      have HN : Hid (findAt m n l[k] = false → findFrom m n l 0 = findFrom m n (l.drop (k + 1)) (k + 1 : Nat)) := fun h => HQ.out.trans (findFrom_no hlt h)
      have HY : Hid (findAt m n l[k] = true → findFrom m n l 0 = k) := fun h => HQ.out.trans (findFrom_yes hlt h)
      generalize l[k] = h at *
      cases h1 : h.mod.toList == m.toList with
      | false =>
        have HR := hid (HN.out (by simp only [findAt, h1, Bool.false_and]))
        go_wp2
        go_round
        case rel => exact ⟨k + 1, by omega, by go_num, HR.out⟩
        case measure => simp [intOf]; omega
      | true =>
        cases h2 : h.name.toList == n.toList with
        | false =>
          have HR := hid (HN.out (by simp only [findAt, h1, h2, Bool.and_false]))
          go_wp2
          go_round
          case rel => exact ⟨k + 1, by omega, by go_num, HR.out⟩
          case measure => simp [intOf]; omega
        | true =>
          have HR := hid (HY.out (by simp only [findAt, h1, h2, Bool.and_true]))
          go_wp2
          go_ret
          exact ⟨rt_int HR.out.symm, rfl⟩
    · go_wp2
      go_ret
      obtain rfl : k = l.length := by omega
      refine ⟨rt_int ?_, rfl⟩
      rw [HQ.out, List.drop_length, findFrom]

set_option maxHeartbeats 800000 in
theorem rfind_any (A : Option Addr) (l : List Ho) (m n : ByteArray) (c B : Nat) (w : World) (ha : tHo.els w B A l) (hl : l.length ≤ 140737488351232) :
    Calls Try.prog 19 #[.slice A l.length c, .string m, .string n] w fun e w' => e = .returned (.int .i64 (findFrom m n l 0)) ∧ w = w' := by
  go_enter Try.func19, Try.ntmps19
  go_wp2
  go_loop [7] (fun i => ∃ k : Nat, k ≤ l.length ∧ i = .int .i64 k ∧ Hid (findFrom m n l 0 = findFrom m n (l.drop k) k)) (fun i => l.length - (intOf i).toNat)
  case atStart => exact ⟨0, by omega, rfl, rfl⟩
  case round =>
    obtain ⟨k, hk, rfl, HQ⟩ := hrel
    by_cases hlt : k < l.length
    · obtain ⟨b, o, rfl, hb, y0, y1, _⟩ := ho_at ha k hlt
      have HN : Hid (findAt m n l[k] = false → findFrom m n l 0 = findFrom m n (l.drop (k + 1)) (k + 1 : Nat)) := fun h => HQ.out.trans (findFrom_no hlt h)
      have HY : Hid (findAt m n l[k] = true → findFrom m n l 0 = k) := fun h => HQ.out.trans (findFrom_yes hlt h)
      generalize l[k] = h at *
      cases h1 : h.mod.toList == m.toList with
      | false =>
        have HR := hid (HN.out (by simp only [findAt, h1, Bool.false_and]))
        go_wp2
        go_round
        case rel => exact ⟨k + 1, by omega, by go_num, HR.out⟩
        case measure => simp [intOf]; omega
      | true =>
        cases h2 : h.name.toList == n.toList with
        | false =>
          have HR := hid (HN.out (by simp only [findAt, h1, h2, Bool.and_false]))
          go_wp2
          go_round
          case rel => exact ⟨k + 1, by omega, by go_num, HR.out⟩
          case measure => simp [intOf]; omega
        | true =>
          have HR := hid (HY.out (by simp only [findAt, h1, h2, Bool.and_true]))
          go_wp2
          go_ret
          exact ⟨rt_int HR.out.symm, rfl⟩
    · go_wp2
      go_ret
      obtain rfl : k = l.length := by omega
      refine ⟨rt_int ?_, rfl⟩
      rw [HQ.out, List.drop_length, findFrom]

end Go.Proofs.Ytklkgfmcdoifpaa
