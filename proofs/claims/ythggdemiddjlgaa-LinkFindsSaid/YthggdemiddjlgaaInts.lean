/- Slices of integers that read as lists; small lemmas for the ends of walks. No condition. -/
import Derived.Test.YthggdemiddjlgaaRows
import Derived.Test.YthggdemiddjlgaaApp
import Derived.WalkKit
import Derived.WalkSpells
import Derived.WalkLawsBesides
import Derived.Deep.QuietTactic
import Derived.BigQuiet
import Derived.RegionTactic
import Derived.ChangeAlike
import Derived.Deep.RegionHeld3
import Derived.Laws.BytesString
namespace Go.Proofs.Ythggdemiddjlgaa
open Go.RowKit

theorem ret_bool {a b : Bool} (h : a = b) : Ending.returned (.bool a) = .returned (.bool b) := by rw [h]
theorem ret_int {k : IntKind} {a b : Int} (h : a = b) : Ending.returned (.int k a) = .returned (.int k b) := by rw [h]
theorem ret_str {a b : ByteArray} (h : a = b) : Ending.returned (.string a) = .returned (.string b) := by rw [h]

def Ks (k : IntKind) (xs : List Int) : List Value := xs.map (Value.int k)
@[simp] theorem len_Ks (k : IntKind) (xs : List Int) : (Ks k xs).length = xs.length := by simp [Ks]
theorem one_Ks (k : IntKind) (xs : List Int) : ∀ u ∈ Ks k xs, u.oneCell' = true := by
  intro u hu
  simp only [Ks, List.mem_map] at hu
  obtain ⟨a, _, rfl⟩ := hu
  rfl
theorem Ks_at (k : IntKind) (xs : List Int) (i : Nat) (hi : i < xs.length) : (Ks k xs)[i]'(by simpa using hi) = .int k xs[i] := by simp [Ks]
theorem Ks_append (k : IntKind) (xs ys : List Int) : Ks k (xs ++ ys) = Ks k xs ++ Ks k ys := by simp [Ks]
theorem Ks_rd {k : IntKind} {w : World} {B : Nat} {A : Option Addr} {xs : List Int} (h : Rd w B A (Ks k xs)) (i : Nat) (hi : i < xs.length) : ∃ b o, A = some ⟨b, o, none⟩ ∧ b < B ∧ w.cell? ⟨b, o + i, none⟩ = some (.int k xs[i]) := by
  obtain ⟨b, o, h1, hb, h2⟩ := h.at_ (k := i) (by simpa using hi)
  rw [Ks_at _ _ _ hi] at h2
  exact ⟨b, o, h1, hb, h2⟩

/-- Bytes. -/
def Bs (l : List UInt8) : List Int := l.map fun b => (b.toNat : Int)
@[simp] theorem len_Bs (l : List UInt8) : (Bs l).length = l.length := by simp [Bs]
theorem Bs_append (a b : List UInt8) : Bs (a ++ b) = Bs a ++ Bs b := by simp [Bs]
theorem foldl_push : ∀ (l : List UInt8) (s : ByteArray), (Bs l).foldl (fun r n => r.push (UInt8.ofNat n.toNat)) s = ⟨s.data ++ l.toArray⟩
  | [], s => by simp [Bs]
  | b :: l, s => by
    have e : (Bs (b :: l)).foldl (fun r n => r.push (UInt8.ofNat n.toNat)) s = (Bs l).foldl (fun r n => r.push (UInt8.ofNat n.toNat)) (s.push b) := by simp [Bs]
    rw [e, foldl_push l]
    cases s
    simp [ByteArray.push]
theorem conv_bytes {P : Program} {w : World} {B : Nat} {A : Option Addr} {l : List UInt8} (src dst e : TypeId) (c : Nat)
    (hs : P.underlying src = some (.slice e)) (he : P.underlying e = some (.int .u8)) (hd : P.underlying dst = some .string) (h : Rd w B A (Ks .u8 (Bs l))) :
    (convert src dst (.slice A l.length c)).run P w = .ok (.string ⟨l.toArray⟩) w := by
  rw [run_convert_bytes_string w src dst e _ _ _ hs he hd]
  cases A with
  | none =>
    have hl : l = [] := by
      rcases h with h | ⟨b, o, h, _⟩
      · cases l with
        | nil => rfl
        | cons _ _ => simp [Ks, Bs] at h
      · cases h
    subst hl
    simp [Conv.bytesToString]
    rfl
  | some a =>
    have hh : ∀ (j : Nat) (v : Value), (Ks .u8 (Bs l))[j]? = some v → w.cell? (a.add j) = some v := by
      rcases h with h | ⟨b, o, h, _, hc⟩
      · rw [h]; intro j v hv; simp at hv
      · cases h; intro j v hv; rw [add_lit']; exact hc j v hv
    have hr := run_loadCells_list (P := P) (w := w) a (Ks .u8 (Bs l)) hh
    have e1 : (Ks .u8 (Bs l)).length = l.length := by simp
    rw [e1] at hr
    rw [run_bytesToString w a _ c (Bs l) hr, foldl_push]
    have e2 : ByteArray.empty.data ++ l.toArray = l.toArray := by show #[] ++ l.toArray = _; simp
    rw [e2]
end Go.Proofs.Ythggdemiddjlgaa
