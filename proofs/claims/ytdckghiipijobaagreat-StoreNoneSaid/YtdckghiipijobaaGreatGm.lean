/- Merged: SmB SmC SmD SmE SmF SmG SmH SmI SmJ SmK SmL SmM SmN SmO SmP SmQ SmR SmS SmT SmU SmV SmW. -/
import Derived.Test.YtdckghiipijobaaGreatShL
import Derived.Test.YtdckghiipijobaaGreatInts
import Derived.Test.YtdckghiipijobaaGreatOrt
import Derived.Test.YtdckghiipijobaaGreatAll
import Derived.ProofKit
import Derived.IntWalk
import Derived.Laws.Bits64b
import Derived.BigQuiet
import Derived.Laws.Shifts
import Derived.Test.YtdckghiipijobaaGreatList
import Derived.Deep.DeepCutAuto
import Derived.Lib.SliceRun
import Derived.Lib.AppendZerosOnto

namespace Go.Proofs.YtdckghiipijobaaGreat
open Go.RowKit

theorem and_low (x : Int) (hx : 0 ≤ x ∧ x < 18446744073709551616) : bits .and .u64 x 4294967295 = x % 4294967296 := by
  obtain ⟨n, rfl⟩ : ∃ n : Nat, x = n := ⟨x.toNat, by omega⟩
  have h := bits_and_u64_nat n 4294967295 (by omega) (by omega)
  have e : n &&& 4294967295 = n % 4294967296 := Nat.and_two_pow_sub_one_eq_mod n 32
  rw [e] at h
  simpa using h
theorem low_any (x : Int) (w : World) (hx : 0 ≤ x ∧ x < 18446744073709551616) : Calls Tryz.prog 131 #[.int .u64 x] w fun e w' => e = .returned (.int .u64 (x % 4294967296)) ∧ w = w' := by
  go_enter Tryz.func131, Tryz.ntmps131
  go_wp2
  go_ret
  exact ⟨ret_int (and_low x hx), rfl⟩
theorem rlow_any (x : Int) (w : World) (hx : 0 ≤ x ∧ x < 18446744073709551616) : Calls Tryz.prog 134 #[.int .u64 x] w fun e w' => e = .returned (.int .i64 (x % 4294967296)) ∧ w = w' := by
  go_enter Tryz.func134, Tryz.ntmps134
  go_wp2
  go_ret
  exact ⟨ret_int (by rw [and_low x hx]; simp only [wrap64]; omega), rfl⟩
def fits (size a n : Int) : Bool := decide (a ≤ size ∧ n ≤ size - a)
theorem there_any (s : Nat) (a n : Int) (w : World) (hs : s ≤ 1000000000000) (ha : 0 ≤ a ∧ a < 18446744073709551616) (hn : 0 ≤ n ∧ n < 18446744073709551616) : Calls Tryz.prog 132 #[.int .i64 s, .int .u64 a, .int .u64 n] w fun e w' => e = .returned (.bool (fits s a n)) ∧ w = w' := by
  by_cases h1 : a ≤ s
  · by_cases h2 : n ≤ s - a
    · go_enter Tryz.func132, Tryz.ntmps132
      go_wp2
      go_ret
      exact ⟨ret_bool (by rw [fits, Bool.eq_iff_iff]; simp; omega), rfl⟩
    · go_enter Tryz.func132, Tryz.ntmps132
      go_wp2
      go_ret
      exact ⟨ret_bool (by rw [fits, Bool.eq_iff_iff]; simp; omega), rfl⟩
  · go_enter Tryz.func132, Tryz.ntmps132
    go_wp2
    go_ret
    exact ⟨ret_bool (by rw [fits, Bool.eq_iff_iff]; simp; omega), rfl⟩
theorem room_any (s a n : Int) (w : World) (hs : 0 ≤ s ∧ s ≤ 1000000000000) (ha : -9223372036854775808 ≤ a ∧ a ≤ 9223372036854775807) (hn : -9223372036854775808 ≤ n ∧ n ≤ 9223372036854775807) : Calls Tryz.prog 133 #[.int .i64 s, .int .i64 a, .int .i64 n] w fun e w' => e = .returned (.bool (decide (0 ≤ a ∧ 0 ≤ n) && fits s a n)) ∧ w = w' := by
  by_cases h0 : 0 ≤ a
  · by_cases h00 : 0 ≤ n
    · by_cases h1 : a ≤ s
      · by_cases h2 : n ≤ s - a
        · go_enter Tryz.func133, Tryz.ntmps133
          go_wp2
          go_ret
          exact ⟨ret_bool (by rw [fits, Bool.eq_iff_iff]; simp; omega), rfl⟩
        · go_enter Tryz.func133, Tryz.ntmps133
          go_wp2
          go_ret
          exact ⟨ret_bool (by rw [fits, Bool.eq_iff_iff]; simp; omega), rfl⟩
      · go_enter Tryz.func133, Tryz.ntmps133
        go_wp2
        go_ret
        exact ⟨ret_bool (by rw [fits, Bool.eq_iff_iff]; simp; omega), rfl⟩
    · go_enter Tryz.func133, Tryz.ntmps133
      go_wp2
      go_ret
      exact ⟨ret_bool (by rw [fits, Bool.eq_iff_iff]; simp; omega), rfl⟩
  · go_enter Tryz.func133, Tryz.ntmps133
    go_wp2
    go_ret
    exact ⟨ret_bool (by rw [fits, Bool.eq_iff_iff]; simp; omega), rfl⟩
/-- How many bytes a load reads, a store writes. -/
def mwid (op : Int) : Nat := if op = 44 ∨ op = 45 ∨ op = 48 ∨ op = 49 then 1 else if op = 46 ∨ op = 47 ∨ op = 50 ∨ op = 51 then 2 else if op = 40 ∨ op = 52 ∨ op = 53 then 4 else if op = 41 then 8 else 0
def wst (op : Int) : Nat := if op = 58 ∨ op = 60 then 1 else if op = 59 ∨ op = 61 then 2 else if op = 54 ∨ op = 62 then 4 else if op = 55 then 8 else 0
def wall (op : Int) : Nat := if mwid op = 0 then wst op else mwid op
def sgn (k : Nat) (x : Int) : Int := if x % (2 ^ k : Int) < (2 ^ (k - 1) : Int) then x % (2 ^ k : Int) else x % (2 ^ k : Int) - (2 ^ k : Int)
end Go.Proofs.YtdckghiipijobaaGreat

namespace Go.Proofs.YtdckghiipijobaaGreat
open Go.RowKit

def Bts (l : List Int) : Prop := ∀ b ∈ l, 0 ≤ b ∧ b ≤ 255
theorem els_bts {w : World} {S : Nat → Prop} {A : Option Addr} {l : List Int} (h : tB.els w S A l) : Bts l := by
  intro b hb
  obtain ⟨i, hi, rfl⟩ := List.getElem_of_mem hb
  obtain ⟨_, _, _, _, _, hw⟩ := ints_at h i hi
  exact wf_u8 hw
/-- The number whose bytes these are, the lowest first. -/
def leI : List Int → Int
  | [] => 0
  | b :: l => b + 256 * leI l
set_option maxRecDepth 100000 in
theorem leI_append (l : List Int) (b : Int) : leI (l ++ [b]) = leI l + b * 256 ^ l.length := by
  induction l with
  | nil => simp [leI]
  | cons a l ih =>
    simp only [List.cons_append, leI, ih, List.length_cons, Int.pow_succ]
    rw [Int.mul_add, ← Int.add_assoc]
    congr 1
    rw [← Int.mul_assoc, Int.mul_comm 256 b, Int.mul_assoc, Int.mul_comm 256]
theorem leI_take {l : List Int} {k : Nat} (hk : k < l.length) : leI (l.take (k + 1)) = leI (l.take k) + l[k] * 256 ^ k := by
  rw [List.take_succ_eq_append_getElem hk, leI_append, List.length_take, Nat.min_eq_left (Nat.le_of_lt hk)]
set_option maxRecDepth 100000 in
theorem leI_lt {l : List Int} (h : Bts l) : 0 ≤ leI l ∧ leI l < 256 ^ l.length := by
  induction l with
  | nil => simp [leI]
  | cons a l ih =>
    have h1 := h a (List.mem_cons_self ..)
    have h2 := ih (fun b hb => h b (List.mem_cons_of_mem _ hb))
    simp only [leI, List.length_cons, Int.pow_succ]
    omega
theorem or_add (n b k : Nat) (h : n < 2 ^ k) : n ||| b * 2 ^ k = n + b * 2 ^ k := by
  rw [Nat.or_comm, Nat.mul_comm b, ← Nat.two_pow_add_eq_or_of_lt h, Nat.add_comm]
set_option maxRecDepth 100000 in
theorem shl_byte (v : Int) (k : Nat) (hv : 0 ≤ v ∧ v ≤ 255) (hk : k < 8) : IntKind.u64.wrap (v * 2 ^ (8 * k)) = v * 256 ^ k := by
  rw [IntKind.wrap_u64]
  have hh : k = 0 ∨ k = 1 ∨ k = 2 ∨ k = 3 ∨ k = 4 ∨ k = 5 ∨ k = 6 ∨ k = 7 := by omega
  rcases hh with rfl | rfl | rfl | rfl | rfl | rfl | rfl | rfl <;> simp <;> omega
set_option maxRecDepth 100000 in
theorem or_byte (u v : Int) (k : Nat) (hu : 0 ≤ u ∧ u < 256 ^ k) (hv : 0 ≤ v ∧ v ≤ 255) (hk : k < 8) : bits .or .u64 u (v * 256 ^ k) = u + v * 256 ^ k := by
  obtain ⟨n, rfl⟩ : ∃ n : Nat, u = n := ⟨u.toNat, by omega⟩
  obtain ⟨m, rfl⟩ : ∃ m : Nat, v = m := ⟨v.toNat, by omega⟩
  have hh : k = 0 ∨ k = 1 ∨ k = 2 ∨ k = 3 ∨ k = 4 ∨ k = 5 ∨ k = 6 ∨ k = 7 := by omega
  have hp : (256 : Nat) ^ k = 2 ^ (8 * k) := by rw [Nat.pow_mul]
  have hn : n < 256 ^ k := by have := hu.2; exact_mod_cast this
  have h2 : m * 256 ^ k < 18446744073709551616 := by
    rcases hh with rfl | rfl | rfl | rfl | rfl | rfl | rfl | rfl <;> simp <;> omega
  have h3 : n < 18446744073709551616 := by
    rcases hh with rfl | rfl | rfl | rfl | rfl | rfl | rfl | rfl <;> simp at hn <;> omega
  have h := bits_or_u64_nat n (m * 256 ^ k) h3 h2
  have hn2 : n < 2 ^ (8 * k) := by rw [← hp]; exact hn
  have h4 := or_add n m (8 * k) hn2
  rw [← hp] at h4
  rw [h4] at h
  push_cast at h
  exact h
theorem rt_tup {a b : Int} (h : a = b) : Ending.returned (.tuple #[.int .u64 a, .bool true]) = .returned (.tuple #[.int .u64 b, .bool true]) := by rw [h]
/-- What a load makes of the bytes. -/
def ldV (op : Int) (l : List Int) : Int :=
  let n := leI l
  if op = 44 then (if n < 128 then n else n + 4294967040) else if op = 46 then (if n < 32768 then n else n + 4294901760) else if op = 48 then (if n < 128 then n else n + 18446744073709551360)
  else if op = 50 then (if n < 32768 then n else n + 18446744073709486080) else if op = 52 then (if n < 2147483648 then n else n + 18446744069414584320) else n
def ldD (op : Int) (l : List Int) : Int × Bool := if mwid op = 0 ∨ l.length ≠ mwid op then (0, false) else (ldV op l, true)
end Go.Proofs.YtdckghiipijobaaGreat

namespace Go.Proofs.YtdckghiipijobaaGreat
open Go.RowKit

theorem leI_drop {l : List Int} {k : Nat} (hk : k < l.length) : leI (l.drop k) = l[k] + 256 * leI (l.drop (k + 1)) := by
  rw [List.drop_eq_getElem_cons hk, leI]
theorem bts_drop {l : List Int} (h : Bts l) (k : Nat) : Bts (l.drop k) := fun b hb => h b (List.mem_of_mem_drop hb)
set_option maxRecDepth 100000 in
theorem pow256_le {a b : Nat} (h : a ≤ b) : (256 : Int) ^ a ≤ 256 ^ b := by
  have : (256 : Nat) ^ a ≤ 256 ^ b := Nat.pow_le_pow_right (by omega) h
  exact_mod_cast this
theorem wid_lt {op : Int} (h : mwid op ≠ 0) : op < 54 := by
  unfold mwid at h
  split at h
  · omega
  · split at h
    · omega
    · split at h
      · omega
      · split at h
        · omega
        · exact absurd rfl h
theorem wst_ge {op : Int} (h : wst op ≠ 0) : 54 ≤ op := by
  unfold wst at h
  split at h
  · omega
  · split at h
    · omega
    · split at h
      · omega
      · split at h
        · omega
        · exact absurd rfl h
theorem wid_form {op : Int} (h : mwid op ≠ 0) : mwid op = 1 ∨ mwid op = 2 ∨ mwid op = 4 ∨ mwid op = 8 := by
  unfold mwid at h ⊢
  split at h
  · simp [*]
  · split at h
    · simp [*]
    · split at h
      · simp [*]
      · split at h
        · simp [*]
        · exact absurd rfl h
end Go.Proofs.YtdckghiipijobaaGreat

namespace Go.Proofs.YtdckghiipijobaaGreat
open Go.RowKit

theorem elBs : ElemOk Tryz.prog 59 5 1 1 (.int .u8 0) := ElemOk.mk' Tryz.underlying59 (by kernel_rfl) rfl (by decide)
/-- The n lowest bytes of a number, the lowest first. -/
def leB : Nat → Int → List Int
  | 0, _ => []
  | n + 1, x => x % 256 :: leB n (x / 256)
@[simp] theorem leB_len (n : Nat) (x : Int) : (leB n x).length = n := by
  induction n generalizing x with
  | zero => rfl
  | succ n ih => simp [leB, ih]
theorem leB_bts (n : Nat) (x : Int) : Bts (leB n x) := by
  induction n generalizing x with
  | zero => intro b hb; cases hb
  | succ n ih =>
    intro b hb
    rw [leB, List.mem_cons] at hb
    rcases hb with rfl | hb
    · omega
    · exact ih _ b hb
theorem leB_get (n : Nat) (x : Int) (k : Nat) (h : k < n) : (leB n x)[k]'(by simpa using h) = x / 256 ^ k % 256 := by
  induction n generalizing x k with
  | zero => omega
  | succ n ih =>
    cases k with
    | zero => simp [leB]
    | succ k =>
      simp only [leB, List.getElem_cons_succ]
      rw [ih _ _ (by omega), Int.pow_succ, Int.mul_comm, ← Int.ediv_ediv_of_nonneg (by omega)]
theorem leB_take (n : Nat) (x : Int) (k : Nat) (h : k < n) : (leB n x).take (k + 1) = (leB n x).take k ++ [x / 256 ^ k % 256] := by
  rw [List.take_succ_eq_append_getElem (by simpa using h), leB_get n x k h]
theorem wf_u8' {n : Int} (h : 0 ≤ n ∧ n ≤ 255) : (Lit.int .u8 n).wf = true := by
  simpa [Lit.wf, IntKind.min, IntKind.max, IntKind.signed, IntKind.bits] using h
theorem css_bts {w : World} {S : Nat → Prop} {l : List Int} (h : Bts l) : Css tB w S (l.map fun b => [.int .u8 b]) l := by
  refine ⟨by simp, fun i c x h1 h2 => ?_⟩
  rw [List.getElem?_map, h2] at h1
  simp only [Option.map_some, Option.some.injEq] at h1
  subst h1
  exact ⟨rfl, wf_u8' (h x (List.mem_of_getElem? h2))⟩
theorem flat_bts (l : List Int) : (l.map fun b => [Value.int .u8 b]).flatten = Ks .u8 l := by
  induction l with
  | nil => rfl
  | cons a l ih => simp [Ks] at ih ⊢; exact ih
/-- A row of bytes in a block of its own. -/
theorem row_bts {w : World} {base q : Nat} {l : List Int} (hb : Blk w q 5 (Ks .u8 l).toArray) (hq : base ≤ q) (h : Bts l) (hm : l.length ≤ maxLen) : tB.row w base Emp 5 (.slice (some ⟨q, 0, none⟩) l.length l.length) l :=
  Ty.row.lit (css := l.map fun b => [.int .u8 b]) (by rw [flat_bts]; exact hb) hq (css_bts h) hm
def stD (op x : Int) : List Int × Bool := if wst op = 0 then ([], false) else (leB (wst op) x, true)
def StTo (l : List Int) (ok : Bool) (w : World) (e : Ending) (w' : World) : Prop :=
  ∃ (A : Option Addr) (c : Nat), e = .returned (.tuple #[.slice A l.length c, .bool ok]) ∧ tB.row w' w.heap.size Emp 5 (.slice A l.length c) l ∧ Fr No w w'
theorem wst_form {op : Int} (h : wst op ≠ 0) : wst op = 1 ∨ wst op = 2 ∨ wst op = 4 ∨ wst op = 8 := by
  unfold wst at h ⊢
  split at h
  · simp [*]
  · split at h
    · simp [*]
    · split at h
      · simp [*]
      · split at h
        · simp [*]
        · exact absurd rfl h
theorem fill_set (l : List Int) (n k : Nat) (hk : k < n) (hl : l.length = n) (v : Int) (hv : l[k]? = some v) : ((Ks .u8 (l.take k ++ List.replicate (n - k) 0)).toArray).setIfInBounds k (.int .u8 v) = (Ks .u8 (l.take (k + 1) ++ List.replicate (n - (k + 1)) 0)).toArray := by
  have hkl : k < l.length := by omega
  have hvv : l[k] = v := by rw [List.getElem?_eq_getElem hkl] at hv; injection hv
  have e : n - k = (n - (k + 1)) + 1 := by omega
  rw [e, List.replicate_succ, List.take_succ_eq_append_getElem hkl, hvv, List.setIfInBounds_toArray]
  congr 1
  simp only [Ks, List.map_append, List.map_cons]
  rw [List.set_append, if_neg (by simp; omega)]
  simp [Nat.min_eq_left (Nat.le_of_lt hkl)]
theorem shr_byte (x : Int) (k : Nat) (hx : 0 ≤ x) : x / 2 ^ (8 * k) % 256 = x / 256 ^ k % 256 := by
  have : (256 : Int) ^ k = 2 ^ (8 * k) := by rw [Int.pow_mul]; rfl
  rw [this]
theorem row_of {w : World} {base : Nat} {v : Value} {l : List Int} (h : w.ownsRow base 5 1 v l.length (Ks .u8 l)) (hb : Bts l) : tB.row w base Emp 5 v l :=
  ⟨l.map fun b => [.int .u8 b], css_bts hb, by rw [flat_bts]; exact h⟩
theorem owns_ge {w : World} {base n : Nat} {e : TypeId} {v : Value} {xs : List Value} (h : w.ownsRow base e 1 v n xs) {g : Nat} (hv : v.ownBlock = some g) : base ≤ g := by
  rcases h.2 with hn | ⟨g', cap, cur, rfl, hb, _⟩
  · obtain ⟨rfl, _⟩ := hn
    simp [Value.ownBlock] at hv
  · simp [Value.ownBlock] at hv
    subst hv
    exact hb
theorem Bts.take {l : List Int} (h : Bts l) (k : Nat) : Bts (l.take k) := fun b hb => h b (List.mem_of_mem_take hb)
end Go.Proofs.YtdckghiipijobaaGreat

namespace Go.Proofs.YtdckghiipijobaaGreat
open Go.RowKit

def wl : List Nat := [1, 2, 4, 8]
theorem wl_wid {op : Int} (h : ∀ i : Nat, i < 4 → wl[i]? ≠ some (mwid op)) : mwid op = 0 := by
  rcases Nat.eq_zero_or_pos (mwid op) with h0 | h0
  · exact h0
  · rcases wid_form (Nat.ne_of_gt h0) with e | e | e | e
    · exact absurd (by rw [e]; rfl) (h 0 (by omega))
    · exact absurd (by rw [e]; rfl) (h 1 (by omega))
    · exact absurd (by rw [e]; rfl) (h 2 (by omega))
    · exact absurd (by rw [e]; rfl) (h 3 (by omega))
theorem zeros_bts (n : Nat) : Bts (List.replicate n 0) := fun b hb => by rw [List.mem_replicate] at hb; omega
theorem zeros_els {w : World} {q c n : Nat} {t : TypeId} (hb : Blk w q t (Array.replicate c (.int .u8 0))) (hn : n ≤ c) : tB.els w (· = q) (some ⟨q, 0, none⟩) (List.replicate n (0 : Int)) :=
  css_els (S := Emp) (S' := (· = q)) (css_bts (zeros_bts n)) inferInstance (fun _ h => h.elim) rfl 0 (fun k u hu => by
    rw [flat_bts, Ks, List.map_replicate, List.getElem?_replicate] at hu
    split at hu
    · rw [Nat.zero_add, hb.cell, Array.getElem?_replicate, if_pos (by omega)]; exact hu
    · cases hu)
theorem wl_at {k : Nat} (hk : k < 4) : ∃ m : Nat, wl[k]? = some m ∧ (#[Value.int .i64 1, Value.int .i64 2, Value.int .i64 4, Value.int .i64 8] : Array Value)[k]? = some (.int .i64 m) ∧ 1 ≤ m ∧ m ≤ 8 := by
  have : k = 0 ∨ k = 1 ∨ k = 2 ∨ k = 3 := by omega
  rcases this with rfl | rfl | rfl | rfl
  · exact ⟨1, rfl, rfl, by omega, by omega⟩
  · exact ⟨2, rfl, rfl, by omega, by omega⟩
  · exact ⟨4, rfl, rfl, by omega, by omega⟩
  · exact ⟨8, rfl, rfl, by omega, by omega⟩
theorem ldD_zero (op : Int) (m : Nat) : (ldD op (List.replicate m 0)).2 = decide (mwid op ≠ 0 ∧ m = mwid op) := by
  unfold ldD
  rw [List.length_replicate]
  split <;> rename_i h
  · rw [decide_eq_false]; omega
  · rw [decide_eq_true]; omega
end Go.Proofs.YtdckghiipijobaaGreat

namespace Go.Proofs.YtdckghiipijobaaGreat
open Go.RowKit

def hasB (n : Nat) (addr off k : Int) : Bool := decide (0 ≤ k ∧ off ≤ n ∧ addr % 4294967296 ≤ n - off ∧ k ≤ n - off - addr % 4294967296)
theorem pages_any (p : Nat) (A : Option Addr) (n c : Nat) (w : World) (h3 : w.cell? ⟨p, 3, none⟩ = some (.slice A n c)) (hn : n ≤ 1000000) :
    Calls Tryz.prog 64 #[.pointer (some ⟨p, 0, none⟩)] w fun e w' => e = .returned (.int .i64 ((n / 256 : Nat) : Int)) ∧ w = w' := by
  go_enter Tryz.func64, Tryz.ntmps64
  go_wp2
  go_ret
  exact ⟨ret_int (by omega), rfl⟩
theorem pages_nil (w : World) :
    Calls Tryz.prog 64 #[.pointer none] w fun e w' => e = .returned (.int .i64 0) ∧ w = w' := by
  go_enter Tryz.func64, Tryz.ntmps64
  go_wp2
  go_ret
  exact ⟨rfl, rfl⟩
/-- The reference's memory as a value. -/
def rmv (l : Lim) (A : Option Addr) (n c : Nat) : Value := .agg #[.int .i64 l.min, .int .i64 l.max, .bool l.has, .slice A n c]
theorem rpages_any (l : Lim) (A : Option Addr) (n c : Nat) (w : World) (hn : n ≤ 1000000) :
    Calls Tryz.prog 65 #[rmv l A n c] w fun e w' => e = .returned (.int .i64 ((n / 256 : Nat) : Int)) ∧ Fr No w w' := by
  have F0 := hid ((Fr.refl No w).alloc (.cells #[.int .i64 l.min, .int .i64 l.max, .bool l.has, .slice A n c] 143))
  unfold rmv
  go_enter Tryz.func65, Tryz.ntmps65
  go_wp2
  go_ret
  exact ⟨ret_int (by omega), F0.out⟩
end Go.Proofs.YtdckghiipijobaaGreat

namespace Go.Proofs.YtdckghiipijobaaGreat
open Go.RowKit

theorem els_sub {w : World} {S : Nat → Prop} {A : Option Addr} {B : List Int} {k n : Nat} (h : tB.els w S A B) (hk : k + n ≤ B.length) (hn : 0 < n) : ∃ q o, A = some ⟨q, o, none⟩ ∧ tB.els w S (some ⟨q, o + k, none⟩) ((B.drop k).take n) := by
  rcases h with h | ⟨q, o, rfl, hq, h⟩
  · rw [h] at hk; simp at hk; omega
  · refine ⟨q, o, rfl, .inr ⟨q, o + k, rfl, hq, fun i x hx => ?_⟩⟩
    have hB : B[k + i]? = some x := by
      rw [List.getElem?_take] at hx
      split at hx
      · rwa [List.getElem?_drop] at hx
      · cases hx
    obtain ⟨ds, h1, h2⟩ := h (k + i) x hB
    refine ⟨ds, fun j u hu => ?_, h2⟩
    have := h1 j u hu
    have e : tB.size = 1 := rfl
    rw [e] at this ⊢
    rw [show o + k + (i * 1 + j) = o + ((k + i) * 1 + j) by omega]
    exact this
def loadR (op : Int) (B : List Int) (addr off : Int) : Int × Int :=
  if mwid op = 0 then (0, 12) else if hasB B.length addr off (mwid op) then (ldV op ((B.drop (addr % 4294967296 + off).toNat).take (mwid op)), 0) else (0, 2)
end Go.Proofs.YtdckghiipijobaaGreat

namespace Go.Proofs.YtdckghiipijobaaGreat
open Go.RowKit

theorem rd_of_els {w : World} {S : Nat → Prop} {A : Option Addr} {B : List Int} {n : Nat} (h : tB.els w S A B) (hS : ∀ k, S k → k < n) : Rd w n A (Ks .u8 B) := by
  rcases h with h | ⟨q, o, rfl, hq, h⟩
  · rw [h]; exact Rd.nil
  · refine .inr ⟨q, o, rfl, hS q hq, fun k u hu => ?_⟩
    rw [Ks, List.getElem?_map] at hu
    cases hx : B[k]? with
    | none => rw [hx] at hu; cases hu
    | some x =>
      rw [hx] at hu
      simp only [Option.map_some, Option.some.injEq] at hu
      obtain ⟨ds, h1, h2, _⟩ := h k x hx
      subst h2
      have := h1 0 _ rfl
      have e : tB.size = 1 := rfl
      rw [e, Nat.mul_one, Nat.add_zero] at this
      rw [this, hu]
theorem Rd.take_ {w : World} {n : Nat} {A : Option Addr} {xs : List Value} (h : Rd w n A xs) (k : Nat) : Rd w n A (xs.take k) := by
  rcases h with h | ⟨q, o, rfl, hq, h⟩
  · rw [h]; simp; exact Rd.nil
  · exact .inr ⟨q, o, rfl, hq, fun j u hu => by
      rw [List.getElem?_take] at hu
      split at hu
      · exact h j u hu
      · cases hu⟩
theorem Rd.drop_ {w : World} {n q o : Nat} {xs : List Value} (h : Rd w n (some ⟨q, o, none⟩) xs) (k : Nat) : Rd w n (some ⟨q, o + k, none⟩) (xs.drop k) := by
  rcases h with h | ⟨q', o', e, hq, h⟩
  · rw [h]; simp; exact Rd.nil
  · cases e
    exact .inr ⟨_, _, rfl, hq, fun j u hu => by
      rw [List.getElem?_drop] at hu
      have := h _ u hu
      rw [Nat.add_assoc]; exact this⟩
theorem Ks_take (k : IntKind) (xs : List Int) (n : Nat) : (Ks k xs).take n = Ks k (xs.take n) := by simp [Ks]
theorem Ks_drop (k : IntKind) (xs : List Int) (n : Nat) : (Ks k xs).drop n = Ks k (xs.drop n) := by simp [Ks]
def WrTo (l : List Int) (w : World) (e : Ending) (w' : World) : Prop :=
  ∃ (A : Option Addr) (c : Nat), e = .returned (.slice A l.length c) ∧ tB.row w' w.heap.size Emp 5 (.slice A l.length c) l ∧ Fr No w w'
theorem Bts.drop_ {l : List Int} (h : Bts l) (k : Nat) : Bts (l.drop k) := fun b hb => h b (List.mem_of_mem_drop hb)
theorem Bts.app {l m : List Int} (h : Bts l) (k : Bts m) : Bts (l ++ m) := fun b hb => (List.mem_append.1 hb).elim (h b) (k b)
set_option maxRecDepth 100000 in
set_option maxHeartbeats 1600000 in
theorem written_any (A D : Option Addr) (c c' a : Nat) (B bs : List Int) (w : World) (hB : Rd w w.heap.size A (Ks .u8 B)) (hA : A = none → B = []) (hD : Rd w w.heap.size D (Ks .u8 bs)) (b1 : Bts B) (b2 : Bts bs) (ha : a + bs.length ≤ B.length) (hc : B.length ≤ c) (hn : B.length ≤ 100000) (hspot : ∀ ad, A = some ad → ∃ q o, ad = ⟨q, o, none⟩) :
    Calls Tryz.prog 135 #[.slice A B.length c, .int .i64 a, .slice D bs.length c'] w (WrTo (splice B a bs) w) := by
  cases A with
  | none =>
    have hB0 := hA rfl
    subst hB0
    simp only [List.length_nil] at ha
    have ha0 : a = 0 := by omega
    have hbs : bs = [] := List.eq_nil_of_length_eq_zero (by omega)
    subst ha0 hbs
    go_enter Tryz.func135, Tryz.ntmps135
    go_upto_region 3 with (at_builtin; refine wpList_appC (t := tB) (base := w.heap.size) (S := Emp) (xs := []) (ys := []) (dss := []) (B2 := w.heap.size) elBs rfl rfl rfl rfl (Ty.row.nil _ _ _ _) Css.nil Rd.nil rfl (by simp) (by simp) (fun _ h => h.elim) (Nat.le_refl _) ?_; intro v1 w1 hr1 fr1 hv1; have F1 := hid (fr1.mono (N := fun k => some k = (Value.slice none 0 0).ownBlock) (M := No) (fun _ _ h => by simp [Value.ownBlock] at h)); have R1 := hid hr1; clear hr1 fr1 hv1)
    go_upto_region 4 with (at_builtin; refine wpList_appC (t := tB) (base := w.heap.size) (S := Emp) (v := v1) (xs := [] ++ []) (ys := []) (dss := []) (B2 := w.heap.size) elBs rfl rfl rfl rfl R1.out Css.nil Rd.nil rfl (by simp) (by simp) (fun _ h => h.elim) F1.out.size ?_; intro v2 w2 hr2 fr2 hv2; have F2 := hid (own_frame R1.out F1.out fr2 (Nat.le_refl _)); have R2 := hid hr2; clear hr2 fr2 hv2)
    go_wp2_with (at_builtin; refine wpList_appC (t := tB) (base := w.heap.size) (S := Emp) (v := v2) (xs := [] ++ [] ++ []) (ys := []) (dss := []) (B2 := w.heap.size) elBs rfl rfl rfl rfl R2.out Css.nil Rd.nil rfl (by simp) (by simp) (fun _ h => h.elim) F2.out.size ?_; intro v3 w3 hr3 fr3 hv3; have F3 := hid (own_frame R2.out F2.out fr3 (Nat.le_refl _)); have R3 := hid hr3; clear hr3 fr3 hv3)
    all_goals
      obtain ⟨A3, c3, e3, _, _, _⟩ := R3.out.els (S' := fun _ => True) (fun _ _ => trivial) (fun _ _ => trivial)
      subst e3
      go_ret
      exact ⟨A3, c3, rfl, R3.out, F3.out⟩
  | some ad =>
    obtain ⟨q, o, rfl⟩ := hspot ad rfl
    have hlen : (splice B a bs).length = B.length := by simp [splice]; omega
    have HB := hid hB
    have HD := hid hD
    have B1 := hid b1
    have B2 := hid b2
    have j0 : (0 : Int) ≤ a := by omega
    have j1 : (a : Int) ≤ B.length := by omega
    have j2 : (a : Int) + bs.length ≤ B.length := by omega
    clear hB hD b1 b2 hA hspot
    by_cases hce : c = a + bs.length
    · subst hce
      go_enter Tryz.func135, Tryz.ntmps135
      go_upto_region 4 with (first | (at_builtin; refine wpList_appC (t := tB) (base := w.heap.size) (S := Emp) (xs := []) (ys := B.take a) (dss := (B.take a).map fun b => [.int .u8 b]) (B2 := w.heap.size) elBs rfl rfl rfl rfl (Ty.row.nil _ _ _ _) (css_bts (B1.out.take a)) (by rw [flat_bts, ← Ks_take]; exact HB.out.take_ a) (by rw [List.length_take]; omega) (by simp; omega) (by simp; omega) (fun _ h => h.elim) (Nat.le_refl _) ?_; intro v1 w1 hr1 fr1 hv1; have F1 := hid (fr1.mono (N := fun k => some k = (Value.slice none 0 0).ownBlock) (M := No) (fun _ _ h => by simp [Value.ownBlock] at h)); have R1 := hid hr1; clear hr1 fr1 hv1) | (at_builtin; refine wpList_appC (t := tB) (base := w.heap.size) (S := Emp) (v := v1) (xs := [] ++ B.take a) (ys := bs) (dss := (bs).map fun b => [.int .u8 b]) (B2 := w.heap.size) elBs rfl rfl rfl rfl R1.out (css_bts B2.out) (by rw [flat_bts]; exact HD.out.fr F1.out (fun _ _ x => x)) rfl (by simp; omega) (by simp; omega) (fun _ h => h.elim) F1.out.size ?_; intro v2 w2 hr2 fr2 hv2; have F2 := hid (own_frame R1.out F1.out fr2 (Nat.le_refl _)); have R2 := hid hr2; clear hr2 fr2 hv2))
      go_wp2_with (at_builtin; refine wpList_appC (t := tB) (base := w.heap.size) (S := Emp) (v := v2) (xs := [] ++ B.take a ++ bs) (ys := B.drop (a + bs.length)) (dss := (B.drop (a + bs.length)).map fun b => [.int .u8 b]) (B2 := w.heap.size) elBs rfl rfl rfl rfl R2.out (css_bts (B1.out.drop_ _)) (by rw [flat_bts, List.drop_eq_nil_of_le (by omega)]; exact Rd.nil) (by simp only [List.length_drop]) (by simp; omega) (by simp; omega) (fun _ h => h.elim) F2.out.size ?_; intro v3 w3 hr3 fr3 hv3; have F3 := hid (own_frame R2.out F2.out fr3 (Nat.le_refl _)); have R3 := hid hr3; clear hr3 fr3 hv3)
      all_goals
        obtain ⟨A3, c3, e3, _, _, _⟩ := R3.out.els (S' := fun _ => True) (fun _ _ => trivial) (fun _ _ => trivial)
        subst e3
        go_ret
        have hs : [] ++ B.take a ++ bs ++ B.drop (a + bs.length) = splice B a bs := by simp [splice]
        have hR := R3.out
        rw [hs] at hR
        exact ⟨A3, c3, by rw [hs]; rfl, hR, F3.out⟩
    · skip
      go_enter Tryz.func135, Tryz.ntmps135
      go_upto_region 4 with (first | (at_builtin; refine wpList_appC (t := tB) (base := w.heap.size) (S := Emp) (xs := []) (ys := B.take a) (dss := (B.take a).map fun b => [.int .u8 b]) (B2 := w.heap.size) elBs rfl rfl rfl rfl (Ty.row.nil _ _ _ _) (css_bts (B1.out.take a)) (by rw [flat_bts, ← Ks_take]; exact HB.out.take_ a) (by rw [List.length_take]; omega) (by simp; omega) (by simp; omega) (fun _ h => h.elim) (Nat.le_refl _) ?_; intro v1 w1 hr1 fr1 hv1; have F1 := hid (fr1.mono (N := fun k => some k = (Value.slice none 0 0).ownBlock) (M := No) (fun _ _ h => by simp [Value.ownBlock] at h)); have R1 := hid hr1; clear hr1 fr1 hv1) | (at_builtin; refine wpList_appC (t := tB) (base := w.heap.size) (S := Emp) (v := v1) (xs := [] ++ B.take a) (ys := bs) (dss := (bs).map fun b => [.int .u8 b]) (B2 := w.heap.size) elBs rfl rfl rfl rfl R1.out (css_bts B2.out) (by rw [flat_bts]; exact HD.out.fr F1.out (fun _ _ x => x)) rfl (by simp; omega) (by simp; omega) (fun _ h => h.elim) F1.out.size ?_; intro v2 w2 hr2 fr2 hv2; have F2 := hid (own_frame R1.out F1.out fr2 (Nat.le_refl _)); have R2 := hid hr2; clear hr2 fr2 hv2))
      go_wp2_with (at_builtin; refine wpList_appC (t := tB) (base := w.heap.size) (S := Emp) (v := v2) (xs := [] ++ B.take a ++ bs) (ys := B.drop (a + bs.length)) (dss := (B.drop (a + bs.length)).map fun b => [.int .u8 b]) (B2 := w.heap.size) elBs rfl rfl rfl rfl R2.out (css_bts (B1.out.drop_ _)) (by rw [flat_bts, ← Ks_drop]; exact (HB.out.fr F2.out (fun _ _ x => x)).drop_ (a + bs.length)) (by simp only [List.length_drop]) (by simp; omega) (by simp; omega) (fun _ h => h.elim) F2.out.size ?_; intro v3 w3 hr3 fr3 hv3; have F3 := hid (own_frame R2.out F2.out fr3 (Nat.le_refl _)); have R3 := hid hr3; clear hr3 fr3 hv3)
      all_goals
        obtain ⟨A3, c3, e3, _, _, _⟩ := R3.out.els (S' := fun _ => True) (fun _ _ => trivial) (fun _ _ => trivial)
        subst e3
        go_ret
        have hs : [] ++ B.take a ++ bs ++ B.drop (a + bs.length) = splice B a bs := by simp [splice]
        have hR := R3.out
        rw [hs] at hR
        exact ⟨A3, c3, by rw [hs]; rfl, hR, F3.out⟩
end Go.Proofs.YtdckghiipijobaaGreat

namespace Go.Proofs.YtdckghiipijobaaGreat
open Go.RowKit

/-- The bytes of a memory of the reference, as a slice. -/
structure RmIn (w : World) (A : Option Addr) (c : Nat) (B : List Int) : Prop where
  rd : Rd w w.heap.size A (Ks .u8 B)
  nil : A = none → B = []
  spot : ∀ ad, A = some ad → ∃ q o, ad = ⟨q, o, none⟩
  bts : Bts B
  cap : B.length ≤ c
theorem RmIn.fr {w w' : World} {A : Option Addr} {c : Nat} {B : List Int} (h : RmIn w A c B) (f : Fr No w w') : RmIn w' A c B :=
  ⟨(h.rd.fr f (fun _ _ x => x)).more f.size, h.nil, h.spot, h.bts, h.cap⟩
theorem RmIn.els {w : World} {A : Option Addr} {c : Nat} {B : List Int} (h : RmIn w A c B) : tB.els w (· < w.heap.size) A B := by
  rcases h.rd with hh | ⟨q, o, rfl, hq, hh⟩
  · have : B = [] := by cases B with
      | nil => rfl
      | cons _ _ => simp [Ks] at hh
    exact .inl this
  · exact css_els (S := Emp) (S' := (· < w.heap.size)) (css := B.map fun b => [.int .u8 b]) (css_bts h.bts) inferInstance (fun _ h => h.elim) hq o (fun k u hu => hh k u (by rwa [flat_bts] at hu))
theorem css_ks {w : World} {S : Nat → Prop} {css : List (List Value)} {B : List Int} (h : Css tB w S css B) : css.flatten = Ks .u8 B ∧ Bts B := by
  have e : css = B.map fun b => [.int .u8 b] := by
    apply List.ext_getElem?
    intro i
    rw [List.getElem?_map]
    cases hb : B[i]? with
    | none =>
      have : B.length ≤ i := List.getElem?_eq_none_iff.1 hb
      rw [List.getElem?_eq_none (by rw [h.1]; exact this)]; rfl
    | some b =>
      have hi : i < css.length := by rw [h.1]; exact (List.getElem?_eq_some_iff.1 hb).1
      have := (h.2 i css[i] b (List.getElem?_eq_getElem hi) hb).1
      rw [List.getElem?_eq_getElem hi, this]; rfl
  refine ⟨by rw [e, flat_bts], fun b hb => ?_⟩
  obtain ⟨i, hi, rfl⟩ := List.getElem_of_mem hb
  have hi' : i < css.length := by rw [h.1]; exact hi
  exact wf_u8 (h.2 i css[i] B[i] (List.getElem?_eq_getElem hi') (List.getElem?_eq_getElem hi)).2
theorem rmIn_of_row {w : World} {base c : Nat} {A : Option Addr} {B : List Int} (h : tB.row w base Emp 5 (.slice A B.length c) B) : RmIn w A c B := by
  obtain ⟨css, h1, h2⟩ := h
  obtain ⟨e1, hb⟩ := css_ks h1
  rw [e1] at h2
  obtain ⟨A', c', e, hl, hr, hs⟩ := row_form (n := B.length) h2
  injection e with e2 _ e3
  subst e2 e3
  refine ⟨hr, fun hA => ?_, fun ad had => ?_, hb, by simpa using hl⟩
  · subst hA
    rcases hr with hr | ⟨_, _, hc, _⟩
    · cases B with
      | nil => rfl
      | cons _ _ => simp [Ks] at hr
    · cases hc
  · subst had
    rcases hs with hs | ⟨b, o, hs⟩
    · cases hs
    · injection hs with hs; exact ⟨b, o, hs⟩
def RmTo (l : Lim) (A0 : Option Addr) (B0 B : List Int) (t : Int) (w : World) (e : Ending) (w' : World) : Prop :=
  ∃ (A : Option Addr) (c : Nat), e = .returned (.tuple #[.agg #[.int .i64 l.min, .int .i64 l.max, .bool l.has, .slice A B.length c], .int .i64 t]) ∧ RmIn w' A c B ∧ ((A = A0 ∧ B = B0) ∨ ∀ q o, A = some ⟨q, o, none⟩ → w.heap.size ≤ q) ∧ Fr No w w'
theorem RmIn.frM {w w' : World} {A : Option Addr} {c : Nat} {B : List Int} {M : Nat → Prop} (h : RmIn w A c B) (f : Fr M w w') (hq : B ≠ [] → ∀ q o, A = some ⟨q, o, none⟩ → ¬ M q) : RmIn w' A c B := by
  refine ⟨?_, h.nil, h.spot, h.bts, h.cap⟩
  rcases h.rd with hh | ⟨q, o, rfl, hb, hh⟩
  · exact .inl hh
  · by_cases hB : B = []
    · subst hB; exact .inl rfl
    · exact .inr ⟨q, o, rfl, Nat.lt_of_lt_of_le hb f.size, fun k u hu => by rw [f.cell (p := ⟨q, o + k, none⟩) hb (hq hB q o rfl)]; exact hh k u hu⟩
theorem RmIn.blk {w : World} {A : Option Addr} {c : Nat} {B : List Int} (h : RmIn w A c B) (hB : B ≠ []) {q o : Nat} (hA : A = some ⟨q, o, none⟩) : q < w.heap.size := by
  rcases h.rd with hh | ⟨q', o', e, hb, _⟩
  · exact absurd (by cases B with | nil => rfl | cons _ _ => simp [Ks] at hh) hB
  · rw [hA] at e; cases e; exact hb
theorem splice_len {B bs : List Int} {a : Nat} (h : a + bs.length ≤ B.length) : (splice B a bs).length = B.length := by simp [splice]; omega
def storeR (op : Int) (B : List Int) (addr off x : Int) : List Int × Int :=
  if wst op = 0 then (B, 12) else if hasB B.length addr off (wst op) then (splice B (addr % 4294967296 + off).toNat (leB (wst op) x), 0) else (B, 2)
end Go.Proofs.YtdckghiipijobaaGreat

namespace Go.Proofs.YtdckghiipijobaaGreat
open Go.RowKit

/-- Bytes that are read: of an empty slice nothing is said of its address. -/
structure SrcIn (w : World) (A : Option Addr) (c : Nat) (B : List Int) : Prop where
  rd : Rd w w.heap.size A (Ks .u8 B)
  nil : A = none → B = []
  spot : B.length ≠ 0 → ∀ ad, A = some ad → ∃ q o, ad = ⟨q, o, none⟩
  bts : Bts B
  cap : B.length ≤ c
theorem RmIn.src {w : World} {A : Option Addr} {c : Nat} {B : List Int} (h : RmIn w A c B) : SrcIn w A c B := ⟨h.rd, h.nil, fun _ => h.spot, h.bts, h.cap⟩
theorem SrcIn.fr {w w' : World} {A : Option Addr} {c : Nat} {B : List Int} (h : SrcIn w A c B) (f : Fr No w w') : SrcIn w' A c B :=
  ⟨(h.rd.fr f (fun _ _ x => x)).more f.size, h.nil, h.spot, h.bts, h.cap⟩
theorem SrcIn.frM {w w' : World} {A : Option Addr} {c : Nat} {B : List Int} {M : Nat → Prop} (h : SrcIn w A c B) (f : Fr M w w') (hq : B ≠ [] → ∀ q o, A = some ⟨q, o, none⟩ → ¬ M q) : SrcIn w' A c B := by
  refine ⟨?_, h.nil, h.spot, h.bts, h.cap⟩
  rcases h.rd with hh | ⟨q, o, rfl, hb, hh⟩
  · exact .inl hh
  · by_cases hB : B = []
    · subst hB; exact .inl rfl
    · exact .inr ⟨q, o, rfl, Nat.lt_of_lt_of_le hb f.size, fun k u hu => by rw [f.cell (p := ⟨q, o + k, none⟩) hb (hq hB q o rfl)]; exact hh k u hu⟩
/-- A slice of bytes that the statement reads. -/
theorem els_src {w : World} {A : Option Addr} {c : Nat} {B : List Int} (h : tB.els w (· < w.heap.size) A B) (hc : B.length ≤ c) : SrcIn w A c B := by
  have hb := els_bts h
  rcases h with rfl | ⟨b, o, rfl, hlt, hh⟩
  · exact ⟨.inl rfl, fun _ => rfl, (fun h => absurd rfl h), hb, hc⟩
  · refine ⟨.inr ⟨b, o, rfl, hlt, fun k u hu => ?_⟩, (fun h => by cases h), (fun _ ad e => ⟨b, o, by injection e with e; exact e.symm⟩), hb, hc⟩
    rw [Ks, List.getElem?_map] at hu
    obtain ⟨x, hx, rfl⟩ := Option.map_eq_some_iff.1 hu
    obtain ⟨ds, hd, rfl, _⟩ := hh k x hx
    have := hd 0 _ rfl
    have e : tB.size = 1 := rfl
    rw [e, Nat.mul_one, Nat.add_zero] at this
    exact this
theorem run_sub (kl kh : IntKind) (D : Option Addr) (n d k m : Nat) (hk : k + m ≤ n) (hd : n ≤ d) (hspot : n ≠ 0 → ∀ ad, D = some ad → ∃ q o, ad = ⟨q, o, none⟩) :
    ∃ (D' : Option Addr) (d' : Nat), (∀ W, (Instr.slice 59 (.slice D n d) (some (.int kl (k : Int))) (some (.int kh ((k : Int) + m))) none).run Tryz.prog W = .ok (.slice D' m d') W) ∧ m ≤ d' ∧
      (D' = D ∧ (D = none ∨ m = 0 ∨ k = 0) ∨ ∃ q o, D = some ⟨q, o, none⟩ ∧ D' = some ⟨q, o + k, none⟩) := by
  have hrun := fun W => run_slice_lh (P := Tryz.prog) (w := W) 59 D n d (by kernel_rfl) kl kh (k : Int) ((k : Int) + m) (by omega) (by omega) (by omega)
  have e1 : ((k : Int) + m).toNat = k + m := by omega
  have hs : ∀ W, (sizeOf (Tryz.prog.elem 59)).run Tryz.prog W = .ok 1 W := fun W => by kernel_rfl
  simp only [Int.toNat_natCast, e1, hs, Result.andThen_ok] at hrun
  cases D with
  | none =>
    exact ⟨none, d - k, fun W => by rw [hrun W]; simp [sliced], by omega, .inl ⟨rfl, .inl rfl⟩⟩
  | some ad =>
    by_cases hn0 : n = 0
    · have hk0 : k = 0 := by omega
      have hm0 : m = 0 := by omega
      subst hk0 hm0
      refine ⟨some ad, d, fun W => ?_, by omega, .inl ⟨rfl, .inr (.inr rfl)⟩⟩
      rw [hrun W]
      simp [sliced, Addr.add]
    obtain ⟨q, o, rfl⟩ := hspot hn0 ad rfl
    by_cases h0 : d - k = 0
    · refine ⟨some ⟨q, o, none⟩, 0, fun W => ?_, by omega, .inl ⟨rfl, .inr (.inl (by omega))⟩⟩
      rw [hrun W]
      simp [sliced, h0]
      intro h; omega
    · refine ⟨some ⟨q, o + k, none⟩, d - k, fun W => ?_, by omega, .inr ⟨q, o, rfl, rfl⟩⟩
      rw [hrun W]
      simp [sliced]
      rw [if_neg (by omega), add_lit']
theorem sub_rd {W : World} {N : Nat} {D D' : Option Addr} {bs : List Int} {k m : Nat} (h : Rd W N D (Ks .u8 bs)) (hn : D = none → bs = []) (hk : k + m ≤ bs.length)
    (hD : D' = D ∧ (D = none ∨ m = 0 ∨ k = 0) ∨ ∃ q o, D = some ⟨q, o, none⟩ ∧ D' = some ⟨q, o + k, none⟩) : Rd W N D' (Ks .u8 ((bs.drop k).take m)) := by
  rcases hD with ⟨rfl, h1 | h1 | h1⟩ | ⟨q, o, rfl, rfl⟩
  · rw [hn h1]; simp; exact Rd.nil
  · subst h1; simp; exact Rd.nil
  · subst h1; rw [List.drop_zero, ← Ks_take]; exact h.take_ m
  · rw [← Ks_take, ← Ks_drop]; exact (h.drop_ k).take_ m
theorem Bts.sub {bs : List Int} (h : Bts bs) (k m : Nat) : Bts ((bs.drop k).take m) := fun b hb => h b (List.mem_of_mem_drop (List.mem_of_mem_take hb))
end Go.Proofs.YtdckghiipijobaaGreat

namespace Go.Proofs.YtdckghiipijobaaGreat
open Go.RowKit

/-- The lowest 32 bits. -/
def lo (x : Int) : Nat := (x % 4294967296).toNat
theorem lo_eq (x : Int) : x % 4294967296 = (lo x : Int) := by unfold lo; omega
theorem lo_lt (x : Int) : lo x < 4294967296 := by unfold lo; omega
theorem rlo_any (x : Int) (w : World) (hx : 0 ≤ x ∧ x < 18446744073709551616) : Calls Tryz.prog 134 #[.int .u64 x] w fun e w' => e = .returned (.int .i64 (lo x)) ∧ w = w' := by
  rw [← lo_eq]; exact rlow_any x w hx
theorem rfit_any (s a n : Nat) (w : World) (hs : s ≤ 1000000) (ha : a < 4294967296) (hn : n < 4294967296) : Calls Tryz.prog 133 #[.int .i64 s, .int .i64 a, .int .i64 n] w fun e w' => e = .returned (.bool (decide (a + n ≤ s))) ∧ w = w' := by
  have h := room_any s a n w (by omega) (by omega) (by omega)
  have e : (decide (0 ≤ (a : Int) ∧ 0 ≤ (n : Int)) && fits s a n) = decide (a + n ≤ s) := by rw [fits, Bool.eq_iff_iff]; simp; omega
  rwa [e] at h
def initR (B bs : List Int) (t a n : Nat) : List Int × Int := if a + n ≤ bs.length then (if t + n ≤ B.length then (splice B t ((bs.drop a).take n), 0) else (B, 2)) else (B, 2)
set_option maxRecDepth 100000 in
set_option maxHeartbeats 3200000 in
theorem rminit_any (l : Lim) (A D : Option Addr) (c d : Nat) (B bs : List Int) (xt xa xn : Int) (w : World) (hI : RmIn w A c B) (hD : SrcIn w D d bs) (hn : B.length ≤ 100000) (hn2 : bs.length ≤ 1000000) (h1 : 0 ≤ xt ∧ xt < 18446744073709551616) (h2 : 0 ≤ xa ∧ xa < 18446744073709551616) (h3 : 0 ≤ xn ∧ xn < 18446744073709551616) :
    Calls Tryz.prog 44 #[rmv l A B.length c, .slice D bs.length d, .int .u64 xt, .int .u64 xa, .int .u64 xn] w (RmTo l A B (initR B bs (lo xt) (lo xa) (lo xn)).1 (initR B bs (lo xt) (lo xa) (lo xn)).2 w) := by
  have F := hid (((Fr.refl No w).alloc (.cells #[.int .i64 l.min, .int .i64 l.max, .bool l.has, .slice A B.length c] 143)).alloc (.cells #[.int .i64 0, .int .i64 0, .bool false, .slice none 0 0] 143))
  have G := hid ((Blk.new w 143 #[.int .i64 l.min, .int .i64 l.max, .bool l.has, .slice A B.length c]).alloc (.cells #[.int .i64 0, .int .i64 0, .bool false, .slice none 0 0] 143))
  have GR := hid (Blk.new1 w (.cells #[.int .i64 l.min, .int .i64 l.max, .bool l.has, .slice A B.length c] 143) 143 #[.int .i64 0, .int .i64 0, .bool false, .slice none 0 0])
  have HT := hid (fun W => rlo_any xt W h1)
  have HA := hid (fun W => rlo_any xa W h2)
  have HN := hid (fun W => rlo_any xn W h3)
  have HI := hid hI
  have HD := hid hD
  have b1 := lo_lt xt
  have b2 := lo_lt xa
  have b3 := lo_lt xn
  generalize lo xt = t at *
  generalize lo xa = a at *
  generalize lo xn = n at *
  have HR1 := hid (fun W => rfit_any bs.length a n W hn2 b2 b3)
  have HR2 := hid (fun W => rfit_any B.length t n W (by omega) b1 b3)
  clear hI hD h1 h2 h3
  unfold rmv initR
  by_cases e1 : a + n ≤ bs.length
  · rw [if_pos e1]
    rw [decide_eq_true e1] at HR1
    by_cases e2 : t + n ≤ B.length
    · rw [if_pos e2]
      rw [decide_eq_true e2] at HR2
      go_enter Tryz.func44, Tryz.ntmps44
      go_wp2
      generalize (w.alloc (.cells #[.int .i64 l.min, .int .i64 l.max, .bool l.has, .slice A B.length c] 143)).alloc (.cells #[.int .i64 0, .int .i64 0, .bool false, .slice none 0 0] 143) = W at *
      have hc1 : w.heap.size + 1 < W.heap.size := GR.out.lt
      have HX : Hid (∀ X, Fr (One (w.heap.size + 1)) W X → X.cell? ⟨w.heap.size, 0, none⟩ = some (.int .i64 l.min) ∧ X.cell? ⟨w.heap.size, 1, none⟩ = some (.int .i64 l.max) ∧ X.cell? ⟨w.heap.size, 2, none⟩ = some (.bool l.has) ∧ X.cell? ⟨w.heap.size, 3, none⟩ = some (.slice A B.length c)) := fun X f => by
        have h := G.out.fr f (fun x => by simp only [One] at x; omega)
        exact ⟨h.cell 0, h.cell 1, h.cell 2, h.cell 3⟩
      refine wp_region_ord (fun X => X.cell? ⟨w.heap.size, 0, none⟩ = some (.int .i64 l.min) ∧ X.cell? ⟨w.heap.size, 1, none⟩ = some (.int .i64 l.max) ∧ X.cell? ⟨w.heap.size, 2, none⟩ = some (.bool l.has) ∧ X.cell? ⟨w.heap.size, 3, none⟩ = some (.slice A B.length c)) [] [(0, true), (1, true), (2, true), (4, true), (3, false), (5, false), (6, false), (7, true), (8, true), (9, true), (10, true), (11, true), (12, true), (14, true), (13, false), (15, false), (16, false), (17, true), (18, true)] (by kernel_rfl) (by kernel_rfl) (by kernel_rfl) rfl (HX.out _ (Fr.refl _ _).drew) ?_
      repeat (first
        | (refine wpO_skip rfl rfl ?_; simp only [List.getElem_toArray, List.getElem_cons_succ, List.getElem_cons_zero, Act.put, List.setIfInBounds_toArray, List.set_cons_zero, List.set_cons_succ])
        | (refine wpO_call rfl rfl ?_; simp only [List.getElem_toArray, List.getElem_cons_succ, List.getElem_cons_zero]; apply Exists.intro; refine ⟨fun X hX => ?_, ?_⟩
           · (have s0 := hX.1; have s1 := hX.2.1; have s2 := hX.2.2.1; have s3 := hX.2.2.2; go_simp; exact stillUpon_value)
           simp only [Act.put, List.setIfInBounds_toArray, List.set_cons_zero, List.set_cons_succ]))
      refine wpO_eff rfl rfl (fun K hK => ?_)
      simp only [List.getElem_toArray, List.getElem_cons_succ, List.getElem_cons_zero]
      go_simp
      refine (HA.out _).mono ?_
      rintro e w' ⟨rfl, rfl⟩
      refine hK _ _ (fun _ => HX.out _ (Fr.refl _ _).drew) ?_
      clear hK K
      repeat (first
        | (refine wpO_skip rfl rfl ?_; simp only [List.getElem_toArray, List.getElem_cons_succ, List.getElem_cons_zero, Act.put, List.setIfInBounds_toArray, List.set_cons_zero, List.set_cons_succ])
        | (refine wpO_call rfl rfl ?_; simp only [List.getElem_toArray, List.getElem_cons_succ, List.getElem_cons_zero]; apply Exists.intro; refine ⟨fun X hX => ?_, ?_⟩
           · (have s0 := hX.1; have s1 := hX.2.1; have s2 := hX.2.2.1; have s3 := hX.2.2.2; go_simp; exact stillUpon_value)
           simp only [Act.put, List.setIfInBounds_toArray, List.set_cons_zero, List.set_cons_succ]))
      refine wpO_eff rfl rfl (fun K hK => ?_)
      simp only [List.getElem_toArray, List.getElem_cons_succ, List.getElem_cons_zero]
      go_simp
      refine (HN.out _).mono ?_
      rintro e w' ⟨rfl, rfl⟩
      refine hK _ _ (fun _ => HX.out _ (Fr.refl _ _).drew) ?_
      clear hK K
      repeat (first
        | (refine wpO_skip rfl rfl ?_; simp only [List.getElem_toArray, List.getElem_cons_succ, List.getElem_cons_zero, Act.put, List.setIfInBounds_toArray, List.set_cons_zero, List.set_cons_succ])
        | (refine wpO_call rfl rfl ?_; simp only [List.getElem_toArray, List.getElem_cons_succ, List.getElem_cons_zero]; apply Exists.intro; refine ⟨fun X hX => ?_, ?_⟩
           · (have s0 := hX.1; have s1 := hX.2.1; have s2 := hX.2.2.1; have s3 := hX.2.2.2; go_simp; exact stillUpon_value)
           simp only [Act.put, List.setIfInBounds_toArray, List.set_cons_zero, List.set_cons_succ]))
      refine wpO_eff rfl rfl (fun K hK => ?_)
      simp only [List.getElem_toArray, List.getElem_cons_succ, List.getElem_cons_zero]
      go_simp
      refine (HR1.out _).mono ?_
      rintro e w' ⟨rfl, rfl⟩
      refine hK _ _ (fun _ => HX.out _ (Fr.refl _ _).drew) ?_
      clear hK K
      repeat (first
        | (refine wpO_skip rfl rfl ?_; simp only [List.getElem_toArray, List.getElem_cons_succ, List.getElem_cons_zero, Act.put, List.setIfInBounds_toArray, List.set_cons_zero, List.set_cons_succ])
        | (refine wpO_call rfl rfl ?_; simp only [List.getElem_toArray, List.getElem_cons_succ, List.getElem_cons_zero]; apply Exists.intro; refine ⟨fun X hX => ?_, ?_⟩
           · (have s0 := hX.1; have s1 := hX.2.1; have s2 := hX.2.2.1; have s3 := hX.2.2.2; go_simp; exact stillUpon_value)
           simp only [Act.put, List.setIfInBounds_toArray, List.set_cons_zero, List.set_cons_succ]))
      refine wpO_eff rfl rfl (fun K hK => ?_)
      simp only [List.getElem_toArray, List.getElem_cons_succ, List.getElem_cons_zero]
      go_simp
      refine (HT.out _).mono ?_
      rintro e w' ⟨rfl, rfl⟩
      refine hK _ _ (fun _ => HX.out _ (Fr.refl _ _).drew) ?_
      clear hK K
      repeat (first
        | (refine wpO_skip rfl rfl ?_; simp only [List.getElem_toArray, List.getElem_cons_succ, List.getElem_cons_zero, Act.put, List.setIfInBounds_toArray, List.set_cons_zero, List.set_cons_succ])
        | (refine wpO_call rfl rfl ?_; simp only [List.getElem_toArray, List.getElem_cons_succ, List.getElem_cons_zero]; apply Exists.intro; refine ⟨fun X hX => ?_, ?_⟩
           · (have s0 := hX.1; have s1 := hX.2.1; have s2 := hX.2.2.1; have s3 := hX.2.2.2; go_simp; exact stillUpon_value)
           simp only [Act.put, List.setIfInBounds_toArray, List.set_cons_zero, List.set_cons_succ]))
      refine wpO_eff rfl rfl (fun K hK => ?_)
      simp only [List.getElem_toArray, List.getElem_cons_succ, List.getElem_cons_zero]
      go_simp
      refine (HN.out _).mono ?_
      rintro e w' ⟨rfl, rfl⟩
      refine hK _ _ (fun _ => HX.out _ (Fr.refl _ _).drew) ?_
      clear hK K
      repeat (first
        | (refine wpO_skip rfl rfl ?_; simp only [List.getElem_toArray, List.getElem_cons_succ, List.getElem_cons_zero, Act.put, List.setIfInBounds_toArray, List.set_cons_zero, List.set_cons_succ])
        | (refine wpO_call rfl rfl ?_; simp only [List.getElem_toArray, List.getElem_cons_succ, List.getElem_cons_zero]; apply Exists.intro; refine ⟨fun X hX => ?_, ?_⟩
           · (have s0 := hX.1; have s1 := hX.2.1; have s2 := hX.2.2.1; have s3 := hX.2.2.2; go_simp; exact stillUpon_value)
           simp only [Act.put, List.setIfInBounds_toArray, List.set_cons_zero, List.set_cons_succ]))
      refine wpO_eff rfl rfl (fun K hK => ?_)
      simp only [List.getElem_toArray, List.getElem_cons_succ, List.getElem_cons_zero]
      go_simp
      refine (HR2.out _).mono ?_
      rintro e w' ⟨rfl, rfl⟩
      refine hK _ _ (fun _ => HX.out _ (Fr.refl _ _).drew) ?_
      clear hK K
      repeat (first
        | (refine wpO_skip rfl rfl ?_; simp only [List.getElem_toArray, List.getElem_cons_succ, List.getElem_cons_zero, Act.put, List.setIfInBounds_toArray, List.set_cons_zero, List.set_cons_succ])
        | (refine wpO_call rfl rfl ?_; simp only [List.getElem_toArray, List.getElem_cons_succ, List.getElem_cons_zero]; apply Exists.intro; refine ⟨fun X hX => ?_, ?_⟩
           · (have s0 := hX.1; have s1 := hX.2.1; have s2 := hX.2.2.1; have s3 := hX.2.2.2; go_simp; exact stillUpon_value)
           simp only [Act.put, List.setIfInBounds_toArray, List.set_cons_zero, List.set_cons_succ]))
      refine wpO_nil ?_
      obtain ⟨D', d', hsl, hd1, hd2⟩ := run_sub .i64 .i64 D bs.length d a n e1 HD.out.cap HD.out.spot
      have hw1 : IntKind.i64.wrap ((a : Int) + n) = a + n := by rw [IntKind.wrap_i64]; omega
      go_wp2_with fail
      refine wp_region_ord (fun X => X.cell? ⟨w.heap.size, 0, none⟩ = some (.int .i64 l.min) ∧ X.cell? ⟨w.heap.size, 1, none⟩ = some (.int .i64 l.max) ∧ X.cell? ⟨w.heap.size, 2, none⟩ = some (.bool l.has) ∧ X.cell? ⟨w.heap.size, 3, none⟩ = some (.slice A B.length c)) [] [(0, true), (1, true), (2, true), (3, true), (4, true), (6, true), (7, true), (9, true), (11, true), (5, false), (8, false), (10, false), (12, false), (13, true), (14, true), (15, false), (16, true), (17, false), (18, true)] (by kernel_rfl) (by kernel_rfl) (by kernel_rfl) rfl (HX.out _ ((Fr.refl (One (w.heap.size + 1)) W).drew.drew)) ?_
      repeat (first
        | (refine wpO_skip rfl rfl ?_; simp only [List.getElem_toArray, List.getElem_cons_succ, List.getElem_cons_zero, Act.put, List.setIfInBounds_toArray, List.set_cons_zero, List.set_cons_succ])
        | (refine wpO_call rfl rfl ?_; simp only [List.getElem_toArray, List.getElem_cons_succ, List.getElem_cons_zero]; apply Exists.intro; refine ⟨fun X hX => ?_, ?_⟩
           · (have s0 := hX.1; have s1 := hX.2.1; have s2 := hX.2.2.1; have s3 := hX.2.2.2; go_simp; exact stillUpon_value)
           simp only [Act.put, List.setIfInBounds_toArray, List.set_cons_zero, List.set_cons_succ]))
      refine wpO_eff rfl rfl (fun K hK => ?_)
      simp only [List.getElem_toArray, List.getElem_cons_succ, List.getElem_cons_zero]
      go_simp
      refine (HT.out _).mono ?_
      rintro e w' ⟨rfl, rfl⟩
      refine hK _ _ (fun _ => HX.out _ ((Fr.refl (One (w.heap.size + 1)) W).drew.drew)) ?_
      clear hK K
      repeat (first
        | (refine wpO_skip rfl rfl ?_; simp only [List.getElem_toArray, List.getElem_cons_succ, List.getElem_cons_zero, Act.put, List.setIfInBounds_toArray, List.set_cons_zero, List.set_cons_succ])
        | (refine wpO_call rfl rfl ?_; simp only [List.getElem_toArray, List.getElem_cons_succ, List.getElem_cons_zero]; apply Exists.intro; refine ⟨fun X hX => ?_, ?_⟩
           · (have s0 := hX.1; have s1 := hX.2.1; have s2 := hX.2.2.1; have s3 := hX.2.2.2; go_simp; exact stillUpon_value)
           simp only [Act.put, List.setIfInBounds_toArray, List.set_cons_zero, List.set_cons_succ]))
      refine wpO_eff rfl rfl (fun K hK => ?_)
      simp only [List.getElem_toArray, List.getElem_cons_succ, List.getElem_cons_zero]
      go_simp
      refine (HA.out _).mono ?_
      rintro e w' ⟨rfl, rfl⟩
      refine hK _ _ (fun _ => HX.out _ ((Fr.refl (One (w.heap.size + 1)) W).drew.drew)) ?_
      clear hK K
      repeat (first
        | (refine wpO_skip rfl rfl ?_; simp only [List.getElem_toArray, List.getElem_cons_succ, List.getElem_cons_zero, Act.put, List.setIfInBounds_toArray, List.set_cons_zero, List.set_cons_succ])
        | (refine wpO_call rfl rfl ?_; simp only [List.getElem_toArray, List.getElem_cons_succ, List.getElem_cons_zero]; apply Exists.intro; refine ⟨fun X hX => ?_, ?_⟩
           · (have s0 := hX.1; have s1 := hX.2.1; have s2 := hX.2.2.1; have s3 := hX.2.2.2; go_simp; exact stillUpon_value)
           simp only [Act.put, List.setIfInBounds_toArray, List.set_cons_zero, List.set_cons_succ]))
      refine wpO_eff rfl rfl (fun K hK => ?_)
      simp only [List.getElem_toArray, List.getElem_cons_succ, List.getElem_cons_zero]
      go_simp
      refine (HA.out _).mono ?_
      rintro e w' ⟨rfl, rfl⟩
      refine hK _ _ (fun _ => HX.out _ ((Fr.refl (One (w.heap.size + 1)) W).drew.drew)) ?_
      clear hK K
      repeat (first
        | (refine wpO_skip rfl rfl ?_; simp only [List.getElem_toArray, List.getElem_cons_succ, List.getElem_cons_zero, Act.put, List.setIfInBounds_toArray, List.set_cons_zero, List.set_cons_succ])
        | (refine wpO_call rfl rfl ?_; simp only [List.getElem_toArray, List.getElem_cons_succ, List.getElem_cons_zero]; apply Exists.intro; refine ⟨fun X hX => ?_, ?_⟩
           · (have s0 := hX.1; have s1 := hX.2.1; have s2 := hX.2.2.1; have s3 := hX.2.2.2; go_simp; exact stillUpon_value)
           simp only [Act.put, List.setIfInBounds_toArray, List.set_cons_zero, List.set_cons_succ]))
      refine wpO_eff rfl rfl (fun K hK => ?_)
      simp only [List.getElem_toArray, List.getElem_cons_succ, List.getElem_cons_zero]
      go_simp
      refine (HN.out _).mono ?_
      rintro e w' ⟨rfl, rfl⟩
      refine hK _ _ (fun _ => HX.out _ ((Fr.refl (One (w.heap.size + 1)) W).drew.drew)) ?_
      clear hK K
      repeat (first
        | (refine wpO_skip rfl rfl ?_; simp only [List.getElem_toArray, List.getElem_cons_succ, List.getElem_cons_zero, Act.put, List.setIfInBounds_toArray, List.set_cons_zero, List.set_cons_succ])
        | (refine wpO_call rfl rfl ?_; simp only [List.getElem_toArray, List.getElem_cons_succ, List.getElem_cons_zero]; apply Exists.intro; refine ⟨fun X hX => ?_, ?_⟩
           · (have s0 := hX.1; have s1 := hX.2.1; have s2 := hX.2.2.1; have s3 := hX.2.2.2; go_simp; exact stillUpon_value)
           simp only [Act.put, List.setIfInBounds_toArray, List.set_cons_zero, List.set_cons_succ]))
      refine wpO_eff rfl rfl (fun K hK => ?_)
      simp only [List.getElem_toArray, List.getElem_cons_succ, List.getElem_cons_zero]
      go_simp
      have FW := hid (F.out.drew.drew)
      have HI2 := hid (HI.out.fr FW.out)
      have hlen : ((bs.drop a).take n).length = n := by rw [List.length_take, List.length_drop]; omega
      have HW := written_any A D' c d' t B ((bs.drop a).take n) W.drew.drew HI2.out.rd HI2.out.nil (sub_rd (HD.out.fr FW.out).rd HD.out.nil e1 hd2) HI2.out.bts (HD.out.bts.sub a n) (by rw [hlen]; exact e2) HI2.out.cap hn HI2.out.spot
      rw [hlen] at HW
      refine HW.mono ?_
      clear HW
      rintro e w3 ⟨E, ec, rfl, hrow, f⟩
      have F3 := hid ((Fr.refl No W).drew.drew.trans f (fun _ _ h => h))
      have HR := hid hrow
      have GR3 := hid (GR.out.fr F3.out (fun x => x))
      clear hrow f
      refine hK _ _ (fun _ => HX.out _ (F3.out.mono (fun _ _ h => h.elim))) ?_
      clear hK K
      repeat (first
        | (refine wpO_skip rfl rfl ?_; simp only [List.getElem_toArray, List.getElem_cons_succ, List.getElem_cons_zero, Act.put, List.setIfInBounds_toArray, List.set_cons_zero, List.set_cons_succ])
        | (refine wpO_call rfl rfl ?_; simp only [List.getElem_toArray, List.getElem_cons_succ, List.getElem_cons_zero]; apply Exists.intro; refine ⟨fun X hX => ?_, ?_⟩
           · (have s0 := hX.1; have s1 := hX.2.1; have s2 := hX.2.2.1; have s3 := hX.2.2.2; go_simp; exact stillUpon_value)
           simp only [Act.put, List.setIfInBounds_toArray, List.set_cons_zero, List.set_cons_succ]))
      have q0 := GR3.out.frozen 0
      have q1 := GR3.out.frozen 1
      have q2 := GR3.out.frozen 2
      have q3 := GR3.out.frozen 3
      have z0 := GR3.out.cell 0
      have z1 := GR3.out.cell 1
      have z2 := GR3.out.cell 2
      have z3 := GR3.out.cell 3
      have FZ := hid ((((((Fr.refl (One (w.heap.size + 1)) w3).setCell ⟨w.heap.size + 1, 0, none⟩ (.int .i64 l.min) (fun _ => rfl)).setCell ⟨w.heap.size + 1, 1, none⟩ (.int .i64 l.max) (fun _ => rfl)).setCell ⟨w.heap.size + 1, 2, none⟩ (.bool l.has) (fun _ => rfl)).setCell ⟨w.heap.size + 1, 3, none⟩ (.slice E (splice B t ((bs.drop a).take n)).length ec) (fun _ => rfl)))
      refine wpO_eff rfl rfl (fun K hK => ?_)
      simp only [List.getElem_toArray, List.getElem_cons_succ, List.getElem_cons_zero]
      go_simp
      refine hK _ _ (fun _ => HX.out _ ((F3.out.mono (fun _ _ h => h.elim)).trans FZ.out (fun _ _ h => h))) ?_
      clear hK K
      repeat (first
        | (refine wpO_skip rfl rfl ?_; simp only [List.getElem_toArray, List.getElem_cons_succ, List.getElem_cons_zero, Act.put, List.setIfInBounds_toArray, List.set_cons_zero, List.set_cons_succ])
        | (refine wpO_call rfl rfl ?_; simp only [List.getElem_toArray, List.getElem_cons_succ, List.getElem_cons_zero]; apply Exists.intro; refine ⟨fun X hX => ?_, ?_⟩
           · (have s0 := hX.1; have s1 := hX.2.1; have s2 := hX.2.2.1; have s3 := hX.2.2.2; go_simp; exact stillUpon_value)
           simp only [Act.put, List.setIfInBounds_toArray, List.set_cons_zero, List.set_cons_succ]))
      refine wpO_nil ?_
      go_wp2
      have FF := (F.out.trans F3.out (fun _ _ h => h)).trans FZ.out (fun i hi h => by simp only [One] at h; omega)
      have hRm := rmIn_of_row (HR.out.fr FZ.out (fun _ h => h.elim) (fun k hk h => by have h1 := (HR.out.own hk).1; have h2 : W.drew.drew.heap.size = W.heap.size := rfl; simp only [One] at h; omega))
      exact bodyPost_ret (v := .tuple #[.agg #[.int .i64 l.min, .int .i64 l.max, .bool l.has, .slice E (splice B t ((bs.drop a).take n)).length ec], .int .i64 0]) (by simp [results, Tryz.results44, go_sem, z0, z1, z2, z3]) rfl ⟨E, ec, rfl, hRm, (.inr (fun q o he => by subst he; have h1 := (HR.out.own (g := q) (by simp [Value.ownBlock])).1; exact Nat.le_trans F.out.size h1)), FF⟩
    · rw [if_neg e2]
      rw [decide_eq_false e2] at HR2
      go_enter Tryz.func44, Tryz.ntmps44
      go_wp2
      generalize (w.alloc (.cells #[.int .i64 l.min, .int .i64 l.max, .bool l.has, .slice A B.length c] 143)).alloc (.cells #[.int .i64 0, .int .i64 0, .bool false, .slice none 0 0] 143) = W at *
      have hc1 : w.heap.size + 1 < W.heap.size := GR.out.lt
      have HX : Hid (∀ X, Fr (One (w.heap.size + 1)) W X → X.cell? ⟨w.heap.size, 0, none⟩ = some (.int .i64 l.min) ∧ X.cell? ⟨w.heap.size, 1, none⟩ = some (.int .i64 l.max) ∧ X.cell? ⟨w.heap.size, 2, none⟩ = some (.bool l.has) ∧ X.cell? ⟨w.heap.size, 3, none⟩ = some (.slice A B.length c)) := fun X f => by
        have h := G.out.fr f (fun x => by simp only [One] at x; omega)
        exact ⟨h.cell 0, h.cell 1, h.cell 2, h.cell 3⟩
      refine wp_region_ord (fun X => X.cell? ⟨w.heap.size, 0, none⟩ = some (.int .i64 l.min) ∧ X.cell? ⟨w.heap.size, 1, none⟩ = some (.int .i64 l.max) ∧ X.cell? ⟨w.heap.size, 2, none⟩ = some (.bool l.has) ∧ X.cell? ⟨w.heap.size, 3, none⟩ = some (.slice A B.length c)) [] [(0, true), (1, true), (2, true), (4, true), (3, false), (5, false), (6, false), (7, true), (8, true), (9, true), (10, true), (11, true), (12, true), (14, true), (13, false), (15, false), (16, false), (17, true), (18, true)] (by kernel_rfl) (by kernel_rfl) (by kernel_rfl) rfl (HX.out _ (Fr.refl _ _).drew) ?_
      repeat (first
        | (refine wpO_skip rfl rfl ?_; simp only [List.getElem_toArray, List.getElem_cons_succ, List.getElem_cons_zero, Act.put, List.setIfInBounds_toArray, List.set_cons_zero, List.set_cons_succ])
        | (refine wpO_call rfl rfl ?_; simp only [List.getElem_toArray, List.getElem_cons_succ, List.getElem_cons_zero]; apply Exists.intro; refine ⟨fun X hX => ?_, ?_⟩
           · (have s0 := hX.1; have s1 := hX.2.1; have s2 := hX.2.2.1; have s3 := hX.2.2.2; go_simp; exact stillUpon_value)
           simp only [Act.put, List.setIfInBounds_toArray, List.set_cons_zero, List.set_cons_succ]))
      refine wpO_eff rfl rfl (fun K hK => ?_)
      simp only [List.getElem_toArray, List.getElem_cons_succ, List.getElem_cons_zero]
      go_simp
      refine (HA.out _).mono ?_
      rintro e w' ⟨rfl, rfl⟩
      refine hK _ _ (fun _ => HX.out _ (Fr.refl _ _).drew) ?_
      clear hK K
      repeat (first
        | (refine wpO_skip rfl rfl ?_; simp only [List.getElem_toArray, List.getElem_cons_succ, List.getElem_cons_zero, Act.put, List.setIfInBounds_toArray, List.set_cons_zero, List.set_cons_succ])
        | (refine wpO_call rfl rfl ?_; simp only [List.getElem_toArray, List.getElem_cons_succ, List.getElem_cons_zero]; apply Exists.intro; refine ⟨fun X hX => ?_, ?_⟩
           · (have s0 := hX.1; have s1 := hX.2.1; have s2 := hX.2.2.1; have s3 := hX.2.2.2; go_simp; exact stillUpon_value)
           simp only [Act.put, List.setIfInBounds_toArray, List.set_cons_zero, List.set_cons_succ]))
      refine wpO_eff rfl rfl (fun K hK => ?_)
      simp only [List.getElem_toArray, List.getElem_cons_succ, List.getElem_cons_zero]
      go_simp
      refine (HN.out _).mono ?_
      rintro e w' ⟨rfl, rfl⟩
      refine hK _ _ (fun _ => HX.out _ (Fr.refl _ _).drew) ?_
      clear hK K
      repeat (first
        | (refine wpO_skip rfl rfl ?_; simp only [List.getElem_toArray, List.getElem_cons_succ, List.getElem_cons_zero, Act.put, List.setIfInBounds_toArray, List.set_cons_zero, List.set_cons_succ])
        | (refine wpO_call rfl rfl ?_; simp only [List.getElem_toArray, List.getElem_cons_succ, List.getElem_cons_zero]; apply Exists.intro; refine ⟨fun X hX => ?_, ?_⟩
           · (have s0 := hX.1; have s1 := hX.2.1; have s2 := hX.2.2.1; have s3 := hX.2.2.2; go_simp; exact stillUpon_value)
           simp only [Act.put, List.setIfInBounds_toArray, List.set_cons_zero, List.set_cons_succ]))
      refine wpO_eff rfl rfl (fun K hK => ?_)
      simp only [List.getElem_toArray, List.getElem_cons_succ, List.getElem_cons_zero]
      go_simp
      refine (HR1.out _).mono ?_
      rintro e w' ⟨rfl, rfl⟩
      refine hK _ _ (fun _ => HX.out _ (Fr.refl _ _).drew) ?_
      clear hK K
      repeat (first
        | (refine wpO_skip rfl rfl ?_; simp only [List.getElem_toArray, List.getElem_cons_succ, List.getElem_cons_zero, Act.put, List.setIfInBounds_toArray, List.set_cons_zero, List.set_cons_succ])
        | (refine wpO_call rfl rfl ?_; simp only [List.getElem_toArray, List.getElem_cons_succ, List.getElem_cons_zero]; apply Exists.intro; refine ⟨fun X hX => ?_, ?_⟩
           · (have s0 := hX.1; have s1 := hX.2.1; have s2 := hX.2.2.1; have s3 := hX.2.2.2; go_simp; exact stillUpon_value)
           simp only [Act.put, List.setIfInBounds_toArray, List.set_cons_zero, List.set_cons_succ]))
      refine wpO_eff rfl rfl (fun K hK => ?_)
      simp only [List.getElem_toArray, List.getElem_cons_succ, List.getElem_cons_zero]
      go_simp
      refine (HT.out _).mono ?_
      rintro e w' ⟨rfl, rfl⟩
      refine hK _ _ (fun _ => HX.out _ (Fr.refl _ _).drew) ?_
      clear hK K
      repeat (first
        | (refine wpO_skip rfl rfl ?_; simp only [List.getElem_toArray, List.getElem_cons_succ, List.getElem_cons_zero, Act.put, List.setIfInBounds_toArray, List.set_cons_zero, List.set_cons_succ])
        | (refine wpO_call rfl rfl ?_; simp only [List.getElem_toArray, List.getElem_cons_succ, List.getElem_cons_zero]; apply Exists.intro; refine ⟨fun X hX => ?_, ?_⟩
           · (have s0 := hX.1; have s1 := hX.2.1; have s2 := hX.2.2.1; have s3 := hX.2.2.2; go_simp; exact stillUpon_value)
           simp only [Act.put, List.setIfInBounds_toArray, List.set_cons_zero, List.set_cons_succ]))
      refine wpO_eff rfl rfl (fun K hK => ?_)
      simp only [List.getElem_toArray, List.getElem_cons_succ, List.getElem_cons_zero]
      go_simp
      refine (HN.out _).mono ?_
      rintro e w' ⟨rfl, rfl⟩
      refine hK _ _ (fun _ => HX.out _ (Fr.refl _ _).drew) ?_
      clear hK K
      repeat (first
        | (refine wpO_skip rfl rfl ?_; simp only [List.getElem_toArray, List.getElem_cons_succ, List.getElem_cons_zero, Act.put, List.setIfInBounds_toArray, List.set_cons_zero, List.set_cons_succ])
        | (refine wpO_call rfl rfl ?_; simp only [List.getElem_toArray, List.getElem_cons_succ, List.getElem_cons_zero]; apply Exists.intro; refine ⟨fun X hX => ?_, ?_⟩
           · (have s0 := hX.1; have s1 := hX.2.1; have s2 := hX.2.2.1; have s3 := hX.2.2.2; go_simp; exact stillUpon_value)
           simp only [Act.put, List.setIfInBounds_toArray, List.set_cons_zero, List.set_cons_succ]))
      refine wpO_eff rfl rfl (fun K hK => ?_)
      simp only [List.getElem_toArray, List.getElem_cons_succ, List.getElem_cons_zero]
      go_simp
      refine (HR2.out _).mono ?_
      rintro e w' ⟨rfl, rfl⟩
      refine hK _ _ (fun _ => HX.out _ (Fr.refl _ _).drew) ?_
      clear hK K
      repeat (first
        | (refine wpO_skip rfl rfl ?_; simp only [List.getElem_toArray, List.getElem_cons_succ, List.getElem_cons_zero, Act.put, List.setIfInBounds_toArray, List.set_cons_zero, List.set_cons_succ])
        | (refine wpO_call rfl rfl ?_; simp only [List.getElem_toArray, List.getElem_cons_succ, List.getElem_cons_zero]; apply Exists.intro; refine ⟨fun X hX => ?_, ?_⟩
           · (have s0 := hX.1; have s1 := hX.2.1; have s2 := hX.2.2.1; have s3 := hX.2.2.2; go_simp; exact stillUpon_value)
           simp only [Act.put, List.setIfInBounds_toArray, List.set_cons_zero, List.set_cons_succ]))
      refine wpO_nil ?_
      have y0 : W.cell? ⟨w.heap.size, 0, none⟩ = some (.int .i64 l.min) := G.out.cell 0
      have y1 : W.cell? ⟨w.heap.size, 1, none⟩ = some (.int .i64 l.max) := G.out.cell 1
      have y2 : W.cell? ⟨w.heap.size, 2, none⟩ = some (.bool l.has) := G.out.cell 2
      have y3 : W.cell? ⟨w.heap.size, 3, none⟩ = some (.slice A B.length c) := G.out.cell 3
      have z0 : W.cell? ⟨w.heap.size + 1, 0, none⟩ = some (.int .i64 0) := GR.out.cell 0
      have z1 : W.cell? ⟨w.heap.size + 1, 1, none⟩ = some (.int .i64 0) := GR.out.cell 1
      have z2 : W.cell? ⟨w.heap.size + 1, 2, none⟩ = some (.bool false) := GR.out.cell 2
      have z3 : W.cell? ⟨w.heap.size + 1, 3, none⟩ = some (.slice none 0 0) := GR.out.cell 3
      have q0 : W.frozen? ⟨w.heap.size + 1, 0, none⟩ = false := GR.out.frozen 0
      have q1 : W.frozen? ⟨w.heap.size + 1, 1, none⟩ = false := GR.out.frozen 1
      have q2 : W.frozen? ⟨w.heap.size + 1, 2, none⟩ = false := GR.out.frozen 2
      have q3 : W.frozen? ⟨w.heap.size + 1, 3, none⟩ = false := GR.out.frozen 3
      go_wp2
      have FZ := (((((Fr.refl (One (w.heap.size + 1)) W).setCell ⟨w.heap.size + 1, 0, none⟩ (.int .i64 l.min) (fun _ => rfl)).setCell ⟨w.heap.size + 1, 1, none⟩ (.int .i64 l.max) (fun _ => rfl)).setCell ⟨w.heap.size + 1, 2, none⟩ (.bool l.has) (fun _ => rfl)).setCell ⟨w.heap.size + 1, 3, none⟩ (.slice A B.length c) (fun _ => rfl))
      have FF := F.out.trans FZ.drew (fun i hi h => by simp only [One] at h; omega)
      exact bodyPost_ret (v := .tuple #[.agg #[.int .i64 l.min, .int .i64 l.max, .bool l.has, .slice A B.length c], .int .i64 2]) (by simp [results, Tryz.results44, go_sem, z0, z1, z2, z3]) rfl ⟨A, c, rfl, HI.out.fr FF, .inl ⟨rfl, rfl⟩, FF⟩
  · rw [if_neg e1]
    rw [decide_eq_false e1] at HR1
    go_enter Tryz.func44, Tryz.ntmps44
    go_wp2
    generalize (w.alloc (.cells #[.int .i64 l.min, .int .i64 l.max, .bool l.has, .slice A B.length c] 143)).alloc (.cells #[.int .i64 0, .int .i64 0, .bool false, .slice none 0 0] 143) = W at *
    have hc1 : w.heap.size + 1 < W.heap.size := GR.out.lt
    have HX : Hid (∀ X, Fr (One (w.heap.size + 1)) W X → X.cell? ⟨w.heap.size, 0, none⟩ = some (.int .i64 l.min) ∧ X.cell? ⟨w.heap.size, 1, none⟩ = some (.int .i64 l.max) ∧ X.cell? ⟨w.heap.size, 2, none⟩ = some (.bool l.has) ∧ X.cell? ⟨w.heap.size, 3, none⟩ = some (.slice A B.length c)) := fun X f => by
      have h := G.out.fr f (fun x => by simp only [One] at x; omega)
      exact ⟨h.cell 0, h.cell 1, h.cell 2, h.cell 3⟩
    refine wp_region_ord (fun X => X.cell? ⟨w.heap.size, 0, none⟩ = some (.int .i64 l.min) ∧ X.cell? ⟨w.heap.size, 1, none⟩ = some (.int .i64 l.max) ∧ X.cell? ⟨w.heap.size, 2, none⟩ = some (.bool l.has) ∧ X.cell? ⟨w.heap.size, 3, none⟩ = some (.slice A B.length c)) [] [(0, true), (1, true), (2, true), (4, true), (3, false), (5, false), (6, false), (7, true), (8, true), (9, true), (10, true), (11, true), (12, true), (14, true), (13, false), (15, false), (16, false), (17, true), (18, true)] (by kernel_rfl) (by kernel_rfl) (by kernel_rfl) rfl (HX.out _ (Fr.refl _ _).drew) ?_
    repeat (first
      | (refine wpO_skip rfl rfl ?_; simp only [List.getElem_toArray, List.getElem_cons_succ, List.getElem_cons_zero, Act.put, List.setIfInBounds_toArray, List.set_cons_zero, List.set_cons_succ])
      | (refine wpO_call rfl rfl ?_; simp only [List.getElem_toArray, List.getElem_cons_succ, List.getElem_cons_zero]; apply Exists.intro; refine ⟨fun X hX => ?_, ?_⟩
         · (have s0 := hX.1; have s1 := hX.2.1; have s2 := hX.2.2.1; have s3 := hX.2.2.2; go_simp; exact stillUpon_value)
         simp only [Act.put, List.setIfInBounds_toArray, List.set_cons_zero, List.set_cons_succ]))
    refine wpO_eff rfl rfl (fun K hK => ?_)
    simp only [List.getElem_toArray, List.getElem_cons_succ, List.getElem_cons_zero]
    go_simp
    refine (HA.out _).mono ?_
    rintro e w' ⟨rfl, rfl⟩
    refine hK _ _ (fun _ => HX.out _ (Fr.refl _ _).drew) ?_
    clear hK K
    repeat (first
      | (refine wpO_skip rfl rfl ?_; simp only [List.getElem_toArray, List.getElem_cons_succ, List.getElem_cons_zero, Act.put, List.setIfInBounds_toArray, List.set_cons_zero, List.set_cons_succ])
      | (refine wpO_call rfl rfl ?_; simp only [List.getElem_toArray, List.getElem_cons_succ, List.getElem_cons_zero]; apply Exists.intro; refine ⟨fun X hX => ?_, ?_⟩
         · (have s0 := hX.1; have s1 := hX.2.1; have s2 := hX.2.2.1; have s3 := hX.2.2.2; go_simp; exact stillUpon_value)
         simp only [Act.put, List.setIfInBounds_toArray, List.set_cons_zero, List.set_cons_succ]))
    refine wpO_eff rfl rfl (fun K hK => ?_)
    simp only [List.getElem_toArray, List.getElem_cons_succ, List.getElem_cons_zero]
    go_simp
    refine (HN.out _).mono ?_
    rintro e w' ⟨rfl, rfl⟩
    refine hK _ _ (fun _ => HX.out _ (Fr.refl _ _).drew) ?_
    clear hK K
    repeat (first
      | (refine wpO_skip rfl rfl ?_; simp only [List.getElem_toArray, List.getElem_cons_succ, List.getElem_cons_zero, Act.put, List.setIfInBounds_toArray, List.set_cons_zero, List.set_cons_succ])
      | (refine wpO_call rfl rfl ?_; simp only [List.getElem_toArray, List.getElem_cons_succ, List.getElem_cons_zero]; apply Exists.intro; refine ⟨fun X hX => ?_, ?_⟩
         · (have s0 := hX.1; have s1 := hX.2.1; have s2 := hX.2.2.1; have s3 := hX.2.2.2; go_simp; exact stillUpon_value)
         simp only [Act.put, List.setIfInBounds_toArray, List.set_cons_zero, List.set_cons_succ]))
    refine wpO_eff rfl rfl (fun K hK => ?_)
    simp only [List.getElem_toArray, List.getElem_cons_succ, List.getElem_cons_zero]
    go_simp
    refine (HR1.out _).mono ?_
    rintro e w' ⟨rfl, rfl⟩
    refine hK _ _ (fun _ => HX.out _ (Fr.refl _ _).drew) ?_
    clear hK K
    repeat (first
      | (refine wpO_skip rfl rfl ?_; simp only [List.getElem_toArray, List.getElem_cons_succ, List.getElem_cons_zero, Act.put, List.setIfInBounds_toArray, List.set_cons_zero, List.set_cons_succ])
      | (refine wpO_call rfl rfl ?_; simp only [List.getElem_toArray, List.getElem_cons_succ, List.getElem_cons_zero]; apply Exists.intro; refine ⟨fun X hX => ?_, ?_⟩
         · (have s0 := hX.1; have s1 := hX.2.1; have s2 := hX.2.2.1; have s3 := hX.2.2.2; go_simp; exact stillUpon_value)
         simp only [Act.put, List.setIfInBounds_toArray, List.set_cons_zero, List.set_cons_succ]))
    refine wpO_skipE rfl rfl (HX.out _ (Fr.refl _ _).drew) ?_
    simp only [List.getElem_toArray, List.getElem_cons_succ, List.getElem_cons_zero, Act.put, List.setIfInBounds_toArray, List.set_cons_zero, List.set_cons_succ]
    repeat (first
      | (refine wpO_skip rfl rfl ?_; simp only [List.getElem_toArray, List.getElem_cons_succ, List.getElem_cons_zero, Act.put, List.setIfInBounds_toArray, List.set_cons_zero, List.set_cons_succ])
      | (refine wpO_call rfl rfl ?_; simp only [List.getElem_toArray, List.getElem_cons_succ, List.getElem_cons_zero]; apply Exists.intro; refine ⟨fun X hX => ?_, ?_⟩
         · (have s0 := hX.1; have s1 := hX.2.1; have s2 := hX.2.2.1; have s3 := hX.2.2.2; go_simp; exact stillUpon_value)
         simp only [Act.put, List.setIfInBounds_toArray, List.set_cons_zero, List.set_cons_succ]))
    refine wpO_skipE rfl rfl (HX.out _ (Fr.refl _ _).drew) ?_
    simp only [List.getElem_toArray, List.getElem_cons_succ, List.getElem_cons_zero, Act.put, List.setIfInBounds_toArray, List.set_cons_zero, List.set_cons_succ]
    repeat (first
      | (refine wpO_skip rfl rfl ?_; simp only [List.getElem_toArray, List.getElem_cons_succ, List.getElem_cons_zero, Act.put, List.setIfInBounds_toArray, List.set_cons_zero, List.set_cons_succ])
      | (refine wpO_call rfl rfl ?_; simp only [List.getElem_toArray, List.getElem_cons_succ, List.getElem_cons_zero]; apply Exists.intro; refine ⟨fun X hX => ?_, ?_⟩
         · (have s0 := hX.1; have s1 := hX.2.1; have s2 := hX.2.2.1; have s3 := hX.2.2.2; go_simp; exact stillUpon_value)
         simp only [Act.put, List.setIfInBounds_toArray, List.set_cons_zero, List.set_cons_succ]))
    refine wpO_skipE rfl rfl (HX.out _ (Fr.refl _ _).drew) ?_
    simp only [List.getElem_toArray, List.getElem_cons_succ, List.getElem_cons_zero, Act.put, List.setIfInBounds_toArray, List.set_cons_zero, List.set_cons_succ]
    repeat (first
      | (refine wpO_skip rfl rfl ?_; simp only [List.getElem_toArray, List.getElem_cons_succ, List.getElem_cons_zero, Act.put, List.setIfInBounds_toArray, List.set_cons_zero, List.set_cons_succ])
      | (refine wpO_call rfl rfl ?_; simp only [List.getElem_toArray, List.getElem_cons_succ, List.getElem_cons_zero]; apply Exists.intro; refine ⟨fun X hX => ?_, ?_⟩
         · (have s0 := hX.1; have s1 := hX.2.1; have s2 := hX.2.2.1; have s3 := hX.2.2.2; go_simp; exact stillUpon_value)
         simp only [Act.put, List.setIfInBounds_toArray, List.set_cons_zero, List.set_cons_succ]))
    refine wpO_nil ?_
    have y0 : W.cell? ⟨w.heap.size, 0, none⟩ = some (.int .i64 l.min) := G.out.cell 0
    have y1 : W.cell? ⟨w.heap.size, 1, none⟩ = some (.int .i64 l.max) := G.out.cell 1
    have y2 : W.cell? ⟨w.heap.size, 2, none⟩ = some (.bool l.has) := G.out.cell 2
    have y3 : W.cell? ⟨w.heap.size, 3, none⟩ = some (.slice A B.length c) := G.out.cell 3
    have z0 : W.cell? ⟨w.heap.size + 1, 0, none⟩ = some (.int .i64 0) := GR.out.cell 0
    have z1 : W.cell? ⟨w.heap.size + 1, 1, none⟩ = some (.int .i64 0) := GR.out.cell 1
    have z2 : W.cell? ⟨w.heap.size + 1, 2, none⟩ = some (.bool false) := GR.out.cell 2
    have z3 : W.cell? ⟨w.heap.size + 1, 3, none⟩ = some (.slice none 0 0) := GR.out.cell 3
    have q0 : W.frozen? ⟨w.heap.size + 1, 0, none⟩ = false := GR.out.frozen 0
    have q1 : W.frozen? ⟨w.heap.size + 1, 1, none⟩ = false := GR.out.frozen 1
    have q2 : W.frozen? ⟨w.heap.size + 1, 2, none⟩ = false := GR.out.frozen 2
    have q3 : W.frozen? ⟨w.heap.size + 1, 3, none⟩ = false := GR.out.frozen 3
    go_wp2
    have FZ := (((((Fr.refl (One (w.heap.size + 1)) W).setCell ⟨w.heap.size + 1, 0, none⟩ (.int .i64 l.min) (fun _ => rfl)).setCell ⟨w.heap.size + 1, 1, none⟩ (.int .i64 l.max) (fun _ => rfl)).setCell ⟨w.heap.size + 1, 2, none⟩ (.bool l.has) (fun _ => rfl)).setCell ⟨w.heap.size + 1, 3, none⟩ (.slice A B.length c) (fun _ => rfl))
    have FF := F.out.trans FZ.drew (fun i hi h => by simp only [One] at h; omega)
    exact bodyPost_ret (v := .tuple #[.agg #[.int .i64 l.min, .int .i64 l.max, .bool l.has, .slice A B.length c], .int .i64 2]) (by simp [results, Tryz.results44, go_sem, z0, z1, z2, z3]) rfl ⟨A, c, rfl, HI.out.fr FF, .inl ⟨rfl, rfl⟩, FF⟩
end Go.Proofs.YtdckghiipijobaaGreat

namespace Go.Proofs.YtdckghiipijobaaGreat
open Go.RowKit

def fillR (B : List Int) (t : Nat) (x : Int) (n : Nat) : List Int × Int := if t + n ≤ B.length then (splice B t (List.replicate n (x % 256)), 0) else (B, 2)
end Go.Proofs.YtdckghiipijobaaGreat

namespace Go.Proofs.YtdckghiipijobaaGreat
open Go.RowKit

theorem opwp_cp {P : Program} {t e : TypeId} {bytes : Nat} {z : Value} {w : World} {o : Oper} {a : Act} {K : Act → World → Prop} {Q : Exit → Act → World → Prop} {A : Option Addr} {B q c off dLen dCap sLen sCap : Nat} {s d : Operand} {xs cs : List Value} (E : ElemOk P t e 1 bytes z)
    (ho : o.op = .call { callee := .builtin .copy, args := #[d, s], argTypes := #[t, t] })
    (hd : a.eval d = .slice (some ⟨q, off, none⟩) dLen dCap) (hs : a.eval s = .slice A sLen sCap) (hown : Own w q e c xs)
    (hr : Rd w B A cs) (hn : cs.length = Nat.min sLen dLen) (hfit : off + cs.length ≤ xs.length) (h1 : ∀ u ∈ cs, u.oneCell' = true)
    (h : ∀ w', Own w' q e c (splice xs off cs) → Fr (One q) w w' → K (a.put o.dst (goInt cs.length)) w') : o.wp P a w K Q := by
  obtain ⟨w', hrun, h2, h3⟩ := run_cp E w o.type hown off dLen dCap sLen sCap hr hn hfit h1
  unfold Oper.wp execOp
  simp only [ho, resolve, invoke, builtin, Sem.run_bind, Sem.run_pure, Result.andThen_ok, List.map_toArray, List.map_cons, List.map_nil, hs, hd, hrun]
  exact h w' h2 h3
/-- A memory of the program. -/
structure Mo (w : World) (p q c : Nat) (l : Lim) (B : List Int) : Prop where
  hp : Blk w p 251 #[.int .i64 l.min, .int .i64 l.max, .bool l.has, .slice (some ⟨q, 0, none⟩) B.length c]
  own : Own w q 5 c (Ks .u8 B)
  bts : Bts B
theorem Mo.fr {w w' : World} {p q c : Nat} {l : Lim} {B : List Int} {M : Nat → Prop} (h : Mo w p q c l B) (f : Fr M w w') (hp : ¬ M p) (hq : ¬ M q) : Mo w' p q c l B := ⟨h.hp.fr f hp, h.own.fr f hq, h.bts⟩
theorem Mo.frNo {w w' : World} {p q c : Nat} {l : Lim} {B : List Int} (h : Mo w p q c l B) (f : Fr No w w') : Mo w' p q c l B := h.fr f (fun x => x) (fun x => x)
theorem Mo.ne {w : World} {p q c : Nat} {l : Lim} {B : List Int} (h : Mo w p q c l B) : p ≠ q := by
  obtain ⟨cur, hb, _⟩ := h.own.cur
  exact Blk.ne_ h.hp hb (by decide)
theorem Mo.cap {w : World} {p q c : Nat} {l : Lim} {B : List Int} (h : Mo w p q c l B) : B.length ≤ c := by
  obtain ⟨cur, hb, h1, _⟩ := h.own.cur
  simpa using h1
theorem Ks_splice (B bs : List Int) (a : Nat) : splice (Ks .u8 B) a (Ks .u8 bs) = Ks .u8 (splice B a bs) := by simp [splice, Ks]
theorem splice_bts {B bs : List Int} (a : Nat) (h : Bts B) (k : Bts bs) : Bts (splice B a bs) := fun b hb => by
  rw [splice, List.mem_append, List.mem_append] at hb
  rcases hb with hb | hb | hb
  · exact h b (List.mem_of_mem_take hb)
  · exact k b hb
  · exact h b (List.mem_of_mem_drop hb)
/-- The memory behind a copy into its bytes. -/
theorem Mo.put {w w' : World} {p q c a : Nat} {l : Lim} {B bs : List Int} (h : Mo w p q c l B) (f : Fr (One q) w w') (ho : Own w' q 5 c (splice (Ks .u8 B) a (Ks .u8 bs))) (hb : Bts bs) (hfit : a + bs.length ≤ B.length) : Mo w' p q c l (splice B a bs) := by
  refine ⟨?_, by rw [← Ks_splice]; exact ho, splice_bts a h.bts hb⟩
  have := h.hp.fr f (fun x => h.ne x)
  rwa [splice_len hfit]
def MoTo (p q c : Nat) (l : Lim) (B : List Int) (t : Int) (w : World) (e : Ending) (w' : World) : Prop := e = .returned (.int .i64 t) ∧ Mo w' p q c l B ∧ Fr (One q) w w'
theorem lo_any (x : Int) (w : World) (hx : 0 ≤ x ∧ x < 18446744073709551616) : Calls Tryz.prog 131 #[.int .u64 x] w fun e w' => e = .returned (.int .u64 (lo x)) ∧ w = w' := by
  rw [← lo_eq]; exact low_any x w hx
end Go.Proofs.YtdckghiipijobaaGreat

namespace Go.Proofs.YtdckghiipijobaaGreat
open Go.RowKit

theorem lfit_any (s a n : Nat) (w : World) (hs : s ≤ 1000000) (ha : a < 4294967296) (hn : n < 4294967296) : Calls Tryz.prog 132 #[.int .i64 s, .int .u64 a, .int .u64 n] w fun e w' => e = .returned (.bool (decide (a + n ≤ s))) ∧ w = w' := by
  have h := there_any s a n w (by omega) (by omega) (by omega)
  have e : fits s a n = decide (a + n ≤ s) := by rw [fits, Bool.eq_iff_iff]; simp; omega
  rwa [e] at h
theorem splice_nil' (B : List Int) (a : Nat) : splice B a [] = B := splice_nil B a
set_option maxRecDepth 100000 in
set_option maxHeartbeats 3200000 in
theorem minit_any (p q c : Nat) (l : Lim) (B bs : List Int) (D : Option Addr) (d : Nat) (xt xa xn : Int) (w : World) (hM : Mo w p q c l B) (hD : SrcIn w D d bs) (hn : B.length ≤ 100000) (hn2 : bs.length ≤ 1000000) (h1 : 0 ≤ xt ∧ xt < 18446744073709551616) (h2 : 0 ≤ xa ∧ xa < 18446744073709551616) (h3 : 0 ≤ xn ∧ xn < 18446744073709551616) :
    Calls Tryz.prog 43 #[.pointer (some ⟨p, 0, none⟩), .slice D bs.length d, .int .u64 xt, .int .u64 xa, .int .u64 xn] w (MoTo p q c l (initR B bs (lo xt) (lo xa) (lo xn)).1 (initR B bs (lo xt) (lo xa) (lo xn)).2 w) := by
  have HT := hid (fun W => lo_any xt W h1)
  have HA := hid (fun W => lo_any xa W h2)
  have HN := hid (fun W => lo_any xn W h3)
  have HM := hid hM
  have HD := hid hD
  have b1 := lo_lt xt
  have b2 := lo_lt xa
  have b3 := lo_lt xn
  generalize lo xt = t at *
  generalize lo xa = a at *
  generalize lo xn = n at *
  have HR1 := hid (fun W => lfit_any bs.length a n W hn2 b2 b3)
  have HR2 := hid (fun W => lfit_any B.length t n W (by omega) b1 b3)
  have c3 := hM.hp.cell 3
  have HX : Hid (∀ X, Fr No w X → X.cell? ⟨p, 3, none⟩ = some (.slice (some ⟨q, 0, none⟩) B.length c)) := fun X f => (HM.out.frNo f).hp.cell 3
  clear hM hD h1 h2 h3
  unfold initR
  by_cases e1 : a + n ≤ bs.length
  · rw [if_pos e1]
    rw [decide_eq_true e1] at HR1
    by_cases e2 : t + n ≤ B.length
    · rw [if_pos e2]
      rw [decide_eq_true e2] at HR2
      go_enter Tryz.func43, Tryz.ntmps43
      go_wp2_with fail
      refine (HT.out _).mono ?_
      rintro e w' ⟨rfl, rfl⟩
      go_wp2_with fail
      refine (HA.out _).mono ?_
      rintro e w' ⟨rfl, rfl⟩
      go_wp2_with fail
      refine (HN.out _).mono ?_
      rintro e w' ⟨rfl, rfl⟩
      go_wp2_with fail
      refine (HR1.out _).mono ?_
      rintro e w' ⟨rfl, rfl⟩
      go_wp2_with fail
      refine (HR2.out _).mono ?_
      rintro e w' ⟨rfl, rfl⟩
      obtain ⟨D', d', hsl, hd1, hd2⟩ := run_sub .u64 .u64 D bs.length d a n e1 HD.out.cap HD.out.spot
      obtain ⟨E', d2, hsl2, hd3, hd4⟩ := run_sub .u64 .u64 (some ⟨q, 0, none⟩) B.length c t n e2 HM.out.cap (fun _ ad h => ⟨q, 0, by injection h with h; exact h.symm⟩)
      have hw1 : IntKind.u64.wrap ((a : Int) + n) = a + n := by rw [IntKind.wrap_u64]; omega
      have hw2 : IntKind.u64.wrap ((t : Int) + n) = t + n := by rw [IntKind.wrap_u64]; omega
      have hoff : ∃ off, E' = some ⟨q, off, none⟩ ∧ (n = 0 ∨ off = t) ∧ off + n ≤ B.length := by
        rcases hd4 with ⟨h, h' | h' | h'⟩ | ⟨q', o', h, h'⟩
        · cases h'
        · exact ⟨0, h, .inl h', by omega⟩
        · exact ⟨0, h, .inr h'.symm, by omega⟩
        · cases h; exact ⟨0 + t, h', .inr (by omega), by omega⟩
      obtain ⟨off, rfl, ho1, ho2⟩ := hoff
      have hlen : ((bs.drop a).take n).length = n := by rw [List.length_take, List.length_drop]; omega
      clear hd4
      go_wp2_with fail
      refine wp_region_ord (fun X => X.cell? ⟨p, 3, none⟩ = some (.slice (some ⟨q, 0, none⟩) B.length c)) [] [(0, true), (1, true), (2, true), (3, true), (4, true), (5, true), (6, true), (7, true), (8, true), (9, true), (10, true), (11, true), (12, true), (13, true), (14, true), (15, false)] (by kernel_rfl) (by kernel_rfl) (by kernel_rfl) rfl c3 ?_
      repeat (first
        | (refine wpO_skip rfl rfl ?_; simp only [List.getElem_toArray, List.getElem_cons_succ, List.getElem_cons_zero, Act.put, List.setIfInBounds_toArray, List.set_cons_zero, List.set_cons_succ])
        | (refine wpO_call rfl rfl ?_; simp only [List.getElem_toArray, List.getElem_cons_succ, List.getElem_cons_zero]; apply Exists.intro; refine ⟨fun X hX => ?_, ?_⟩
           · (have s0 := hX; go_simp; exact stillUpon_value)
           simp only [Act.put, List.setIfInBounds_toArray, List.set_cons_zero, List.set_cons_succ]))
      refine wpO_eff rfl rfl (fun K hK => ?_)
      simp only [List.getElem_toArray, List.getElem_cons_succ, List.getElem_cons_zero]
      refine opwp_cp (xs := Ks .u8 B) (cs := Ks .u8 ((bs.drop a).take n)) (B := w.heap.size) elBs rfl rfl rfl (HM.out.frNo (Fr.refl No w).drew).own (sub_rd HD.out.rd HD.out.nil e1 hd2).drew (by rw [len_Ks, hlen]; exact (Nat.min_self n).symm) (by rw [len_Ks, len_Ks, hlen]; exact ho2) (one_Ks _ _) ?_
      intro w3 hown fcp
      have e3 : splice B off ((bs.drop a).take n) = splice B t ((bs.drop a).take n) := by
        rcases ho1 with h | h
        · subst h; rw [List.take_zero, splice_nil', splice_nil']
        · rw [h]
      have hm := Mo.put (HM.out.frNo (Fr.refl No w).drew) fcp hown (HD.out.bts.sub a n) (by rw [hlen]; exact ho2)
      rw [e3] at hm
      have HM3 := hid hm
      have F3 := hid (((Fr.refl (One q) w).drew).trans fcp (fun _ _ h => h))
      have c4 := HM3.out.hp.cell 3
      rw [splice_len (by rw [hlen]; exact e2)] at c4
      clear hown fcp hm
      refine hK _ _ (fun _ => c4) ?_
      clear hK K
      repeat (first
        | (refine wpO_skip rfl rfl ?_; simp only [List.getElem_toArray, List.getElem_cons_succ, List.getElem_cons_zero, Act.put, List.setIfInBounds_toArray, List.set_cons_zero, List.set_cons_succ])
        | (refine wpO_call rfl rfl ?_; simp only [List.getElem_toArray, List.getElem_cons_succ, List.getElem_cons_zero]; apply Exists.intro; refine ⟨fun X hX => ?_, ?_⟩
           · (have s0 := hX; go_simp; exact stillUpon_value)
           simp only [Act.put, List.setIfInBounds_toArray, List.set_cons_zero, List.set_cons_succ]))
      refine wpO_nil ?_
      go_wp2
      go_ret
      exact ⟨rfl, HM3.out, F3.out⟩
    · rw [if_neg e2]
      rw [decide_eq_false e2] at HR2
      go_enter Tryz.func43, Tryz.ntmps43
      go_wp2_with fail
      refine (HT.out _).mono ?_
      rintro e w' ⟨rfl, rfl⟩
      go_wp2_with fail
      refine (HA.out _).mono ?_
      rintro e w' ⟨rfl, rfl⟩
      go_wp2_with fail
      refine (HN.out _).mono ?_
      rintro e w' ⟨rfl, rfl⟩
      go_wp2_with fail
      refine (HR1.out _).mono ?_
      rintro e w' ⟨rfl, rfl⟩
      go_wp2_with fail
      refine (HR2.out _).mono ?_
      rintro e w' ⟨rfl, rfl⟩
      go_wp2
      go_ret
      exact ⟨rfl, HM.out, Fr.refl _ _⟩
  · rw [if_neg e1]
    rw [decide_eq_false e1] at HR1
    go_enter Tryz.func43, Tryz.ntmps43
    go_wp2_with fail
    refine (HT.out _).mono ?_
    rintro e w' ⟨rfl, rfl⟩
    go_wp2_with fail
    refine (HA.out _).mono ?_
    rintro e w' ⟨rfl, rfl⟩
    go_wp2_with fail
    refine (HN.out _).mono ?_
    rintro e w' ⟨rfl, rfl⟩
    go_wp2_with fail
    refine (HR1.out _).mono ?_
    rintro e w' ⟨rfl, rfl⟩
    go_wp2
    go_ret
    exact ⟨rfl, HM.out, Fr.refl _ _⟩
end Go.Proofs.YtdckghiipijobaaGreat

namespace Go.Proofs.YtdckghiipijobaaGreat
open Go.RowKit

theorem own_els {w : World} {p q c : Nat} {l : Lim} {B : List Int} (h : Mo w p q c l B) : RmIn w (some ⟨q, 0, none⟩) c B := by
  have hr : Rd w w.heap.size (some ⟨q, 0, none⟩) (Ks .u8 B) := h.own.rd h.own.lt
  exact ⟨hr, (fun e => by cases e), (fun ad e => ⟨q, 0, by injection e with e; exact e.symm⟩), h.bts, h.cap⟩
theorem mcopy_any (p q c p' q' c' : Nat) (l l' : Lim) (B B' : List Int) (xt xa xn : Int) (w : World) (hM : Mo w p q c l B) (hM' : Mo w p' q' c' l' B') (hn : B.length ≤ 100000) (hn' : B'.length ≤ 100000) (h1 : 0 ≤ xt ∧ xt < 18446744073709551616) (h2 : 0 ≤ xa ∧ xa < 18446744073709551616) (h3 : 0 ≤ xn ∧ xn < 18446744073709551616) :
    Calls Tryz.prog 183 #[.pointer (some ⟨p, 0, none⟩), .pointer (some ⟨p', 0, none⟩), .int .u64 xt, .int .u64 xa, .int .u64 xn] w (MoTo p q c l (initR B B' (lo xt) (lo xa) (lo xn)).1 (initR B B' (lo xt) (lo xa) (lo xn)).2 w) := by
  have HI := hid (minit_any p q c l B B' _ c' xt xa xn w hM (own_els hM').src hn (by omega) h1 h2 h3)
  have c3 := hM'.hp.cell 3
  generalize initR B B' (lo xt) (lo xa) (lo xn) = r at *
  obtain ⟨R, tr⟩ := r
  clear hM hM'
  go_enter Tryz.func183, Tryz.ntmps183
  go_wp2_with fail
  refine HI.out.mono ?_
  rintro e w2 ⟨rfl, hm, f⟩
  have HM := hid hm
  have F := hid f
  clear hm f
  go_wp2
  go_ret
  exact ⟨rfl, HM.out, F.out⟩
theorem splice_cons {α : Type} (xs vs : List α) (o : Nat) (v : α) (h : o + vs.length + 1 ≤ xs.length) : splice (xs.set o v) (o + 1) vs = splice xs o (v :: vs) := by
  apply List.ext_getElem?
  intro i
  rw [splice_get? _ _ _ (by simp; omega), splice_get? _ _ _ (by simp; omega)]
  simp only [List.length_cons, List.getElem?_set]
  by_cases h1 : i < o
  · rw [if_pos (by omega), if_neg (by omega), if_pos h1]
  · by_cases h2 : i = o
    · subst h2
      rw [if_pos (by omega), if_pos rfl, if_pos (by omega), if_neg h1, if_pos (by omega), Nat.sub_self]; rfl
    · by_cases h3 : i < o + 1 + vs.length
      · rw [if_neg (by omega), if_pos h3, if_neg h1, if_pos (by omega), show i - o = (i - (o + 1)) + 1 by omega, List.getElem?_cons_succ]
      · rw [if_neg (by omega), if_neg h3, if_neg (by omega), if_neg h1, if_neg (by omega)]
theorem own_setCells {q c : Nat} {e : TypeId} : ∀ (vs : List Value) (o : Nat) (w : World) (xs : List Value), Own w q e c xs → o + vs.length ≤ xs.length → Own (w.setCells q o vs) q e c (splice xs o vs) := by
  intro vs
  induction vs with
  | nil => intro o w xs h _; rw [splice_nil]; exact h
  | cons v vs ih =>
    intro o w xs h hl
    have := ih (o + 1) _ _ (h.set_ o v) (by simp at hl ⊢; omega)
    rw [splice_cons _ _ _ _ (by simp at hl; omega)] at this
    exact this
theorem fr_setCells {M : Nat → Prop} {q : Nat} : ∀ (vs : List Value) (o : Nat) (w0 w : World), Fr M w0 w → (q < w0.heap.size → M q) → Fr M w0 (w.setCells q o vs) := by
  intro vs
  induction vs with
  | nil => intro o w0 w h _; exact h
  | cons v vs ih => intro o w0 w h hq; exact ih _ _ _ (h.setCell ⟨q, o, none⟩ v hq) hq
theorem run_clear_zero {P : Program} (w : World) (t e ty : TypeId) (z : Value) (ht : P.underlying t = some (.slice e)) (hv : ∀ w, (zeroValue e).run P w = .ok z w) (a : Option Addr) (c : Nat) :
    (Builtin.clear_ #[t] ty #[.slice a 0 c]).run P w = .ok (.tuple #[]) w := by
  cases a <;> simp [Builtin.clear_, run_underlying ht, hv, Builtin.zeroCells]
end Go.Proofs.YtdckghiipijobaaGreat

namespace Go.Proofs.YtdckghiipijobaaGreat
open Go.RowKit

theorem splice_set_in {α : Type} (B L : List α) (t k : Nat) (v : α) (h : t + L.length ≤ B.length) (hk : k < L.length) : (splice B t L).set (t + k) v = splice B t (L.set k v) := by
  apply List.ext_getElem?
  intro i
  rw [List.getElem?_set, splice_get? _ _ _ h, splice_get? _ _ _ (by simpa using h), length_splice _ _ _ h, List.length_set, List.getElem?_set]
  by_cases h1 : i < t
  · rw [if_neg (by omega), if_pos h1, if_pos h1]
  · by_cases h2 : t + k = i
    · subst h2
      rw [if_pos rfl, if_pos (by omega), if_neg h1, if_pos (by omega), if_pos (by omega), if_pos (by omega)]
    · rw [if_neg h2, if_neg h1, if_neg h1]
      by_cases h3 : i < t + L.length
      · rw [if_pos h3, if_pos h3, if_neg (by omega)]
      · rw [if_neg h3, if_neg h3]
theorem fill_step (n k : Nat) (v : Int) (hk : k < n) : (List.replicate k v ++ List.replicate (n - k) 0).set k v = List.replicate (k + 1) v ++ List.replicate (n - (k + 1)) (0 : Int) := by
  have e : n - k = (n - (k + 1)) + 1 := by omega
  rw [e, List.replicate_succ, List.set_append, if_neg (by simp)]
  simp [List.replicate_succ']
theorem fill_len (n k : Nat) (v : Int) (hk : k ≤ n) : (List.replicate k v ++ List.replicate (n - k) 0).length = n := by simp; omega
theorem fill_bts (n k : Nat) (v : Int) (hv : 0 ≤ v ∧ v ≤ 255) : Bts (List.replicate k v ++ List.replicate (n - k) 0) := fun b hb => by
  rw [List.mem_append, List.mem_replicate, List.mem_replicate] at hb
  rcases hb with ⟨_, h⟩ | ⟨_, h⟩ <;> rw [h] <;> omega
theorem Mo.setb {w : World} {p q c k : Nat} {l : Lim} {B : List Int} {v : Int} (h : Mo w p q c l B) (hk : k < B.length) (hv : 0 ≤ v ∧ v ≤ 255) : Mo (w.setCell ⟨q, k, none⟩ (.int .u8 v)) p q c l (B.set k v) := by
  refine ⟨?_, ?_, fun b hb => ?_⟩
  · have := h.hp.far (p := ⟨q, k, none⟩) h.ne (.int .u8 v)
    rwa [List.length_set]
  · have := h.own.set_ k (.int .u8 v)
    rw [show (Ks .u8 B).set k (.int .u8 v) = Ks .u8 (B.set k v) by simp [Ks]] at this
    exact this
  · rcases List.mem_or_eq_of_mem_set hb with hb | hb
    · exact h.bts b hb
    · rw [hb]; exact hv
theorem zU8 : ∀ w, (zeroValue 5).run Tryz.prog w = .ok (.int .u8 0) w := fun _ => by kernel_rfl
set_option maxRecDepth 100000 in
set_option maxHeartbeats 3200000 in
theorem mfill_any (p q c : Nat) (l : Lim) (B : List Int) (xt x xn : Int) (w : World) (hM : Mo w p q c l B) (hn : B.length ≤ 100000) (h1 : 0 ≤ xt ∧ xt < 18446744073709551616) (h2 : 0 ≤ x ∧ x < 18446744073709551616) (h3 : 0 ≤ xn ∧ xn < 18446744073709551616) :
    Calls Tryz.prog 179 #[.pointer (some ⟨p, 0, none⟩), .int .u64 xt, .int .u64 x, .int .u64 xn] w (MoTo p q c l (fillR B (lo xt) x (lo xn)).1 (fillR B (lo xt) x (lo xn)).2 w) := by
  have HT := hid (fun W => lo_any xt W h1)
  have HN := hid (fun W => lo_any xn W h3)
  have HM := hid hM
  have b1 := lo_lt xt
  have b3 := lo_lt xn
  generalize lo xt = t at *
  generalize lo xn = n at *
  have HR := hid (fun W => lfit_any B.length t n W (by omega) b1 b3)
  have c3 := hM.hp.cell 3
  have hcap := hM.cap
  clear hM h1 h3
  unfold fillR
  by_cases e2 : t + n ≤ B.length
  · rw [if_pos e2]
    rw [decide_eq_true e2] at HR
    by_cases hn0 : n = 0
    · subst hn0
      rw [List.replicate_zero, splice_nil']
      have hcl := fun (W : World) (ty : TypeId) (A : Option Addr) (d : Nat) => run_clear_zero (P := Tryz.prog) W 59 5 ty (.int .u8 0) Tryz.underlying59 zU8 A d
      by_cases hct : c = t
      · subst hct
        go_enter Tryz.func179, Tryz.ntmps179
        go_wp2_with fail
        refine (HT.out _).mono ?_
        rintro e w' ⟨rfl, rfl⟩
        go_wp2_with fail
        refine (HN.out _).mono ?_
        rintro e w' ⟨rfl, rfl⟩
        go_wp2_with fail
        refine (HR.out _).mono ?_
        rintro e w' ⟨rfl, rfl⟩
        go_wp2
        all_goals first
          | (go_ret; exact ⟨rfl, HM.out, Fr.refl _ _⟩)
          | (go_loopw [41] (fun j wr => j = .int .i64 0 ∧ wr = w) (fun _ _ => 0)
             case atStart => exact ⟨rfl, rfl⟩
             case round =>
               obtain ⟨rfl, rfl⟩ := hrel
               go_wp2
               go_ret
               exact ⟨rfl, HM.out, Fr.refl _ _⟩)
      · skip
        go_enter Tryz.func179, Tryz.ntmps179
        go_wp2_with fail
        refine (HT.out _).mono ?_
        rintro e w' ⟨rfl, rfl⟩
        go_wp2_with fail
        refine (HN.out _).mono ?_
        rintro e w' ⟨rfl, rfl⟩
        go_wp2_with fail
        refine (HR.out _).mono ?_
        rintro e w' ⟨rfl, rfl⟩
        go_wp2
        all_goals first
          | (go_ret; exact ⟨rfl, HM.out, Fr.refl _ _⟩)
          | (go_loopw [41] (fun j wr => j = .int .i64 0 ∧ wr = w) (fun _ _ => 0)
             case atStart => exact ⟨rfl, rfl⟩
             case round =>
               obtain ⟨rfl, rfl⟩ := hrel
               go_wp2
               go_ret
               exact ⟨rfl, HM.out, Fr.refl _ _⟩)
    · have hct : ¬ c = t := by omega
      have hv : 0 ≤ x % 256 ∧ x % 256 ≤ 255 := by omega
      have hcl := fun (ty : TypeId) => Go.Lib.run_clear_slice (P := Tryz.prog) w 59 5 ty (.int .u8 0) Tryz.underlying59 zU8 rfl rfl q t n (c - t) (by omega)
        (fun j hj => by have := HM.out.own.cell (t + j) (by simp; omega); rw [this]; rfl) (fun j hj => HM.out.own.frozen (t + j))
      have hM1 : Mo (w.setCells q t (List.replicate n (.int .u8 0))) p q c l (splice B t (List.replicate n 0)) := by
        have ho := own_setCells (List.replicate n (.int .u8 0)) t w (Ks .u8 B) HM.out.own (by simp; omega)
        have e : List.replicate n (Value.int .u8 0) = Ks .u8 (List.replicate n 0) := by simp [Ks]
        rw [e] at ho ⊢
        exact Mo.put HM.out (fr_setCells _ _ _ _ (Fr.refl _ w) (fun _ => rfl)) ho (zeros_bts n) (by simpa using e2)
      have HM1 := hid hM1
      have F1 := hid (fr_setCells (M := One q) (List.replicate n (.int .u8 0)) t w w (Fr.refl _ w) (fun _ => rfl))
      clear hM1
      go_enter Tryz.func179, Tryz.ntmps179
      go_wp2_with fail
      refine (HT.out _).mono ?_
      rintro e w' ⟨rfl, rfl⟩
      go_wp2_with fail
      refine (HN.out _).mono ?_
      rintro e w' ⟨rfl, rfl⟩
      go_wp2_with fail
      refine (HR.out _).mono ?_
      rintro e w' ⟨rfl, rfl⟩
      by_cases hv0 : x % 256 = 0
      · have hv1 : (x % 256 == 0) = true := by simpa using hv0
        go_wp2
        go_ret
        exact ⟨rfl, by rw [hv0]; exact HM1.out, F1.out⟩
      · have hv1 : (x % 256 == 0) = false := by simpa using hv0
        generalize hxv : x % 256 = v at *
        go_wp2
        clear hcl
        generalize w.setCells q t (List.replicate n (.int .u8 0)) = W1 at *
        have HM2 : Hid (Mo W1 p q c l (splice B t (List.replicate 0 v ++ List.replicate (n - 0) 0))) := by
          rw [Hid, List.replicate_zero, List.nil_append, Nat.sub_zero]; exact HM1.out
        clear HM1
        go_loopw [41] (fun j wr => ∃ k : Nat, k ≤ n ∧ j = .int .i64 k ∧ Hid (Mo wr p q c l (splice B t (List.replicate k v ++ List.replicate (n - k) 0))) ∧ Hid (Fr (One q) w wr)) (fun j _ => n - (intOf j).toNat)
        case atStart => exact ⟨0, by omega, rfl, HM2, F1⟩
        case round =>
          obtain ⟨k, hk, rfl, HK, FK⟩ := hrel
          clear HM2 F1
          by_cases hkn : k < n
          · have i0 : (0 : Int) ≤ k := by omega
            have i1 : (k : Int) < n := by omega
            have hlen : (splice B t (List.replicate k v ++ List.replicate (n - k) 0)).length = B.length := splice_len (by rw [fill_len n k v hk]; exact e2)
            have y0 := HK.out.own.cell (t + k) (by rw [len_Ks, hlen]; omega)
            rw [Ks_at _ _ _ (by rw [hlen]; omega)] at y0
            have q0 := HK.out.own.frozen (t + k)
            have hset := splice_set_in B (List.replicate k v ++ List.replicate (n - k) 0) t k v (by rw [fill_len n k v hk]; exact e2) (by rw [fill_len n k v hk]; exact hkn)
            rw [fill_step n k v hkn] at hset
            have HS := hid hset
            have hm := HK.out.setb (k := t + k) (v := v) (by rw [hlen]; omega) hv
            rw [hset] at hm
            have HMN := hid hm
            clear hset hm
            generalize (splice B t (List.replicate k v ++ List.replicate (n - k) 0))[t + k] = u at *
            clear hlen
            go_wp2
            exact ⟨⟨k + 1, by omega, by go_num, HMN, FK.out.setCell _ _ (fun _ => rfl)⟩, by simp [intOf]; omega⟩
          · have hke : k = n := by omega
            subst hke
            have hi1 : ¬ ((k : Int) < k) := by omega
            have hm := HK.out
            rw [Nat.sub_self, List.replicate_zero, List.append_nil] at hm
            have HM3 := hid hm
            clear hm HK
            go_wp2
            go_ret
            exact ⟨rfl, HM3.out, FK.out⟩
  · rw [if_neg e2]
    rw [decide_eq_false e2] at HR
    go_enter Tryz.func179, Tryz.ntmps179
    go_wp2_with fail
    refine (HT.out _).mono ?_
    rintro e w' ⟨rfl, rfl⟩
    go_wp2_with fail
    refine (HN.out _).mono ?_
    rintro e w' ⟨rfl, rfl⟩
    go_wp2_with fail
    refine (HR.out _).mono ?_
    rintro e w' ⟨rfl, rfl⟩
    go_wp2
    go_ret
    exact ⟨rfl, HM.out, Fr.refl _ _⟩
end Go.Proofs.YtdckghiipijobaaGreat

namespace Go.Proofs.YtdckghiipijobaaGreat
open Go.RowKit

theorem run_app_fit {P : Program} (w : World) (t tn ty e : TypeId) (i : TypeInfo) (z : Value) (kq kn : IntKind) (ht : P.underlying t = some (.slice e)) (htn : P.underlying tn = some (.int kn)) (hi : P.info? e = some i) (hz : i.zero = some z) (hs : i.size = 1) (hzc : z.cells = #[z]) (h1 : z.oneCell' = true)
    (q sLen sCap k : Nat) (h0 : 0 < k) (hfit : sLen + k ≤ sCap) (h63 : ((sLen + k : Nat) : Int) ≤ 9223372036854775807) (h48 : k * i.bytes ≤ 281474976710656)
    (hc : ∀ j, j < k → (w.cell? ⟨q, sLen + j, none⟩).isSome = true) (hf : ∀ j, j < k → w.frozen? ⟨q, sLen + j, none⟩ = false) :
    (Builtin.append_ #[t, tn] ty #[.slice (some ⟨q, 0, none⟩) sLen sCap, .int kq k]).run P w = .ok (.slice (some ⟨q, 0, none⟩) (sLen + k) sCap) (w.setCells q sLen (List.replicate k z)) := by
  have hk : k ≠ 0 := by omega
  have hw : IntKind.i64.wrap (k : Int) = k := by rw [IntKind.wrap_i64]; omega
  have h63' : ¬ (9223372036854775807 < ((sLen : Int) + (k : Int))) := by omega
  have h48i : ¬ (281474976710656 < (k : Int) * (i.bytes : Int)) := by
    rw [← Int.natCast_mul]
    omega
  have hneg : ¬ ((k : Int) < 0) := by omega
  have hzl : (Builtin.zeroCells z.cells k).toList = List.replicate k z := by
    rw [hzc]
    simp [Builtin.zeroCells]
    apply List.ext_getElem
    · simp
    · intro i h1 h2
      simp [Nat.mod_one]
  have hst := run_storeCells_cells (P := P) q sLen (List.replicate k z) 0 w (by simpa using hc) (by simpa using hf) (by intro v hv'; rw [List.eq_of_mem_replicate hv']; exact h1)
  simp only [Nat.add_zero] at hst
  simp [Builtin.append_, run_underlying ht, run_underlying htn, sizeOf, typeInfo, zeroValue, hi, hz, asInt, asIntOf, hw, hfit, hneg, h63', h48i, hs, hk, hzl]
  rw [add_lit', Nat.zero_add, hst]; rfl
theorem run_app_none0 {P : Program} (w : World) (t tn ty e : TypeId) (i : TypeInfo) (z : Value) (kq kn : IntKind) (ht : P.underlying t = some (.slice e)) (htn : P.underlying tn = some (.int kn)) (hi : P.info? e = some i) (hz : i.zero = some z)
    (a : Option Addr) (sLen sCap : Nat) (hfit : sLen ≤ sCap) (h63 : (sLen : Int) ≤ 9223372036854775807) :
    (Builtin.append_ #[t, tn] ty #[.slice a sLen sCap, .int kq 0]).run P w = .ok (.slice a sLen sCap) w := by
  have hw : IntKind.i64.wrap (0 : Int) = 0 := by decide
  cases a <;> simp [Builtin.append_, run_underlying ht, run_underlying htn, sizeOf, typeInfo, zeroValue, hi, hz, asInt, asIntOf, hw, hfit, Builtin.zeroCells, storeCells]
theorem owns_rebase {w : World} {base q n c : Nat} {e : TypeId} {xs : List Value} (h : w.ownsRow 0 e 1 (.slice (some ⟨q, 0, none⟩) n c) n xs) (hq : base ≤ q) : w.ownsRow base e 1 (.slice (some ⟨q, 0, none⟩) n c) n xs := by
  refine ⟨h.1, ?_⟩
  rcases h.2 with ⟨h', _⟩ | ⟨g, cap, cur, e1, _, rest⟩
  · cases h'
  · injection e1 with e2 _ e3
    injection e2 with e2
    injection e2 with e2
    subst e2 e3
    exact .inr ⟨q, c, cur, rfl, hq, rest⟩
theorem own_long {w : World} {q c k : Nat} {e : TypeId} {xs : List Value} (h : Own w q e c xs) (hk : xs.length + k ≤ c) : ∃ ys, ys.length = k ∧ Own w q e c (xs ++ ys) := by
  obtain ⟨cur, hb, h1, h2, h3, h4⟩ := h.cur
  refine ⟨(cur.toList.drop xs.length).take k, by simp; omega, Own.mk hb (by simp; omega) h2 h3 ?_⟩
  have e1 : (xs ++ (cur.toList.drop xs.length).take k).length = xs.length + k := by simp; omega
  rw [e1, List.take_add, h4]
theorem own_zeros {P : Program} {t tn e : TypeId} {z : Value} {kn : IntKind} {bytes : Nat} (E : ElemOk P t e 1 bytes z) (htn : P.underlying tn = some (.int kn)) (hzc : z.cells = #[z]) (hz1 : z.oneCell' = true) (w : World) (ty : TypeId) (kq : IntKind) {q c : Nat} {xs : List Value} (k : Nat) (hown : Own w q e c xs) (hx : xs.length ≤ 1000000) (hk : k ≤ 1000000) (hb : bytes ≤ 64) :
    ∃ (q' c' : Nat) (w' : World), (Builtin.append_ #[t, tn] ty #[.slice (some ⟨q, 0, none⟩) xs.length c, .int kq (k : Int)]).run P w = .ok (.slice (some ⟨q', 0, none⟩) (xs.length + k) c') w' ∧ Own w' q' e c' (xs ++ List.replicate k z) ∧ Fr (One q) w w' ∧ (q' = q ∨ q' = w.heap.size) := by
  obtain ⟨i, hi, hz0, hs, hbb⟩ := E.info
  obtain ⟨cur, hbk, l1, l2, l3, l4⟩ := hown.cur
  have hkb : k * i.bytes ≤ 281474976710656 := by rw [hbb]; exact Nat.le_trans (Nat.mul_le_mul hk hb) (by decide)
  rcases Nat.eq_zero_or_pos k with h0 | h0
  · subst h0
    exact ⟨q, c, w, run_app_none0 w t tn ty e i z kq kn E.slice htn hi hz0 _ _ _ l1 (by omega), by simpa using hown, Fr.refl _ _, .inl rfl⟩
  · by_cases hfit : xs.length + k ≤ c
    · obtain ⟨ys, hy, ho⟩ := own_long hown hfit
      have hlen : (xs ++ ys).length = xs.length + k := by simp [hy]
      have hrun := run_app_fit (P := P) w t tn ty e i z kq kn E.slice htn hi hz0 hs hzc hz1 q xs.length c k h0 hfit (by omega) hkb
        (fun j hj => by rw [ho.cell (xs.length + j) (by rw [hlen]; omega)]; rfl) (fun j _ => ho.frozen (xs.length + j))
      have h2 := own_setCells (List.replicate k z) xs.length w (xs ++ ys) ho (by rw [hlen]; simp)
      have e2 : splice (xs ++ ys) xs.length (List.replicate k z) = xs ++ List.replicate k z := by
        rw [splice, List.take_left, List.length_replicate, List.drop_eq_nil_of_le (by omega), List.append_nil]
      rw [e2] at h2
      exact ⟨q, c, _, hrun, h2, fr_setCells _ _ _ _ (Fr.refl _ w) (fun _ => rfl), .inl rfl⟩
    · have hcells : ∀ j v, xs[j]? = some v → w.drew.cell? ((⟨q, 0, none⟩ : Addr).add j) = some v := fun j v hv => by
        rw [add_lit', Nat.zero_add]
        obtain ⟨hj, rfl⟩ := List.getElem?_eq_some_iff.1 hv
        exact hown.cell j hj
      have hold := run_firstCells_some (P := P) (w := w.drew) i.size xs.length ⟨q, 0, none⟩ xs.length c xs (by rw [hs, Nat.mul_one]) hcells
      have hrun := Go.Lib.run_append_grow_zeros (P := P) w t tn ty e i z kq kn E.slice htn hi hz0 (some ⟨q, 0, none⟩) xs.length c xs hold k h0 (by rw [hs]; omega) (by omega) (by omega) hkb
        (growslice_fits (by omega) (by rw [hbb]; exact Nat.le_trans (Nat.mul_le_mul (show xs.length + k ≤ 2000000 by omega) hb) (by decide)))
      have hzl : ∀ m, (Builtin.zeroCells z.cells m) = (List.replicate m z).toArray := fun m => by
        rw [hzc]
        apply Array.ext'
        simp [Builtin.zeroCells]
        apply List.ext_getElem
        · simp
        · intro i h1 h2
          simp [Nat.mod_one]
      rw [hzl, hzl] at hrun
      have hge := grownCap_ge w (xs.length + k) c e
      have hle := grownCap_le_maxLen w (xs.length + k) c e (by simp only [maxLen]; omega)
      refine ⟨w.heap.size, _, _, hrun, Own.mk (Blk.new w.drew e _) (by simp; omega) hle (by simp; omega) ?_, (Fr.refl _ w).drew.alloc _, .inr rfl⟩
      have e3 : (xs ++ List.replicate k z).length = xs.length + k := by simp
      rw [e3]
      simp only [List.append_toArray]
      rw [List.take_append_of_le_length (by simp), List.take_of_length_le (by simp)]
end Go.Proofs.YtdckghiipijobaaGreat

namespace Go.Proofs.YtdckghiipijobaaGreat
open Go.RowKit

theorem opwp_app0 {P : Program} {t tn e : TypeId} {z : Value} {kn kq : IntKind} {bytes : Nat} {w : World} {o : Oper} {a : Act} {K : Act → World → Prop} {Q : Exit → Act → World → Prop} {s x : Operand} {q c n k : Nat} {xs : List Value} (E : ElemOk P t e 1 bytes z) (htn : P.underlying tn = some (.int kn)) (hzc : z.cells = #[z]) (hz1 : z.oneCell' = true)
    (ho : o.op = .call { callee := .builtin .append, args := #[s, x], argTypes := #[t, tn] })
    (hs : a.eval s = .slice (some ⟨q, 0, none⟩) n c) (hx : a.eval x = .int kq (k : Int)) (hown : Own w q e c xs) (hn : xs.length = n) (hl : xs.length ≤ 1000000) (hk : k ≤ 1000000) (hb : bytes ≤ 64)
    (h : ∀ (q' c' : Nat) (w' : World), Own w' q' e c' (xs ++ List.replicate k z) → Fr (One q) w w' → (q' = q ∨ q' = w.heap.size) → K (a.put o.dst (.slice (some ⟨q', 0, none⟩) (xs.length + k) c')) w') : o.wp P a w K Q := by
  subst hn
  obtain ⟨q', c', w', hrun, h2, h3, h4⟩ := own_zeros E htn hzc hz1 w o.type kq k hown hl hk hb
  unfold Oper.wp execOp
  simp only [ho, resolve, invoke, builtin, Sem.run_bind, Sem.run_pure, Result.andThen_ok, List.map_toArray, List.map_cons, List.map_nil, hs, hx, hrun]
  exact h q' c' w' h2 h3 h4
def most (l : Lim) : Int := if l.has then l.max else 256
def growR (l : Lim) (B : List Int) (m : Nat) : List Int × Int := if (m : Int) ≤ most l - (B.length / 256 : Nat) then (B ++ List.replicate (m * 256) 0, ((B.length / 256 : Nat) : Int)) else (B, 4294967295)
def MgTo (p q : Nat) (l : Lim) (B : List Int) (r : Int) (w : World) (e : Ending) (w' : World) : Prop :=
  e = .returned (.int .u64 r) ∧ ∃ q' c', Mo w' p q' c' l B ∧ Fr (Two p q) w w' ∧ (q' = q ∨ w.heap.size ≤ q')
set_option maxRecDepth 100000 in
set_option maxHeartbeats 3200000 in
theorem mgrow_any (p q c : Nat) (l : Lim) (B : List Int) (xn : Int) (w : World) (hM : Mo w p q c l B) (hn : B.length ≤ 65536) (hw : ((B.length / 256 : Nat) : Int) ≤ most l) (hm : most l ≤ 256) (h3 : 0 ≤ xn ∧ xn < 18446744073709551616) :
    Calls Tryz.prog 182 #[.pointer (some ⟨p, 0, none⟩), .int .u64 xn] w (MgTo p q l (growR l B (lo xn)).1 (growR l B (lo xn)).2 w) := by
  have HN := hid (fun W => lo_any xn W h3)
  have b3 := lo_lt xn
  have HM := hid hM
  have c1 := hM.hp.cell 1
  have c2 := hM.hp.cell 2
  have c3 := hM.hp.cell 3
  have HP := hid (pages_any p (some ⟨q, 0, none⟩) B.length c w c3 (by omega))
  generalize lo xn = n at *
  have hb := hM.bts
  unfold growR
  have HBS := hid (rfl : B.length = B.length)
  generalize hwas : B.length / 256 = s at *
  have hs : s * 256 ≤ B.length := by omega
  clear hM h3 hwas HBS
  cases hhas : l.has with
  | false =>
    have hmo : most l = 256 := by rw [most, hhas]; rfl
    rw [hmo] at hw ⊢
    rw [hhas] at c2
    by_cases hg : (n : Int) ≤ 256 - s
    · rw [if_pos hg]
      go_enter Tryz.func182, Tryz.ntmps182
      go_wp2_with fail
      refine HP.out.mono ?_
      rintro e w' ⟨rfl, rfl⟩
      go_wp2_with fail
      refine (HN.out _).mono ?_
      rintro e w' ⟨rfl, rfl⟩
      go_wp2_with fail
      have hn9 : n * 256 ≤ 1000000 := by omega
      have hw1 : IntKind.i64.wrap (n : Int) = n := by rw [IntKind.wrap_i64]; omega
      have hw2 : IntKind.i64.wrap ((n : Int) * 256) = ((n * 256 : Nat) : Int) := by rw [IntKind.wrap_i64]; omega
      refine wp_region_ord (fun X => X.cell? ⟨p, 3, none⟩ = some (.slice (some ⟨q, 0, none⟩) B.length c)) [12] [(0, true), (1, true), (2, true), (3, true), (4, true), (5, true), (6, false), (7, true), (8, true), (9, false), (10, true), (11, true), (12, false)] (by kernel_rfl) (by kernel_rfl) (by kernel_rfl) rfl c3 ?_
      repeat (first
        | (refine wpO_skip rfl rfl ?_; simp only [List.getElem_toArray, List.getElem_cons_succ, List.getElem_cons_zero, Act.put, List.setIfInBounds_toArray, List.set_cons_zero, List.set_cons_succ])
        | (refine wpO_call rfl rfl ?_; simp only [List.getElem_toArray, List.getElem_cons_succ, List.getElem_cons_zero]; apply Exists.intro; refine ⟨fun X hX => ?_, ?_⟩
           · (have s0 := hX; go_simp; exact stillUpon_value)
           simp only [Act.put, List.setIfInBounds_toArray, List.set_cons_zero, List.set_cons_succ]))
      refine wpO_eff rfl rfl (fun K hK => ?_)
      simp only [List.getElem_toArray, List.getElem_cons_succ, List.getElem_cons_zero]
      go_simp
      refine (HN.out _).mono ?_
      rintro e w' ⟨rfl, rfl⟩
      refine hK _ _ (fun _ => c3) ?_
      clear hK K
      repeat (first
        | (refine wpO_skip rfl rfl ?_; simp only [List.getElem_toArray, List.getElem_cons_succ, List.getElem_cons_zero, Act.put, List.setIfInBounds_toArray, List.set_cons_zero, List.set_cons_succ])
        | (refine wpO_call rfl rfl ?_; simp only [List.getElem_toArray, List.getElem_cons_succ, List.getElem_cons_zero]; apply Exists.intro; refine ⟨fun X hX => ?_, ?_⟩
           · (have s0 := hX; go_simp; exact stillUpon_value)
           simp only [Act.put, List.setIfInBounds_toArray, List.set_cons_zero, List.set_cons_succ]))
      refine wpO_eff rfl rfl (fun K hK => ?_)
      simp only [List.getElem_toArray, List.getElem_cons_succ, List.getElem_cons_zero]
      refine opwp_app0 (xs := Ks .u8 B) (k := n * 256) elBs Tryz.underlying3 rfl rfl rfl rfl rfl (HM.out.frNo (Fr.refl No w).drew).own (by simp) (by simp; omega) hn9 (by omega) ?_
      intro q' c' w3 hown f hq
      have hne := HM.out.ne
      have HP3 := hid (HM.out.hp.drew.fr f (fun x => hne x))
      have e9 : Ks .u8 B ++ List.replicate (n * 256) (Value.int .u8 0) = Ks .u8 (B ++ List.replicate (n * 256) 0) := by simp [Ks]
      rw [e9] at hown
      have HO := hid hown
      have F3 := hid ((Fr.refl (One q) w).drew.trans f (fun _ _ h => h))
      have HQ := hid hq
      clear hown f hq e9
      refine hK _ _ (fun _ => HP3.out.cell 3) ?_
      clear hK K
      simp only [Act.put, List.setIfInBounds_toArray, List.set_cons_zero, List.set_cons_succ]
      repeat (first
        | (refine wpO_skip rfl rfl ?_; simp only [List.getElem_toArray, List.getElem_cons_succ, List.getElem_cons_zero, Act.put, List.setIfInBounds_toArray, List.set_cons_zero, List.set_cons_succ])
        | (refine wpO_call rfl rfl ?_; simp only [List.getElem_toArray, List.getElem_cons_succ, List.getElem_cons_zero]; apply Exists.intro; refine ⟨fun X hX => ?_, ?_⟩
           · (have s0 := hX; go_simp; exact stillUpon_value)
           simp only [Act.put, List.setIfInBounds_toArray, List.set_cons_zero, List.set_cons_succ]))
      have z3 := HP3.out.cell 3
      have q3 := HP3.out.frozen 3
      have hlt := HP3.out.lt
      refine wpO_eff rfl rfl (fun K hK => ?_)
      simp only [List.getElem_toArray, List.getElem_cons_succ, List.getElem_cons_zero]
      go_simp
      refine hK _ _ (fun h => by cases h) ?_
      clear hK K
      refine wpO_nil ?_
      have hlB : (Ks .u8 B).length = B.length := by simp
      have FZ := (Fr.refl (One p) w3).setCell ⟨p, 3, none⟩ (.slice (some ⟨q', 0, none⟩) (B.length + n * 256) c') (fun _ => rfl)
      have hpq : p ≠ q' := by
        rcases HQ.out with h | h
        · rw [h]; exact HM.out.ne
        · rw [h]; exact Nat.ne_of_lt HM.out.hp.lt
      have hfin : Mo (w3.setCell ⟨p, 3, none⟩ (.slice (some ⟨q', 0, none⟩) (B.length + n * 256) c')) p q' c' l (B ++ List.replicate (n * 256) 0) := by
        refine ⟨?_, HO.out.fr FZ (fun h => hpq h.symm), Bts.app HM.out.bts (zeros_bts _)⟩
        have := HP3.out.set_ 3 (.slice (some ⟨q', 0, none⟩) (B.length + n * 256) c')
        simpa using this
      have HFIN := hid hfin
      have F9 := hid ((F3.out.mono (M := Two p q) (fun _ _ h => .inr h)).trans FZ (fun _ _ h => .inl h))
      clear hfin FZ z3 q3
      go_wp2
      go_ret
      refine ⟨?_, q', c', by simpa using HFIN.out, by simpa using F9.out, ?_⟩
      · first | rfl | exact ret_int (by omega)
      · rcases HQ.out with h | h
        · exact .inl h
        · exact .inr (Nat.le_of_eq h.symm)
    · rw [if_neg hg]
      go_enter Tryz.func182, Tryz.ntmps182
      go_wp2_with fail
      refine HP.out.mono ?_
      rintro e w' ⟨rfl, rfl⟩
      go_wp2_with fail
      refine (HN.out _).mono ?_
      rintro e w' ⟨rfl, rfl⟩
      go_wp2
      go_ret
      exact ⟨rfl, q, c, HM.out, Fr.refl _ _, .inl rfl⟩
  | true =>
    have hmo : most l = l.max := by rw [most, hhas]; rfl
    rw [hmo] at hw hm ⊢
    rw [hhas] at c2
    generalize hmx : l.max = mx at *
    by_cases hg : (n : Int) ≤ mx - s
    · rw [if_pos hg]
      go_enter Tryz.func182, Tryz.ntmps182
      go_wp2_with fail
      refine HP.out.mono ?_
      rintro e w' ⟨rfl, rfl⟩
      go_wp2_with fail
      refine (HN.out _).mono ?_
      rintro e w' ⟨rfl, rfl⟩
      go_wp2_with fail
      have hn9 : n * 256 ≤ 1000000 := by omega
      have hw1 : IntKind.i64.wrap (n : Int) = n := by rw [IntKind.wrap_i64]; omega
      have hw2 : IntKind.i64.wrap ((n : Int) * 256) = ((n * 256 : Nat) : Int) := by rw [IntKind.wrap_i64]; omega
      refine wp_region_ord (fun X => X.cell? ⟨p, 3, none⟩ = some (.slice (some ⟨q, 0, none⟩) B.length c)) [12] [(0, true), (1, true), (2, true), (3, true), (4, true), (5, true), (6, false), (7, true), (8, true), (9, false), (10, true), (11, true), (12, false)] (by kernel_rfl) (by kernel_rfl) (by kernel_rfl) rfl c3 ?_
      repeat (first
        | (refine wpO_skip rfl rfl ?_; simp only [List.getElem_toArray, List.getElem_cons_succ, List.getElem_cons_zero, Act.put, List.setIfInBounds_toArray, List.set_cons_zero, List.set_cons_succ])
        | (refine wpO_call rfl rfl ?_; simp only [List.getElem_toArray, List.getElem_cons_succ, List.getElem_cons_zero]; apply Exists.intro; refine ⟨fun X hX => ?_, ?_⟩
           · (have s0 := hX; go_simp; exact stillUpon_value)
           simp only [Act.put, List.setIfInBounds_toArray, List.set_cons_zero, List.set_cons_succ]))
      refine wpO_eff rfl rfl (fun K hK => ?_)
      simp only [List.getElem_toArray, List.getElem_cons_succ, List.getElem_cons_zero]
      go_simp
      refine (HN.out _).mono ?_
      rintro e w' ⟨rfl, rfl⟩
      refine hK _ _ (fun _ => c3) ?_
      clear hK K
      repeat (first
        | (refine wpO_skip rfl rfl ?_; simp only [List.getElem_toArray, List.getElem_cons_succ, List.getElem_cons_zero, Act.put, List.setIfInBounds_toArray, List.set_cons_zero, List.set_cons_succ])
        | (refine wpO_call rfl rfl ?_; simp only [List.getElem_toArray, List.getElem_cons_succ, List.getElem_cons_zero]; apply Exists.intro; refine ⟨fun X hX => ?_, ?_⟩
           · (have s0 := hX; go_simp; exact stillUpon_value)
           simp only [Act.put, List.setIfInBounds_toArray, List.set_cons_zero, List.set_cons_succ]))
      refine wpO_eff rfl rfl (fun K hK => ?_)
      simp only [List.getElem_toArray, List.getElem_cons_succ, List.getElem_cons_zero]
      refine opwp_app0 (xs := Ks .u8 B) (k := n * 256) elBs Tryz.underlying3 rfl rfl rfl rfl rfl (HM.out.frNo (Fr.refl No w).drew).own (by simp) (by simp; omega) hn9 (by omega) ?_
      intro q' c' w3 hown f hq
      have hne := HM.out.ne
      have HP3 := hid (HM.out.hp.drew.fr f (fun x => hne x))
      have e9 : Ks .u8 B ++ List.replicate (n * 256) (Value.int .u8 0) = Ks .u8 (B ++ List.replicate (n * 256) 0) := by simp [Ks]
      rw [e9] at hown
      have HO := hid hown
      have F3 := hid ((Fr.refl (One q) w).drew.trans f (fun _ _ h => h))
      have HQ := hid hq
      clear hown f hq e9
      refine hK _ _ (fun _ => HP3.out.cell 3) ?_
      clear hK K
      simp only [Act.put, List.setIfInBounds_toArray, List.set_cons_zero, List.set_cons_succ]
      repeat (first
        | (refine wpO_skip rfl rfl ?_; simp only [List.getElem_toArray, List.getElem_cons_succ, List.getElem_cons_zero, Act.put, List.setIfInBounds_toArray, List.set_cons_zero, List.set_cons_succ])
        | (refine wpO_call rfl rfl ?_; simp only [List.getElem_toArray, List.getElem_cons_succ, List.getElem_cons_zero]; apply Exists.intro; refine ⟨fun X hX => ?_, ?_⟩
           · (have s0 := hX; go_simp; exact stillUpon_value)
           simp only [Act.put, List.setIfInBounds_toArray, List.set_cons_zero, List.set_cons_succ]))
      have z3 := HP3.out.cell 3
      have q3 := HP3.out.frozen 3
      have hlt := HP3.out.lt
      refine wpO_eff rfl rfl (fun K hK => ?_)
      simp only [List.getElem_toArray, List.getElem_cons_succ, List.getElem_cons_zero]
      go_simp
      refine hK _ _ (fun h => by cases h) ?_
      clear hK K
      refine wpO_nil ?_
      have hlB : (Ks .u8 B).length = B.length := by simp
      have FZ := (Fr.refl (One p) w3).setCell ⟨p, 3, none⟩ (.slice (some ⟨q', 0, none⟩) (B.length + n * 256) c') (fun _ => rfl)
      have hpq : p ≠ q' := by
        rcases HQ.out with h | h
        · rw [h]; exact HM.out.ne
        · rw [h]; exact Nat.ne_of_lt HM.out.hp.lt
      have hfin : Mo (w3.setCell ⟨p, 3, none⟩ (.slice (some ⟨q', 0, none⟩) (B.length + n * 256) c')) p q' c' l (B ++ List.replicate (n * 256) 0) := by
        refine ⟨?_, HO.out.fr FZ (fun h => hpq h.symm), Bts.app HM.out.bts (zeros_bts _)⟩
        have := HP3.out.set_ 3 (.slice (some ⟨q', 0, none⟩) (B.length + n * 256) c')
        simpa using this
      have HFIN := hid hfin
      have F9 := hid ((F3.out.mono (M := Two p q) (fun _ _ h => .inr h)).trans FZ (fun _ _ h => .inl h))
      clear hfin FZ z3 q3
      go_wp2
      go_ret
      refine ⟨?_, q', c', by simpa using HFIN.out, by simpa using F9.out, ?_⟩
      · first | rfl | exact ret_int (by omega)
      · rcases HQ.out with h | h
        · exact .inl h
        · exact .inr (Nat.le_of_eq h.symm)
    · rw [if_neg hg]
      go_enter Tryz.func182, Tryz.ntmps182
      go_wp2_with fail
      refine HP.out.mono ?_
      rintro e w' ⟨rfl, rfl⟩
      go_wp2_with fail
      refine (HN.out _).mono ?_
      rintro e w' ⟨rfl, rfl⟩
      go_wp2
      go_ret
      exact ⟨rfl, q, c, HM.out, Fr.refl _ _, .inl rfl⟩
end Go.Proofs.YtdckghiipijobaaGreat

namespace Go.Proofs.YtdckghiipijobaaGreat
open Go.RowKit

theorem row_zeros {P : Program} {t tn e : TypeId} {z : Value} {kn : IntKind} {bytes base : Nat} (E : ElemOk P t e 1 bytes z) (htn : P.underlying tn = some (.int kn)) (hzc : z.cells = #[z]) (hz1 : z.oneCell' = true) (w : World) (ty : TypeId) (kq : IntKind) {v : Value} {xs : List Value} (k : Nat) (hown : w.ownsRow base e 1 v xs.length xs) (hx : xs.length ≤ 1000000) (hk : k ≤ 1000000) (hb : bytes ≤ 64) (hbase : base ≤ w.heap.size) :
    ∃ (v' : Value) (w' : World), (Builtin.append_ #[t, tn] ty #[v, .int kq (k : Int)]).run P w = .ok v' w' ∧ w'.ownsRow base e 1 v' (xs.length + k) (xs ++ List.replicate k z) ∧ Fr (fun i => some i = v.ownBlock) w w' := by
  rcases hown.2 with ⟨rfl, h0⟩ | ⟨g, cap, cur, rfl, hg, rest⟩
  · have hxs : xs = [] := List.eq_nil_of_length_eq_zero h0
    subst hxs
    obtain ⟨i, hi, hz0, hs, hbb⟩ := E.info
    rcases Nat.eq_zero_or_pos k with hk0 | hk0
    · subst hk0
      exact ⟨.slice none 0 0, w, run_app_none0 w t tn ty e i z kq kn E.slice htn hi hz0 none 0 0 (by omega) (by decide), by simpa using hown, Fr.refl _ _⟩
    · have hkb : k * i.bytes ≤ 281474976710656 := by rw [hbb]; exact Nat.le_trans (Nat.mul_le_mul hk hb) (by decide)
      have hrun := Go.Lib.run_append_nil_zeros (P := P) w t tn ty e i z kq kn E.slice htn hi hz0 k hk0 (by rw [hs]; omega) (by omega) hkb
      have hzl : ∀ m, (Builtin.zeroCells z.cells m) = (List.replicate m z).toArray := fun m => by
        rw [hzc]
        apply Array.ext'
        simp [Builtin.zeroCells]
        apply List.ext_getElem
        · simp
        · intro i h1 h2
          simp [Nat.mod_one]
      rw [hzl, hzl] at hrun
      have hge := grownCap_ge w k 0 e
      have hle := grownCap_le_maxLen w k 0 e (by simp only [maxLen]; omega)
      refine ⟨_, _, hrun, ?_, (Fr.refl _ w).drew.alloc _⟩
      have ho : Own (w.drew.alloc (.cells ((List.replicate k z).toArray ++ (List.replicate (grownCap w k 0 e - k) z).toArray) e)) w.heap.size e (grownCap w k 0 e) (List.replicate k z) := by
        refine Own.mk (Blk.new w.drew e _) (by simp; omega) hle (by simp; omega) ?_
        simp only [List.length_replicate, List.append_toArray]
        rw [List.take_append_of_le_length (by simp), List.take_of_length_le (by simp)]
      have := owns_rebase (base := base) ho hbase
      simpa using this
  · have ho : Own w g e cap xs := by
      have := hown
      refine ⟨this.1, .inr ⟨g, cap, cur, rfl, Nat.zero_le _, rest⟩⟩
    obtain ⟨q', c', w', hrun, h2, h3, h4⟩ := own_zeros E htn hzc hz1 w ty kq k ho hx hk hb
    refine ⟨_, w', hrun, ?_, h3.mono (fun i _ h => by simp only [One] at h; simp [Value.ownBlock, h])⟩
    have hq : base ≤ q' := by rcases h4 with h | h <;> omega
    have := owns_rebase (base := base) h2 hq
    simpa using this
theorem wpList_app0 {P : Program} {t tn e : TypeId} {z : Value} {kn kq : IntKind} {bytes base : Nat} {w : World} {ops : Array Oper} {rest : List Oper} {o : Oper} {a : Act} {Q : Exit → Act → World → Prop} {s x : Operand} {v : Value} {k : Nat} {xs : List Value} (E : ElemOk P t e 1 bytes z) (htn : P.underlying tn = some (.int kn)) (hzc : z.cells = #[z]) (hz1 : z.oneCell' = true) (hgd : o.guard = none)
    (ho : o.op = .call { callee := .builtin .append, args := #[s, x], argTypes := #[t, tn] })
    (hs : a.eval s = v) (hx : a.eval x = .int kq (k : Int)) (hown : w.ownsRow base e 1 v xs.length xs) (hl : xs.length ≤ 1000000) (hk : k ≤ 1000000) (hb : bytes ≤ 64) (hbase : base ≤ w.heap.size)
    (h : ∀ (v' : Value) (w' : World), w'.ownsRow base e 1 v' (xs.length + k) (xs ++ List.replicate k z) → Fr (fun i => some i = v.ownBlock) w w' → wpList P ops Q rest (a.put o.dst v') w') : wpList P ops Q (o :: rest) a w := by
  refine wpList_plain hgd fun K hK => ?_
  obtain ⟨v', w', hrun, h2, h3⟩ := row_zeros E htn hzc hz1 w o.type kq k hown hl hk hb hbase
  unfold Oper.wp execOp
  simp only [ho, resolve, invoke, builtin, Sem.run_bind, Sem.run_pure, Result.andThen_ok, List.map_toArray, List.map_cons, List.map_nil, hs, hx, hrun]
  exact hK _ _ (h v' w' h2 h3)
def RgTo (l : Lim) (A0 : Option Addr) (B0 B : List Int) (r : Int) (w : World) (e : Ending) (w' : World) : Prop :=
  ∃ (A : Option Addr) (c : Nat), e = .returned (.tuple #[.agg #[.int .i64 l.min, .int .i64 l.max, .bool l.has, .slice A B.length c], .int .u64 r]) ∧ RmIn w' A c B ∧ ((A = A0 ∧ B = B0) ∨ ∀ q o, A = some ⟨q, o, none⟩ → w.heap.size ≤ q) ∧ Fr No w w'
end Go.Proofs.YtdckghiipijobaaGreat

namespace Go.Proofs.YtdckghiipijobaaGreat
open Go.RowKit

def validB (l : Lim) : Bool := decide (0 ≤ l.min ∧ l.min ≤ 256 ∧ (l.has = true → l.min ≤ l.max ∧ l.max ≤ 256) ∧ (l.has = false → l.max = 0))
def NewTo (l : Lim) (w : World) (e : Ending) (w' : World) : Prop :=
  if validB l = true then ∃ p q c, e = .returned (.pointer (some ⟨p, 0, none⟩)) ∧ Mo w' p q c l (List.replicate (l.min.toNat * 256) 0) ∧ w.heap.size ≤ p ∧ w.heap.size ≤ q ∧ Fr No w w'
  else e = .returned (.pointer none) ∧ Fr No w w'
set_option maxRecDepth 100000 in
set_option maxHeartbeats 1600000 in
theorem new_any (l : Lim) (w : World) : Calls Tryz.prog 77 #[.agg #[.int .i64 l.min, .int .i64 l.max, .bool l.has]] w (NewTo l w) := by
  have F0 := hid ((Fr.refl No w).alloc (.cells #[.int .i64 l.min, .int .i64 l.max, .bool l.has] 50))
  have G0 := hid (Blk.new w 50 #[.int .i64 l.min, .int .i64 l.max, .bool l.has])
  cases hv : validB l with
  | true =>
    have hV := of_decide_eq_true hv
    obtain ⟨v1, v2, v3, v4⟩ := hV
    obtain ⟨mn, hmn⟩ : ∃ mn : Nat, l.min = mn := ⟨l.min.toNat, by omega⟩
    have hto : l.min.toNat = mn := by omega
    unfold NewTo
    rw [hv, hto]
    simp only [if_true]
    cases hh : l.has with
    | true =>
      have v3 := v3 hh
      rw [hh] at F0 G0
      rw [hmn] at F0 G0 v1 v2 v3 ⊢
      clear v4 hv
      generalize hmx : l.max = mx at *
      have hmk : ∀ W, (Instr.makeSlice 59 (.int .i64 ((mn : Int) * 256)) (.int .i64 ((mn : Int) * 256))).run Tryz.prog W = .ok (.slice (some ⟨W.heap.size, 0, none⟩) (mn * 256) (mn * 256)) (W.alloc (.cells (Array.replicate (mn * 256) (.int .u8 0)) 5)) := fun W => by
        have h := run_mk elBs rfl W .i64 .i64 (mn * 256) (by omega) (by omega)
        rw [show ((mn * 256 : Nat) : Int) = (mn : Int) * 256 by omega] at h
        exact h
      have hw1 : IntKind.i64.wrap ((mn : Int) * 256) = (mn : Int) * 256 := by rw [IntKind.wrap_i64]; omega
      go_enter Tryz.func77, Tryz.ntmps77
      go_wp2_with fail
      generalize w.alloc (.cells #[.int .i64 mn, .int .i64 mx, .bool true] 50) = W at *
      have HX : Hid (∀ X, Fr No W X → X.cell? ⟨w.heap.size, 0, none⟩ = some (.int .i64 mn) ∧ X.cell? ⟨w.heap.size, 1, none⟩ = some (.int .i64 mx) ∧ X.cell? ⟨w.heap.size, 2, none⟩ = some (.bool true)) := fun X f => ⟨(G0.out.fr f (fun x => x)).cell 0, (G0.out.fr f (fun x => x)).cell 1, (G0.out.fr f (fun x => x)).cell 2⟩
      refine wp_region_ord (fun X => X.cell? ⟨w.heap.size, 0, none⟩ = some (.int .i64 mn) ∧ X.cell? ⟨w.heap.size, 1, none⟩ = some (.int .i64 mx) ∧ X.cell? ⟨w.heap.size, 2, none⟩ = some (.bool true)) [] [(0, true), (1, true), (2, true), (3, true), (4, false), (5, true), (6, false), (7, true)] (by kernel_rfl) (by kernel_rfl) (by kernel_rfl) rfl (HX.out _ (Fr.refl _ _).drew) ?_
      repeat (first
        | (refine wpO_skip rfl rfl ?_; simp only [List.getElem_toArray, List.getElem_cons_succ, List.getElem_cons_zero, Act.put, List.setIfInBounds_toArray, List.set_cons_zero, List.set_cons_succ])
        | (refine wpO_call rfl rfl ?_; simp only [List.getElem_toArray, List.getElem_cons_succ, List.getElem_cons_zero]; apply Exists.intro; refine ⟨fun X hX => ?_, ?_⟩
           · (have s0 := hX.1; have s1 := hX.2.1; have s2 := hX.2.2; go_simp; exact stillUpon_value)
           simp only [Act.put, List.setIfInBounds_toArray, List.set_cons_zero, List.set_cons_succ]))
      refine wpO_eff rfl rfl (fun K hK => ?_)
      simp only [List.getElem_toArray, List.getElem_cons_succ, List.getElem_cons_zero]
      go_simp
      have FB := hid ((Fr.refl No W).alloc (.cells (Array.replicate (mn * 256) (.int .u8 0)) 5)).drew
      have GB : Hid (Own (W.alloc (.cells (Array.replicate (mn * 256) (.int .u8 0)) 5)).drew W.heap.size 5 (mn * 256) (List.replicate (mn * 256) (.int .u8 0))) := own_mk W 5 (.int .u8 0) (mn * 256) (by omega)
      have hWs := F0.out.size
      clear hmk
      obtain ⟨qb, hqb⟩ : ∃ z, z = W.heap.size := ⟨_, rfl⟩
      have HQB := hid hqb
      rw [← hqb] at GB ⊢
      clear hqb
      generalize (W.alloc (.cells (Array.replicate (mn * 256) (.int .u8 0)) 5)).drew = W2 at *
      refine hK _ _ (fun _ => HX.out _ FB.out) ?_
      clear hK K
      repeat (first
        | (refine wpO_skip rfl rfl ?_; simp only [List.getElem_toArray, List.getElem_cons_succ, List.getElem_cons_zero, Act.put, List.setIfInBounds_toArray, List.set_cons_zero, List.set_cons_succ])
        | (refine wpO_call rfl rfl ?_; simp only [List.getElem_toArray, List.getElem_cons_succ, List.getElem_cons_zero]; apply Exists.intro; refine ⟨fun X hX => ?_, ?_⟩
           · (have s0 := hX.1; have s1 := hX.2.1; have s2 := hX.2.2; go_simp; exact stillUpon_value)
           simp only [Act.put, List.setIfInBounds_toArray, List.set_cons_zero, List.set_cons_succ]))
      refine wpO_eff rfl rfl (fun K hK => ?_)
      simp only [List.getElem_toArray, List.getElem_cons_succ, List.getElem_cons_zero]
      go_simp
      refine hK _ _ (fun _ => HX.out _ (FB.out.alloc _)) ?_
      clear hK K
      repeat (first
        | (refine wpO_skip rfl rfl ?_; simp only [List.getElem_toArray, List.getElem_cons_succ, List.getElem_cons_zero, Act.put, List.setIfInBounds_toArray, List.set_cons_zero, List.set_cons_succ])
        | (refine wpO_call rfl rfl ?_; simp only [List.getElem_toArray, List.getElem_cons_succ, List.getElem_cons_zero]; apply Exists.intro; refine ⟨fun X hX => ?_, ?_⟩
           · (have s0 := hX.1; have s1 := hX.2.1; have s2 := hX.2.2; go_simp; exact stillUpon_value)
           simp only [Act.put, List.setIfInBounds_toArray, List.set_cons_zero, List.set_cons_succ]))
      refine wpO_nil ?_
      go_wp2
      go_ret
      have hM : Mo (W2.alloc (.cells #[.int .i64 mn, .int .i64 mx, .bool true, .slice (some ⟨qb, 0, none⟩) (mn * 256) (mn * 256)] 251)) W2.heap.size qb (mn * 256) l (List.replicate (mn * 256) 0) := by
        refine ⟨?_, ?_, zeros_bts _⟩
        · rw [hmn, hmx, hh]
          have := Blk.new W2 251 #[.int .i64 mn, .int .i64 mx, .bool true, .slice (some ⟨qb, 0, none⟩) (mn * 256) (mn * 256)]
          simpa using this
        · have := GB.out.fr ((Fr.refl No W2).alloc (.cells #[.int .i64 mn, .int .i64 mx, .bool true, .slice (some ⟨qb, 0, none⟩) (mn * 256) (mn * 256)] 251)) (fun x => x)
          rw [show Ks .u8 (List.replicate (mn * 256) 0) = List.replicate (mn * 256) (Value.int .u8 0) by simp [Ks]]
          exact this
      exact ⟨_, _, _, rfl, hM, Nat.le_trans hWs FB.out.size, by rw [HQB.out]; exact hWs, (F0.out.trans FB.out (fun _ _ h => h)).alloc _⟩
    | false =>
      have v4 := v4 hh
      rw [hh, v4] at F0 G0
      rw [hmn] at F0 G0 v1 v2 ⊢
      rw [v4]
      have hmx := v4
      clear v3 hv
      have hmk : ∀ W, (Instr.makeSlice 59 (.int .i64 ((mn : Int) * 256)) (.int .i64 ((mn : Int) * 256))).run Tryz.prog W = .ok (.slice (some ⟨W.heap.size, 0, none⟩) (mn * 256) (mn * 256)) (W.alloc (.cells (Array.replicate (mn * 256) (.int .u8 0)) 5)) := fun W => by
        have h := run_mk elBs rfl W .i64 .i64 (mn * 256) (by omega) (by omega)
        rw [show ((mn * 256 : Nat) : Int) = (mn : Int) * 256 by omega] at h
        exact h
      have hw1 : IntKind.i64.wrap ((mn : Int) * 256) = (mn : Int) * 256 := by rw [IntKind.wrap_i64]; omega
      go_enter Tryz.func77, Tryz.ntmps77
      go_wp2_with fail
      generalize w.alloc (.cells #[.int .i64 mn, .int .i64 0, .bool false] 50) = W at *
      have HX : Hid (∀ X, Fr No W X → X.cell? ⟨w.heap.size, 0, none⟩ = some (.int .i64 mn) ∧ X.cell? ⟨w.heap.size, 1, none⟩ = some (.int .i64 0) ∧ X.cell? ⟨w.heap.size, 2, none⟩ = some (.bool false)) := fun X f => ⟨(G0.out.fr f (fun x => x)).cell 0, (G0.out.fr f (fun x => x)).cell 1, (G0.out.fr f (fun x => x)).cell 2⟩
      refine wp_region_ord (fun X => X.cell? ⟨w.heap.size, 0, none⟩ = some (.int .i64 mn) ∧ X.cell? ⟨w.heap.size, 1, none⟩ = some (.int .i64 0) ∧ X.cell? ⟨w.heap.size, 2, none⟩ = some (.bool false)) [] [(0, true), (1, true), (2, true), (3, true), (4, false), (5, true), (6, false), (7, true)] (by kernel_rfl) (by kernel_rfl) (by kernel_rfl) rfl (HX.out _ (Fr.refl _ _).drew) ?_
      repeat (first
        | (refine wpO_skip rfl rfl ?_; simp only [List.getElem_toArray, List.getElem_cons_succ, List.getElem_cons_zero, Act.put, List.setIfInBounds_toArray, List.set_cons_zero, List.set_cons_succ])
        | (refine wpO_call rfl rfl ?_; simp only [List.getElem_toArray, List.getElem_cons_succ, List.getElem_cons_zero]; apply Exists.intro; refine ⟨fun X hX => ?_, ?_⟩
           · (have s0 := hX.1; have s1 := hX.2.1; have s2 := hX.2.2; go_simp; exact stillUpon_value)
           simp only [Act.put, List.setIfInBounds_toArray, List.set_cons_zero, List.set_cons_succ]))
      refine wpO_eff rfl rfl (fun K hK => ?_)
      simp only [List.getElem_toArray, List.getElem_cons_succ, List.getElem_cons_zero]
      go_simp
      have FB := hid ((Fr.refl No W).alloc (.cells (Array.replicate (mn * 256) (.int .u8 0)) 5)).drew
      have GB : Hid (Own (W.alloc (.cells (Array.replicate (mn * 256) (.int .u8 0)) 5)).drew W.heap.size 5 (mn * 256) (List.replicate (mn * 256) (.int .u8 0))) := own_mk W 5 (.int .u8 0) (mn * 256) (by omega)
      have hWs := F0.out.size
      clear hmk
      obtain ⟨qb, hqb⟩ : ∃ z, z = W.heap.size := ⟨_, rfl⟩
      have HQB := hid hqb
      rw [← hqb] at GB ⊢
      clear hqb
      generalize (W.alloc (.cells (Array.replicate (mn * 256) (.int .u8 0)) 5)).drew = W2 at *
      refine hK _ _ (fun _ => HX.out _ FB.out) ?_
      clear hK K
      repeat (first
        | (refine wpO_skip rfl rfl ?_; simp only [List.getElem_toArray, List.getElem_cons_succ, List.getElem_cons_zero, Act.put, List.setIfInBounds_toArray, List.set_cons_zero, List.set_cons_succ])
        | (refine wpO_call rfl rfl ?_; simp only [List.getElem_toArray, List.getElem_cons_succ, List.getElem_cons_zero]; apply Exists.intro; refine ⟨fun X hX => ?_, ?_⟩
           · (have s0 := hX.1; have s1 := hX.2.1; have s2 := hX.2.2; go_simp; exact stillUpon_value)
           simp only [Act.put, List.setIfInBounds_toArray, List.set_cons_zero, List.set_cons_succ]))
      refine wpO_eff rfl rfl (fun K hK => ?_)
      simp only [List.getElem_toArray, List.getElem_cons_succ, List.getElem_cons_zero]
      go_simp
      refine hK _ _ (fun _ => HX.out _ (FB.out.alloc _)) ?_
      clear hK K
      repeat (first
        | (refine wpO_skip rfl rfl ?_; simp only [List.getElem_toArray, List.getElem_cons_succ, List.getElem_cons_zero, Act.put, List.setIfInBounds_toArray, List.set_cons_zero, List.set_cons_succ])
        | (refine wpO_call rfl rfl ?_; simp only [List.getElem_toArray, List.getElem_cons_succ, List.getElem_cons_zero]; apply Exists.intro; refine ⟨fun X hX => ?_, ?_⟩
           · (have s0 := hX.1; have s1 := hX.2.1; have s2 := hX.2.2; go_simp; exact stillUpon_value)
           simp only [Act.put, List.setIfInBounds_toArray, List.set_cons_zero, List.set_cons_succ]))
      refine wpO_nil ?_
      go_wp2
      go_ret
      have hM : Mo (W2.alloc (.cells #[.int .i64 mn, .int .i64 0, .bool false, .slice (some ⟨qb, 0, none⟩) (mn * 256) (mn * 256)] 251)) W2.heap.size qb (mn * 256) l (List.replicate (mn * 256) 0) := by
        refine ⟨?_, ?_, zeros_bts _⟩
        · rw [hmn, hmx, hh]
          have := Blk.new W2 251 #[.int .i64 mn, .int .i64 0, .bool false, .slice (some ⟨qb, 0, none⟩) (mn * 256) (mn * 256)]
          simpa using this
        · have := GB.out.fr ((Fr.refl No W2).alloc (.cells #[.int .i64 mn, .int .i64 0, .bool false, .slice (some ⟨qb, 0, none⟩) (mn * 256) (mn * 256)] 251)) (fun x => x)
          rw [show Ks .u8 (List.replicate (mn * 256) 0) = List.replicate (mn * 256) (Value.int .u8 0) by simp [Ks]]
          exact this
      exact ⟨_, _, _, rfl, hM, Nat.le_trans hWs FB.out.size, by rw [HQB.out]; exact hWs, (F0.out.trans FB.out (fun _ _ h => h)).alloc _⟩
  | false =>
    have hV := of_decide_eq_false hv
    unfold NewTo
    rw [hv]
    simp only [Bool.false_eq_true, if_false]
    clear hv G0
    generalize l.min = mn at *
    generalize l.max = mx at *
    by_cases h1 : mn < 0
    · clear hV
      go_enter Tryz.func77, Tryz.ntmps77
      go_wp2
      go_ret
      exact ⟨rfl, F0.out⟩
    · by_cases h2 : 256 < mn
      · clear hV
        go_enter Tryz.func77, Tryz.ntmps77
        go_wp2
        go_ret
        exact ⟨rfl, F0.out⟩
      · cases hh : l.has with
        | true =>
          rw [hh] at F0
          by_cases h3 : mx < mn
          · clear hV
            go_enter Tryz.func77, Tryz.ntmps77
            go_wp2
            go_ret
            exact ⟨rfl, F0.out⟩
          · have h4 : 256 < mx := by
              by_cases h5 : 256 < mx
              · exact h5
              · exact absurd ⟨by omega, by omega, fun _ => ⟨by omega, by omega⟩, fun h => by rw [hh] at h; cases h⟩ hV
            clear hV
            go_enter Tryz.func77, Tryz.ntmps77
            go_wp2
            go_ret
            exact ⟨rfl, F0.out⟩
        | false =>
          rw [hh] at F0
          have h4 : ¬ mx = 0 := fun h5 => hV ⟨by omega, by omega, (fun h => by rw [hh] at h; cases h), (fun _ => h5)⟩
          have h6 : (mx == 0) = false := by simpa using h4
          have h7 : (mx != 0) = true := by simpa using h4
          clear hV
          go_enter Tryz.func77, Tryz.ntmps77
          go_wp2
          go_ret
          exact ⟨rfl, F0.out⟩
end Go.Proofs.YtdckghiipijobaaGreat

namespace Go.Proofs.YtdckghiipijobaaGreat
open Go.RowKit

set_option maxHeartbeats 800000 in
theorem rmay28_any (l : Lim) (w : World) : Calls Tryz.prog 206 #[.agg #[.int .i64 l.min, .int .i64 l.max, .bool l.has]] w fun e w' => e = .returned (.bool (validB l)) ∧ Fr No w w' := by
  have F0 := hid ((Fr.refl No w).alloc (.cells #[.int .i64 l.min, .int .i64 l.max, .bool l.has] 50))
  by_cases h1 : l.min < 0
  · skip
    go_enter Tryz.func206, Tryz.ntmps206
    go_wp2
    go_ret
    exact ⟨ret_bool (by unfold validB; rw [Bool.eq_iff_iff]; simp; omega), F0.out⟩
  · by_cases h2 : 256 < l.min
    · skip
      go_enter Tryz.func206, Tryz.ntmps206
      go_wp2
      go_ret
      exact ⟨ret_bool (by unfold validB; rw [Bool.eq_iff_iff]; simp; omega), F0.out⟩
    · cases hh : l.has with
      | true =>
        rw [hh] at F0
        by_cases h3 : l.min ≤ l.max
        · by_cases h4 : l.max ≤ 256
          · skip
            go_enter Tryz.func206, Tryz.ntmps206
            go_wp2
            go_ret
            exact ⟨ret_bool (by unfold validB; rw [Bool.eq_iff_iff]; simp [hh]; omega), F0.out⟩
          · skip
            go_enter Tryz.func206, Tryz.ntmps206
            go_wp2
            go_ret
            exact ⟨ret_bool (by unfold validB; rw [Bool.eq_iff_iff]; simp [hh]; omega), F0.out⟩
        · skip
          go_enter Tryz.func206, Tryz.ntmps206
          go_wp2
          go_ret
          exact ⟨ret_bool (by unfold validB; rw [Bool.eq_iff_iff]; simp [hh]; omega), F0.out⟩
      | false =>
        rw [hh] at F0
        by_cases h3 : l.max = 0
        · have h4 : (l.max == 0) = true := by simpa using h3
          rw [h3] at F0
          go_enter Tryz.func206, Tryz.ntmps206
          go_wp2
          go_ret
          exact ⟨ret_bool (by unfold validB; rw [Bool.eq_iff_iff]; simp [hh]; omega), F0.out⟩
        · have h4 : (l.max == 0) = false := by simpa using h3
          go_enter Tryz.func206, Tryz.ntmps206
          go_wp2
          go_ret
          exact ⟨ret_bool (by unfold validB; rw [Bool.eq_iff_iff]; simp [hh]; omega), F0.out⟩
def RnTo (l : Lim) (w : World) (e : Ending) (w' : World) : Prop :=
  if validB l = true then ∃ (A : Option Addr) (c : Nat), e = .returned (.tuple #[.agg #[.int .i64 l.min, .int .i64 l.max, .bool l.has, .slice A (l.min.toNat * 256) c], .bool true]) ∧ RmIn w' A c (List.replicate (l.min.toNat * 256) 0) ∧ (∀ q o, A = some ⟨q, o, none⟩ → w.heap.size ≤ q) ∧ Fr No w w'
  else e = .returned (.tuple #[.agg #[.int .i64 0, .int .i64 0, .bool false, .slice none 0 0], .bool false]) ∧ Fr No w w'
set_option maxRecDepth 100000 in
set_option maxHeartbeats 1600000 in
theorem rnew_any (l : Lim) (w : World) : Calls Tryz.prog 191 #[.agg #[.int .i64 l.min, .int .i64 l.max, .bool l.has]] w (RnTo l w) := by
  have F0 := hid (((Fr.refl No w).alloc (.cells #[.int .i64 l.min, .int .i64 l.max, .bool l.has] 50)).alloc (.cells #[.int .i64 0, .int .i64 0, .bool false, .slice none 0 0] 143))
  have G0 := hid ((Blk.new w 50 #[.int .i64 l.min, .int .i64 l.max, .bool l.has]).alloc (.cells #[.int .i64 0, .int .i64 0, .bool false, .slice none 0 0] 143))
  have GR := hid (Blk.new1 w (.cells #[.int .i64 l.min, .int .i64 l.max, .bool l.has] 50) 143 #[.int .i64 0, .int .i64 0, .bool false, .slice none 0 0])
  have HMY := hid (fun W => rmay28_any l W)
  unfold RnTo
  generalize hv : validB l = vv at *
  cases vv with
  | true =>
    have hV := of_decide_eq_true hv
    obtain ⟨v1, v2, _, _⟩ := hV
    simp only [if_true]
    obtain ⟨mn, hmn⟩ : ∃ mn : Nat, l.min = mn := ⟨l.min.toNat, by omega⟩
    have hto : l.min.toNat = mn := by omega
    rw [hto]
    rw [hmn] at F0 G0 GR HMY v1 v2 ⊢
    clear hv
    have hmk : ∀ W, (Instr.makeSlice 59 (.int .i64 ((mn : Int) * 256)) (.int .i64 ((mn : Int) * 256))).run Tryz.prog W = .ok (.slice (some ⟨W.heap.size, 0, none⟩) (mn * 256) (mn * 256)) (W.alloc (.cells (Array.replicate (mn * 256) (.int .u8 0)) 5)) := fun W => by
      have h := run_mk elBs rfl W .i64 .i64 (mn * 256) (by omega) (by omega)
      rw [show ((mn * 256 : Nat) : Int) = (mn : Int) * 256 by omega] at h
      exact h
    have hw1 : IntKind.i64.wrap ((mn : Int) * 256) = (mn : Int) * 256 := by rw [IntKind.wrap_i64]; omega
    go_enter Tryz.func191, Tryz.ntmps191
    go_wp2_with fail
    generalize (w.alloc (.cells #[.int .i64 mn, .int .i64 l.max, .bool l.has] 50)).alloc (.cells #[.int .i64 0, .int .i64 0, .bool false, .slice none 0 0] 143) = W at *
    refine (HMY.out _).mono ?_
    rintro e w1 ⟨rfl, f⟩
    replace F0 := hid (F0.out.trans f (fun _ _ h => h))
    replace G0 := hid (G0.out.fr f (fun x => x))
    replace GR := hid (GR.out.fr f (fun x => x))
    clear f
    have hlt : w.heap.size + 1 < w1.heap.size := GR.out.lt
    have HX : Hid (∀ X, Fr (One (w.heap.size + 1)) w1 X → X.cell? ⟨w.heap.size, 0, none⟩ = some (.int .i64 mn) ∧ X.cell? ⟨w.heap.size, 1, none⟩ = some (.int .i64 l.max) ∧ X.cell? ⟨w.heap.size, 2, none⟩ = some (.bool l.has)) := fun X f => by
      have h := G0.out.fr f (fun x => by simp only [One] at x; omega)
      exact ⟨h.cell 0, h.cell 1, h.cell 2⟩
    go_wp2_with fail
    refine wp_region_ord (fun X => X.cell? ⟨w.heap.size, 0, none⟩ = some (.int .i64 mn) ∧ X.cell? ⟨w.heap.size, 1, none⟩ = some (.int .i64 l.max) ∧ X.cell? ⟨w.heap.size, 2, none⟩ = some (.bool l.has)) [] [(0, true), (1, true), (2, true), (3, true), (4, false), (5, true), (6, false), (7, true)] (by kernel_rfl) (by kernel_rfl) (by kernel_rfl) rfl (HX.out _ (Fr.refl _ _).drew) ?_
    repeat (first
      | (refine wpO_skip rfl rfl ?_; simp only [List.getElem_toArray, List.getElem_cons_succ, List.getElem_cons_zero, Act.put, List.setIfInBounds_toArray, List.set_cons_zero, List.set_cons_succ])
      | (refine wpO_call rfl rfl ?_; simp only [List.getElem_toArray, List.getElem_cons_succ, List.getElem_cons_zero]; apply Exists.intro; refine ⟨fun X hX => ?_, ?_⟩
         · (have s0 := hX.1; have s1 := hX.2.1; have s2 := hX.2.2; go_simp; exact stillUpon_value)
         simp only [Act.put, List.setIfInBounds_toArray, List.set_cons_zero, List.set_cons_succ]))
    refine wpO_eff rfl rfl (fun K hK => ?_)
    simp only [List.getElem_toArray, List.getElem_cons_succ, List.getElem_cons_zero]
    go_simp
    have FB := hid ((Fr.refl No w1).alloc (.cells (Array.replicate (mn * 256) (.int .u8 0)) 5)).drew
    have GB : Hid (Blk (w1.alloc (.cells (Array.replicate (mn * 256) (.int .u8 0)) 5)).drew w1.heap.size 5 (Ks .u8 (List.replicate (mn * 256) 0)).toArray) := by
      have := (Blk.new w1 5 (Array.replicate (mn * 256) (.int .u8 0))).drew
      have e : Array.replicate (mn * 256) (Value.int .u8 0) = (Ks .u8 (List.replicate (mn * 256) 0)).toArray := by simp [Ks]
      rw [← e]
      exact this
    clear hmk
    obtain ⟨qb, hqb⟩ : ∃ z, z = w1.heap.size := ⟨_, rfl⟩
    have HQB := hid hqb
    rw [← hqb] at GB ⊢
    clear hqb
    generalize (w1.alloc (.cells (Array.replicate (mn * 256) (.int .u8 0)) 5)).drew = W2 at *
    refine hK _ _ (fun _ => HX.out _ (FB.out.mono (fun _ _ h => h.elim))) ?_
    clear hK K
    repeat (first
      | (refine wpO_skip rfl rfl ?_; simp only [List.getElem_toArray, List.getElem_cons_succ, List.getElem_cons_zero, Act.put, List.setIfInBounds_toArray, List.set_cons_zero, List.set_cons_succ])
      | (refine wpO_call rfl rfl ?_; simp only [List.getElem_toArray, List.getElem_cons_succ, List.getElem_cons_zero]; apply Exists.intro; refine ⟨fun X hX => ?_, ?_⟩
         · (have s0 := hX.1; have s1 := hX.2.1; have s2 := hX.2.2; go_simp; exact stillUpon_value)
         simp only [Act.put, List.setIfInBounds_toArray, List.set_cons_zero, List.set_cons_succ]))
    replace GR := hid (GR.out.fr FB.out (fun x => x))
    have z0 := GR.out.cell 0
    have z1 := GR.out.cell 1
    have z2 := GR.out.cell 2
    have z3 := GR.out.cell 3
    have q0 := GR.out.frozen 0
    have q1 := GR.out.frozen 1
    have q2 := GR.out.frozen 2
    have q3 := GR.out.frozen 3
    have FZ := hid (((((Fr.refl (One (w.heap.size + 1)) W2).setCell ⟨w.heap.size + 1, 0, none⟩ (.int .i64 mn) (fun _ => rfl)).setCell ⟨w.heap.size + 1, 1, none⟩ (.int .i64 l.max) (fun _ => rfl)).setCell ⟨w.heap.size + 1, 2, none⟩ (.bool l.has) (fun _ => rfl)).setCell ⟨w.heap.size + 1, 3, none⟩ (.slice (some ⟨qb, 0, none⟩) (mn * 256) (mn * 256)) (fun _ => rfl))
    refine wpO_eff rfl rfl (fun K hK => ?_)
    simp only [List.getElem_toArray, List.getElem_cons_succ, List.getElem_cons_zero]
    go_simp
    refine hK _ _ (fun _ => HX.out _ ((FB.out.mono (fun _ _ h => h.elim)).trans FZ.out (fun _ _ h => h))) ?_
    clear hK K
    repeat (first
      | (refine wpO_skip rfl rfl ?_; simp only [List.getElem_toArray, List.getElem_cons_succ, List.getElem_cons_zero, Act.put, List.setIfInBounds_toArray, List.set_cons_zero, List.set_cons_succ])
      | (refine wpO_call rfl rfl ?_; simp only [List.getElem_toArray, List.getElem_cons_succ, List.getElem_cons_zero]; apply Exists.intro; refine ⟨fun X hX => ?_, ?_⟩
         · (have s0 := hX.1; have s1 := hX.2.1; have s2 := hX.2.2; go_simp; exact stillUpon_value)
         simp only [Act.put, List.setIfInBounds_toArray, List.set_cons_zero, List.set_cons_succ]))
    refine wpO_nil ?_
    go_wp2
    have FF := (F0.out.trans FB.out (fun _ _ h => h)).trans FZ.out (fun i hi h => by simp only [One] at h; omega)
    have hrow := row_bts (base := w1.heap.size) GB.out (by rw [HQB.out]; exact Nat.le_refl _) (zeros_bts _) (by simp [maxLen]; omega)
    have hRm := rmIn_of_row (hrow.fr FZ.out (fun _ h => h.elim) (fun k hk h => by have h1 := (hrow.own hk).1; simp only [One] at h; omega))
    simp only [List.length_replicate] at hRm
    exact bodyPost_ret (v := .tuple #[.agg #[.int .i64 mn, .int .i64 l.max, .bool l.has, .slice (some ⟨qb, 0, none⟩) (mn * 256) (mn * 256)], .bool true]) (by simp [results, Tryz.results191, go_sem, z0, z1, z2, z3]) rfl ⟨_, _, rfl, hRm, (fun q o e => by injection e with e; injection e with e _; rw [← e, HQB.out]; exact F0.out.size), FF⟩
  | false =>
    simp only [Bool.false_eq_true, if_false]
    clear hv
    go_enter Tryz.func191, Tryz.ntmps191
    go_wp2_with fail
    refine (HMY.out _).mono ?_
    rintro e w1 ⟨rfl, f⟩
    have F1 := hid (F0.out.trans f (fun _ _ h => h))
    have GR1 := hid (GR.out.fr f (fun x => x))
    have z0 := GR1.out.cell 0
    have z1 := GR1.out.cell 1
    have z2 := GR1.out.cell 2
    have z3 := GR1.out.cell 3
    have q0 := GR1.out.frozen 0
    have q1 := GR1.out.frozen 1
    have q2 := GR1.out.frozen 2
    have q3 := GR1.out.frozen 3
    clear f
    go_wp2
    have FZ := (((((Fr.refl (One (w.heap.size + 1)) w1).setCell ⟨w.heap.size + 1, 0, none⟩ (.int .i64 0) (fun _ => rfl)).setCell ⟨w.heap.size + 1, 1, none⟩ (.int .i64 0) (fun _ => rfl)).setCell ⟨w.heap.size + 1, 2, none⟩ (.bool false) (fun _ => rfl)).setCell ⟨w.heap.size + 1, 3, none⟩ (.slice none 0 0) (fun _ => rfl))
    exact bodyPost_ret (v := .tuple #[.agg #[.int .i64 0, .int .i64 0, .bool false, .slice none 0 0], .bool false]) (by simp [results, Tryz.results191, go_sem, z0, z1, z2, z3]) rfl ⟨rfl, F1.out.trans FZ (fun i hi h => by simp only [One] at h; omega)⟩
end Go.Proofs.YtdckghiipijobaaGreat

namespace Go.Proofs.YtdckghiipijobaaGreat
open Go.RowKit

set_option maxHeartbeats 1600000 in
theorem bytes_any (p c : Nat) (A : Option Addr) (B : List Int) (w : World) (h3 : w.cell? ⟨p, 3, none⟩ = some (.slice A B.length c)) (hp : p < w.heap.size) (hI : RmIn w A c B) (hn : B.length ≤ 100000) :
    Calls Tryz.prog 67 #[.pointer (some ⟨p, 0, none⟩)] w (WrTo B w) := by
  have F0 := hid ((Fr.refl No w).alloc (.cells #[] 5))
  have R0 := hid (Ty.row.lit (t := tB) (S := Emp) (base := w.heap.size) (css := []) (xs := []) (Blk.new w 5 #[]) (Nat.le_refl _) Css.nil (by decide))
  have h3' : (w.alloc (.cells #[] 5)).cell? ⟨p, 3, none⟩ = some (.slice A B.length c) := (F0.out.cell (p := ⟨p, 3, none⟩) hp (fun x => x)).trans h3
  have HI := hid (hI.fr F0.out)
  clear hI h3
  go_enter Tryz.func67, Tryz.ntmps67
  go_wp2_with (at_builtin; refine wpList_appC (t := tB) (base := w.heap.size) (S := Emp) (xs := []) (ys := B) (dss := B.map fun b => [.int .u8 b]) (B2 := (w.alloc (.cells #[] 5)).heap.size) elBs rfl rfl rfl rfl R0.out (css_bts HI.out.bts) (by rw [flat_bts]; exact HI.out.rd) rfl (by simp; omega) (by simp; omega) (fun _ h => h.elim) F0.out.size ?_; intro v1 w2 hr1 fr1 hv1; have F2 := hid (own_frame R0.out F0.out fr1 (Nat.le_refl _)); have R1 := hid hr1; clear hr1 fr1 hv1)
  obtain ⟨A1, k1, e1, _, _, _⟩ := R1.out.els (S' := fun _ => True) (fun _ _ => trivial) (fun _ _ => trivial)
  subst e1
  go_ret
  exact ⟨A1, k1, rfl, R1.out, F2.out⟩
theorem bytes_nil (w : World) : Calls Tryz.prog 67 #[.pointer none] w fun e w' => e = .returned (.slice none 0 0) ∧ w = w' := by
  go_enter Tryz.func67, Tryz.ntmps67
  go_wp2
  go_ret
  exact ⟨rfl, rfl⟩
set_option maxHeartbeats 800000 in
theorem limits_any (p : Nat) (l : Lim) (v : Value) (w : World) (hb : Blk w p 251 #[.int .i64 l.min, .int .i64 l.max, .bool l.has, v]) :
    Calls Tryz.prog 63 #[.pointer (some ⟨p, 0, none⟩)] w fun e w' => e = .returned (.agg #[.int .i64 l.min, .int .i64 l.max, .bool l.has]) ∧ Fr No w w' := by
  have F0 := hid ((Fr.refl No w).alloc (.cells #[.int .i64 l.min, .int .i64 l.max, .bool l.has] 50))
  have G := hb.alloc (.cells #[.int .i64 0, .int .i64 0, .bool false] 50)
  have y0 := G.cell 0
  have y1 := G.cell 1
  have y2 := G.cell 2
  have hp := hb.lt
  clear hb G
  go_enter Tryz.func63, Tryz.ntmps63
  go_wp2
  exact bodyPost_ret (v := .agg #[.int .i64 l.min, .int .i64 l.max, .bool l.has]) (by simp [results, Tryz.results63, go_sem]) rfl ⟨rfl, F0.out⟩
theorem limits_nil (w : World) : Calls Tryz.prog 63 #[.pointer none] w fun e w' => e = .returned (.agg #[.int .i64 0, .int .i64 0, .bool false]) ∧ Fr No w w' := by
  have F0 := hid ((Fr.refl No w).alloc (.cells #[.int .i64 0, .int .i64 0, .bool false] 50))
  go_enter Tryz.func63, Tryz.ntmps63
  go_wp2
  exact bodyPost_ret (v := .agg #[.int .i64 0, .int .i64 0, .bool false]) (by simp [results, Tryz.results63, go_sem]) rfl ⟨rfl, F0.out⟩
end Go.Proofs.YtdckghiipijobaaGreat
