/- Merged: SmB SmC SmD SmE SmF SmG SmH SmI SmJ SmK SmL SmM SmN SmO SmP SmQ SmR SmS SmT SmU SmV SmW. -/
import Derived.Test.YthggdemiddjlgaaShGL
import Derived.Test.YthggdemiddjlgaaInts
import Derived.Test.YthggdemiddjlgaaOrt
import Derived.Test.YthggdemiddjlgaaAll
import Derived.ProofKit
import Derived.IntWalk
import Derived.Laws.Bits64b
import Derived.BigQuiet
import Derived.Laws.Shifts
import Derived.Test.YthggdemiddjlgaaList
import Derived.Deep.DeepCutAuto
import Derived.Lib.SliceRun
import Derived.Lib.AppendZerosOnto

namespace Go.Proofs.Ythggdemiddjlgaa
open Go.RowKit

theorem and_low (x : Int) (hx : 0 ≤ x ∧ x < 18446744073709551616) : bits .and .u64 x 4294967295 = x % 4294967296 := by
  obtain ⟨n, rfl⟩ : ∃ n : Nat, x = n := ⟨x.toNat, by omega⟩
  have h := bits_and_u64_nat n 4294967295 (by omega) (by omega)
  have e : n &&& 4294967295 = n % 4294967296 := Nat.and_two_pow_sub_one_eq_mod n 32
  rw [e] at h
  simpa using h
def fits (size a n : Int) : Bool := decide (a ≤ size ∧ n ≤ size - a)
/-- How many bytes a load reads, a store writes. -/
def mwid (op : Int) : Nat := if op = 44 ∨ op = 45 ∨ op = 48 ∨ op = 49 then 1 else if op = 46 ∨ op = 47 ∨ op = 50 ∨ op = 51 then 2 else if op = 40 ∨ op = 52 ∨ op = 53 then 4 else if op = 41 then 8 else 0
def wst (op : Int) : Nat := if op = 58 ∨ op = 60 then 1 else if op = 59 ∨ op = 61 then 2 else if op = 54 ∨ op = 62 then 4 else if op = 55 then 8 else 0
def wall (op : Int) : Nat := if mwid op = 0 then wst op else mwid op
def sgn (k : Nat) (x : Int) : Int := if x % (2 ^ k : Int) < (2 ^ (k - 1) : Int) then x % (2 ^ k : Int) else x % (2 ^ k : Int) - (2 ^ k : Int)
end Go.Proofs.Ythggdemiddjlgaa

namespace Go.Proofs.Ythggdemiddjlgaa
open Go.RowKit

def Bts (l : List Int) : Prop := ∀ b ∈ l, 0 ≤ b ∧ b ≤ 255
theorem els_bts {w : World} {S : Nat → Prop} {A : Option Addr} {l : List Int} (h : tB.els w S A l) : Bts l := by
  intro b hb
  obtain ⟨i, hi, rfl⟩ := List.getElem_of_mem hb
  obtain ⟨_, _, _, _, _, hw⟩ := ints_at h i hi
  exact wf_u8 hw
/-- The number whose bytes these are, the lowest first. -/
def leI : List Int → Int
  | [] => 0
  | b :: l => b + 256 * leI l
set_option maxRecDepth 100000 in
theorem leI_append (l : List Int) (b : Int) : leI (l ++ [b]) = leI l + b * 256 ^ l.length := by
  induction l with
  | nil => simp [leI]
  | cons a l ih =>
    simp only [List.cons_append, leI, ih, List.length_cons, Int.pow_succ]
    rw [Int.mul_add, ← Int.add_assoc]
    congr 1
    rw [← Int.mul_assoc, Int.mul_comm 256 b, Int.mul_assoc, Int.mul_comm 256]
theorem leI_take {l : List Int} {k : Nat} (hk : k < l.length) : leI (l.take (k + 1)) = leI (l.take k) + l[k] * 256 ^ k := by
  rw [List.take_succ_eq_append_getElem hk, leI_append, List.length_take, Nat.min_eq_left (Nat.le_of_lt hk)]
set_option maxRecDepth 100000 in
theorem leI_lt {l : List Int} (h : Bts l) : 0 ≤ leI l ∧ leI l < 256 ^ l.length := by
  induction l with
  | nil => simp [leI]
  | cons a l ih =>
    have h1 := h a (List.mem_cons_self ..)
    have h2 := ih (fun b hb => h b (List.mem_cons_of_mem _ hb))
    simp only [leI, List.length_cons, Int.pow_succ]
    omega
theorem or_add (n b k : Nat) (h : n < 2 ^ k) : n ||| b * 2 ^ k = n + b * 2 ^ k := by
  rw [Nat.or_comm, Nat.mul_comm b, ← Nat.two_pow_add_eq_or_of_lt h, Nat.add_comm]
set_option maxRecDepth 100000 in
theorem shl_byte (v : Int) (k : Nat) (hv : 0 ≤ v ∧ v ≤ 255) (hk : k < 8) : IntKind.u64.wrap (v * 2 ^ (8 * k)) = v * 256 ^ k := by
  rw [IntKind.wrap_u64]
  have hh : k = 0 ∨ k = 1 ∨ k = 2 ∨ k = 3 ∨ k = 4 ∨ k = 5 ∨ k = 6 ∨ k = 7 := by omega
  rcases hh with rfl | rfl | rfl | rfl | rfl | rfl | rfl | rfl <;> simp <;> omega
set_option maxRecDepth 100000 in
theorem or_byte (u v : Int) (k : Nat) (hu : 0 ≤ u ∧ u < 256 ^ k) (hv : 0 ≤ v ∧ v ≤ 255) (hk : k < 8) : bits .or .u64 u (v * 256 ^ k) = u + v * 256 ^ k := by
  obtain ⟨n, rfl⟩ : ∃ n : Nat, u = n := ⟨u.toNat, by omega⟩
  obtain ⟨m, rfl⟩ : ∃ m : Nat, v = m := ⟨v.toNat, by omega⟩
  have hh : k = 0 ∨ k = 1 ∨ k = 2 ∨ k = 3 ∨ k = 4 ∨ k = 5 ∨ k = 6 ∨ k = 7 := by omega
  have hp : (256 : Nat) ^ k = 2 ^ (8 * k) := by rw [Nat.pow_mul]
  have hn : n < 256 ^ k := by have := hu.2; exact_mod_cast this
  have h2 : m * 256 ^ k < 18446744073709551616 := by
    rcases hh with rfl | rfl | rfl | rfl | rfl | rfl | rfl | rfl <;> simp <;> omega
  have h3 : n < 18446744073709551616 := by
    rcases hh with rfl | rfl | rfl | rfl | rfl | rfl | rfl | rfl <;> simp at hn <;> omega
  have h := bits_or_u64_nat n (m * 256 ^ k) h3 h2
  have hn2 : n < 2 ^ (8 * k) := by rw [← hp]; exact hn
  have h4 := or_add n m (8 * k) hn2
  rw [← hp] at h4
  rw [h4] at h
  push_cast at h
  exact h
theorem rt_tup {a b : Int} (h : a = b) : Ending.returned (.tuple #[.int .u64 a, .bool true]) = .returned (.tuple #[.int .u64 b, .bool true]) := by rw [h]
/-- What a load makes of the bytes. -/
def ldV (op : Int) (l : List Int) : Int :=
  let n := leI l
  if op = 44 then (if n < 128 then n else n + 4294967040) else if op = 46 then (if n < 32768 then n else n + 4294901760) else if op = 48 then (if n < 128 then n else n + 18446744073709551360)
  else if op = 50 then (if n < 32768 then n else n + 18446744073709486080) else if op = 52 then (if n < 2147483648 then n else n + 18446744069414584320) else n
def ldD (op : Int) (l : List Int) : Int × Bool := if mwid op = 0 ∨ l.length ≠ mwid op then (0, false) else (ldV op l, true)
end Go.Proofs.Ythggdemiddjlgaa

namespace Go.Proofs.Ythggdemiddjlgaa
open Go.RowKit

theorem leI_drop {l : List Int} {k : Nat} (hk : k < l.length) : leI (l.drop k) = l[k] + 256 * leI (l.drop (k + 1)) := by
  rw [List.drop_eq_getElem_cons hk, leI]
theorem bts_drop {l : List Int} (h : Bts l) (k : Nat) : Bts (l.drop k) := fun b hb => h b (List.mem_of_mem_drop hb)
set_option maxRecDepth 100000 in
theorem pow256_le {a b : Nat} (h : a ≤ b) : (256 : Int) ^ a ≤ 256 ^ b := by
  have : (256 : Nat) ^ a ≤ 256 ^ b := Nat.pow_le_pow_right (by omega) h
  exact_mod_cast this
theorem wid_lt {op : Int} (h : mwid op ≠ 0) : op < 54 := by
  unfold mwid at h
  split at h
  · omega
  · split at h
    · omega
    · split at h
      · omega
      · split at h
        · omega
        · exact absurd rfl h
theorem wst_ge {op : Int} (h : wst op ≠ 0) : 54 ≤ op := by
  unfold wst at h
  split at h
  · omega
  · split at h
    · omega
    · split at h
      · omega
      · split at h
        · omega
        · exact absurd rfl h
theorem wid_form {op : Int} (h : mwid op ≠ 0) : mwid op = 1 ∨ mwid op = 2 ∨ mwid op = 4 ∨ mwid op = 8 := by
  unfold mwid at h ⊢
  split at h
  · simp [*]
  · split at h
    · simp [*]
    · split at h
      · simp [*]
      · split at h
        · simp [*]
        · exact absurd rfl h
end Go.Proofs.Ythggdemiddjlgaa

namespace Go.Proofs.Ythggdemiddjlgaa
open Go.RowKit

theorem elBs : ElemOk Try.prog 125 5 1 1 (.int .u8 0) := ElemOk.mk' Try.underlying125 (by kernel_rfl) rfl (by decide)
/-- The n lowest bytes of a number, the lowest first. -/
def leB : Nat → Int → List Int
  | 0, _ => []
  | n + 1, x => x % 256 :: leB n (x / 256)
@[simp] theorem leB_len (n : Nat) (x : Int) : (leB n x).length = n := by
  induction n generalizing x with
  | zero => rfl
  | succ n ih => simp [leB, ih]
theorem leB_bts (n : Nat) (x : Int) : Bts (leB n x) := by
  induction n generalizing x with
  | zero => intro b hb; cases hb
  | succ n ih =>
    intro b hb
    rw [leB, List.mem_cons] at hb
    rcases hb with rfl | hb
    · omega
    · exact ih _ b hb
theorem leB_get (n : Nat) (x : Int) (k : Nat) (h : k < n) : (leB n x)[k]'(by simpa using h) = x / 256 ^ k % 256 := by
  induction n generalizing x k with
  | zero => omega
  | succ n ih =>
    cases k with
    | zero => simp [leB]
    | succ k =>
      simp only [leB, List.getElem_cons_succ]
      rw [ih _ _ (by omega), Int.pow_succ, Int.mul_comm, ← Int.ediv_ediv_of_nonneg (by omega)]
theorem leB_take (n : Nat) (x : Int) (k : Nat) (h : k < n) : (leB n x).take (k + 1) = (leB n x).take k ++ [x / 256 ^ k % 256] := by
  rw [List.take_succ_eq_append_getElem (by simpa using h), leB_get n x k h]
theorem wf_u8' {n : Int} (h : 0 ≤ n ∧ n ≤ 255) : (Lit.int .u8 n).wf = true := by
  simpa [Lit.wf, IntKind.min, IntKind.max, IntKind.signed, IntKind.bits] using h
theorem css_bts {w : World} {S : Nat → Prop} {l : List Int} (h : Bts l) : Css tB w S (l.map fun b => [.int .u8 b]) l := by
  refine ⟨by simp, fun i c x h1 h2 => ?_⟩
  rw [List.getElem?_map, h2] at h1
  simp only [Option.map_some, Option.some.injEq] at h1
  subst h1
  exact ⟨rfl, wf_u8' (h x (List.mem_of_getElem? h2))⟩
theorem flat_bts (l : List Int) : (l.map fun b => [Value.int .u8 b]).flatten = Ks .u8 l := by
  induction l with
  | nil => rfl
  | cons a l ih => simp [Ks] at ih ⊢; exact ih
/-- A row of bytes in a block of its own. -/
theorem row_bts {w : World} {base q : Nat} {l : List Int} (hb : Blk w q 5 (Ks .u8 l).toArray) (hq : base ≤ q) (h : Bts l) (hm : l.length ≤ maxLen) : tB.row w base Emp 5 (.slice (some ⟨q, 0, none⟩) l.length l.length) l :=
  Ty.row.lit (css := l.map fun b => [.int .u8 b]) (by rw [flat_bts]; exact hb) hq (css_bts h) hm
def stD (op x : Int) : List Int × Bool := if wst op = 0 then ([], false) else (leB (wst op) x, true)
def StTo (l : List Int) (ok : Bool) (w : World) (e : Ending) (w' : World) : Prop :=
  ∃ (A : Option Addr) (c : Nat), e = .returned (.tuple #[.slice A l.length c, .bool ok]) ∧ tB.row w' w.heap.size Emp 5 (.slice A l.length c) l ∧ Fr No w w'
theorem wst_form {op : Int} (h : wst op ≠ 0) : wst op = 1 ∨ wst op = 2 ∨ wst op = 4 ∨ wst op = 8 := by
  unfold wst at h ⊢
  split at h
  · simp [*]
  · split at h
    · simp [*]
    · split at h
      · simp [*]
      · split at h
        · simp [*]
        · exact absurd rfl h
theorem fill_set (l : List Int) (n k : Nat) (hk : k < n) (hl : l.length = n) (v : Int) (hv : l[k]? = some v) : ((Ks .u8 (l.take k ++ List.replicate (n - k) 0)).toArray).setIfInBounds k (.int .u8 v) = (Ks .u8 (l.take (k + 1) ++ List.replicate (n - (k + 1)) 0)).toArray := by
  have hkl : k < l.length := by omega
  have hvv : l[k] = v := by rw [List.getElem?_eq_getElem hkl] at hv; injection hv
  have e : n - k = (n - (k + 1)) + 1 := by omega
  rw [e, List.replicate_succ, List.take_succ_eq_append_getElem hkl, hvv, List.setIfInBounds_toArray]
  congr 1
  simp only [Ks, List.map_append, List.map_cons]
  rw [List.set_append, if_neg (by simp; omega)]
  simp [Nat.min_eq_left (Nat.le_of_lt hkl)]
theorem shr_byte (x : Int) (k : Nat) (hx : 0 ≤ x) : x / 2 ^ (8 * k) % 256 = x / 256 ^ k % 256 := by
  have : (256 : Int) ^ k = 2 ^ (8 * k) := by rw [Int.pow_mul]; rfl
  rw [this]
theorem row_of {w : World} {base : Nat} {v : Value} {l : List Int} (h : w.ownsRow base 5 1 v l.length (Ks .u8 l)) (hb : Bts l) : tB.row w base Emp 5 v l :=
  ⟨l.map fun b => [.int .u8 b], css_bts hb, by rw [flat_bts]; exact h⟩
theorem owns_ge {w : World} {base n : Nat} {e : TypeId} {v : Value} {xs : List Value} (h : w.ownsRow base e 1 v n xs) {g : Nat} (hv : v.ownBlock = some g) : base ≤ g := by
  rcases h.2 with hn | ⟨g', cap, cur, rfl, hb, _⟩
  · obtain ⟨rfl, _⟩ := hn
    simp [Value.ownBlock] at hv
  · simp [Value.ownBlock] at hv
    subst hv
    exact hb
theorem Bts.take {l : List Int} (h : Bts l) (k : Nat) : Bts (l.take k) := fun b hb => h b (List.mem_of_mem_take hb)
end Go.Proofs.Ythggdemiddjlgaa

namespace Go.Proofs.Ythggdemiddjlgaa
open Go.RowKit

def wl : List Nat := [1, 2, 4, 8]
theorem wl_wid {op : Int} (h : ∀ i : Nat, i < 4 → wl[i]? ≠ some (mwid op)) : mwid op = 0 := by
  rcases Nat.eq_zero_or_pos (mwid op) with h0 | h0
  · exact h0
  · rcases wid_form (Nat.ne_of_gt h0) with e | e | e | e
    · exact absurd (by rw [e]; rfl) (h 0 (by omega))
    · exact absurd (by rw [e]; rfl) (h 1 (by omega))
    · exact absurd (by rw [e]; rfl) (h 2 (by omega))
    · exact absurd (by rw [e]; rfl) (h 3 (by omega))
theorem zeros_bts (n : Nat) : Bts (List.replicate n 0) := fun b hb => by rw [List.mem_replicate] at hb; omega
theorem zeros_els {w : World} {q c n : Nat} {t : TypeId} (hb : Blk w q t (Array.replicate c (.int .u8 0))) (hn : n ≤ c) : tB.els w (· = q) (some ⟨q, 0, none⟩) (List.replicate n (0 : Int)) :=
  css_els (S := Emp) (S' := (· = q)) (css_bts (zeros_bts n)) inferInstance (fun _ h => h.elim) rfl 0 (fun k u hu => by
    rw [flat_bts, Ks, List.map_replicate, List.getElem?_replicate] at hu
    split at hu
    · rw [Nat.zero_add, hb.cell, Array.getElem?_replicate, if_pos (by omega)]; exact hu
    · cases hu)
theorem wl_at {k : Nat} (hk : k < 4) : ∃ m : Nat, wl[k]? = some m ∧ (#[Value.int .i64 1, Value.int .i64 2, Value.int .i64 4, Value.int .i64 8] : Array Value)[k]? = some (.int .i64 m) ∧ 1 ≤ m ∧ m ≤ 8 := by
  have : k = 0 ∨ k = 1 ∨ k = 2 ∨ k = 3 := by omega
  rcases this with rfl | rfl | rfl | rfl
  · exact ⟨1, rfl, rfl, by omega, by omega⟩
  · exact ⟨2, rfl, rfl, by omega, by omega⟩
  · exact ⟨4, rfl, rfl, by omega, by omega⟩
  · exact ⟨8, rfl, rfl, by omega, by omega⟩
theorem ldD_zero (op : Int) (m : Nat) : (ldD op (List.replicate m 0)).2 = decide (mwid op ≠ 0 ∧ m = mwid op) := by
  unfold ldD
  rw [List.length_replicate]
  split <;> rename_i h
  · rw [decide_eq_false]; omega
  · rw [decide_eq_true]; omega
end Go.Proofs.Ythggdemiddjlgaa

namespace Go.Proofs.Ythggdemiddjlgaa
open Go.RowKit

def hasB (n : Nat) (addr off k : Int) : Bool := decide (0 ≤ k ∧ off ≤ n ∧ addr % 4294967296 ≤ n - off ∧ k ≤ n - off - addr % 4294967296)
theorem pages_any (p : Nat) (A : Option Addr) (n c : Nat) (w : World) (h3 : w.cell? ⟨p, 3, none⟩ = some (.slice A n c)) (hn : n ≤ 1000000) :
    Calls Try.prog 40 #[.pointer (some ⟨p, 0, none⟩)] w fun e w' => e = .returned (.int .i64 ((n / 256 : Nat) : Int)) ∧ w = w' := by
  go_enter Try.func40, Try.ntmps40
  go_wp2
  go_ret
  exact ⟨ret_int (by omega), rfl⟩
theorem pages_nil (w : World) :
    Calls Try.prog 40 #[.pointer none] w fun e w' => e = .returned (.int .i64 0) ∧ w = w' := by
  go_enter Try.func40, Try.ntmps40
  go_wp2
  go_ret
  exact ⟨rfl, rfl⟩
/-- The reference's memory as a value. -/
def rmv (l : Lim) (A : Option Addr) (n c : Nat) : Value := .agg #[.int .i64 l.min, .int .i64 l.max, .bool l.has, .slice A n c]
end Go.Proofs.Ythggdemiddjlgaa

namespace Go.Proofs.Ythggdemiddjlgaa
open Go.RowKit

theorem els_sub {w : World} {S : Nat → Prop} {A : Option Addr} {B : List Int} {k n : Nat} (h : tB.els w S A B) (hk : k + n ≤ B.length) (hn : 0 < n) : ∃ q o, A = some ⟨q, o, none⟩ ∧ tB.els w S (some ⟨q, o + k, none⟩) ((B.drop k).take n) := by
  rcases h with h | ⟨q, o, rfl, hq, h⟩
  · rw [h] at hk; simp at hk; omega
  · refine ⟨q, o, rfl, .inr ⟨q, o + k, rfl, hq, fun i x hx => ?_⟩⟩
    have hB : B[k + i]? = some x := by
      rw [List.getElem?_take] at hx
      split at hx
      · rwa [List.getElem?_drop] at hx
      · cases hx
    obtain ⟨ds, h1, h2⟩ := h (k + i) x hB
    refine ⟨ds, fun j u hu => ?_, h2⟩
    have := h1 j u hu
    have e : tB.size = 1 := rfl
    rw [e] at this ⊢
    rw [show o + k + (i * 1 + j) = o + ((k + i) * 1 + j) by omega]
    exact this
def loadR (op : Int) (B : List Int) (addr off : Int) : Int × Int :=
  if mwid op = 0 then (0, 12) else if hasB B.length addr off (mwid op) then (ldV op ((B.drop (addr % 4294967296 + off).toNat).take (mwid op)), 0) else (0, 2)
end Go.Proofs.Ythggdemiddjlgaa

namespace Go.Proofs.Ythggdemiddjlgaa
open Go.RowKit

theorem rd_of_els {w : World} {S : Nat → Prop} {A : Option Addr} {B : List Int} {n : Nat} (h : tB.els w S A B) (hS : ∀ k, S k → k < n) : Rd w n A (Ks .u8 B) := by
  rcases h with h | ⟨q, o, rfl, hq, h⟩
  · rw [h]; exact Rd.nil
  · refine .inr ⟨q, o, rfl, hS q hq, fun k u hu => ?_⟩
    rw [Ks, List.getElem?_map] at hu
    cases hx : B[k]? with
    | none => rw [hx] at hu; cases hu
    | some x =>
      rw [hx] at hu
      simp only [Option.map_some, Option.some.injEq] at hu
      obtain ⟨ds, h1, h2, _⟩ := h k x hx
      subst h2
      have := h1 0 _ rfl
      have e : tB.size = 1 := rfl
      rw [e, Nat.mul_one, Nat.add_zero] at this
      rw [this, hu]
theorem Rd.take_ {w : World} {n : Nat} {A : Option Addr} {xs : List Value} (h : Rd w n A xs) (k : Nat) : Rd w n A (xs.take k) := by
  rcases h with h | ⟨q, o, rfl, hq, h⟩
  · rw [h]; simp; exact Rd.nil
  · exact .inr ⟨q, o, rfl, hq, fun j u hu => by
      rw [List.getElem?_take] at hu
      split at hu
      · exact h j u hu
      · cases hu⟩
theorem Rd.drop_ {w : World} {n q o : Nat} {xs : List Value} (h : Rd w n (some ⟨q, o, none⟩) xs) (k : Nat) : Rd w n (some ⟨q, o + k, none⟩) (xs.drop k) := by
  rcases h with h | ⟨q', o', e, hq, h⟩
  · rw [h]; simp; exact Rd.nil
  · cases e
    exact .inr ⟨_, _, rfl, hq, fun j u hu => by
      rw [List.getElem?_drop] at hu
      have := h _ u hu
      rw [Nat.add_assoc]; exact this⟩
theorem Ks_take (k : IntKind) (xs : List Int) (n : Nat) : (Ks k xs).take n = Ks k (xs.take n) := by simp [Ks]
theorem Ks_drop (k : IntKind) (xs : List Int) (n : Nat) : (Ks k xs).drop n = Ks k (xs.drop n) := by simp [Ks]
def WrTo (l : List Int) (w : World) (e : Ending) (w' : World) : Prop :=
  ∃ (A : Option Addr) (c : Nat), e = .returned (.slice A l.length c) ∧ tB.row w' w.heap.size Emp 5 (.slice A l.length c) l ∧ Fr No w w'
theorem Bts.drop_ {l : List Int} (h : Bts l) (k : Nat) : Bts (l.drop k) := fun b hb => h b (List.mem_of_mem_drop hb)
theorem Bts.app {l m : List Int} (h : Bts l) (k : Bts m) : Bts (l ++ m) := fun b hb => (List.mem_append.1 hb).elim (h b) (k b)
end Go.Proofs.Ythggdemiddjlgaa

namespace Go.Proofs.Ythggdemiddjlgaa
open Go.RowKit

/-- The bytes of a memory of the reference, as a slice. -/
structure RmIn (w : World) (A : Option Addr) (c : Nat) (B : List Int) : Prop where
  rd : Rd w w.heap.size A (Ks .u8 B)
  nil : A = none → B = []
  spot : ∀ ad, A = some ad → ∃ q o, ad = ⟨q, o, none⟩
  bts : Bts B
  cap : B.length ≤ c
theorem RmIn.fr {w w' : World} {A : Option Addr} {c : Nat} {B : List Int} (h : RmIn w A c B) (f : Fr No w w') : RmIn w' A c B :=
  ⟨(h.rd.fr f (fun _ _ x => x)).more f.size, h.nil, h.spot, h.bts, h.cap⟩
theorem RmIn.els {w : World} {A : Option Addr} {c : Nat} {B : List Int} (h : RmIn w A c B) : tB.els w (· < w.heap.size) A B := by
  rcases h.rd with hh | ⟨q, o, rfl, hq, hh⟩
  · have : B = [] := by cases B with
      | nil => rfl
      | cons _ _ => simp [Ks] at hh
    exact .inl this
  · exact css_els (S := Emp) (S' := (· < w.heap.size)) (css := B.map fun b => [.int .u8 b]) (css_bts h.bts) inferInstance (fun _ h => h.elim) hq o (fun k u hu => hh k u (by rwa [flat_bts] at hu))
theorem css_ks {w : World} {S : Nat → Prop} {css : List (List Value)} {B : List Int} (h : Css tB w S css B) : css.flatten = Ks .u8 B ∧ Bts B := by
  have e : css = B.map fun b => [.int .u8 b] := by
    apply List.ext_getElem?
    intro i
    rw [List.getElem?_map]
    cases hb : B[i]? with
    | none =>
      have : B.length ≤ i := List.getElem?_eq_none_iff.1 hb
      rw [List.getElem?_eq_none (by rw [h.1]; exact this)]; rfl
    | some b =>
      have hi : i < css.length := by rw [h.1]; exact (List.getElem?_eq_some_iff.1 hb).1
      have := (h.2 i css[i] b (List.getElem?_eq_getElem hi) hb).1
      rw [List.getElem?_eq_getElem hi, this]; rfl
  refine ⟨by rw [e, flat_bts], fun b hb => ?_⟩
  obtain ⟨i, hi, rfl⟩ := List.getElem_of_mem hb
  have hi' : i < css.length := by rw [h.1]; exact hi
  exact wf_u8 (h.2 i css[i] B[i] (List.getElem?_eq_getElem hi') (List.getElem?_eq_getElem hi)).2
theorem rmIn_of_row {w : World} {base c : Nat} {A : Option Addr} {B : List Int} (h : tB.row w base Emp 5 (.slice A B.length c) B) : RmIn w A c B := by
  obtain ⟨css, h1, h2⟩ := h
  obtain ⟨e1, hb⟩ := css_ks h1
  rw [e1] at h2
  obtain ⟨A', c', e, hl, hr, hs⟩ := row_form (n := B.length) h2
  injection e with e2 _ e3
  subst e2 e3
  refine ⟨hr, fun hA => ?_, fun ad had => ?_, hb, by simpa using hl⟩
  · subst hA
    rcases hr with hr | ⟨_, _, hc, _⟩
    · cases B with
      | nil => rfl
      | cons _ _ => simp [Ks] at hr
    · cases hc
  · subst had
    rcases hs with hs | ⟨b, o, hs⟩
    · cases hs
    · injection hs with hs; exact ⟨b, o, hs⟩
def RmTo (l : Lim) (A0 : Option Addr) (B0 B : List Int) (t : Int) (w : World) (e : Ending) (w' : World) : Prop :=
  ∃ (A : Option Addr) (c : Nat), e = .returned (.tuple #[.agg #[.int .i64 l.min, .int .i64 l.max, .bool l.has, .slice A B.length c], .int .i64 t]) ∧ RmIn w' A c B ∧ ((A = A0 ∧ B = B0) ∨ ∀ q o, A = some ⟨q, o, none⟩ → w.heap.size ≤ q) ∧ Fr No w w'
theorem RmIn.frM {w w' : World} {A : Option Addr} {c : Nat} {B : List Int} {M : Nat → Prop} (h : RmIn w A c B) (f : Fr M w w') (hq : B ≠ [] → ∀ q o, A = some ⟨q, o, none⟩ → ¬ M q) : RmIn w' A c B := by
  refine ⟨?_, h.nil, h.spot, h.bts, h.cap⟩
  rcases h.rd with hh | ⟨q, o, rfl, hb, hh⟩
  · exact .inl hh
  · by_cases hB : B = []
    · subst hB; exact .inl rfl
    · exact .inr ⟨q, o, rfl, Nat.lt_of_lt_of_le hb f.size, fun k u hu => by rw [f.cell (p := ⟨q, o + k, none⟩) hb (hq hB q o rfl)]; exact hh k u hu⟩
theorem RmIn.blk {w : World} {A : Option Addr} {c : Nat} {B : List Int} (h : RmIn w A c B) (hB : B ≠ []) {q o : Nat} (hA : A = some ⟨q, o, none⟩) : q < w.heap.size := by
  rcases h.rd with hh | ⟨q', o', e, hb, _⟩
  · exact absurd (by cases B with | nil => rfl | cons _ _ => simp [Ks] at hh) hB
  · rw [hA] at e; cases e; exact hb
theorem splice_len {B bs : List Int} {a : Nat} (h : a + bs.length ≤ B.length) : (splice B a bs).length = B.length := by simp [splice]; omega
def storeR (op : Int) (B : List Int) (addr off x : Int) : List Int × Int :=
  if wst op = 0 then (B, 12) else if hasB B.length addr off (wst op) then (splice B (addr % 4294967296 + off).toNat (leB (wst op) x), 0) else (B, 2)
end Go.Proofs.Ythggdemiddjlgaa

namespace Go.Proofs.Ythggdemiddjlgaa
open Go.RowKit

/-- Bytes that are read: of an empty slice nothing is said of its address. -/
structure SrcIn (w : World) (A : Option Addr) (c : Nat) (B : List Int) : Prop where
  rd : Rd w w.heap.size A (Ks .u8 B)
  nil : A = none → B = []
  spot : B.length ≠ 0 → ∀ ad, A = some ad → ∃ q o, ad = ⟨q, o, none⟩
  bts : Bts B
  cap : B.length ≤ c
theorem RmIn.src {w : World} {A : Option Addr} {c : Nat} {B : List Int} (h : RmIn w A c B) : SrcIn w A c B := ⟨h.rd, h.nil, fun _ => h.spot, h.bts, h.cap⟩
theorem SrcIn.fr {w w' : World} {A : Option Addr} {c : Nat} {B : List Int} (h : SrcIn w A c B) (f : Fr No w w') : SrcIn w' A c B :=
  ⟨(h.rd.fr f (fun _ _ x => x)).more f.size, h.nil, h.spot, h.bts, h.cap⟩
theorem SrcIn.frM {w w' : World} {A : Option Addr} {c : Nat} {B : List Int} {M : Nat → Prop} (h : SrcIn w A c B) (f : Fr M w w') (hq : B ≠ [] → ∀ q o, A = some ⟨q, o, none⟩ → ¬ M q) : SrcIn w' A c B := by
  refine ⟨?_, h.nil, h.spot, h.bts, h.cap⟩
  rcases h.rd with hh | ⟨q, o, rfl, hb, hh⟩
  · exact .inl hh
  · by_cases hB : B = []
    · subst hB; exact .inl rfl
    · exact .inr ⟨q, o, rfl, Nat.lt_of_lt_of_le hb f.size, fun k u hu => by rw [f.cell (p := ⟨q, o + k, none⟩) hb (hq hB q o rfl)]; exact hh k u hu⟩
/-- A slice of bytes that the statement reads. -/
theorem els_src {w : World} {A : Option Addr} {c : Nat} {B : List Int} (h : tB.els w (· < w.heap.size) A B) (hc : B.length ≤ c) : SrcIn w A c B := by
  have hb := els_bts h
  rcases h with rfl | ⟨b, o, rfl, hlt, hh⟩
  · exact ⟨.inl rfl, fun _ => rfl, (fun h => absurd rfl h), hb, hc⟩
  · refine ⟨.inr ⟨b, o, rfl, hlt, fun k u hu => ?_⟩, (fun h => by cases h), (fun _ ad e => ⟨b, o, by injection e with e; exact e.symm⟩), hb, hc⟩
    rw [Ks, List.getElem?_map] at hu
    obtain ⟨x, hx, rfl⟩ := Option.map_eq_some_iff.1 hu
    obtain ⟨ds, hd, rfl, _⟩ := hh k x hx
    have := hd 0 _ rfl
    have e : tB.size = 1 := rfl
    rw [e, Nat.mul_one, Nat.add_zero] at this
    exact this
theorem run_sub (kl kh : IntKind) (D : Option Addr) (n d k m : Nat) (hk : k + m ≤ n) (hd : n ≤ d) (hspot : n ≠ 0 → ∀ ad, D = some ad → ∃ q o, ad = ⟨q, o, none⟩) :
    ∃ (D' : Option Addr) (d' : Nat), (∀ W, (Instr.slice 125 (.slice D n d) (some (.int kl (k : Int))) (some (.int kh ((k : Int) + m))) none).run Try.prog W = .ok (.slice D' m d') W) ∧ m ≤ d' ∧
      (D' = D ∧ (D = none ∨ m = 0 ∨ k = 0) ∨ ∃ q o, D = some ⟨q, o, none⟩ ∧ D' = some ⟨q, o + k, none⟩) := by
  have hrun := fun W => run_slice_lh (P := Try.prog) (w := W) 125 D n d (by kernel_rfl) kl kh (k : Int) ((k : Int) + m) (by omega) (by omega) (by omega)
  have e1 : ((k : Int) + m).toNat = k + m := by omega
  have hs : ∀ W, (sizeOf (Try.prog.elem 125)).run Try.prog W = .ok 1 W := fun W => by kernel_rfl
  simp only [Int.toNat_natCast, e1, hs, Result.andThen_ok] at hrun
  cases D with
  | none =>
    exact ⟨none, d - k, fun W => by rw [hrun W]; simp [sliced], by omega, .inl ⟨rfl, .inl rfl⟩⟩
  | some ad =>
    by_cases hn0 : n = 0
    · have hk0 : k = 0 := by omega
      have hm0 : m = 0 := by omega
      subst hk0 hm0
      refine ⟨some ad, d, fun W => ?_, by omega, .inl ⟨rfl, .inr (.inr rfl)⟩⟩
      rw [hrun W]
      simp [sliced, Addr.add]
    obtain ⟨q, o, rfl⟩ := hspot hn0 ad rfl
    by_cases h0 : d - k = 0
    · refine ⟨some ⟨q, o, none⟩, 0, fun W => ?_, by omega, .inl ⟨rfl, .inr (.inl (by omega))⟩⟩
      rw [hrun W]
      simp [sliced, h0]
      intro h; omega
    · refine ⟨some ⟨q, o + k, none⟩, d - k, fun W => ?_, by omega, .inr ⟨q, o, rfl, rfl⟩⟩
      rw [hrun W]
      simp [sliced]
      rw [if_neg (by omega), add_lit']
theorem sub_rd {W : World} {N : Nat} {D D' : Option Addr} {bs : List Int} {k m : Nat} (h : Rd W N D (Ks .u8 bs)) (hn : D = none → bs = []) (hk : k + m ≤ bs.length)
    (hD : D' = D ∧ (D = none ∨ m = 0 ∨ k = 0) ∨ ∃ q o, D = some ⟨q, o, none⟩ ∧ D' = some ⟨q, o + k, none⟩) : Rd W N D' (Ks .u8 ((bs.drop k).take m)) := by
  rcases hD with ⟨rfl, h1 | h1 | h1⟩ | ⟨q, o, rfl, rfl⟩
  · rw [hn h1]; simp; exact Rd.nil
  · subst h1; simp; exact Rd.nil
  · subst h1; rw [List.drop_zero, ← Ks_take]; exact h.take_ m
  · rw [← Ks_take, ← Ks_drop]; exact (h.drop_ k).take_ m
theorem Bts.sub {bs : List Int} (h : Bts bs) (k m : Nat) : Bts ((bs.drop k).take m) := fun b hb => h b (List.mem_of_mem_drop (List.mem_of_mem_take hb))
end Go.Proofs.Ythggdemiddjlgaa

namespace Go.Proofs.Ythggdemiddjlgaa
open Go.RowKit

/-- The lowest 32 bits. -/
def lo (x : Int) : Nat := (x % 4294967296).toNat
theorem lo_eq (x : Int) : x % 4294967296 = (lo x : Int) := by unfold lo; omega
theorem lo_lt (x : Int) : lo x < 4294967296 := by unfold lo; omega
def initR (B bs : List Int) (t a n : Nat) : List Int × Int := if a + n ≤ bs.length then (if t + n ≤ B.length then (splice B t ((bs.drop a).take n), 0) else (B, 2)) else (B, 2)
end Go.Proofs.Ythggdemiddjlgaa

namespace Go.Proofs.Ythggdemiddjlgaa
open Go.RowKit

def fillR (B : List Int) (t : Nat) (x : Int) (n : Nat) : List Int × Int := if t + n ≤ B.length then (splice B t (List.replicate n (x % 256)), 0) else (B, 2)
end Go.Proofs.Ythggdemiddjlgaa

namespace Go.Proofs.Ythggdemiddjlgaa
open Go.RowKit

theorem opwp_cp {P : Program} {t e : TypeId} {bytes : Nat} {z : Value} {w : World} {o : Oper} {a : Act} {K : Act → World → Prop} {Q : Exit → Act → World → Prop} {A : Option Addr} {B q c off dLen dCap sLen sCap : Nat} {s d : Operand} {xs cs : List Value} (E : ElemOk P t e 1 bytes z)
    (ho : o.op = .call { callee := .builtin .copy, args := #[d, s], argTypes := #[t, t] })
    (hd : a.eval d = .slice (some ⟨q, off, none⟩) dLen dCap) (hs : a.eval s = .slice A sLen sCap) (hown : Own w q e c xs)
    (hr : Rd w B A cs) (hn : cs.length = Nat.min sLen dLen) (hfit : off + cs.length ≤ xs.length) (h1 : ∀ u ∈ cs, u.oneCell' = true)
    (h : ∀ w', Own w' q e c (splice xs off cs) → Fr (One q) w w' → K (a.put o.dst (goInt cs.length)) w') : o.wp P a w K Q := by
  obtain ⟨w', hrun, h2, h3⟩ := run_cp E w o.type hown off dLen dCap sLen sCap hr hn hfit h1
  unfold Oper.wp execOp
  simp only [ho, resolve, invoke, builtin, Sem.run_bind, Sem.run_pure, Result.andThen_ok, List.map_toArray, List.map_cons, List.map_nil, hs, hd, hrun]
  exact h w' h2 h3
/-- A memory of the program. -/
structure Mo (w : World) (p q c : Nat) (l : Lim) (B : List Int) : Prop where
  hp : Blk w p 127 #[.int .i64 l.min, .int .i64 l.max, .bool l.has, .slice (some ⟨q, 0, none⟩) B.length c]
  own : Own w q 5 c (Ks .u8 B)
  bts : Bts B
theorem Mo.fr {w w' : World} {p q c : Nat} {l : Lim} {B : List Int} {M : Nat → Prop} (h : Mo w p q c l B) (f : Fr M w w') (hp : ¬ M p) (hq : ¬ M q) : Mo w' p q c l B := ⟨h.hp.fr f hp, h.own.fr f hq, h.bts⟩
theorem Mo.frNo {w w' : World} {p q c : Nat} {l : Lim} {B : List Int} (h : Mo w p q c l B) (f : Fr No w w') : Mo w' p q c l B := h.fr f (fun x => x) (fun x => x)
theorem Mo.ne {w : World} {p q c : Nat} {l : Lim} {B : List Int} (h : Mo w p q c l B) : p ≠ q := by
  obtain ⟨cur, hb, _⟩ := h.own.cur
  exact Blk.ne_ h.hp hb (by decide)
theorem Mo.cap {w : World} {p q c : Nat} {l : Lim} {B : List Int} (h : Mo w p q c l B) : B.length ≤ c := by
  obtain ⟨cur, hb, h1, _⟩ := h.own.cur
  simpa using h1
theorem Ks_splice (B bs : List Int) (a : Nat) : splice (Ks .u8 B) a (Ks .u8 bs) = Ks .u8 (splice B a bs) := by simp [splice, Ks]
theorem splice_bts {B bs : List Int} (a : Nat) (h : Bts B) (k : Bts bs) : Bts (splice B a bs) := fun b hb => by
  rw [splice, List.mem_append, List.mem_append] at hb
  rcases hb with hb | hb | hb
  · exact h b (List.mem_of_mem_take hb)
  · exact k b hb
  · exact h b (List.mem_of_mem_drop hb)
/-- The memory behind a copy into its bytes. -/
theorem Mo.put {w w' : World} {p q c a : Nat} {l : Lim} {B bs : List Int} (h : Mo w p q c l B) (f : Fr (One q) w w') (ho : Own w' q 5 c (splice (Ks .u8 B) a (Ks .u8 bs))) (hb : Bts bs) (hfit : a + bs.length ≤ B.length) : Mo w' p q c l (splice B a bs) := by
  refine ⟨?_, by rw [← Ks_splice]; exact ho, splice_bts a h.bts hb⟩
  have := h.hp.fr f (fun x => h.ne x)
  rwa [splice_len hfit]
def MoTo (p q c : Nat) (l : Lim) (B : List Int) (t : Int) (w : World) (e : Ending) (w' : World) : Prop := e = .returned (.int .i64 t) ∧ Mo w' p q c l B ∧ Fr (One q) w w'
end Go.Proofs.Ythggdemiddjlgaa

namespace Go.Proofs.Ythggdemiddjlgaa
open Go.RowKit

theorem splice_nil' (B : List Int) (a : Nat) : splice B a [] = B := splice_nil B a
end Go.Proofs.Ythggdemiddjlgaa

namespace Go.Proofs.Ythggdemiddjlgaa
open Go.RowKit

theorem own_els {w : World} {p q c : Nat} {l : Lim} {B : List Int} (h : Mo w p q c l B) : RmIn w (some ⟨q, 0, none⟩) c B := by
  have hr : Rd w w.heap.size (some ⟨q, 0, none⟩) (Ks .u8 B) := h.own.rd h.own.lt
  exact ⟨hr, (fun e => by cases e), (fun ad e => ⟨q, 0, by injection e with e; exact e.symm⟩), h.bts, h.cap⟩
theorem splice_cons {α : Type} (xs vs : List α) (o : Nat) (v : α) (h : o + vs.length + 1 ≤ xs.length) : splice (xs.set o v) (o + 1) vs = splice xs o (v :: vs) := by
  apply List.ext_getElem?
  intro i
  rw [splice_get? _ _ _ (by simp; omega), splice_get? _ _ _ (by simp; omega)]
  simp only [List.length_cons, List.getElem?_set]
  by_cases h1 : i < o
  · rw [if_pos (by omega), if_neg (by omega), if_pos h1]
  · by_cases h2 : i = o
    · subst h2
      rw [if_pos (by omega), if_pos rfl, if_pos (by omega), if_neg h1, if_pos (by omega), Nat.sub_self]; rfl
    · by_cases h3 : i < o + 1 + vs.length
      · rw [if_neg (by omega), if_pos h3, if_neg h1, if_pos (by omega), show i - o = (i - (o + 1)) + 1 by omega, List.getElem?_cons_succ]
      · rw [if_neg (by omega), if_neg h3, if_neg (by omega), if_neg h1, if_neg (by omega)]
theorem own_setCells {q c : Nat} {e : TypeId} : ∀ (vs : List Value) (o : Nat) (w : World) (xs : List Value), Own w q e c xs → o + vs.length ≤ xs.length → Own (w.setCells q o vs) q e c (splice xs o vs) := by
  intro vs
  induction vs with
  | nil => intro o w xs h _; rw [splice_nil]; exact h
  | cons v vs ih =>
    intro o w xs h hl
    have := ih (o + 1) _ _ (h.set_ o v) (by simp at hl ⊢; omega)
    rw [splice_cons _ _ _ _ (by simp at hl; omega)] at this
    exact this
theorem fr_setCells {M : Nat → Prop} {q : Nat} : ∀ (vs : List Value) (o : Nat) (w0 w : World), Fr M w0 w → (q < w0.heap.size → M q) → Fr M w0 (w.setCells q o vs) := by
  intro vs
  induction vs with
  | nil => intro o w0 w h _; exact h
  | cons v vs ih => intro o w0 w h hq; exact ih _ _ _ (h.setCell ⟨q, o, none⟩ v hq) hq
theorem run_clear_zero {P : Program} (w : World) (t e ty : TypeId) (z : Value) (ht : P.underlying t = some (.slice e)) (hv : ∀ w, (zeroValue e).run P w = .ok z w) (a : Option Addr) (c : Nat) :
    (Builtin.clear_ #[t] ty #[.slice a 0 c]).run P w = .ok (.tuple #[]) w := by
  cases a <;> simp [Builtin.clear_, run_underlying ht, hv, Builtin.zeroCells]
end Go.Proofs.Ythggdemiddjlgaa

namespace Go.Proofs.Ythggdemiddjlgaa
open Go.RowKit

theorem splice_set_in {α : Type} (B L : List α) (t k : Nat) (v : α) (h : t + L.length ≤ B.length) (hk : k < L.length) : (splice B t L).set (t + k) v = splice B t (L.set k v) := by
  apply List.ext_getElem?
  intro i
  rw [List.getElem?_set, splice_get? _ _ _ h, splice_get? _ _ _ (by simpa using h), length_splice _ _ _ h, List.length_set, List.getElem?_set]
  by_cases h1 : i < t
  · rw [if_neg (by omega), if_pos h1, if_pos h1]
  · by_cases h2 : t + k = i
    · subst h2
      rw [if_pos rfl, if_pos (by omega), if_neg h1, if_pos (by omega), if_pos (by omega), if_pos (by omega)]
    · rw [if_neg h2, if_neg h1, if_neg h1]
      by_cases h3 : i < t + L.length
      · rw [if_pos h3, if_pos h3, if_neg (by omega)]
      · rw [if_neg h3, if_neg h3]
theorem fill_step (n k : Nat) (v : Int) (hk : k < n) : (List.replicate k v ++ List.replicate (n - k) 0).set k v = List.replicate (k + 1) v ++ List.replicate (n - (k + 1)) (0 : Int) := by
  have e : n - k = (n - (k + 1)) + 1 := by omega
  rw [e, List.replicate_succ, List.set_append, if_neg (by simp)]
  simp [List.replicate_succ']
theorem fill_len (n k : Nat) (v : Int) (hk : k ≤ n) : (List.replicate k v ++ List.replicate (n - k) 0).length = n := by simp; omega
theorem fill_bts (n k : Nat) (v : Int) (hv : 0 ≤ v ∧ v ≤ 255) : Bts (List.replicate k v ++ List.replicate (n - k) 0) := fun b hb => by
  rw [List.mem_append, List.mem_replicate, List.mem_replicate] at hb
  rcases hb with ⟨_, h⟩ | ⟨_, h⟩ <;> rw [h] <;> omega
theorem Mo.setb {w : World} {p q c k : Nat} {l : Lim} {B : List Int} {v : Int} (h : Mo w p q c l B) (hk : k < B.length) (hv : 0 ≤ v ∧ v ≤ 255) : Mo (w.setCell ⟨q, k, none⟩ (.int .u8 v)) p q c l (B.set k v) := by
  refine ⟨?_, ?_, fun b hb => ?_⟩
  · have := h.hp.far (p := ⟨q, k, none⟩) h.ne (.int .u8 v)
    rwa [List.length_set]
  · have := h.own.set_ k (.int .u8 v)
    rw [show (Ks .u8 B).set k (.int .u8 v) = Ks .u8 (B.set k v) by simp [Ks]] at this
    exact this
  · rcases List.mem_or_eq_of_mem_set hb with hb | hb
    · exact h.bts b hb
    · rw [hb]; exact hv
theorem zU8 : ∀ w, (zeroValue 5).run Try.prog w = .ok (.int .u8 0) w := fun _ => by kernel_rfl
end Go.Proofs.Ythggdemiddjlgaa

namespace Go.Proofs.Ythggdemiddjlgaa
open Go.RowKit

theorem run_app_fit {P : Program} (w : World) (t tn ty e : TypeId) (i : TypeInfo) (z : Value) (kq kn : IntKind) (ht : P.underlying t = some (.slice e)) (htn : P.underlying tn = some (.int kn)) (hi : P.info? e = some i) (hz : i.zero = some z) (hs : i.size = 1) (hzc : z.cells = #[z]) (h1 : z.oneCell' = true)
    (q sLen sCap k : Nat) (h0 : 0 < k) (hfit : sLen + k ≤ sCap) (h63 : ((sLen + k : Nat) : Int) ≤ 9223372036854775807) (h48 : k * i.bytes ≤ 281474976710656)
    (hc : ∀ j, j < k → (w.cell? ⟨q, sLen + j, none⟩).isSome = true) (hf : ∀ j, j < k → w.frozen? ⟨q, sLen + j, none⟩ = false) :
    (Builtin.append_ #[t, tn] ty #[.slice (some ⟨q, 0, none⟩) sLen sCap, .int kq k]).run P w = .ok (.slice (some ⟨q, 0, none⟩) (sLen + k) sCap) (w.setCells q sLen (List.replicate k z)) := by
  have hk : k ≠ 0 := by omega
  have hw : IntKind.i64.wrap (k : Int) = k := by rw [IntKind.wrap_i64]; omega
  have h63' : ¬ (9223372036854775807 < ((sLen : Int) + (k : Int))) := by omega
  have h48i : ¬ (281474976710656 < (k : Int) * (i.bytes : Int)) := by
    rw [← Int.natCast_mul]
    omega
  have hneg : ¬ ((k : Int) < 0) := by omega
  have hzl : (Builtin.zeroCells z.cells k).toList = List.replicate k z := by
    rw [hzc]
    simp [Builtin.zeroCells]
    apply List.ext_getElem
    · simp
    · intro i h1 h2
      simp [Nat.mod_one]
  have hst := run_storeCells_cells (P := P) q sLen (List.replicate k z) 0 w (by simpa using hc) (by simpa using hf) (by intro v hv'; rw [List.eq_of_mem_replicate hv']; exact h1)
  simp only [Nat.add_zero] at hst
  simp [Builtin.append_, run_underlying ht, run_underlying htn, sizeOf, typeInfo, zeroValue, hi, hz, asInt, asIntOf, hw, hfit, hneg, h63', h48i, hs, hk, hzl]
  rw [add_lit', Nat.zero_add, hst]; rfl
theorem run_app_none0 {P : Program} (w : World) (t tn ty e : TypeId) (i : TypeInfo) (z : Value) (kq kn : IntKind) (ht : P.underlying t = some (.slice e)) (htn : P.underlying tn = some (.int kn)) (hi : P.info? e = some i) (hz : i.zero = some z)
    (a : Option Addr) (sLen sCap : Nat) (hfit : sLen ≤ sCap) (h63 : (sLen : Int) ≤ 9223372036854775807) :
    (Builtin.append_ #[t, tn] ty #[.slice a sLen sCap, .int kq 0]).run P w = .ok (.slice a sLen sCap) w := by
  have hw : IntKind.i64.wrap (0 : Int) = 0 := by decide
  cases a <;> simp [Builtin.append_, run_underlying ht, run_underlying htn, sizeOf, typeInfo, zeroValue, hi, hz, asInt, asIntOf, hw, hfit, Builtin.zeroCells, storeCells]
theorem owns_rebase {w : World} {base q n c : Nat} {e : TypeId} {xs : List Value} (h : w.ownsRow 0 e 1 (.slice (some ⟨q, 0, none⟩) n c) n xs) (hq : base ≤ q) : w.ownsRow base e 1 (.slice (some ⟨q, 0, none⟩) n c) n xs := by
  refine ⟨h.1, ?_⟩
  rcases h.2 with ⟨h', _⟩ | ⟨g, cap, cur, e1, _, rest⟩
  · cases h'
  · injection e1 with e2 _ e3
    injection e2 with e2
    injection e2 with e2
    subst e2 e3
    exact .inr ⟨q, c, cur, rfl, hq, rest⟩
theorem own_long {w : World} {q c k : Nat} {e : TypeId} {xs : List Value} (h : Own w q e c xs) (hk : xs.length + k ≤ c) : ∃ ys, ys.length = k ∧ Own w q e c (xs ++ ys) := by
  obtain ⟨cur, hb, h1, h2, h3, h4⟩ := h.cur
  refine ⟨(cur.toList.drop xs.length).take k, by simp; omega, Own.mk hb (by simp; omega) h2 h3 ?_⟩
  have e1 : (xs ++ (cur.toList.drop xs.length).take k).length = xs.length + k := by simp; omega
  rw [e1, List.take_add, h4]
theorem own_zeros {P : Program} {t tn e : TypeId} {z : Value} {kn : IntKind} {bytes : Nat} (E : ElemOk P t e 1 bytes z) (htn : P.underlying tn = some (.int kn)) (hzc : z.cells = #[z]) (hz1 : z.oneCell' = true) (w : World) (ty : TypeId) (kq : IntKind) {q c : Nat} {xs : List Value} (k : Nat) (hown : Own w q e c xs) (hx : xs.length ≤ 1000000) (hk : k ≤ 1000000) (hb : bytes ≤ 64) :
    ∃ (q' c' : Nat) (w' : World), (Builtin.append_ #[t, tn] ty #[.slice (some ⟨q, 0, none⟩) xs.length c, .int kq (k : Int)]).run P w = .ok (.slice (some ⟨q', 0, none⟩) (xs.length + k) c') w' ∧ Own w' q' e c' (xs ++ List.replicate k z) ∧ Fr (One q) w w' ∧ (q' = q ∨ q' = w.heap.size) := by
  obtain ⟨i, hi, hz0, hs, hbb⟩ := E.info
  obtain ⟨cur, hbk, l1, l2, l3, l4⟩ := hown.cur
  have hkb : k * i.bytes ≤ 281474976710656 := by rw [hbb]; exact Nat.le_trans (Nat.mul_le_mul hk hb) (by decide)
  rcases Nat.eq_zero_or_pos k with h0 | h0
  · subst h0
    exact ⟨q, c, w, run_app_none0 w t tn ty e i z kq kn E.slice htn hi hz0 _ _ _ l1 (by omega), by simpa using hown, Fr.refl _ _, .inl rfl⟩
  · by_cases hfit : xs.length + k ≤ c
    · obtain ⟨ys, hy, ho⟩ := own_long hown hfit
      have hlen : (xs ++ ys).length = xs.length + k := by simp [hy]
      have hrun := run_app_fit (P := P) w t tn ty e i z kq kn E.slice htn hi hz0 hs hzc hz1 q xs.length c k h0 hfit (by omega) hkb
        (fun j hj => by rw [ho.cell (xs.length + j) (by rw [hlen]; omega)]; rfl) (fun j _ => ho.frozen (xs.length + j))
      have h2 := own_setCells (List.replicate k z) xs.length w (xs ++ ys) ho (by rw [hlen]; simp)
      have e2 : splice (xs ++ ys) xs.length (List.replicate k z) = xs ++ List.replicate k z := by
        rw [splice, List.take_left, List.length_replicate, List.drop_eq_nil_of_le (by omega), List.append_nil]
      rw [e2] at h2
      exact ⟨q, c, _, hrun, h2, fr_setCells _ _ _ _ (Fr.refl _ w) (fun _ => rfl), .inl rfl⟩
    · have hcells : ∀ j v, xs[j]? = some v → w.drew.cell? ((⟨q, 0, none⟩ : Addr).add j) = some v := fun j v hv => by
        rw [add_lit', Nat.zero_add]
        obtain ⟨hj, rfl⟩ := List.getElem?_eq_some_iff.1 hv
        exact hown.cell j hj
      have hold := run_firstCells_some (P := P) (w := w.drew) i.size xs.length ⟨q, 0, none⟩ xs.length c xs (by rw [hs, Nat.mul_one]) hcells
      have hrun := Go.Lib.run_append_grow_zeros (P := P) w t tn ty e i z kq kn E.slice htn hi hz0 (some ⟨q, 0, none⟩) xs.length c xs hold k h0 (by rw [hs]; omega) (by omega) (by omega) hkb
        (growslice_fits (by omega) (by rw [hbb]; exact Nat.le_trans (Nat.mul_le_mul (show xs.length + k ≤ 2000000 by omega) hb) (by decide)))
      have hzl : ∀ m, (Builtin.zeroCells z.cells m) = (List.replicate m z).toArray := fun m => by
        rw [hzc]
        apply Array.ext'
        simp [Builtin.zeroCells]
        apply List.ext_getElem
        · simp
        · intro i h1 h2
          simp [Nat.mod_one]
      rw [hzl, hzl] at hrun
      have hge := grownCap_ge w (xs.length + k) c e
      have hle := grownCap_le_maxLen w (xs.length + k) c e (by simp only [maxLen]; omega)
      refine ⟨w.heap.size, _, _, hrun, Own.mk (Blk.new w.drew e _) (by simp; omega) hle (by simp; omega) ?_, (Fr.refl _ w).drew.alloc _, .inr rfl⟩
      have e3 : (xs ++ List.replicate k z).length = xs.length + k := by simp
      rw [e3]
      simp only [List.append_toArray]
      rw [List.take_append_of_le_length (by simp), List.take_of_length_le (by simp)]
end Go.Proofs.Ythggdemiddjlgaa

namespace Go.Proofs.Ythggdemiddjlgaa
open Go.RowKit

theorem opwp_app0 {P : Program} {t tn e : TypeId} {z : Value} {kn kq : IntKind} {bytes : Nat} {w : World} {o : Oper} {a : Act} {K : Act → World → Prop} {Q : Exit → Act → World → Prop} {s x : Operand} {q c n k : Nat} {xs : List Value} (E : ElemOk P t e 1 bytes z) (htn : P.underlying tn = some (.int kn)) (hzc : z.cells = #[z]) (hz1 : z.oneCell' = true)
    (ho : o.op = .call { callee := .builtin .append, args := #[s, x], argTypes := #[t, tn] })
    (hs : a.eval s = .slice (some ⟨q, 0, none⟩) n c) (hx : a.eval x = .int kq (k : Int)) (hown : Own w q e c xs) (hn : xs.length = n) (hl : xs.length ≤ 1000000) (hk : k ≤ 1000000) (hb : bytes ≤ 64)
    (h : ∀ (q' c' : Nat) (w' : World), Own w' q' e c' (xs ++ List.replicate k z) → Fr (One q) w w' → (q' = q ∨ q' = w.heap.size) → K (a.put o.dst (.slice (some ⟨q', 0, none⟩) (xs.length + k) c')) w') : o.wp P a w K Q := by
  subst hn
  obtain ⟨q', c', w', hrun, h2, h3, h4⟩ := own_zeros E htn hzc hz1 w o.type kq k hown hl hk hb
  unfold Oper.wp execOp
  simp only [ho, resolve, invoke, builtin, Sem.run_bind, Sem.run_pure, Result.andThen_ok, List.map_toArray, List.map_cons, List.map_nil, hs, hx, hrun]
  exact h q' c' w' h2 h3 h4
def most (l : Lim) : Int := if l.has then l.max else 256
def growR (l : Lim) (B : List Int) (m : Nat) : List Int × Int := if (m : Int) ≤ most l - (B.length / 256 : Nat) then (B ++ List.replicate (m * 256) 0, ((B.length / 256 : Nat) : Int)) else (B, 4294967295)
def MgTo (p q : Nat) (l : Lim) (B : List Int) (r : Int) (w : World) (e : Ending) (w' : World) : Prop :=
  e = .returned (.int .u64 r) ∧ ∃ q' c', Mo w' p q' c' l B ∧ Fr (Two p q) w w' ∧ (q' = q ∨ w.heap.size ≤ q')
end Go.Proofs.Ythggdemiddjlgaa

namespace Go.Proofs.Ythggdemiddjlgaa
open Go.RowKit

theorem row_zeros {P : Program} {t tn e : TypeId} {z : Value} {kn : IntKind} {bytes base : Nat} (E : ElemOk P t e 1 bytes z) (htn : P.underlying tn = some (.int kn)) (hzc : z.cells = #[z]) (hz1 : z.oneCell' = true) (w : World) (ty : TypeId) (kq : IntKind) {v : Value} {xs : List Value} (k : Nat) (hown : w.ownsRow base e 1 v xs.length xs) (hx : xs.length ≤ 1000000) (hk : k ≤ 1000000) (hb : bytes ≤ 64) (hbase : base ≤ w.heap.size) :
    ∃ (v' : Value) (w' : World), (Builtin.append_ #[t, tn] ty #[v, .int kq (k : Int)]).run P w = .ok v' w' ∧ w'.ownsRow base e 1 v' (xs.length + k) (xs ++ List.replicate k z) ∧ Fr (fun i => some i = v.ownBlock) w w' := by
  rcases hown.2 with ⟨rfl, h0⟩ | ⟨g, cap, cur, rfl, hg, rest⟩
  · have hxs : xs = [] := List.eq_nil_of_length_eq_zero h0
    subst hxs
    obtain ⟨i, hi, hz0, hs, hbb⟩ := E.info
    rcases Nat.eq_zero_or_pos k with hk0 | hk0
    · subst hk0
      exact ⟨.slice none 0 0, w, run_app_none0 w t tn ty e i z kq kn E.slice htn hi hz0 none 0 0 (by omega) (by decide), by simpa using hown, Fr.refl _ _⟩
    · have hkb : k * i.bytes ≤ 281474976710656 := by rw [hbb]; exact Nat.le_trans (Nat.mul_le_mul hk hb) (by decide)
      have hrun := Go.Lib.run_append_nil_zeros (P := P) w t tn ty e i z kq kn E.slice htn hi hz0 k hk0 (by rw [hs]; omega) (by omega) hkb
      have hzl : ∀ m, (Builtin.zeroCells z.cells m) = (List.replicate m z).toArray := fun m => by
        rw [hzc]
        apply Array.ext'
        simp [Builtin.zeroCells]
        apply List.ext_getElem
        · simp
        · intro i h1 h2
          simp [Nat.mod_one]
      rw [hzl, hzl] at hrun
      have hge := grownCap_ge w k 0 e
      have hle := grownCap_le_maxLen w k 0 e (by simp only [maxLen]; omega)
      refine ⟨_, _, hrun, ?_, (Fr.refl _ w).drew.alloc _⟩
      have ho : Own (w.drew.alloc (.cells ((List.replicate k z).toArray ++ (List.replicate (grownCap w k 0 e - k) z).toArray) e)) w.heap.size e (grownCap w k 0 e) (List.replicate k z) := by
        refine Own.mk (Blk.new w.drew e _) (by simp; omega) hle (by simp; omega) ?_
        simp only [List.length_replicate, List.append_toArray]
        rw [List.take_append_of_le_length (by simp), List.take_of_length_le (by simp)]
      have := owns_rebase (base := base) ho hbase
      simpa using this
  · have ho : Own w g e cap xs := by
      have := hown
      refine ⟨this.1, .inr ⟨g, cap, cur, rfl, Nat.zero_le _, rest⟩⟩
    obtain ⟨q', c', w', hrun, h2, h3, h4⟩ := own_zeros E htn hzc hz1 w ty kq k ho hx hk hb
    refine ⟨_, w', hrun, ?_, h3.mono (fun i _ h => by simp only [One] at h; simp [Value.ownBlock, h])⟩
    have hq : base ≤ q' := by rcases h4 with h | h <;> omega
    have := owns_rebase (base := base) h2 hq
    simpa using this
theorem wpList_app0 {P : Program} {t tn e : TypeId} {z : Value} {kn kq : IntKind} {bytes base : Nat} {w : World} {ops : Array Oper} {rest : List Oper} {o : Oper} {a : Act} {Q : Exit → Act → World → Prop} {s x : Operand} {v : Value} {k : Nat} {xs : List Value} (E : ElemOk P t e 1 bytes z) (htn : P.underlying tn = some (.int kn)) (hzc : z.cells = #[z]) (hz1 : z.oneCell' = true) (hgd : o.guard = none)
    (ho : o.op = .call { callee := .builtin .append, args := #[s, x], argTypes := #[t, tn] })
    (hs : a.eval s = v) (hx : a.eval x = .int kq (k : Int)) (hown : w.ownsRow base e 1 v xs.length xs) (hl : xs.length ≤ 1000000) (hk : k ≤ 1000000) (hb : bytes ≤ 64) (hbase : base ≤ w.heap.size)
    (h : ∀ (v' : Value) (w' : World), w'.ownsRow base e 1 v' (xs.length + k) (xs ++ List.replicate k z) → Fr (fun i => some i = v.ownBlock) w w' → wpList P ops Q rest (a.put o.dst v') w') : wpList P ops Q (o :: rest) a w := by
  refine wpList_plain hgd fun K hK => ?_
  obtain ⟨v', w', hrun, h2, h3⟩ := row_zeros E htn hzc hz1 w o.type kq k hown hl hk hb hbase
  unfold Oper.wp execOp
  simp only [ho, resolve, invoke, builtin, Sem.run_bind, Sem.run_pure, Result.andThen_ok, List.map_toArray, List.map_cons, List.map_nil, hs, hx, hrun]
  exact hK _ _ (h v' w' h2 h3)
def RgTo (l : Lim) (A0 : Option Addr) (B0 B : List Int) (r : Int) (w : World) (e : Ending) (w' : World) : Prop :=
  ∃ (A : Option Addr) (c : Nat), e = .returned (.tuple #[.agg #[.int .i64 l.min, .int .i64 l.max, .bool l.has, .slice A B.length c], .int .u64 r]) ∧ RmIn w' A c B ∧ ((A = A0 ∧ B = B0) ∨ ∀ q o, A = some ⟨q, o, none⟩ → w.heap.size ≤ q) ∧ Fr No w w'
end Go.Proofs.Ythggdemiddjlgaa

namespace Go.Proofs.Ythggdemiddjlgaa
open Go.RowKit

def validB (l : Lim) : Bool := decide (0 ≤ l.min ∧ l.min ≤ 256 ∧ (l.has = true → l.min ≤ l.max ∧ l.max ≤ 256) ∧ (l.has = false → l.max = 0))
def NewTo (l : Lim) (w : World) (e : Ending) (w' : World) : Prop :=
  if validB l = true then ∃ p q c, e = .returned (.pointer (some ⟨p, 0, none⟩)) ∧ Mo w' p q c l (List.replicate (l.min.toNat * 256) 0) ∧ w.heap.size ≤ p ∧ w.heap.size ≤ q ∧ Fr No w w'
  else e = .returned (.pointer none) ∧ Fr No w w'
set_option maxRecDepth 100000 in
set_option maxHeartbeats 1600000 in
theorem new_any (l : Lim) (w : World) : Calls Try.prog 18 #[.agg #[.int .i64 l.min, .int .i64 l.max, .bool l.has]] w (NewTo l w) := by
  have F0 := hid ((Fr.refl No w).alloc (.cells #[.int .i64 l.min, .int .i64 l.max, .bool l.has] 43))
  have G0 := hid (Blk.new w 43 #[.int .i64 l.min, .int .i64 l.max, .bool l.has])
  cases hv : validB l with
  | true =>
    have hV := of_decide_eq_true hv
    obtain ⟨v1, v2, v3, v4⟩ := hV
    obtain ⟨mn, hmn⟩ : ∃ mn : Nat, l.min = mn := ⟨l.min.toNat, by omega⟩
    have hto : l.min.toNat = mn := by omega
    unfold NewTo
    rw [hv, hto]
    simp only [if_true]
    cases hh : l.has with
    | true =>
      have v3 := v3 hh
      rw [hh] at F0 G0
      rw [hmn] at F0 G0 v1 v2 v3 ⊢
      clear v4 hv
      generalize hmx : l.max = mx at *
      have hmk : ∀ W, (Instr.makeSlice 125 (.int .i64 ((mn : Int) * 256)) (.int .i64 ((mn : Int) * 256))).run Try.prog W = .ok (.slice (some ⟨W.heap.size, 0, none⟩) (mn * 256) (mn * 256)) (W.alloc (.cells (Array.replicate (mn * 256) (.int .u8 0)) 5)) := fun W => by
        have h := run_mk elBs rfl W .i64 .i64 (mn * 256) (by omega) (by omega)
        rw [show ((mn * 256 : Nat) : Int) = (mn : Int) * 256 by omega] at h
        exact h
      have hw1 : IntKind.i64.wrap ((mn : Int) * 256) = (mn : Int) * 256 := by rw [IntKind.wrap_i64]; omega
      go_enter Try.func18, Try.ntmps18
      go_wp2_with fail
      generalize w.alloc (.cells #[.int .i64 mn, .int .i64 mx, .bool true] 43) = W at *
      have HX : Hid (∀ X, Fr No W X → X.cell? ⟨w.heap.size, 0, none⟩ = some (.int .i64 mn) ∧ X.cell? ⟨w.heap.size, 1, none⟩ = some (.int .i64 mx) ∧ X.cell? ⟨w.heap.size, 2, none⟩ = some (.bool true)) := fun X f => ⟨(G0.out.fr f (fun x => x)).cell 0, (G0.out.fr f (fun x => x)).cell 1, (G0.out.fr f (fun x => x)).cell 2⟩
      refine wp_region_ord (fun X => X.cell? ⟨w.heap.size, 0, none⟩ = some (.int .i64 mn) ∧ X.cell? ⟨w.heap.size, 1, none⟩ = some (.int .i64 mx) ∧ X.cell? ⟨w.heap.size, 2, none⟩ = some (.bool true)) [] [(0, true), (1, true), (2, true), (3, true), (4, false), (5, true), (6, false), (7, true)] (by kernel_rfl) (by kernel_rfl) (by kernel_rfl) rfl (HX.out _ (Fr.refl _ _).drew) ?_
      repeat (first
        | (refine wpO_skip rfl rfl ?_; simp only [List.getElem_toArray, List.getElem_cons_succ, List.getElem_cons_zero, Act.put, List.setIfInBounds_toArray, List.set_cons_zero, List.set_cons_succ])
        | (refine wpO_call rfl rfl ?_; simp only [List.getElem_toArray, List.getElem_cons_succ, List.getElem_cons_zero]; apply Exists.intro; refine ⟨fun X hX => ?_, ?_⟩
           · (have s0 := hX.1; have s1 := hX.2.1; have s2 := hX.2.2; go_simp; exact stillUpon_value)
           simp only [Act.put, List.setIfInBounds_toArray, List.set_cons_zero, List.set_cons_succ]))
      refine wpO_eff rfl rfl (fun K hK => ?_)
      simp only [List.getElem_toArray, List.getElem_cons_succ, List.getElem_cons_zero]
      go_simp
      have FB := hid ((Fr.refl No W).alloc (.cells (Array.replicate (mn * 256) (.int .u8 0)) 5)).drew
      have GB : Hid (Own (W.alloc (.cells (Array.replicate (mn * 256) (.int .u8 0)) 5)).drew W.heap.size 5 (mn * 256) (List.replicate (mn * 256) (.int .u8 0))) := own_mk W 5 (.int .u8 0) (mn * 256) (by omega)
      have hWs := F0.out.size
      clear hmk
      obtain ⟨qb, hqb⟩ : ∃ z, z = W.heap.size := ⟨_, rfl⟩
      have HQB := hid hqb
      rw [← hqb] at GB ⊢
      clear hqb
      generalize (W.alloc (.cells (Array.replicate (mn * 256) (.int .u8 0)) 5)).drew = W2 at *
      refine hK _ _ (fun _ => HX.out _ FB.out) ?_
      clear hK K
      repeat (first
        | (refine wpO_skip rfl rfl ?_; simp only [List.getElem_toArray, List.getElem_cons_succ, List.getElem_cons_zero, Act.put, List.setIfInBounds_toArray, List.set_cons_zero, List.set_cons_succ])
        | (refine wpO_call rfl rfl ?_; simp only [List.getElem_toArray, List.getElem_cons_succ, List.getElem_cons_zero]; apply Exists.intro; refine ⟨fun X hX => ?_, ?_⟩
           · (have s0 := hX.1; have s1 := hX.2.1; have s2 := hX.2.2; go_simp; exact stillUpon_value)
           simp only [Act.put, List.setIfInBounds_toArray, List.set_cons_zero, List.set_cons_succ]))
      refine wpO_eff rfl rfl (fun K hK => ?_)
      simp only [List.getElem_toArray, List.getElem_cons_succ, List.getElem_cons_zero]
      go_simp
      refine hK _ _ (fun _ => HX.out _ (FB.out.alloc _)) ?_
      clear hK K
      repeat (first
        | (refine wpO_skip rfl rfl ?_; simp only [List.getElem_toArray, List.getElem_cons_succ, List.getElem_cons_zero, Act.put, List.setIfInBounds_toArray, List.set_cons_zero, List.set_cons_succ])
        | (refine wpO_call rfl rfl ?_; simp only [List.getElem_toArray, List.getElem_cons_succ, List.getElem_cons_zero]; apply Exists.intro; refine ⟨fun X hX => ?_, ?_⟩
           · (have s0 := hX.1; have s1 := hX.2.1; have s2 := hX.2.2; go_simp; exact stillUpon_value)
           simp only [Act.put, List.setIfInBounds_toArray, List.set_cons_zero, List.set_cons_succ]))
      refine wpO_nil ?_
      go_wp2
      go_ret
      have hM : Mo (W2.alloc (.cells #[.int .i64 mn, .int .i64 mx, .bool true, .slice (some ⟨qb, 0, none⟩) (mn * 256) (mn * 256)] 127)) W2.heap.size qb (mn * 256) l (List.replicate (mn * 256) 0) := by
        refine ⟨?_, ?_, zeros_bts _⟩
        · rw [hmn, hmx, hh]
          have := Blk.new W2 127 #[.int .i64 mn, .int .i64 mx, .bool true, .slice (some ⟨qb, 0, none⟩) (mn * 256) (mn * 256)]
          simpa using this
        · have := GB.out.fr ((Fr.refl No W2).alloc (.cells #[.int .i64 mn, .int .i64 mx, .bool true, .slice (some ⟨qb, 0, none⟩) (mn * 256) (mn * 256)] 127)) (fun x => x)
          rw [show Ks .u8 (List.replicate (mn * 256) 0) = List.replicate (mn * 256) (Value.int .u8 0) by simp [Ks]]
          exact this
      exact ⟨_, _, _, rfl, hM, Nat.le_trans hWs FB.out.size, by rw [HQB.out]; exact hWs, (F0.out.trans FB.out (fun _ _ h => h)).alloc _⟩
    | false =>
      have v4 := v4 hh
      rw [hh, v4] at F0 G0
      rw [hmn] at F0 G0 v1 v2 ⊢
      rw [v4]
      have hmx := v4
      clear v3 hv
      have hmk : ∀ W, (Instr.makeSlice 125 (.int .i64 ((mn : Int) * 256)) (.int .i64 ((mn : Int) * 256))).run Try.prog W = .ok (.slice (some ⟨W.heap.size, 0, none⟩) (mn * 256) (mn * 256)) (W.alloc (.cells (Array.replicate (mn * 256) (.int .u8 0)) 5)) := fun W => by
        have h := run_mk elBs rfl W .i64 .i64 (mn * 256) (by omega) (by omega)
        rw [show ((mn * 256 : Nat) : Int) = (mn : Int) * 256 by omega] at h
        exact h
      have hw1 : IntKind.i64.wrap ((mn : Int) * 256) = (mn : Int) * 256 := by rw [IntKind.wrap_i64]; omega
      go_enter Try.func18, Try.ntmps18
      go_wp2_with fail
      generalize w.alloc (.cells #[.int .i64 mn, .int .i64 0, .bool false] 43) = W at *
      have HX : Hid (∀ X, Fr No W X → X.cell? ⟨w.heap.size, 0, none⟩ = some (.int .i64 mn) ∧ X.cell? ⟨w.heap.size, 1, none⟩ = some (.int .i64 0) ∧ X.cell? ⟨w.heap.size, 2, none⟩ = some (.bool false)) := fun X f => ⟨(G0.out.fr f (fun x => x)).cell 0, (G0.out.fr f (fun x => x)).cell 1, (G0.out.fr f (fun x => x)).cell 2⟩
      refine wp_region_ord (fun X => X.cell? ⟨w.heap.size, 0, none⟩ = some (.int .i64 mn) ∧ X.cell? ⟨w.heap.size, 1, none⟩ = some (.int .i64 0) ∧ X.cell? ⟨w.heap.size, 2, none⟩ = some (.bool false)) [] [(0, true), (1, true), (2, true), (3, true), (4, false), (5, true), (6, false), (7, true)] (by kernel_rfl) (by kernel_rfl) (by kernel_rfl) rfl (HX.out _ (Fr.refl _ _).drew) ?_
      repeat (first
        | (refine wpO_skip rfl rfl ?_; simp only [List.getElem_toArray, List.getElem_cons_succ, List.getElem_cons_zero, Act.put, List.setIfInBounds_toArray, List.set_cons_zero, List.set_cons_succ])
        | (refine wpO_call rfl rfl ?_; simp only [List.getElem_toArray, List.getElem_cons_succ, List.getElem_cons_zero]; apply Exists.intro; refine ⟨fun X hX => ?_, ?_⟩
           · (have s0 := hX.1; have s1 := hX.2.1; have s2 := hX.2.2; go_simp; exact stillUpon_value)
           simp only [Act.put, List.setIfInBounds_toArray, List.set_cons_zero, List.set_cons_succ]))
      refine wpO_eff rfl rfl (fun K hK => ?_)
      simp only [List.getElem_toArray, List.getElem_cons_succ, List.getElem_cons_zero]
      go_simp
      have FB := hid ((Fr.refl No W).alloc (.cells (Array.replicate (mn * 256) (.int .u8 0)) 5)).drew
      have GB : Hid (Own (W.alloc (.cells (Array.replicate (mn * 256) (.int .u8 0)) 5)).drew W.heap.size 5 (mn * 256) (List.replicate (mn * 256) (.int .u8 0))) := own_mk W 5 (.int .u8 0) (mn * 256) (by omega)
      have hWs := F0.out.size
      clear hmk
      obtain ⟨qb, hqb⟩ : ∃ z, z = W.heap.size := ⟨_, rfl⟩
      have HQB := hid hqb
      rw [← hqb] at GB ⊢
      clear hqb
      generalize (W.alloc (.cells (Array.replicate (mn * 256) (.int .u8 0)) 5)).drew = W2 at *
      refine hK _ _ (fun _ => HX.out _ FB.out) ?_
      clear hK K
      repeat (first
        | (refine wpO_skip rfl rfl ?_; simp only [List.getElem_toArray, List.getElem_cons_succ, List.getElem_cons_zero, Act.put, List.setIfInBounds_toArray, List.set_cons_zero, List.set_cons_succ])
        | (refine wpO_call rfl rfl ?_; simp only [List.getElem_toArray, List.getElem_cons_succ, List.getElem_cons_zero]; apply Exists.intro; refine ⟨fun X hX => ?_, ?_⟩
           · (have s0 := hX.1; have s1 := hX.2.1; have s2 := hX.2.2; go_simp; exact stillUpon_value)
           simp only [Act.put, List.setIfInBounds_toArray, List.set_cons_zero, List.set_cons_succ]))
      refine wpO_eff rfl rfl (fun K hK => ?_)
      simp only [List.getElem_toArray, List.getElem_cons_succ, List.getElem_cons_zero]
      go_simp
      refine hK _ _ (fun _ => HX.out _ (FB.out.alloc _)) ?_
      clear hK K
      repeat (first
        | (refine wpO_skip rfl rfl ?_; simp only [List.getElem_toArray, List.getElem_cons_succ, List.getElem_cons_zero, Act.put, List.setIfInBounds_toArray, List.set_cons_zero, List.set_cons_succ])
        | (refine wpO_call rfl rfl ?_; simp only [List.getElem_toArray, List.getElem_cons_succ, List.getElem_cons_zero]; apply Exists.intro; refine ⟨fun X hX => ?_, ?_⟩
           · (have s0 := hX.1; have s1 := hX.2.1; have s2 := hX.2.2; go_simp; exact stillUpon_value)
           simp only [Act.put, List.setIfInBounds_toArray, List.set_cons_zero, List.set_cons_succ]))
      refine wpO_nil ?_
      go_wp2
      go_ret
      have hM : Mo (W2.alloc (.cells #[.int .i64 mn, .int .i64 0, .bool false, .slice (some ⟨qb, 0, none⟩) (mn * 256) (mn * 256)] 127)) W2.heap.size qb (mn * 256) l (List.replicate (mn * 256) 0) := by
        refine ⟨?_, ?_, zeros_bts _⟩
        · rw [hmn, hmx, hh]
          have := Blk.new W2 127 #[.int .i64 mn, .int .i64 0, .bool false, .slice (some ⟨qb, 0, none⟩) (mn * 256) (mn * 256)]
          simpa using this
        · have := GB.out.fr ((Fr.refl No W2).alloc (.cells #[.int .i64 mn, .int .i64 0, .bool false, .slice (some ⟨qb, 0, none⟩) (mn * 256) (mn * 256)] 127)) (fun x => x)
          rw [show Ks .u8 (List.replicate (mn * 256) 0) = List.replicate (mn * 256) (Value.int .u8 0) by simp [Ks]]
          exact this
      exact ⟨_, _, _, rfl, hM, Nat.le_trans hWs FB.out.size, by rw [HQB.out]; exact hWs, (F0.out.trans FB.out (fun _ _ h => h)).alloc _⟩
  | false =>
    have hV := of_decide_eq_false hv
    unfold NewTo
    rw [hv]
    simp only [Bool.false_eq_true, if_false]
    clear hv G0
    generalize l.min = mn at *
    generalize l.max = mx at *
    by_cases h1 : mn < 0
    · clear hV
      go_enter Try.func18, Try.ntmps18
      go_wp2
      go_ret
      exact ⟨rfl, F0.out⟩
    · by_cases h2 : 256 < mn
      · clear hV
        go_enter Try.func18, Try.ntmps18
        go_wp2
        go_ret
        exact ⟨rfl, F0.out⟩
      · cases hh : l.has with
        | true =>
          rw [hh] at F0
          by_cases h3 : mx < mn
          · clear hV
            go_enter Try.func18, Try.ntmps18
            go_wp2
            go_ret
            exact ⟨rfl, F0.out⟩
          · have h4 : 256 < mx := by
              by_cases h5 : 256 < mx
              · exact h5
              · exact absurd ⟨by omega, by omega, fun _ => ⟨by omega, by omega⟩, fun h => by rw [hh] at h; cases h⟩ hV
            clear hV
            go_enter Try.func18, Try.ntmps18
            go_wp2
            go_ret
            exact ⟨rfl, F0.out⟩
        | false =>
          rw [hh] at F0
          have h4 : ¬ mx = 0 := fun h5 => hV ⟨by omega, by omega, (fun h => by rw [hh] at h; cases h), (fun _ => h5)⟩
          have h6 : (mx == 0) = false := by simpa using h4
          have h7 : (mx != 0) = true := by simpa using h4
          clear hV
          go_enter Try.func18, Try.ntmps18
          go_wp2
          go_ret
          exact ⟨rfl, F0.out⟩
end Go.Proofs.Ythggdemiddjlgaa

namespace Go.Proofs.Ythggdemiddjlgaa
open Go.RowKit

def RnTo (l : Lim) (w : World) (e : Ending) (w' : World) : Prop :=
  if validB l = true then ∃ (A : Option Addr) (c : Nat), e = .returned (.tuple #[.agg #[.int .i64 l.min, .int .i64 l.max, .bool l.has, .slice A (l.min.toNat * 256) c], .bool true]) ∧ RmIn w' A c (List.replicate (l.min.toNat * 256) 0) ∧ (∀ q o, A = some ⟨q, o, none⟩ → w.heap.size ≤ q) ∧ Fr No w w'
  else e = .returned (.tuple #[.agg #[.int .i64 0, .int .i64 0, .bool false, .slice none 0 0], .bool false]) ∧ Fr No w w'
end Go.Proofs.Ythggdemiddjlgaa

namespace Go.Proofs.Ythggdemiddjlgaa
open Go.RowKit

set_option maxHeartbeats 800000 in
theorem limits_any (p : Nat) (l : Lim) (v : Value) (w : World) (hb : Blk w p 127 #[.int .i64 l.min, .int .i64 l.max, .bool l.has, v]) :
    Calls Try.prog 41 #[.pointer (some ⟨p, 0, none⟩)] w fun e w' => e = .returned (.agg #[.int .i64 l.min, .int .i64 l.max, .bool l.has]) ∧ Fr No w w' := by
  have F0 := hid ((Fr.refl No w).alloc (.cells #[.int .i64 l.min, .int .i64 l.max, .bool l.has] 43))
  have G := hb.alloc (.cells #[.int .i64 0, .int .i64 0, .bool false] 43)
  have y0 := G.cell 0
  have y1 := G.cell 1
  have y2 := G.cell 2
  have hp := hb.lt
  clear hb G
  go_enter Try.func41, Try.ntmps41
  go_wp2
  exact bodyPost_ret (v := .agg #[.int .i64 l.min, .int .i64 l.max, .bool l.has]) (by simp [results, Try.results41, go_sem]) rfl ⟨rfl, F0.out⟩
theorem limits_nil (w : World) : Calls Try.prog 41 #[.pointer none] w fun e w' => e = .returned (.agg #[.int .i64 0, .int .i64 0, .bool false]) ∧ Fr No w w' := by
  have F0 := hid ((Fr.refl No w).alloc (.cells #[.int .i64 0, .int .i64 0, .bool false] 43))
  go_enter Try.func41, Try.ntmps41
  go_wp2
  exact bodyPost_ret (v := .agg #[.int .i64 0, .int .i64 0, .bool false]) (by simp [results, Try.results41, go_sem]) rfl ⟨rfl, F0.out⟩
end Go.Proofs.Ythggdemiddjlgaa
