/- Contracts: things[T].at. -/
import Derived.Test.YthggdemiddjlgaaStD
namespace Go.Proofs.Ythggdemiddjlgaa
open Go.RowKit

def atD {α : Type} (d : α) (l : List α) (i : Int) : α × Bool := if h : 0 ≤ i ∧ i < l.length then (l[i.toNat]'(by omega), true) else (d, false)
theorem atD_yes {α : Type} {d : α} {l : List α} {k : Nat} (h : k < l.length) : atD d l (k : Int) = (l[k], true) := by
  rw [atD, dif_pos ⟨by omega, by omega⟩]; simp
theorem atD_no {α : Type} {d : α} {l : List α} {i : Int} (h : i < 0 ∨ (l.length : Int) ≤ i) : atD d l i = (d, false) := by
  rw [atD, dif_neg (by omega)]
theorem at_cases {α : Type} (l : List α) (i : Int) : (∃ k : Nat, k < l.length ∧ i = k) ∨ i < 0 ∨ (¬ i < 0 ∧ (l.length : Int) ≤ i) := by
  by_cases h : i < 0
  · exact .inr (.inl h)
  · by_cases h' : i < l.length
    · exact .inl ⟨i.toNat, by omega, by omega⟩
    · exact .inr (.inr ⟨h, by omega⟩)
def AtTo {α : Type} (t : Ty α) (d : α) (S : Nat → Prop) (xs : List α) (i : Int) (w : World) (e : Ending) (w' : World) : Prop :=
  ∃ cs, e = .returned (.tuple #[.agg cs.toArray, .bool (atD d xs i).2]) ∧ t.rd w' S cs (atD d xs i).1 ∧ Fr No w w'
def getI {α : Type} (xs : List α) (i : Int) : Option α := if 0 ≤ i then xs[i.toNat]? else none
theorem getI_yes {α : Type} {xs : List α} {k : Nat} (h : k < xs.length) : getI xs (k : Int) = some xs[k] := by simp [getI, h]
theorem getI_no {α : Type} {xs : List α} {i : Int} (h : i < 0 ∨ (xs.length : Int) ≤ i) : getI xs i = none := by
  unfold getI
  split
  · rw [List.getElem?_eq_none]; omega
  · rfl
def ptrV : Option Nat → Value
  | some p => .pointer (some ⟨p, 0, none⟩)
  | none => .pointer none
def AtPt (xs : List Nat) (i : Int) (w : World) (e : Ending) (w' : World) : Prop := e = .returned (.tuple #[ptrV (getI xs i), .bool (getI xs i).isSome]) ∧ Fr No w w'
theorem pt_at {w : World} {S : Nat → Prop} {A : Option Addr} {l : List Nat} (h : tPt.els w S A l) (i : Nat) (hi : i < l.length) : ∃ (b o : Nat), A = some ⟨b, o, none⟩ ∧ S b ∧ w.cell? ⟨b, o + i, none⟩ = some (.pointer (some ⟨l[i], 0, none⟩)) := by
  obtain ⟨b, o, ds, rfl, hb, hc, hr⟩ := h.at_ i hi
  have hr : ds = [.pointer (some ⟨l[i], 0, none⟩)] := hr
  subst hr
  have := hc 0 _ rfl
  have e : tPt.size = 1 := rfl
  rw [e, Nat.mul_one, Nat.add_zero] at this
  exact ⟨b, o, rfl, hb, this⟩
theorem two_lt {w w' : World} {o1 o2 : Obj} {S : Nat → Prop} (hS : ∀ k, S k → k < w.heap.size) : ∀ k, S k → k < ((w.alloc o1).alloc o2).heap.size := fun k hk => Nat.lt_of_lt_of_le (hS k hk) (((Fr.refl No w).alloc o1).alloc o2).size

def zRs : Rs := ⟨[], false⟩
theorem zRs_rd (w : World) (S : Nat → Prop) : tRs.rd w S [.slice none 0 0, .bool false] zRs := Rs_mk (a := zRs) (Nat.zero_le _) (by simp [maxLen]) (.inl rfl)
def zRb : Rb := ⟨[], false⟩
theorem zRb_rd (w : World) (S : Nat → Prop) : tRb.rd w S [.slice none 0 0, .bool false] zRb := Rb_mk (a := zRb) (Nat.zero_le _) (by simp [maxLen]) (.inl rfl)
def zRg : Rg := ⟨⟨0, false⟩, ⟨0, 0⟩⟩
theorem zRg_rd (w : World) (S : Nat → Prop) : tRg.rd w S [.int .i64 0, .bool false, .int .i64 0, .int .u64 0] zRg := Rg_mk (a := zRg) rfl rfl rfl
set_option maxRecDepth 100000 in
set_option maxHeartbeats 3200000 in
theorem atGg_any (P off : Nat) (A : Option Addr) (c : Nat) (xs : List Rg) (i : Int) (S : Nat → Prop) (w : World) (hc : w.cell? ⟨P, off, none⟩ = some (.slice A xs.length c)) (h : tRg.els w S A xs) (hS : ∀ k, S k → k < w.heap.size) (hl : xs.length ≤ 1000000) :
    Calls Try.prog 59 #[.pointer (some ⟨P, off, none⟩), .int .i64 i] w (AtTo tRg zRg S xs i w) := by
  have F0 := hid (((Fr.refl No w).alloc (.cells #[.int .i64 0, .bool false, .int .i64 0, .int .u64 0] 106)).alloc (.cells #[.int .i64 0, .bool false, .int .i64 0, .int .u64 0] 106))
  have hPl : P < w.heap.size := World.block_lt_of_cell? w _ hc
  unfold AtTo
  rcases at_cases xs i with ⟨k, hk, rfl⟩ | hi | ⟨hi0, hi⟩
  · obtain ⟨b, o, rfl, hb, y0, y1, y2, y3, f0, f1, f2⟩ := Rg_at h k hk
    rw [atD_yes hk]
    have i0 : (0 : Int) ≤ k := by omega
    have i1 : (k : Int) < xs.length := by omega
    have hbl := hS b hb
    have HS := hid hS
    generalize xs[k] = y at *
    clear h hS hb
    have F1 := hid (((Fr.refl No w).alloc (.cells #[.int .i64 y.t.val, .bool y.t.mut_, .int .i64 y.v.t, .int .u64 y.v.n] 106)).alloc (.cells #[.int .i64 0, .bool false, .int .i64 0, .int .u64 0] 106))
    have G1 := hid ((Blk.new w 106 #[.int .i64 y.t.val, .bool y.t.mut_, .int .i64 y.v.t, .int .u64 y.v.n]).alloc (.cells #[.int .i64 0, .bool false, .int .i64 0, .int .u64 0] 106))
    have HR := hid (TyOk.keep (t := tRg) _ _ _ _ _ (Rg_mk f0 f1 f2) (fun p hp => F1.out.cell (HS.out _ hp) (fun x => x)))
    go_enter Try.func59, Try.ntmps59
    go_wp2
    generalize (w.alloc (.cells #[.int .i64 y.t.val, .bool y.t.mut_, .int .i64 y.v.t, .int .u64 y.v.n] 106)).alloc (.cells #[.int .i64 0, .bool false, .int .i64 0, .int .u64 0] 106) = W at *
    have z0 := G1.out.cell 0
    have z1 := G1.out.cell 1
    have z2 := G1.out.cell 2
    have z3 := G1.out.cell 3
    exact bodyPost_ret (v := .tuple #[.agg #[.int .i64 y.t.val, .bool y.t.mut_, .int .i64 y.v.t, .int .u64 y.v.n], .bool true]) (by simp [results, Try.results59, go_sem, z0, z1, z2, z3]) rfl ⟨[.int .i64 y.t.val, .bool y.t.mut_, .int .i64 y.v.t, .int .u64 y.v.n], rfl, HR.out, F1.out⟩
  · rw [atD_no (.inl hi)]
    clear h
    go_enter Try.func59, Try.ntmps59
    go_wp2
    have G1 := (Blk.new w 106 #[.int .i64 0, .bool false, .int .i64 0, .int .u64 0]).alloc (.cells #[.int .i64 0, .bool false, .int .i64 0, .int .u64 0] 106)
    generalize (w.alloc (.cells #[.int .i64 0, .bool false, .int .i64 0, .int .u64 0] 106)).alloc (.cells #[.int .i64 0, .bool false, .int .i64 0, .int .u64 0] 106) = W at *
    have z0 := G1.cell 0
    have z1 := G1.cell 1
    have z2 := G1.cell 2
    have z3 := G1.cell 3
    exact bodyPost_ret (v := .tuple #[.agg #[.int .i64 0, .bool false, .int .i64 0, .int .u64 0], .bool false]) (by simp [results, Try.results59, go_sem, z0, z1, z2, z3]) rfl ⟨[.int .i64 0, .bool false, .int .i64 0, .int .u64 0], rfl, zRg_rd _ _, F0.out⟩
  · rw [atD_no (.inr hi)]
    clear h
    go_enter Try.func59, Try.ntmps59
    go_wp2
    have G1 := (Blk.new w 106 #[.int .i64 0, .bool false, .int .i64 0, .int .u64 0]).alloc (.cells #[.int .i64 0, .bool false, .int .i64 0, .int .u64 0] 106)
    generalize (w.alloc (.cells #[.int .i64 0, .bool false, .int .i64 0, .int .u64 0] 106)).alloc (.cells #[.int .i64 0, .bool false, .int .i64 0, .int .u64 0] 106) = W at *
    have z0 := G1.cell 0
    have z1 := G1.cell 1
    have z2 := G1.cell 2
    have z3 := G1.cell 3
    exact bodyPost_ret (v := .tuple #[.agg #[.int .i64 0, .bool false, .int .i64 0, .int .u64 0], .bool false]) (by simp [results, Try.results59, go_sem, z0, z1, z2, z3]) rfl ⟨[.int .i64 0, .bool false, .int .i64 0, .int .u64 0], rfl, zRg_rd _ _, F0.out⟩
def zFi : Fi := ⟨⟨[], []⟩, 0, 0⟩
theorem zFi_rd (w : World) (S : Nat → Prop) : tFi.rd w S [.slice none 0 0, .slice none 0 0, .int .i64 0, .int .i64 0] zFi := Fi_mk (a := zFi) (Nat.zero_le _) (by simp [maxLen]) (.inl rfl) (Nat.zero_le _) (by simp [maxLen]) (.inl rfl) rfl rfl
set_option maxRecDepth 100000 in
set_option maxHeartbeats 3200000 in
theorem atFi_any (P off : Nat) (A : Option Addr) (c : Nat) (xs : List Fi) (i : Int) (S : Nat → Prop) (w : World) (hc : w.cell? ⟨P, off, none⟩ = some (.slice A xs.length c)) (h : tFi.els w S A xs) (hS : ∀ k, S k → k < w.heap.size) (hl : xs.length ≤ 1000000) :
    Calls Try.prog 54 #[.pointer (some ⟨P, off, none⟩), .int .i64 i] w (AtTo tFi zFi S xs i w) := by
  have F0 := hid (((Fr.refl No w).alloc (.cells #[.slice none 0 0, .slice none 0 0, .int .i64 0, .int .i64 0] 134)).alloc (.cells #[.slice none 0 0, .slice none 0 0, .int .i64 0, .int .i64 0] 134))
  have hPl : P < w.heap.size := World.block_lt_of_cell? w _ hc
  unfold AtTo
  rcases at_cases xs i with ⟨k, hk, rfl⟩ | hi | ⟨hi0, hi⟩
  · obtain ⟨b, o, Aty_params, cty_params, Aty_results, cty_results, rfl, hb, y0, y1, y2, y3, f0, f1, f2, f3, f4, f5, f6, f7⟩ := Fi_at h k hk
    rw [atD_yes hk]
    have i0 : (0 : Int) ≤ k := by omega
    have i1 : (k : Int) < xs.length := by omega
    have hbl := hS b hb
    have HS := hid hS
    generalize xs[k] = y at *
    clear h hS hb
    have F1 := hid (((Fr.refl No w).alloc (.cells #[.slice Aty_params y.ty.params.length cty_params, .slice Aty_results y.ty.results.length cty_results, .int .i64 y.inst, .int .i64 y.index] 134)).alloc (.cells #[.slice none 0 0, .slice none 0 0, .int .i64 0, .int .i64 0] 134))
    have G1 := hid ((Blk.new w 134 #[.slice Aty_params y.ty.params.length cty_params, .slice Aty_results y.ty.results.length cty_results, .int .i64 y.inst, .int .i64 y.index]).alloc (.cells #[.slice none 0 0, .slice none 0 0, .int .i64 0, .int .i64 0] 134))
    have HR := hid (TyOk.keep (t := tFi) _ _ _ _ _ (Fi_mk f0 f1 f2 f3 f4 f5 f6 f7) (fun p hp => F1.out.cell (HS.out _ hp) (fun x => x)))
    go_enter Try.func54, Try.ntmps54
    go_wp2
    generalize (w.alloc (.cells #[.slice Aty_params y.ty.params.length cty_params, .slice Aty_results y.ty.results.length cty_results, .int .i64 y.inst, .int .i64 y.index] 134)).alloc (.cells #[.slice none 0 0, .slice none 0 0, .int .i64 0, .int .i64 0] 134) = W at *
    have z0 := G1.out.cell 0
    have z1 := G1.out.cell 1
    have z2 := G1.out.cell 2
    have z3 := G1.out.cell 3
    exact bodyPost_ret (v := .tuple #[.agg #[.slice Aty_params y.ty.params.length cty_params, .slice Aty_results y.ty.results.length cty_results, .int .i64 y.inst, .int .i64 y.index], .bool true]) (by simp [results, Try.results54, go_sem, z0, z1, z2, z3]) rfl ⟨[.slice Aty_params y.ty.params.length cty_params, .slice Aty_results y.ty.results.length cty_results, .int .i64 y.inst, .int .i64 y.index], rfl, HR.out, F1.out⟩
  · rw [atD_no (.inl hi)]
    clear h
    go_enter Try.func54, Try.ntmps54
    go_wp2
    have G1 := (Blk.new w 134 #[.slice none 0 0, .slice none 0 0, .int .i64 0, .int .i64 0]).alloc (.cells #[.slice none 0 0, .slice none 0 0, .int .i64 0, .int .i64 0] 134)
    generalize (w.alloc (.cells #[.slice none 0 0, .slice none 0 0, .int .i64 0, .int .i64 0] 134)).alloc (.cells #[.slice none 0 0, .slice none 0 0, .int .i64 0, .int .i64 0] 134) = W at *
    have z0 := G1.cell 0
    have z1 := G1.cell 1
    have z2 := G1.cell 2
    have z3 := G1.cell 3
    exact bodyPost_ret (v := .tuple #[.agg #[.slice none 0 0, .slice none 0 0, .int .i64 0, .int .i64 0], .bool false]) (by simp [results, Try.results54, go_sem, z0, z1, z2, z3]) rfl ⟨[.slice none 0 0, .slice none 0 0, .int .i64 0, .int .i64 0], rfl, zFi_rd _ _, F0.out⟩
  · rw [atD_no (.inr hi)]
    clear h
    go_enter Try.func54, Try.ntmps54
    go_wp2
    have G1 := (Blk.new w 134 #[.slice none 0 0, .slice none 0 0, .int .i64 0, .int .i64 0]).alloc (.cells #[.slice none 0 0, .slice none 0 0, .int .i64 0, .int .i64 0] 134)
    generalize (w.alloc (.cells #[.slice none 0 0, .slice none 0 0, .int .i64 0, .int .i64 0] 134)).alloc (.cells #[.slice none 0 0, .slice none 0 0, .int .i64 0, .int .i64 0] 134) = W at *
    have z0 := G1.cell 0
    have z1 := G1.cell 1
    have z2 := G1.cell 2
    have z3 := G1.cell 3
    exact bodyPost_ret (v := .tuple #[.agg #[.slice none 0 0, .slice none 0 0, .int .i64 0, .int .i64 0], .bool false]) (by simp [results, Try.results54, go_sem, z0, z1, z2, z3]) rfl ⟨[.slice none 0 0, .slice none 0 0, .int .i64 0, .int .i64 0], rfl, zFi_rd _ _, F0.out⟩
set_option maxHeartbeats 1600000 in
theorem atPtT_any (P off : Nat) (A : Option Addr) (c : Nat) (xs : List Nat) (i : Int) (S : Nat → Prop) (w : World) (hc : w.cell? ⟨P, off, none⟩ = some (.slice A xs.length c)) (h : tPt.els w S A xs) (hl : xs.length ≤ 1000000) :
    Calls Try.prog 56 #[.pointer (some ⟨P, off, none⟩), .int .i64 i] w (AtPt xs i w) := by
  unfold AtPt
  rcases at_cases xs i with ⟨k, hk, rfl⟩ | hi | ⟨hi0, hi⟩
  · obtain ⟨b, o, rfl, hb, y0⟩ := pt_at h k hk
    rw [getI_yes hk]
    have i0 : (0 : Int) ≤ k := by omega
    have i1 : (k : Int) < xs.length := by omega
    generalize xs[k] = y at *
    clear h hb
    go_enter Try.func56, Try.ntmps56
    go_wp2
    go_ret2
    exact ⟨rfl, Fr.refl _ _⟩
  · rw [getI_no (.inl hi)]
    clear h
    go_enter Try.func56, Try.ntmps56
    go_wp2
    go_ret2
    exact ⟨rfl, Fr.refl _ _⟩
  · rw [getI_no (.inr hi)]
    clear h
    go_enter Try.func56, Try.ntmps56
    go_wp2
    go_ret2
    exact ⟨rfl, Fr.refl _ _⟩
set_option maxHeartbeats 1600000 in
theorem atPtM_any (P off : Nat) (A : Option Addr) (c : Nat) (xs : List Nat) (i : Int) (S : Nat → Prop) (w : World) (hc : w.cell? ⟨P, off, none⟩ = some (.slice A xs.length c)) (h : tPt.els w S A xs) (hl : xs.length ≤ 1000000) :
    Calls Try.prog 58 #[.pointer (some ⟨P, off, none⟩), .int .i64 i] w (AtPt xs i w) := by
  unfold AtPt
  rcases at_cases xs i with ⟨k, hk, rfl⟩ | hi | ⟨hi0, hi⟩
  · obtain ⟨b, o, rfl, hb, y0⟩ := pt_at h k hk
    rw [getI_yes hk]
    have i0 : (0 : Int) ≤ k := by omega
    have i1 : (k : Int) < xs.length := by omega
    generalize xs[k] = y at *
    clear h hb
    go_enter Try.func58, Try.ntmps58
    go_wp2
    go_ret2
    exact ⟨rfl, Fr.refl _ _⟩
  · rw [getI_no (.inl hi)]
    clear h
    go_enter Try.func58, Try.ntmps58
    go_wp2
    go_ret2
    exact ⟨rfl, Fr.refl _ _⟩
  · rw [getI_no (.inr hi)]
    clear h
    go_enter Try.func58, Try.ntmps58
    go_wp2
    go_ret2
    exact ⟨rfl, Fr.refl _ _⟩
end Go.Proofs.Ythggdemiddjlgaa
