/- Contracts: things[T].at. -/
import Derived.Test.YtdckghiipijobaaStD
namespace Go.Proofs.Ytdckghiipijobaa
open Go.RowKit

def atD {α : Type} (d : α) (l : List α) (i : Int) : α × Bool := if h : 0 ≤ i ∧ i < l.length then (l[i.toNat]'(by omega), true) else (d, false)
theorem atD_yes {α : Type} {d : α} {l : List α} {k : Nat} (h : k < l.length) : atD d l (k : Int) = (l[k], true) := by
  rw [atD, dif_pos ⟨by omega, by omega⟩]; simp
theorem atD_no {α : Type} {d : α} {l : List α} {i : Int} (h : i < 0 ∨ (l.length : Int) ≤ i) : atD d l i = (d, false) := by
  rw [atD, dif_neg (by omega)]
theorem at_cases {α : Type} (l : List α) (i : Int) : (∃ k : Nat, k < l.length ∧ i = k) ∨ i < 0 ∨ (¬ i < 0 ∧ (l.length : Int) ≤ i) := by
  by_cases h : i < 0
  · exact .inr (.inl h)
  · by_cases h' : i < l.length
    · exact .inl ⟨i.toNat, by omega, by omega⟩
    · exact .inr (.inr ⟨h, by omega⟩)
def AtTo {α : Type} (t : Ty α) (d : α) (S : Nat → Prop) (xs : List α) (i : Int) (w : World) (e : Ending) (w' : World) : Prop :=
  ∃ cs, e = .returned (.tuple #[.agg cs.toArray, .bool (atD d xs i).2]) ∧ t.rd w' S cs (atD d xs i).1 ∧ Fr No w w'
def getI {α : Type} (xs : List α) (i : Int) : Option α := if 0 ≤ i then xs[i.toNat]? else none
theorem getI_yes {α : Type} {xs : List α} {k : Nat} (h : k < xs.length) : getI xs (k : Int) = some xs[k] := by simp [getI, h]
theorem getI_no {α : Type} {xs : List α} {i : Int} (h : i < 0 ∨ (xs.length : Int) ≤ i) : getI xs i = none := by
  unfold getI
  split
  · rw [List.getElem?_eq_none]; omega
  · rfl
def ptrV : Option Nat → Value
  | some p => .pointer (some ⟨p, 0, none⟩)
  | none => .pointer none
def AtPt (xs : List Nat) (i : Int) (w : World) (e : Ending) (w' : World) : Prop := e = .returned (.tuple #[ptrV (getI xs i), .bool (getI xs i).isSome]) ∧ Fr No w w'
theorem pt_at {w : World} {S : Nat → Prop} {A : Option Addr} {l : List Nat} (h : tPt.els w S A l) (i : Nat) (hi : i < l.length) : ∃ (b o : Nat), A = some ⟨b, o, none⟩ ∧ S b ∧ w.cell? ⟨b, o + i, none⟩ = some (.pointer (some ⟨l[i], 0, none⟩)) := by
  obtain ⟨b, o, ds, rfl, hb, hc, hr⟩ := h.at_ i hi
  have hr : ds = [.pointer (some ⟨l[i], 0, none⟩)] := hr
  subst hr
  have := hc 0 _ rfl
  have e : tPt.size = 1 := rfl
  rw [e, Nat.mul_one, Nat.add_zero] at this
  exact ⟨b, o, rfl, hb, this⟩
theorem two_lt {w w' : World} {o1 o2 : Obj} {S : Nat → Prop} (hS : ∀ k, S k → k < w.heap.size) : ∀ k, S k → k < ((w.alloc o1).alloc o2).heap.size := fun k hk => Nat.lt_of_lt_of_le (hS k hk) (((Fr.refl No w).alloc o1).alloc o2).size

def zRs : Rs := ⟨[], false⟩
theorem zRs_rd (w : World) (S : Nat → Prop) : tRs.rd w S [.slice none 0 0, .bool false] zRs := Rs_mk (a := zRs) (Nat.zero_le _) (by simp [maxLen]) (.inl rfl)
set_option maxRecDepth 100000 in
set_option maxHeartbeats 3200000 in
theorem atGs_any (P off : Nat) (A : Option Addr) (c : Nat) (xs : List Rs) (i : Int) (S : Nat → Prop) (w : World) (hc : w.cell? ⟨P, off, none⟩ = some (.slice A xs.length c)) (h : tRs.els w S A xs) (hS : ∀ k, S k → k < w.heap.size) (hl : xs.length ≤ 1000000) :
    Calls Try.prog 24 #[.pointer (some ⟨P, off, none⟩), .int .i64 i] w (AtTo tRs zRs S xs i w) := by
  have F0 := hid (((Fr.refl No w).alloc (.cells #[.slice none 0 0, .bool false] 96)).alloc (.cells #[.slice none 0 0, .bool false] 96))
  have hPl : P < w.heap.size := World.block_lt_of_cell? w _ hc
  unfold AtTo
  rcases at_cases xs i with ⟨k, hk, rfl⟩ | hi | ⟨hi0, hi⟩
  · obtain ⟨b, o, Al, cl, rfl, hb, y0, y1, f0, f1, f2⟩ := Rs_at h k hk
    rw [atD_yes hk]
    have i0 : (0 : Int) ≤ k := by omega
    have i1 : (k : Int) < xs.length := by omega
    have hbl := hS b hb
    have HS := hid hS
    generalize xs[k] = y at *
    clear h hS hb
    have F1 := hid (((Fr.refl No w).alloc (.cells #[.slice Al y.l.length cl, .bool y.gone] 96)).alloc (.cells #[.slice none 0 0, .bool false] 96))
    have G1 := hid ((Blk.new w 96 #[.slice Al y.l.length cl, .bool y.gone]).alloc (.cells #[.slice none 0 0, .bool false] 96))
    have HR := hid (TyOk.keep (t := tRs) _ _ _ _ _ (Rs_mk f0 f1 f2) (fun p hp => F1.out.cell (HS.out _ hp) (fun x => x)))
    go_enter Try.func24, Try.ntmps24
    go_wp2
    generalize (w.alloc (.cells #[.slice Al y.l.length cl, .bool y.gone] 96)).alloc (.cells #[.slice none 0 0, .bool false] 96) = W at *
    have z0 := G1.out.cell 0
    have z1 := G1.out.cell 1
    exact bodyPost_ret (v := .tuple #[.agg #[.slice Al y.l.length cl, .bool y.gone], .bool true]) (by simp [results, Try.results24, go_sem, z0, z1]) rfl ⟨[.slice Al y.l.length cl, .bool y.gone], rfl, HR.out, F1.out⟩
  · rw [atD_no (.inl hi)]
    clear h
    go_enter Try.func24, Try.ntmps24
    go_wp2
    have G1 := (Blk.new w 96 #[.slice none 0 0, .bool false]).alloc (.cells #[.slice none 0 0, .bool false] 96)
    generalize (w.alloc (.cells #[.slice none 0 0, .bool false] 96)).alloc (.cells #[.slice none 0 0, .bool false] 96) = W at *
    have z0 := G1.cell 0
    have z1 := G1.cell 1
    exact bodyPost_ret (v := .tuple #[.agg #[.slice none 0 0, .bool false], .bool false]) (by simp [results, Try.results24, go_sem, z0, z1]) rfl ⟨[.slice none 0 0, .bool false], rfl, zRs_rd _ _, F0.out⟩
  · rw [atD_no (.inr hi)]
    clear h
    go_enter Try.func24, Try.ntmps24
    go_wp2
    have G1 := (Blk.new w 96 #[.slice none 0 0, .bool false]).alloc (.cells #[.slice none 0 0, .bool false] 96)
    generalize (w.alloc (.cells #[.slice none 0 0, .bool false] 96)).alloc (.cells #[.slice none 0 0, .bool false] 96) = W at *
    have z0 := G1.cell 0
    have z1 := G1.cell 1
    exact bodyPost_ret (v := .tuple #[.agg #[.slice none 0 0, .bool false], .bool false]) (by simp [results, Try.results24, go_sem, z0, z1]) rfl ⟨[.slice none 0 0, .bool false], rfl, zRs_rd _ _, F0.out⟩
def zRb : Rb := ⟨[], false⟩
theorem zRb_rd (w : World) (S : Nat → Prop) : tRb.rd w S [.slice none 0 0, .bool false] zRb := Rb_mk (a := zRb) (Nat.zero_le _) (by simp [maxLen]) (.inl rfl)
set_option maxRecDepth 100000 in
set_option maxHeartbeats 3200000 in
theorem atGb_any (P off : Nat) (A : Option Addr) (c : Nat) (xs : List Rb) (i : Int) (S : Nat → Prop) (w : World) (hc : w.cell? ⟨P, off, none⟩ = some (.slice A xs.length c)) (h : tRb.els w S A xs) (hS : ∀ k, S k → k < w.heap.size) (hl : xs.length ≤ 1000000) :
    Calls Try.prog 25 #[.pointer (some ⟨P, off, none⟩), .int .i64 i] w (AtTo tRb zRb S xs i w) := by
  have F0 := hid (((Fr.refl No w).alloc (.cells #[.slice none 0 0, .bool false] 100)).alloc (.cells #[.slice none 0 0, .bool false] 100))
  have hPl : P < w.heap.size := World.block_lt_of_cell? w _ hc
  unfold AtTo
  rcases at_cases xs i with ⟨k, hk, rfl⟩ | hi | ⟨hi0, hi⟩
  · obtain ⟨b, o, Ab, cb, rfl, hb, y0, y1, f0, f1, f2⟩ := Rb_at h k hk
    rw [atD_yes hk]
    have i0 : (0 : Int) ≤ k := by omega
    have i1 : (k : Int) < xs.length := by omega
    have hbl := hS b hb
    have HS := hid hS
    generalize xs[k] = y at *
    clear h hS hb
    have F1 := hid (((Fr.refl No w).alloc (.cells #[.slice Ab y.b.length cb, .bool y.gone] 100)).alloc (.cells #[.slice none 0 0, .bool false] 100))
    have G1 := hid ((Blk.new w 100 #[.slice Ab y.b.length cb, .bool y.gone]).alloc (.cells #[.slice none 0 0, .bool false] 100))
    have HR := hid (TyOk.keep (t := tRb) _ _ _ _ _ (Rb_mk f0 f1 f2) (fun p hp => F1.out.cell (HS.out _ hp) (fun x => x)))
    go_enter Try.func25, Try.ntmps25
    go_wp2
    generalize (w.alloc (.cells #[.slice Ab y.b.length cb, .bool y.gone] 100)).alloc (.cells #[.slice none 0 0, .bool false] 100) = W at *
    have z0 := G1.out.cell 0
    have z1 := G1.out.cell 1
    exact bodyPost_ret (v := .tuple #[.agg #[.slice Ab y.b.length cb, .bool y.gone], .bool true]) (by simp [results, Try.results25, go_sem, z0, z1]) rfl ⟨[.slice Ab y.b.length cb, .bool y.gone], rfl, HR.out, F1.out⟩
  · rw [atD_no (.inl hi)]
    clear h
    go_enter Try.func25, Try.ntmps25
    go_wp2
    have G1 := (Blk.new w 100 #[.slice none 0 0, .bool false]).alloc (.cells #[.slice none 0 0, .bool false] 100)
    generalize (w.alloc (.cells #[.slice none 0 0, .bool false] 100)).alloc (.cells #[.slice none 0 0, .bool false] 100) = W at *
    have z0 := G1.cell 0
    have z1 := G1.cell 1
    exact bodyPost_ret (v := .tuple #[.agg #[.slice none 0 0, .bool false], .bool false]) (by simp [results, Try.results25, go_sem, z0, z1]) rfl ⟨[.slice none 0 0, .bool false], rfl, zRb_rd _ _, F0.out⟩
  · rw [atD_no (.inr hi)]
    clear h
    go_enter Try.func25, Try.ntmps25
    go_wp2
    have G1 := (Blk.new w 100 #[.slice none 0 0, .bool false]).alloc (.cells #[.slice none 0 0, .bool false] 100)
    generalize (w.alloc (.cells #[.slice none 0 0, .bool false] 100)).alloc (.cells #[.slice none 0 0, .bool false] 100) = W at *
    have z0 := G1.cell 0
    have z1 := G1.cell 1
    exact bodyPost_ret (v := .tuple #[.agg #[.slice none 0 0, .bool false], .bool false]) (by simp [results, Try.results25, go_sem, z0, z1]) rfl ⟨[.slice none 0 0, .bool false], rfl, zRb_rd _ _, F0.out⟩
def zRg : Rg := ⟨⟨0, false⟩, ⟨0, 0⟩⟩
theorem zRg_rd (w : World) (S : Nat → Prop) : tRg.rd w S [.int .i64 0, .bool false, .int .i64 0, .int .u64 0] zRg := Rg_mk (a := zRg) rfl rfl rfl
def zFi : Fi := ⟨⟨[], []⟩, 0, 0⟩
theorem zFi_rd (w : World) (S : Nat → Prop) : tFi.rd w S [.slice none 0 0, .slice none 0 0, .int .i64 0, .int .i64 0] zFi := Fi_mk (a := zFi) (Nat.zero_le _) (by simp [maxLen]) (.inl rfl) (Nat.zero_le _) (by simp [maxLen]) (.inl rfl) rfl rfl
def zRi : Ri := ⟨⟨[], [], [], [], [], [], [], false, 0, [], [], []⟩, ⟨[], [], [], [], [], []⟩⟩
theorem zRi_rd (w : World) (S : Nat → Prop) : tRi.rd w S [.slice none 0 0, .slice none 0 0, .slice none 0 0, .slice none 0 0, .slice none 0 0, .slice none 0 0, .slice none 0 0, .bool false, .int .i64 0, .slice none 0 0, .slice none 0 0, .slice none 0 0, .slice none 0 0, .slice none 0 0, .slice none 0 0, .slice none 0 0, .slice none 0 0, .slice none 0 0] zRi := Ri_mk (a := zRi) (Nat.zero_le _) (by simp [maxLen]) (.inl rfl) (Nat.zero_le _) (by simp [maxLen]) (.inl rfl) (Nat.zero_le _) (by simp [maxLen]) (.inl rfl) (Nat.zero_le _) (by simp [maxLen]) (.inl rfl) (Nat.zero_le _) (by simp [maxLen]) (.inl rfl) (Nat.zero_le _) (by simp [maxLen]) (.inl rfl) (Nat.zero_le _) (by simp [maxLen]) (.inl rfl) rfl (Nat.zero_le _) (by simp [maxLen]) (.inl rfl) (Nat.zero_le _) (by simp [maxLen]) (.inl rfl) (Nat.zero_le _) (by simp [maxLen]) (.inl rfl) (Nat.zero_le _) (by simp [maxLen]) (.inl rfl) (Nat.zero_le _) (by simp [maxLen]) (.inl rfl) (Nat.zero_le _) (by simp [maxLen]) (.inl rfl) (Nat.zero_le _) (by simp [maxLen]) (.inl rfl) (Nat.zero_le _) (by simp [maxLen]) (.inl rfl) (Nat.zero_le _) (by simp [maxLen]) (.inl rfl)
set_option maxHeartbeats 1600000 in
theorem atPtM_any (P off : Nat) (A : Option Addr) (c : Nat) (xs : List Nat) (i : Int) (S : Nat → Prop) (w : World) (hc : w.cell? ⟨P, off, none⟩ = some (.slice A xs.length c)) (h : tPt.els w S A xs) (hl : xs.length ≤ 1000000) :
    Calls Try.prog 69 #[.pointer (some ⟨P, off, none⟩), .int .i64 i] w (AtPt xs i w) := by
  unfold AtPt
  rcases at_cases xs i with ⟨k, hk, rfl⟩ | hi | ⟨hi0, hi⟩
  · obtain ⟨b, o, rfl, hb, y0⟩ := pt_at h k hk
    rw [getI_yes hk]
    have i0 : (0 : Int) ≤ k := by omega
    have i1 : (k : Int) < xs.length := by omega
    generalize xs[k] = y at *
    clear h hb
    go_enter Try.func69, Try.ntmps69
    go_wp2
    go_ret2
    exact ⟨rfl, Fr.refl _ _⟩
  · rw [getI_no (.inl hi)]
    clear h
    go_enter Try.func69, Try.ntmps69
    go_wp2
    go_ret2
    exact ⟨rfl, Fr.refl _ _⟩
  · rw [getI_no (.inr hi)]
    clear h
    go_enter Try.func69, Try.ntmps69
    go_wp2
    go_ret2
    exact ⟨rfl, Fr.refl _ _⟩
end Go.Proofs.Ytdckghiipijobaa
