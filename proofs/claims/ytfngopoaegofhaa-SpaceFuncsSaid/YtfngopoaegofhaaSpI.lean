/- Contracts: at, and the methods that use it. -/
import Derived.Test.YtfngopoaegofhaaSpH
namespace Go.Proofs.Ytfngopoaegofhaa
open Go.RowKit

def atD {α : Type} (d : α) (l : List α) (i : Int) : α × Bool := if h : 0 ≤ i ∧ i < l.length then (l[i.toNat]'(by omega), true) else (d, false)
theorem atD_yes {α : Type} {d : α} {l : List α} {k : Nat} (h : k < l.length) : atD d l (k : Int) = (l[k], true) := by
  rw [atD, dif_pos ⟨by omega, by omega⟩]; simp
theorem atD_no {α : Type} {d : α} {l : List α} {i : Int} (h : i < 0 ∨ (l.length : Int) ≤ i) : atD d l i = (d, false) := by
  rw [atD, dif_neg (by omega)]
theorem at_cases {α : Type} (l : List α) (i : Int) : (∃ k : Nat, k < l.length ∧ i = k) ∨ i < 0 ∨ (¬ i < 0 ∧ (l.length : Int) ≤ i) := by
  by_cases h : i < 0
  · exact .inr (.inl h)
  · by_cases h' : i < l.length
    · exact .inl ⟨i.toNat, by omega, by omega⟩
    · exact .inr (.inr ⟨h, by omega⟩)

set_option maxHeartbeats 800000 in
theorem atI_any (A : Option Addr) (l : List Int) (c : Nat) (i : Int) (S : Nat → Prop) (X : World) (h : tI.els X S A l) (hl : l.length ≤ 1000000) :
    Calls Try.prog 50 #[.slice A l.length c, .int .i64 i] X fun e w' => e = .returned (.tuple #[.int .i64 (atD 0 l i).1, .bool (atD 0 l i).2]) ∧ X = w' := by
  rcases at_cases l i with ⟨k, hk, rfl⟩ | hi | ⟨hi0, hi⟩
  · obtain ⟨b, o, rfl, hb, y0, -⟩ := ints_at h k hk
    rw [atD_yes hk]
    have i0 : (0 : Int) ≤ k := by omega
    have i1 : (k : Int) < l.length := by omega
    generalize l[k] = y at *
    clear h
    go_enter Try.func50, Try.ntmps50
    go_wp2
    go_ret2
    exact ⟨rfl, rfl⟩
  · rw [atD_no (.inl hi)]
    clear h
    go_enter Try.func50, Try.ntmps50
    go_wp2
    go_ret2
    exact ⟨rfl, rfl⟩
  · rw [atD_no (.inr hi)]
    clear h
    go_enter Try.func50, Try.ntmps50
    go_wp2
    go_ret2
    exact ⟨rfl, rfl⟩

set_option maxHeartbeats 800000 in
theorem atV_any (A : Option Addr) (l : List Int) (c : Nat) (i : Int) (S : Nat → Prop) (X : World) (h : tI.els X S A l) (hl : l.length ≤ 1000000) :
    Calls Try.prog 57 #[.slice A l.length c, .int .i64 i] X fun e w' => e = .returned (.tuple #[.int .i64 (atD 0 l i).1, .bool (atD 0 l i).2]) ∧ X = w' := by
  rcases at_cases l i with ⟨k, hk, rfl⟩ | hi | ⟨hi0, hi⟩
  · obtain ⟨b, o, rfl, hb, y0, -⟩ := ints_at h k hk
    rw [atD_yes hk]
    have i0 : (0 : Int) ≤ k := by omega
    have i1 : (k : Int) < l.length := by omega
    generalize l[k] = y at *
    clear h
    go_enter Try.func57, Try.ntmps57
    go_wp2
    go_ret2
    exact ⟨rfl, rfl⟩
  · rw [atD_no (.inl hi)]
    clear h
    go_enter Try.func57, Try.ntmps57
    go_wp2
    go_ret2
    exact ⟨rfl, rfl⟩
  · rw [atD_no (.inr hi)]
    clear h
    go_enter Try.func57, Try.ntmps57
    go_wp2
    go_ret2
    exact ⟨rfl, rfl⟩

def zTb : Tb := ⟨0, ⟨0, 0, false⟩⟩
def cTb (z : Tb) : Value := .agg #[.int .i64 z.elem, .int .i64 z.lim.min, .int .i64 z.lim.max, .bool z.lim.has]
set_option maxHeartbeats 800000 in
theorem atTb_any (A : Option Addr) (l : List Tb) (c : Nat) (i : Int) (S : Nat → Prop) (X : World) (hS : ∀ k, S k → k < X.heap.size) (h : tTb.els X S A l) (hl : l.length ≤ 1000000) :
    Calls Try.prog 58 #[.slice A l.length c, .int .i64 i] X fun e w' => e = .returned (.tuple #[cTb (atD zTb l i).1, .bool (atD zTb l i).2]) ∧ Fr No X w' := by
  rcases at_cases l i with ⟨k, hk, rfl⟩ | hi | ⟨hi0, hi⟩
  · obtain ⟨b, o, rfl, hb, y0, y1, y2, y3, -⟩ := Tb_at h k hk
    have hbx := hS b hb
    rw [atD_yes hk]
    have i0 : (0 : Int) ≤ k := by omega
    have i1 : (k : Int) < l.length := by omega
    generalize l[k] = y at *
    clear h hS
    go_enter Try.func58, Try.ntmps58
    go_wp2
    exact bodyPost_ret (v := .tuple #[cTb y, .bool true]) (by simp [results, Try.results58, go_sem, cTb]) rfl ⟨rfl, (Fr.refl No X).alloc _⟩
  · rw [atD_no (.inl hi)]
    clear h hS
    go_enter Try.func58, Try.ntmps58
    go_wp2
    exact bodyPost_ret (v := .tuple #[cTb zTb, .bool false]) (by simp [results, Try.results58, go_sem, cTb, zTb]) rfl ⟨rfl, ((Fr.refl No X).alloc _).alloc _⟩
  · rw [atD_no (.inr hi)]
    clear h hS
    go_enter Try.func58, Try.ntmps58
    go_wp2
    exact bodyPost_ret (v := .tuple #[cTb zTb, .bool false]) (by simp [results, Try.results58, go_sem, cTb, zTb]) rfl ⟨rfl, ((Fr.refl No X).alloc _).alloc _⟩

set_option maxHeartbeats 800000 in
theorem mTable_any (base : Nat) (X : World) (p gx gs bi bd : Nat) (ST : Nat → Prop) (nI nD : Nat) (v0 v1 v2 v3 v4 v5 : Value) (x : SpV) (i : Int) (hl : x.tables.length ≤ 1000000) (h : SpP base X p gx gs bi bd ST nI nD v0 v1 v2 v3 v4 v5 x) :
    Calls Try.prog 33 #[.pointer (some ⟨p, 0, none⟩), .int .i64 i] X fun e w' => e = .returned (.tuple #[cTb (atD zTb x.tables i).1, .bool (atD zTb x.tables i).2]) ∧ Fr No X w' := by
  have F0 := hid ((Fr.refl No X).alloc (.cells #[.int .i64 0, .int .i64 0, .int .i64 0, .bool false] 60))
  have H1 := h.frNo F0.out
  have HW := hid (whole_any p gs _ (H1.hp.cell 0))
  have hj := H1.st.hs.cell 2
  obtain ⟨A0, A1, A2, A3, A4, A5, c0, c1, c2, c3, c4, c5, rfl, rfl, rfl, rfl, rfl, rfl, k0, k1, k2, k3, k4, k5⟩ := H1.st.form
  have HA := hid (atTb_any A2 x.tables c2 i _ _ (fun _ h => h) k2 hl)
  have G0 := hid (Blk.new X 60 #[.int .i64 0, .int .i64 0, .int .i64 0, .bool false])
  clear h H1 k0 k1 k2 k3 k4 k5
  generalize atD zTb x.tables i = q at *
  obtain ⟨y, ok⟩ := q
  go_enter Try.func33, Try.ntmps33
  go_wp2_with fail
  generalize X.alloc (.cells #[.int .i64 0, .int .i64 0, .int .i64 0, .bool false] 60) = X1 at *
  refine HW.out.mono ?_
  rintro e w' ⟨rfl, rfl⟩
  go_wp2_with fail
  refine HA.out.mono ?_
  rintro e w2 ⟨rfl, f2⟩
  have G2 := hid (G0.out.fr f2 (fun x => x))
  have z0 : w2.cell? ⟨X.heap.size, 0, none⟩ = some (.int .i64 0) := G2.out.cell 0
  have z1 : w2.cell? ⟨X.heap.size, 1, none⟩ = some (.int .i64 0) := G2.out.cell 1
  have z2 : w2.cell? ⟨X.heap.size, 2, none⟩ = some (.int .i64 0) := G2.out.cell 2
  have z3 : w2.cell? ⟨X.heap.size, 3, none⟩ = some (.bool false) := G2.out.cell 3
  have q0 : w2.frozen? ⟨X.heap.size, 0, none⟩ = false := G2.out.frozen 0
  have q1 : w2.frozen? ⟨X.heap.size, 1, none⟩ = false := G2.out.frozen 1
  have q2 : w2.frozen? ⟨X.heap.size, 2, none⟩ = false := G2.out.frozen 2
  have q3 : w2.frozen? ⟨X.heap.size, 3, none⟩ = false := G2.out.frozen 3
  have F2 := hid (F0.out.trans f2 (fun _ _ h => h))
  clear f2
  simp only [cTb]
  go_wp2
  refine bodyPost_ret (v := .tuple #[cTb y, .bool ok]) (by simp [results, Try.results33, go_sem, cTb, z0, z1, z2, z3]) rfl ⟨rfl, F2.out.trans (((((Fr.refl (One X.heap.size) w2).setCell ⟨X.heap.size, 0, none⟩ _ (fun _ => rfl)).setCell ⟨X.heap.size, 1, none⟩ _ (fun _ => rfl)).setCell ⟨X.heap.size, 2, none⟩ _ (fun _ => rfl)).setCell ⟨X.heap.size, 3, none⟩ _ (fun _ => rfl)) (fun i hi h => by simp only [One] at h; omega)⟩

def zLim : Lim := ⟨0, 0, false⟩
def cLim (z : Lim) : Value := .agg #[.int .i64 z.min, .int .i64 z.max, .bool z.has]
set_option maxHeartbeats 800000 in
theorem atLim_any (A : Option Addr) (l : List Lim) (c : Nat) (i : Int) (S : Nat → Prop) (X : World) (hS : ∀ k, S k → k < X.heap.size) (h : tLim.els X S A l) (hl : l.length ≤ 1000000) :
    Calls Try.prog 59 #[.slice A l.length c, .int .i64 i] X fun e w' => e = .returned (.tuple #[cLim (atD zLim l i).1, .bool (atD zLim l i).2]) ∧ Fr No X w' := by
  rcases at_cases l i with ⟨k, hk, rfl⟩ | hi | ⟨hi0, hi⟩
  · obtain ⟨b, o, rfl, hb, y0, y1, y2, -⟩ := Lim_at h k hk
    have hbx := hS b hb
    rw [atD_yes hk]
    have i0 : (0 : Int) ≤ k := by omega
    have i1 : (k : Int) < l.length := by omega
    generalize l[k] = y at *
    clear h hS
    go_enter Try.func59, Try.ntmps59
    go_wp2
    exact bodyPost_ret (v := .tuple #[cLim y, .bool true]) (by simp [results, Try.results59, go_sem, cLim]) rfl ⟨rfl, (Fr.refl No X).alloc _⟩
  · rw [atD_no (.inl hi)]
    clear h hS
    go_enter Try.func59, Try.ntmps59
    go_wp2
    exact bodyPost_ret (v := .tuple #[cLim zLim, .bool false]) (by simp [results, Try.results59, go_sem, cLim, zLim]) rfl ⟨rfl, ((Fr.refl No X).alloc _).alloc _⟩
  · rw [atD_no (.inr hi)]
    clear h hS
    go_enter Try.func59, Try.ntmps59
    go_wp2
    exact bodyPost_ret (v := .tuple #[cLim zLim, .bool false]) (by simp [results, Try.results59, go_sem, cLim, zLim]) rfl ⟨rfl, ((Fr.refl No X).alloc _).alloc _⟩

set_option maxHeartbeats 800000 in
theorem mMem_any (base : Nat) (X : World) (p gx gs bi bd : Nat) (ST : Nat → Prop) (nI nD : Nat) (v0 v1 v2 v3 v4 v5 : Value) (x : SpV) (i : Int) (hl : x.mems.length ≤ 1000000) (h : SpP base X p gx gs bi bd ST nI nD v0 v1 v2 v3 v4 v5 x) :
    Calls Try.prog 35 #[.pointer (some ⟨p, 0, none⟩), .int .i64 i] X fun e w' => e = .returned (.tuple #[cLim (atD zLim x.mems i).1, .bool (atD zLim x.mems i).2]) ∧ Fr No X w' := by
  have F0 := hid ((Fr.refl No X).alloc (.cells #[.int .i64 0, .int .i64 0, .bool false] 58))
  have H1 := h.frNo F0.out
  have HW := hid (whole_any p gs _ (H1.hp.cell 0))
  have hj := H1.st.hs.cell 3
  obtain ⟨A0, A1, A2, A3, A4, A5, c0, c1, c2, c3, c4, c5, rfl, rfl, rfl, rfl, rfl, rfl, k0, k1, k2, k3, k4, k5⟩ := H1.st.form
  have HA := hid (atLim_any A3 x.mems c3 i _ _ (fun _ h => h) k3 hl)
  have G0 := hid (Blk.new X 58 #[.int .i64 0, .int .i64 0, .bool false])
  clear h H1 k0 k1 k2 k3 k4 k5
  generalize atD zLim x.mems i = q at *
  obtain ⟨y, ok⟩ := q
  go_enter Try.func35, Try.ntmps35
  go_wp2_with fail
  generalize X.alloc (.cells #[.int .i64 0, .int .i64 0, .bool false] 58) = X1 at *
  refine HW.out.mono ?_
  rintro e w' ⟨rfl, rfl⟩
  go_wp2_with fail
  refine HA.out.mono ?_
  rintro e w2 ⟨rfl, f2⟩
  have G2 := hid (G0.out.fr f2 (fun x => x))
  have z0 : w2.cell? ⟨X.heap.size, 0, none⟩ = some (.int .i64 0) := G2.out.cell 0
  have z1 : w2.cell? ⟨X.heap.size, 1, none⟩ = some (.int .i64 0) := G2.out.cell 1
  have z2 : w2.cell? ⟨X.heap.size, 2, none⟩ = some (.bool false) := G2.out.cell 2
  have q0 : w2.frozen? ⟨X.heap.size, 0, none⟩ = false := G2.out.frozen 0
  have q1 : w2.frozen? ⟨X.heap.size, 1, none⟩ = false := G2.out.frozen 1
  have q2 : w2.frozen? ⟨X.heap.size, 2, none⟩ = false := G2.out.frozen 2
  have F2 := hid (F0.out.trans f2 (fun _ _ h => h))
  clear f2
  simp only [cLim]
  go_wp2
  refine bodyPost_ret (v := .tuple #[cLim y, .bool ok]) (by simp [results, Try.results35, go_sem, cLim, z0, z1, z2]) rfl ⟨rfl, F2.out.trans ((((Fr.refl (One X.heap.size) w2).setCell ⟨X.heap.size, 0, none⟩ _ (fun _ => rfl)).setCell ⟨X.heap.size, 1, none⟩ _ (fun _ => rfl)).setCell ⟨X.heap.size, 2, none⟩ _ (fun _ => rfl)) (fun i hi h => by simp only [One] at h; omega)⟩

def zGl : Gl := ⟨0, false⟩
def cGl (z : Gl) : Value := .agg #[.int .i64 z.val, .bool z.mut_]
set_option maxHeartbeats 800000 in
theorem atGl_any (A : Option Addr) (l : List Gl) (c : Nat) (i : Int) (S : Nat → Prop) (X : World) (hS : ∀ k, S k → k < X.heap.size) (h : tGl.els X S A l) (hl : l.length ≤ 1000000) :
    Calls Try.prog 56 #[.slice A l.length c, .int .i64 i] X fun e w' => e = .returned (.tuple #[cGl (atD zGl l i).1, .bool (atD zGl l i).2]) ∧ Fr No X w' := by
  rcases at_cases l i with ⟨k, hk, rfl⟩ | hi | ⟨hi0, hi⟩
  · obtain ⟨b, o, rfl, hb, y0, y1, -⟩ := Gl_at h k hk
    have hbx := hS b hb
    rw [atD_yes hk]
    have i0 : (0 : Int) ≤ k := by omega
    have i1 : (k : Int) < l.length := by omega
    generalize l[k] = y at *
    clear h hS
    go_enter Try.func56, Try.ntmps56
    go_wp2
    exact bodyPost_ret (v := .tuple #[cGl y, .bool true]) (by simp [results, Try.results56, go_sem, cGl]) rfl ⟨rfl, (Fr.refl No X).alloc _⟩
  · rw [atD_no (.inl hi)]
    clear h hS
    go_enter Try.func56, Try.ntmps56
    go_wp2
    exact bodyPost_ret (v := .tuple #[cGl zGl, .bool false]) (by simp [results, Try.results56, go_sem, cGl, zGl]) rfl ⟨rfl, ((Fr.refl No X).alloc _).alloc _⟩
  · rw [atD_no (.inr hi)]
    clear h hS
    go_enter Try.func56, Try.ntmps56
    go_wp2
    exact bodyPost_ret (v := .tuple #[cGl zGl, .bool false]) (by simp [results, Try.results56, go_sem, cGl, zGl]) rfl ⟨rfl, ((Fr.refl No X).alloc _).alloc _⟩

set_option maxHeartbeats 800000 in
theorem mGlobal_any (base : Nat) (X : World) (p gx gs bi bd : Nat) (ST : Nat → Prop) (nI nD : Nat) (v0 v1 v2 v3 v4 v5 : Value) (x : SpV) (i : Int) (hl : x.globals.length ≤ 1000000) (h : SpP base X p gx gs bi bd ST nI nD v0 v1 v2 v3 v4 v5 x) :
    Calls Try.prog 26 #[.pointer (some ⟨p, 0, none⟩), .int .i64 i] X fun e w' => e = .returned (.tuple #[cGl (atD zGl x.globals i).1, .bool (atD zGl x.globals i).2]) ∧ Fr No X w' := by
  have F0 := hid ((Fr.refl No X).alloc (.cells #[.int .i64 0, .bool false] 62))
  have H1 := h.frNo F0.out
  have HW := hid (whole_any p gs _ (H1.hp.cell 0))
  have hj := H1.st.hs.cell 4
  obtain ⟨A0, A1, A2, A3, A4, A5, c0, c1, c2, c3, c4, c5, rfl, rfl, rfl, rfl, rfl, rfl, k0, k1, k2, k3, k4, k5⟩ := H1.st.form
  have HA := hid (atGl_any A4 x.globals c4 i _ _ (fun _ h => h) k4 hl)
  have G0 := hid (Blk.new X 62 #[.int .i64 0, .bool false])
  clear h H1 k0 k1 k2 k3 k4 k5
  generalize atD zGl x.globals i = q at *
  obtain ⟨y, ok⟩ := q
  go_enter Try.func26, Try.ntmps26
  go_wp2_with fail
  generalize X.alloc (.cells #[.int .i64 0, .bool false] 62) = X1 at *
  refine HW.out.mono ?_
  rintro e w' ⟨rfl, rfl⟩
  go_wp2_with fail
  refine HA.out.mono ?_
  rintro e w2 ⟨rfl, f2⟩
  have G2 := hid (G0.out.fr f2 (fun x => x))
  have z0 : w2.cell? ⟨X.heap.size, 0, none⟩ = some (.int .i64 0) := G2.out.cell 0
  have z1 : w2.cell? ⟨X.heap.size, 1, none⟩ = some (.bool false) := G2.out.cell 1
  have q0 : w2.frozen? ⟨X.heap.size, 0, none⟩ = false := G2.out.frozen 0
  have q1 : w2.frozen? ⟨X.heap.size, 1, none⟩ = false := G2.out.frozen 1
  have F2 := hid (F0.out.trans f2 (fun _ _ h => h))
  clear f2
  simp only [cGl]
  go_wp2
  refine bodyPost_ret (v := .tuple #[cGl y, .bool ok]) (by simp [results, Try.results26, go_sem, cGl, z0, z1]) rfl ⟨rfl, F2.out.trans (((Fr.refl (One X.heap.size) w2).setCell ⟨X.heap.size, 0, none⟩ _ (fun _ => rfl)).setCell ⟨X.heap.size, 1, none⟩ _ (fun _ => rfl)) (fun i hi h => by simp only [One] at h; omega)⟩
end Go.Proofs.Ytfngopoaegofhaa
