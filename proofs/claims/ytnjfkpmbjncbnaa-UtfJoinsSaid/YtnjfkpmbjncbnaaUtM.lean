/- The walks of UtfJoins. -/
import Derived.Test.YtnjfkpmbjncbnaaUtL
import Derived.Test.YtnjfkpmbjncbnaaTyArr
namespace Go.Proofs.Ytnjfkpmbjncbnaa
open Go.RowKit

set_option maxHeartbeats 3200000 in
theorem joins_00 (a b : ByteArray) (A0 A1 : Option Addr) (xs ys : List Int) (n0 n1 c0 c1 : Nat) (w : World) (ha : a.size ≤ 1000) (hb : b.size ≤ 1000) (HN0 : Hid (xs.length = n0)) (HN1 : Hid (ys.length = n1)) (hn0 : n0 ≤ 300) (hn1 : n1 ≤ 300) (HR0 : Hid (Rd w w.heap.size A0 (Ks .i32 xs))) (HR1 : Hid (Rd w w.heap.size A1 (Ks .i32 ys))) (VA : Hid ((runes a.data.toList).isSome = false)) (P0 : Hid (putL xs = none)) (o1 : Option (List UInt8)) (P1 : Hid (putL ys = o1)) :
    Calls Try.prog 7 #[.string a, .string b, .agg #[.slice A0 n0 c0, .slice A1 n1 c1]] w fun e w' => e = .returned (.bool true) ∧ Fr No w w' := by
  have FW := hid ((Fr.refl No w).alloc (.cells #[.slice A0 n0 c0, .slice A1 n1 c1] 35))
  have HB := hid (Blk.new w 35 #[.slice A0 n0 c0, .slice A1 n1 c1])
  go_enter Try.func7, Try.ntmps7
  go_wp2_with fail
  generalize w.alloc (.cells #[.slice A0 n0 c0, .slice A1 n1 c1] 35) = W0 at *
  have HX : Hid (∀ X, Fr No W0 X → X.cell? ⟨w.heap.size, 0, none⟩ = some (.slice A0 n0 c0) ∧ X.cell? ⟨w.heap.size, 1, none⟩ = some (.slice A1 n1 c1)) := fun X hX => by
    have h := HB.out.fr hX (fun x => x)
    exact ⟨by rw [h.cell]; rfl, by rw [h.cell]; rfl⟩
  refine (al_valid a false _ (by omega) VA.out).mono ?_
  rintro e w1 ⟨rfl, f1⟩
  have F0 : Fr No W0 w1 := (Fr.refl No W0).trans f1 (fun _ _ h => h)
  obtain ⟨x0, x1⟩ := HX.out _ F0
  go_wp2_with fail
  refine (put_any _ xs _ _ _ _ HN0.out (HR0.out.frNo (FW.out.trans F0 (fun _ _ h => h))) (by omega)).mono ?_
  rw [P0.out]
  rintro e wa ⟨rfl, fa⟩
  simp only [Option.getD_some, Option.isSome_some, Option.getD_none, Option.isSome_none, Lib.mk_data]
  have Fa : Fr No W0 wa := F0.trans fa (fun _ _ h => h)
  obtain ⟨y0, y1⟩ := HX.out _ Fa
  clear x0 x1
  go_wp2_with fail
  refine (put_any _ ys _ _ _ _ HN1.out (HR1.out.frNo (FW.out.trans Fa (fun _ _ h => h))) (by omega)).mono ?_
  rw [P1.out]
  rintro e wb ⟨rfl, fb⟩
  simp only [Option.getD_some, Option.isSome_some, Option.getD_none, Option.isSome_none, Lib.mk_data]
  have Fb : Fr No W0 wb := Fa.trans fb (fun _ _ h => h)
  obtain ⟨z0, z1⟩ := HX.out _ Fb
  clear y0 y1
  go_wp2_with fail
  refine (alive_any _).mono ?_
  rintro e wz ⟨rfl, fz⟩
  go_wp2_with fail
  go_ret
  exact ⟨rfl, FW.out.trans (Fb.trans fz (fun _ _ h => h)) (fun _ _ h => h)⟩

set_option maxHeartbeats 3200000 in
theorem joins_01 (a b : ByteArray) (A0 A1 : Option Addr) (xs ys : List Int) (n0 n1 c0 c1 : Nat) (w : World) (ha : a.size ≤ 1000) (hb : b.size ≤ 1000) (HN0 : Hid (xs.length = n0)) (HN1 : Hid (ys.length = n1)) (hn0 : n0 ≤ 300) (hn1 : n1 ≤ 300) (HR0 : Hid (Rd w w.heap.size A0 (Ks .i32 xs))) (HR1 : Hid (Rd w w.heap.size A1 (Ks .i32 ys))) (VA : Hid ((runes a.data.toList).isSome = false)) (t0 : ByteArray) (P0 : Hid (putL xs = some t0.data.toList)) (P1 : Hid (putL ys = none)) :
    Calls Try.prog 7 #[.string a, .string b, .agg #[.slice A0 n0 c0, .slice A1 n1 c1]] w fun e w' => e = .returned (.bool true) ∧ Fr No w w' := by
  have FW := hid ((Fr.refl No w).alloc (.cells #[.slice A0 n0 c0, .slice A1 n1 c1] 35))
  have HB := hid (Blk.new w 35 #[.slice A0 n0 c0, .slice A1 n1 c1])
  go_enter Try.func7, Try.ntmps7
  go_wp2_with fail
  generalize w.alloc (.cells #[.slice A0 n0 c0, .slice A1 n1 c1] 35) = W0 at *
  have HX : Hid (∀ X, Fr No W0 X → X.cell? ⟨w.heap.size, 0, none⟩ = some (.slice A0 n0 c0) ∧ X.cell? ⟨w.heap.size, 1, none⟩ = some (.slice A1 n1 c1)) := fun X hX => by
    have h := HB.out.fr hX (fun x => x)
    exact ⟨by rw [h.cell]; rfl, by rw [h.cell]; rfl⟩
  refine (al_valid a false _ (by omega) VA.out).mono ?_
  rintro e w1 ⟨rfl, f1⟩
  have F0 : Fr No W0 w1 := (Fr.refl No W0).trans f1 (fun _ _ h => h)
  obtain ⟨x0, x1⟩ := HX.out _ F0
  go_wp2_with fail
  refine (put_any _ xs _ _ _ _ HN0.out (HR0.out.frNo (FW.out.trans F0 (fun _ _ h => h))) (by omega)).mono ?_
  rw [P0.out]
  rintro e wa ⟨rfl, fa⟩
  simp only [Option.getD_some, Option.isSome_some, Option.getD_none, Option.isSome_none, Lib.mk_data]
  have Fa : Fr No W0 wa := F0.trans fa (fun _ _ h => h)
  obtain ⟨y0, y1⟩ := HX.out _ Fa
  clear x0 x1
  go_wp2_with fail
  refine (put_any _ ys _ _ _ _ HN1.out (HR1.out.frNo (FW.out.trans Fa (fun _ _ h => h))) (by omega)).mono ?_
  rw [P1.out]
  rintro e wb ⟨rfl, fb⟩
  simp only [Option.getD_some, Option.isSome_some, Option.getD_none, Option.isSome_none, Lib.mk_data]
  have Fb : Fr No W0 wb := Fa.trans fb (fun _ _ h => h)
  obtain ⟨z0, z1⟩ := HX.out _ Fb
  clear y0 y1
  go_wp2_with fail
  refine (alive_any _).mono ?_
  rintro e wz ⟨rfl, fz⟩
  go_wp2_with fail
  go_ret
  exact ⟨rfl, FW.out.trans (Fb.trans fz (fun _ _ h => h)) (fun _ _ h => h)⟩

set_option maxHeartbeats 3200000 in
theorem joins_02 (a b : ByteArray) (A0 A1 : Option Addr) (xs ys : List Int) (n0 n1 c0 c1 : Nat) (w : World) (ha : a.size ≤ 1000) (hb : b.size ≤ 1000) (HN0 : Hid (xs.length = n0)) (HN1 : Hid (ys.length = n1)) (hn0 : n0 ≤ 300) (hn1 : n1 ≤ 300) (HR0 : Hid (Rd w w.heap.size A0 (Ks .i32 xs))) (HR1 : Hid (Rd w w.heap.size A1 (Ks .i32 ys))) (VA : Hid ((runes a.data.toList).isSome = false)) (hxy : xs = ys) (t0 : ByteArray) (P0 : Hid (putL xs = some t0.data.toList)) :
    Calls Try.prog 7 #[.string a, .string b, .agg #[.slice A0 n0 c0, .slice A1 n1 c1]] w fun e w' => e = .returned (.bool true) ∧ Fr No w w' := by
  subst hxy
  have FW := hid ((Fr.refl No w).alloc (.cells #[.slice A0 n0 c0, .slice A1 n1 c1] 35))
  have HB := hid (Blk.new w 35 #[.slice A0 n0 c0, .slice A1 n1 c1])
  go_enter Try.func7, Try.ntmps7
  go_wp2_with fail
  generalize w.alloc (.cells #[.slice A0 n0 c0, .slice A1 n1 c1] 35) = W0 at *
  have HX : Hid (∀ X, Fr No W0 X → X.cell? ⟨w.heap.size, 0, none⟩ = some (.slice A0 n0 c0) ∧ X.cell? ⟨w.heap.size, 1, none⟩ = some (.slice A1 n1 c1)) := fun X hX => by
    have h := HB.out.fr hX (fun x => x)
    exact ⟨by rw [h.cell]; rfl, by rw [h.cell]; rfl⟩
  refine (al_valid a false _ (by omega) VA.out).mono ?_
  rintro e w1 ⟨rfl, f1⟩
  have F0 : Fr No W0 w1 := (Fr.refl No W0).trans f1 (fun _ _ h => h)
  obtain ⟨x0, x1⟩ := HX.out _ F0
  go_wp2_with fail
  refine (put_any _ xs _ _ _ _ HN0.out (HR0.out.frNo (FW.out.trans F0 (fun _ _ h => h))) (by omega)).mono ?_
  rw [P0.out]
  rintro e wa ⟨rfl, fa⟩
  simp only [Option.getD_some, Option.isSome_some, Option.getD_none, Option.isSome_none, Lib.mk_data]
  have Fa : Fr No W0 wa := F0.trans fa (fun _ _ h => h)
  obtain ⟨y0, y1⟩ := HX.out _ Fa
  clear x0 x1
  go_wp2_with fail
  refine (put_any _ xs _ _ _ _ HN1.out (HR1.out.frNo (FW.out.trans Fa (fun _ _ h => h))) (by omega)).mono ?_
  rw [P0.out]
  rintro e wb ⟨rfl, fb⟩
  simp only [Option.getD_some, Option.isSome_some, Option.getD_none, Option.isSome_none, Lib.mk_data]
  have Fb : Fr No W0 wb := Fa.trans fb (fun _ _ h => h)
  obtain ⟨z0, z1⟩ := HX.out _ Fb
  clear y0 y1
  go_wp2_with fail
  refine (rsame_any _ _ xs xs _ _ _ _ _ _ _ HN0.out HN1.out (HR0.out.frNo (FW.out.trans Fb (fun _ _ h => h))) (HR1.out.frNo (FW.out.trans Fb (fun _ _ h => h))) (by omega) (by omega)).mono ?_
  rintro e wc ⟨rfl, nc, rfl⟩
  simp only [decide_true]
  go_wp2_with fail
  refine (alive_any _).mono ?_
  rintro e wz ⟨rfl, fz⟩
  go_wp2_with fail
  go_ret
  exact ⟨rfl, FW.out.trans ((Fb.drewN nc).trans fz (fun _ _ h => h)) (fun _ _ h => h)⟩

set_option maxHeartbeats 3200000 in
theorem joins_03 (a b : ByteArray) (A0 A1 : Option Addr) (xs ys : List Int) (n0 n1 c0 c1 : Nat) (w : World) (ha : a.size ≤ 1000) (hb : b.size ≤ 1000) (HN0 : Hid (xs.length = n0)) (HN1 : Hid (ys.length = n1)) (hn0 : n0 ≤ 300) (hn1 : n1 ≤ 300) (HR0 : Hid (Rd w w.heap.size A0 (Ks .i32 xs))) (HR1 : Hid (Rd w w.heap.size A1 (Ks .i32 ys))) (VA : Hid ((runes a.data.toList).isSome = false)) (hxy : Hid (xs ≠ ys)) (t0 t1 : ByteArray) (P0 : Hid (putL xs = some t0.data.toList)) (P1 : Hid (putL ys = some t1.data.toList)) (hne : (t0.toList == t1.toList) = false) :
    Calls Try.prog 7 #[.string a, .string b, .agg #[.slice A0 n0 c0, .slice A1 n1 c1]] w fun e w' => e = .returned (.bool true) ∧ Fr No w w' := by
  have FW := hid ((Fr.refl No w).alloc (.cells #[.slice A0 n0 c0, .slice A1 n1 c1] 35))
  have HB := hid (Blk.new w 35 #[.slice A0 n0 c0, .slice A1 n1 c1])
  go_enter Try.func7, Try.ntmps7
  go_wp2_with fail
  generalize w.alloc (.cells #[.slice A0 n0 c0, .slice A1 n1 c1] 35) = W0 at *
  have HX : Hid (∀ X, Fr No W0 X → X.cell? ⟨w.heap.size, 0, none⟩ = some (.slice A0 n0 c0) ∧ X.cell? ⟨w.heap.size, 1, none⟩ = some (.slice A1 n1 c1)) := fun X hX => by
    have h := HB.out.fr hX (fun x => x)
    exact ⟨by rw [h.cell]; rfl, by rw [h.cell]; rfl⟩
  refine (al_valid a false _ (by omega) VA.out).mono ?_
  rintro e w1 ⟨rfl, f1⟩
  have F0 : Fr No W0 w1 := (Fr.refl No W0).trans f1 (fun _ _ h => h)
  obtain ⟨x0, x1⟩ := HX.out _ F0
  go_wp2_with fail
  refine (put_any _ xs _ _ _ _ HN0.out (HR0.out.frNo (FW.out.trans F0 (fun _ _ h => h))) (by omega)).mono ?_
  rw [P0.out]
  rintro e wa ⟨rfl, fa⟩
  simp only [Option.getD_some, Option.isSome_some, Option.getD_none, Option.isSome_none, Lib.mk_data]
  have Fa : Fr No W0 wa := F0.trans fa (fun _ _ h => h)
  obtain ⟨y0, y1⟩ := HX.out _ Fa
  clear x0 x1
  go_wp2_with fail
  refine (put_any _ ys _ _ _ _ HN1.out (HR1.out.frNo (FW.out.trans Fa (fun _ _ h => h))) (by omega)).mono ?_
  rw [P1.out]
  rintro e wb ⟨rfl, fb⟩
  simp only [Option.getD_some, Option.isSome_some, Option.getD_none, Option.isSome_none, Lib.mk_data]
  have Fb : Fr No W0 wb := Fa.trans fb (fun _ _ h => h)
  obtain ⟨z0, z1⟩ := HX.out _ Fb
  clear y0 y1
  go_wp2_with fail
  refine (rsame_any _ _ xs ys _ _ _ _ _ _ _ HN0.out HN1.out (HR0.out.frNo (FW.out.trans Fb (fun _ _ h => h))) (HR1.out.frNo (FW.out.trans Fb (fun _ _ h => h))) (by omega) (by omega)).mono ?_
  rintro e wc ⟨rfl, nc, rfl⟩
  rw [decide_eq_false hxy.out]
  go_wp2_with fail
  refine (alive_any _).mono ?_
  rintro e wz ⟨rfl, fz⟩
  go_wp2_with fail
  go_ret
  exact ⟨rfl, FW.out.trans ((Fb.drewN nc).trans fz (fun _ _ h => h)) (fun _ _ h => h)⟩

set_option maxHeartbeats 3200000 in
theorem joins_10 (a b : ByteArray) (A0 A1 : Option Addr) (xs ys : List Int) (n0 n1 c0 c1 : Nat) (w : World) (ha : a.size ≤ 1000) (hb : b.size ≤ 1000) (HN0 : Hid (xs.length = n0)) (HN1 : Hid (ys.length = n1)) (hn0 : n0 ≤ 300) (hn1 : n1 ≤ 300) (HR0 : Hid (Rd w w.heap.size A0 (Ks .i32 xs))) (HR1 : Hid (Rd w w.heap.size A1 (Ks .i32 ys))) (VA : Hid ((runes a.data.toList).isSome = true)) (VB : Hid ((runes b.data.toList).isSome = false)) (P0 : Hid (putL xs = none)) (o1 : Option (List UInt8)) (P1 : Hid (putL ys = o1)) :
    Calls Try.prog 7 #[.string a, .string b, .agg #[.slice A0 n0 c0, .slice A1 n1 c1]] w fun e w' => e = .returned (.bool true) ∧ Fr No w w' := by
  have FW := hid ((Fr.refl No w).alloc (.cells #[.slice A0 n0 c0, .slice A1 n1 c1] 35))
  have HB := hid (Blk.new w 35 #[.slice A0 n0 c0, .slice A1 n1 c1])
  go_enter Try.func7, Try.ntmps7
  go_wp2_with fail
  generalize w.alloc (.cells #[.slice A0 n0 c0, .slice A1 n1 c1] 35) = W0 at *
  have HX : Hid (∀ X, Fr No W0 X → X.cell? ⟨w.heap.size, 0, none⟩ = some (.slice A0 n0 c0) ∧ X.cell? ⟨w.heap.size, 1, none⟩ = some (.slice A1 n1 c1)) := fun X hX => by
    have h := HB.out.fr hX (fun x => x)
    exact ⟨by rw [h.cell]; rfl, by rw [h.cell]; rfl⟩
  refine (al_valid a true _ (by omega) VA.out).mono ?_
  rintro e w1 ⟨rfl, f1⟩
  go_wp2_with fail
  refine (al_valid b false _ (by omega) VB.out).mono ?_
  rintro e w2 ⟨rfl, f2⟩
  have F0 : Fr No W0 w2 := ((Fr.refl No W0).trans f1 (fun _ _ h => h)).trans f2 (fun _ _ h => h)
  obtain ⟨x0, x1⟩ := HX.out _ F0
  go_wp2_with fail
  refine (put_any _ xs _ _ _ _ HN0.out (HR0.out.frNo (FW.out.trans F0 (fun _ _ h => h))) (by omega)).mono ?_
  rw [P0.out]
  rintro e wa ⟨rfl, fa⟩
  simp only [Option.getD_some, Option.isSome_some, Option.getD_none, Option.isSome_none, Lib.mk_data]
  have Fa : Fr No W0 wa := F0.trans fa (fun _ _ h => h)
  obtain ⟨y0, y1⟩ := HX.out _ Fa
  clear x0 x1
  go_wp2_with fail
  refine (put_any _ ys _ _ _ _ HN1.out (HR1.out.frNo (FW.out.trans Fa (fun _ _ h => h))) (by omega)).mono ?_
  rw [P1.out]
  rintro e wb ⟨rfl, fb⟩
  simp only [Option.getD_some, Option.isSome_some, Option.getD_none, Option.isSome_none, Lib.mk_data]
  have Fb : Fr No W0 wb := Fa.trans fb (fun _ _ h => h)
  obtain ⟨z0, z1⟩ := HX.out _ Fb
  clear y0 y1
  go_wp2_with fail
  refine (alive_any _).mono ?_
  rintro e wz ⟨rfl, fz⟩
  go_wp2_with fail
  go_ret
  exact ⟨rfl, FW.out.trans (Fb.trans fz (fun _ _ h => h)) (fun _ _ h => h)⟩

set_option maxHeartbeats 3200000 in
theorem joins_11 (a b : ByteArray) (A0 A1 : Option Addr) (xs ys : List Int) (n0 n1 c0 c1 : Nat) (w : World) (ha : a.size ≤ 1000) (hb : b.size ≤ 1000) (HN0 : Hid (xs.length = n0)) (HN1 : Hid (ys.length = n1)) (hn0 : n0 ≤ 300) (hn1 : n1 ≤ 300) (HR0 : Hid (Rd w w.heap.size A0 (Ks .i32 xs))) (HR1 : Hid (Rd w w.heap.size A1 (Ks .i32 ys))) (VA : Hid ((runes a.data.toList).isSome = true)) (VB : Hid ((runes b.data.toList).isSome = false)) (t0 : ByteArray) (P0 : Hid (putL xs = some t0.data.toList)) (P1 : Hid (putL ys = none)) :
    Calls Try.prog 7 #[.string a, .string b, .agg #[.slice A0 n0 c0, .slice A1 n1 c1]] w fun e w' => e = .returned (.bool true) ∧ Fr No w w' := by
  have FW := hid ((Fr.refl No w).alloc (.cells #[.slice A0 n0 c0, .slice A1 n1 c1] 35))
  have HB := hid (Blk.new w 35 #[.slice A0 n0 c0, .slice A1 n1 c1])
  go_enter Try.func7, Try.ntmps7
  go_wp2_with fail
  generalize w.alloc (.cells #[.slice A0 n0 c0, .slice A1 n1 c1] 35) = W0 at *
  have HX : Hid (∀ X, Fr No W0 X → X.cell? ⟨w.heap.size, 0, none⟩ = some (.slice A0 n0 c0) ∧ X.cell? ⟨w.heap.size, 1, none⟩ = some (.slice A1 n1 c1)) := fun X hX => by
    have h := HB.out.fr hX (fun x => x)
    exact ⟨by rw [h.cell]; rfl, by rw [h.cell]; rfl⟩
  refine (al_valid a true _ (by omega) VA.out).mono ?_
  rintro e w1 ⟨rfl, f1⟩
  go_wp2_with fail
  refine (al_valid b false _ (by omega) VB.out).mono ?_
  rintro e w2 ⟨rfl, f2⟩
  have F0 : Fr No W0 w2 := ((Fr.refl No W0).trans f1 (fun _ _ h => h)).trans f2 (fun _ _ h => h)
  obtain ⟨x0, x1⟩ := HX.out _ F0
  go_wp2_with fail
  refine (put_any _ xs _ _ _ _ HN0.out (HR0.out.frNo (FW.out.trans F0 (fun _ _ h => h))) (by omega)).mono ?_
  rw [P0.out]
  rintro e wa ⟨rfl, fa⟩
  simp only [Option.getD_some, Option.isSome_some, Option.getD_none, Option.isSome_none, Lib.mk_data]
  have Fa : Fr No W0 wa := F0.trans fa (fun _ _ h => h)
  obtain ⟨y0, y1⟩ := HX.out _ Fa
  clear x0 x1
  go_wp2_with fail
  refine (put_any _ ys _ _ _ _ HN1.out (HR1.out.frNo (FW.out.trans Fa (fun _ _ h => h))) (by omega)).mono ?_
  rw [P1.out]
  rintro e wb ⟨rfl, fb⟩
  simp only [Option.getD_some, Option.isSome_some, Option.getD_none, Option.isSome_none, Lib.mk_data]
  have Fb : Fr No W0 wb := Fa.trans fb (fun _ _ h => h)
  obtain ⟨z0, z1⟩ := HX.out _ Fb
  clear y0 y1
  go_wp2_with fail
  refine (alive_any _).mono ?_
  rintro e wz ⟨rfl, fz⟩
  go_wp2_with fail
  go_ret
  exact ⟨rfl, FW.out.trans (Fb.trans fz (fun _ _ h => h)) (fun _ _ h => h)⟩

set_option maxHeartbeats 3200000 in
theorem joins_12 (a b : ByteArray) (A0 A1 : Option Addr) (xs ys : List Int) (n0 n1 c0 c1 : Nat) (w : World) (ha : a.size ≤ 1000) (hb : b.size ≤ 1000) (HN0 : Hid (xs.length = n0)) (HN1 : Hid (ys.length = n1)) (hn0 : n0 ≤ 300) (hn1 : n1 ≤ 300) (HR0 : Hid (Rd w w.heap.size A0 (Ks .i32 xs))) (HR1 : Hid (Rd w w.heap.size A1 (Ks .i32 ys))) (VA : Hid ((runes a.data.toList).isSome = true)) (VB : Hid ((runes b.data.toList).isSome = false)) (hxy : xs = ys) (t0 : ByteArray) (P0 : Hid (putL xs = some t0.data.toList)) :
    Calls Try.prog 7 #[.string a, .string b, .agg #[.slice A0 n0 c0, .slice A1 n1 c1]] w fun e w' => e = .returned (.bool true) ∧ Fr No w w' := by
  subst hxy
  have FW := hid ((Fr.refl No w).alloc (.cells #[.slice A0 n0 c0, .slice A1 n1 c1] 35))
  have HB := hid (Blk.new w 35 #[.slice A0 n0 c0, .slice A1 n1 c1])
  go_enter Try.func7, Try.ntmps7
  go_wp2_with fail
  generalize w.alloc (.cells #[.slice A0 n0 c0, .slice A1 n1 c1] 35) = W0 at *
  have HX : Hid (∀ X, Fr No W0 X → X.cell? ⟨w.heap.size, 0, none⟩ = some (.slice A0 n0 c0) ∧ X.cell? ⟨w.heap.size, 1, none⟩ = some (.slice A1 n1 c1)) := fun X hX => by
    have h := HB.out.fr hX (fun x => x)
    exact ⟨by rw [h.cell]; rfl, by rw [h.cell]; rfl⟩
  refine (al_valid a true _ (by omega) VA.out).mono ?_
  rintro e w1 ⟨rfl, f1⟩
  go_wp2_with fail
  refine (al_valid b false _ (by omega) VB.out).mono ?_
  rintro e w2 ⟨rfl, f2⟩
  have F0 : Fr No W0 w2 := ((Fr.refl No W0).trans f1 (fun _ _ h => h)).trans f2 (fun _ _ h => h)
  obtain ⟨x0, x1⟩ := HX.out _ F0
  go_wp2_with fail
  refine (put_any _ xs _ _ _ _ HN0.out (HR0.out.frNo (FW.out.trans F0 (fun _ _ h => h))) (by omega)).mono ?_
  rw [P0.out]
  rintro e wa ⟨rfl, fa⟩
  simp only [Option.getD_some, Option.isSome_some, Option.getD_none, Option.isSome_none, Lib.mk_data]
  have Fa : Fr No W0 wa := F0.trans fa (fun _ _ h => h)
  obtain ⟨y0, y1⟩ := HX.out _ Fa
  clear x0 x1
  go_wp2_with fail
  refine (put_any _ xs _ _ _ _ HN1.out (HR1.out.frNo (FW.out.trans Fa (fun _ _ h => h))) (by omega)).mono ?_
  rw [P0.out]
  rintro e wb ⟨rfl, fb⟩
  simp only [Option.getD_some, Option.isSome_some, Option.getD_none, Option.isSome_none, Lib.mk_data]
  have Fb : Fr No W0 wb := Fa.trans fb (fun _ _ h => h)
  obtain ⟨z0, z1⟩ := HX.out _ Fb
  clear y0 y1
  go_wp2_with fail
  refine (rsame_any _ _ xs xs _ _ _ _ _ _ _ HN0.out HN1.out (HR0.out.frNo (FW.out.trans Fb (fun _ _ h => h))) (HR1.out.frNo (FW.out.trans Fb (fun _ _ h => h))) (by omega) (by omega)).mono ?_
  rintro e wc ⟨rfl, nc, rfl⟩
  simp only [decide_true]
  go_wp2_with fail
  refine (alive_any _).mono ?_
  rintro e wz ⟨rfl, fz⟩
  go_wp2_with fail
  go_ret
  exact ⟨rfl, FW.out.trans ((Fb.drewN nc).trans fz (fun _ _ h => h)) (fun _ _ h => h)⟩

set_option maxHeartbeats 3200000 in
theorem joins_13 (a b : ByteArray) (A0 A1 : Option Addr) (xs ys : List Int) (n0 n1 c0 c1 : Nat) (w : World) (ha : a.size ≤ 1000) (hb : b.size ≤ 1000) (HN0 : Hid (xs.length = n0)) (HN1 : Hid (ys.length = n1)) (hn0 : n0 ≤ 300) (hn1 : n1 ≤ 300) (HR0 : Hid (Rd w w.heap.size A0 (Ks .i32 xs))) (HR1 : Hid (Rd w w.heap.size A1 (Ks .i32 ys))) (VA : Hid ((runes a.data.toList).isSome = true)) (VB : Hid ((runes b.data.toList).isSome = false)) (hxy : Hid (xs ≠ ys)) (t0 t1 : ByteArray) (P0 : Hid (putL xs = some t0.data.toList)) (P1 : Hid (putL ys = some t1.data.toList)) (hne : (t0.toList == t1.toList) = false) :
    Calls Try.prog 7 #[.string a, .string b, .agg #[.slice A0 n0 c0, .slice A1 n1 c1]] w fun e w' => e = .returned (.bool true) ∧ Fr No w w' := by
  have FW := hid ((Fr.refl No w).alloc (.cells #[.slice A0 n0 c0, .slice A1 n1 c1] 35))
  have HB := hid (Blk.new w 35 #[.slice A0 n0 c0, .slice A1 n1 c1])
  go_enter Try.func7, Try.ntmps7
  go_wp2_with fail
  generalize w.alloc (.cells #[.slice A0 n0 c0, .slice A1 n1 c1] 35) = W0 at *
  have HX : Hid (∀ X, Fr No W0 X → X.cell? ⟨w.heap.size, 0, none⟩ = some (.slice A0 n0 c0) ∧ X.cell? ⟨w.heap.size, 1, none⟩ = some (.slice A1 n1 c1)) := fun X hX => by
    have h := HB.out.fr hX (fun x => x)
    exact ⟨by rw [h.cell]; rfl, by rw [h.cell]; rfl⟩
  refine (al_valid a true _ (by omega) VA.out).mono ?_
  rintro e w1 ⟨rfl, f1⟩
  go_wp2_with fail
  refine (al_valid b false _ (by omega) VB.out).mono ?_
  rintro e w2 ⟨rfl, f2⟩
  have F0 : Fr No W0 w2 := ((Fr.refl No W0).trans f1 (fun _ _ h => h)).trans f2 (fun _ _ h => h)
  obtain ⟨x0, x1⟩ := HX.out _ F0
  go_wp2_with fail
  refine (put_any _ xs _ _ _ _ HN0.out (HR0.out.frNo (FW.out.trans F0 (fun _ _ h => h))) (by omega)).mono ?_
  rw [P0.out]
  rintro e wa ⟨rfl, fa⟩
  simp only [Option.getD_some, Option.isSome_some, Option.getD_none, Option.isSome_none, Lib.mk_data]
  have Fa : Fr No W0 wa := F0.trans fa (fun _ _ h => h)
  obtain ⟨y0, y1⟩ := HX.out _ Fa
  clear x0 x1
  go_wp2_with fail
  refine (put_any _ ys _ _ _ _ HN1.out (HR1.out.frNo (FW.out.trans Fa (fun _ _ h => h))) (by omega)).mono ?_
  rw [P1.out]
  rintro e wb ⟨rfl, fb⟩
  simp only [Option.getD_some, Option.isSome_some, Option.getD_none, Option.isSome_none, Lib.mk_data]
  have Fb : Fr No W0 wb := Fa.trans fb (fun _ _ h => h)
  obtain ⟨z0, z1⟩ := HX.out _ Fb
  clear y0 y1
  go_wp2_with fail
  refine (rsame_any _ _ xs ys _ _ _ _ _ _ _ HN0.out HN1.out (HR0.out.frNo (FW.out.trans Fb (fun _ _ h => h))) (HR1.out.frNo (FW.out.trans Fb (fun _ _ h => h))) (by omega) (by omega)).mono ?_
  rintro e wc ⟨rfl, nc, rfl⟩
  rw [decide_eq_false hxy.out]
  go_wp2_with fail
  refine (alive_any _).mono ?_
  rintro e wz ⟨rfl, fz⟩
  go_wp2_with fail
  go_ret
  exact ⟨rfl, FW.out.trans ((Fb.drewN nc).trans fz (fun _ _ h => h)) (fun _ _ h => h)⟩

set_option maxHeartbeats 3200000 in
theorem joins_20 (a b : ByteArray) (A0 A1 : Option Addr) (xs ys : List Int) (n0 n1 c0 c1 : Nat) (w : World) (ha : a.size ≤ 1000) (hb : b.size ≤ 1000) (HN0 : Hid (xs.length = n0)) (HN1 : Hid (ys.length = n1)) (hn0 : n0 ≤ 300) (hn1 : n1 ≤ 300) (HR0 : Hid (Rd w w.heap.size A0 (Ks .i32 xs))) (HR1 : Hid (Rd w w.heap.size A1 (Ks .i32 ys))) (VA : Hid ((runes a.data.toList).isSome = true)) (VB : Hid ((runes b.data.toList).isSome = true)) (VC : Hid ((runes (a ++ b).data.toList).isSome = true)) (na nb : Nat) (ba : na ≤ 1000) (bb : nb ≤ 1000) (CA : Hid (count a.data.toList = na)) (CB : Hid (count b.data.toList = nb)) (CC : Hid (count (a ++ b).data.toList = na + nb)) (hab : (a ++ b).size ≤ 2000) (P0 : Hid (putL xs = none)) (o1 : Option (List UInt8)) (P1 : Hid (putL ys = o1)) :
    Calls Try.prog 7 #[.string a, .string b, .agg #[.slice A0 n0 c0, .slice A1 n1 c1]] w fun e w' => e = .returned (.bool true) ∧ Fr No w w' := by
  have FW := hid ((Fr.refl No w).alloc (.cells #[.slice A0 n0 c0, .slice A1 n1 c1] 35))
  have HB := hid (Blk.new w 35 #[.slice A0 n0 c0, .slice A1 n1 c1])
  go_enter Try.func7, Try.ntmps7
  go_wp2_with fail
  generalize w.alloc (.cells #[.slice A0 n0 c0, .slice A1 n1 c1] 35) = W0 at *
  have HX : Hid (∀ X, Fr No W0 X → X.cell? ⟨w.heap.size, 0, none⟩ = some (.slice A0 n0 c0) ∧ X.cell? ⟨w.heap.size, 1, none⟩ = some (.slice A1 n1 c1)) := fun X hX => by
    have h := HB.out.fr hX (fun x => x)
    exact ⟨by rw [h.cell]; rfl, by rw [h.cell]; rfl⟩
  refine (al_valid a true _ (by omega) VA.out).mono ?_
  rintro e w1 ⟨rfl, f1⟩
  go_wp2_with fail
  refine (al_valid b true _ (by omega) VB.out).mono ?_
  rintro e w2 ⟨rfl, f2⟩
  go_wp2_with fail
  refine (al_valid (a ++ b) true _ (by omega) VC.out).mono ?_
  rintro e w3 ⟨rfl, f3⟩
  go_wp2_with fail
  refine (count_any (a ++ b) _ (by omega)).mono ?_
  rw [CC.out]
  rintro e w4 ⟨rfl, f4⟩
  go_wp2_with fail
  refine (count_any a _ (by omega)).mono ?_
  rw [CA.out]
  rintro e w5 ⟨rfl, f5⟩
  go_wp2_with fail
  refine (count_any b _ (by omega)).mono ?_
  rw [CB.out]
  rintro e w6 ⟨rfl, f6⟩
  have F0 : Fr No W0 w6 := ((((((Fr.refl No W0).trans f1 (fun _ _ h => h)).trans f2 (fun _ _ h => h)).trans f3 (fun _ _ h => h)).trans f4 (fun _ _ h => h)).trans f5 (fun _ _ h => h)).trans f6 (fun _ _ h => h)
  obtain ⟨x0, x1⟩ := HX.out _ F0
  go_wp2_with fail
  refine (put_any _ xs _ _ _ _ HN0.out (HR0.out.frNo (FW.out.trans F0 (fun _ _ h => h))) (by omega)).mono ?_
  rw [P0.out]
  rintro e wa ⟨rfl, fa⟩
  simp only [Option.getD_some, Option.isSome_some, Option.getD_none, Option.isSome_none, Lib.mk_data]
  have Fa : Fr No W0 wa := F0.trans fa (fun _ _ h => h)
  obtain ⟨y0, y1⟩ := HX.out _ Fa
  clear x0 x1
  go_wp2_with fail
  refine (put_any _ ys _ _ _ _ HN1.out (HR1.out.frNo (FW.out.trans Fa (fun _ _ h => h))) (by omega)).mono ?_
  rw [P1.out]
  rintro e wb ⟨rfl, fb⟩
  simp only [Option.getD_some, Option.isSome_some, Option.getD_none, Option.isSome_none, Lib.mk_data]
  have Fb : Fr No W0 wb := Fa.trans fb (fun _ _ h => h)
  obtain ⟨z0, z1⟩ := HX.out _ Fb
  clear y0 y1
  go_wp2_with fail
  refine (alive_any _).mono ?_
  rintro e wz ⟨rfl, fz⟩
  go_wp2_with fail
  go_ret
  exact ⟨rfl, FW.out.trans (Fb.trans fz (fun _ _ h => h)) (fun _ _ h => h)⟩

set_option maxHeartbeats 3200000 in
theorem joins_21 (a b : ByteArray) (A0 A1 : Option Addr) (xs ys : List Int) (n0 n1 c0 c1 : Nat) (w : World) (ha : a.size ≤ 1000) (hb : b.size ≤ 1000) (HN0 : Hid (xs.length = n0)) (HN1 : Hid (ys.length = n1)) (hn0 : n0 ≤ 300) (hn1 : n1 ≤ 300) (HR0 : Hid (Rd w w.heap.size A0 (Ks .i32 xs))) (HR1 : Hid (Rd w w.heap.size A1 (Ks .i32 ys))) (VA : Hid ((runes a.data.toList).isSome = true)) (VB : Hid ((runes b.data.toList).isSome = true)) (VC : Hid ((runes (a ++ b).data.toList).isSome = true)) (na nb : Nat) (ba : na ≤ 1000) (bb : nb ≤ 1000) (CA : Hid (count a.data.toList = na)) (CB : Hid (count b.data.toList = nb)) (CC : Hid (count (a ++ b).data.toList = na + nb)) (hab : (a ++ b).size ≤ 2000) (t0 : ByteArray) (P0 : Hid (putL xs = some t0.data.toList)) (P1 : Hid (putL ys = none)) :
    Calls Try.prog 7 #[.string a, .string b, .agg #[.slice A0 n0 c0, .slice A1 n1 c1]] w fun e w' => e = .returned (.bool true) ∧ Fr No w w' := by
  have FW := hid ((Fr.refl No w).alloc (.cells #[.slice A0 n0 c0, .slice A1 n1 c1] 35))
  have HB := hid (Blk.new w 35 #[.slice A0 n0 c0, .slice A1 n1 c1])
  go_enter Try.func7, Try.ntmps7
  go_wp2_with fail
  generalize w.alloc (.cells #[.slice A0 n0 c0, .slice A1 n1 c1] 35) = W0 at *
  have HX : Hid (∀ X, Fr No W0 X → X.cell? ⟨w.heap.size, 0, none⟩ = some (.slice A0 n0 c0) ∧ X.cell? ⟨w.heap.size, 1, none⟩ = some (.slice A1 n1 c1)) := fun X hX => by
    have h := HB.out.fr hX (fun x => x)
    exact ⟨by rw [h.cell]; rfl, by rw [h.cell]; rfl⟩
  refine (al_valid a true _ (by omega) VA.out).mono ?_
  rintro e w1 ⟨rfl, f1⟩
  go_wp2_with fail
  refine (al_valid b true _ (by omega) VB.out).mono ?_
  rintro e w2 ⟨rfl, f2⟩
  go_wp2_with fail
  refine (al_valid (a ++ b) true _ (by omega) VC.out).mono ?_
  rintro e w3 ⟨rfl, f3⟩
  go_wp2_with fail
  refine (count_any (a ++ b) _ (by omega)).mono ?_
  rw [CC.out]
  rintro e w4 ⟨rfl, f4⟩
  go_wp2_with fail
  refine (count_any a _ (by omega)).mono ?_
  rw [CA.out]
  rintro e w5 ⟨rfl, f5⟩
  go_wp2_with fail
  refine (count_any b _ (by omega)).mono ?_
  rw [CB.out]
  rintro e w6 ⟨rfl, f6⟩
  have F0 : Fr No W0 w6 := ((((((Fr.refl No W0).trans f1 (fun _ _ h => h)).trans f2 (fun _ _ h => h)).trans f3 (fun _ _ h => h)).trans f4 (fun _ _ h => h)).trans f5 (fun _ _ h => h)).trans f6 (fun _ _ h => h)
  obtain ⟨x0, x1⟩ := HX.out _ F0
  go_wp2_with fail
  refine (put_any _ xs _ _ _ _ HN0.out (HR0.out.frNo (FW.out.trans F0 (fun _ _ h => h))) (by omega)).mono ?_
  rw [P0.out]
  rintro e wa ⟨rfl, fa⟩
  simp only [Option.getD_some, Option.isSome_some, Option.getD_none, Option.isSome_none, Lib.mk_data]
  have Fa : Fr No W0 wa := F0.trans fa (fun _ _ h => h)
  obtain ⟨y0, y1⟩ := HX.out _ Fa
  clear x0 x1
  go_wp2_with fail
  refine (put_any _ ys _ _ _ _ HN1.out (HR1.out.frNo (FW.out.trans Fa (fun _ _ h => h))) (by omega)).mono ?_
  rw [P1.out]
  rintro e wb ⟨rfl, fb⟩
  simp only [Option.getD_some, Option.isSome_some, Option.getD_none, Option.isSome_none, Lib.mk_data]
  have Fb : Fr No W0 wb := Fa.trans fb (fun _ _ h => h)
  obtain ⟨z0, z1⟩ := HX.out _ Fb
  clear y0 y1
  go_wp2_with fail
  refine (alive_any _).mono ?_
  rintro e wz ⟨rfl, fz⟩
  go_wp2_with fail
  go_ret
  exact ⟨rfl, FW.out.trans (Fb.trans fz (fun _ _ h => h)) (fun _ _ h => h)⟩

set_option maxHeartbeats 3200000 in
theorem joins_22 (a b : ByteArray) (A0 A1 : Option Addr) (xs ys : List Int) (n0 n1 c0 c1 : Nat) (w : World) (ha : a.size ≤ 1000) (hb : b.size ≤ 1000) (HN0 : Hid (xs.length = n0)) (HN1 : Hid (ys.length = n1)) (hn0 : n0 ≤ 300) (hn1 : n1 ≤ 300) (HR0 : Hid (Rd w w.heap.size A0 (Ks .i32 xs))) (HR1 : Hid (Rd w w.heap.size A1 (Ks .i32 ys))) (VA : Hid ((runes a.data.toList).isSome = true)) (VB : Hid ((runes b.data.toList).isSome = true)) (VC : Hid ((runes (a ++ b).data.toList).isSome = true)) (na nb : Nat) (ba : na ≤ 1000) (bb : nb ≤ 1000) (CA : Hid (count a.data.toList = na)) (CB : Hid (count b.data.toList = nb)) (CC : Hid (count (a ++ b).data.toList = na + nb)) (hab : (a ++ b).size ≤ 2000) (hxy : xs = ys) (t0 : ByteArray) (P0 : Hid (putL xs = some t0.data.toList)) :
    Calls Try.prog 7 #[.string a, .string b, .agg #[.slice A0 n0 c0, .slice A1 n1 c1]] w fun e w' => e = .returned (.bool true) ∧ Fr No w w' := by
  subst hxy
  have FW := hid ((Fr.refl No w).alloc (.cells #[.slice A0 n0 c0, .slice A1 n1 c1] 35))
  have HB := hid (Blk.new w 35 #[.slice A0 n0 c0, .slice A1 n1 c1])
  go_enter Try.func7, Try.ntmps7
  go_wp2_with fail
  generalize w.alloc (.cells #[.slice A0 n0 c0, .slice A1 n1 c1] 35) = W0 at *
  have HX : Hid (∀ X, Fr No W0 X → X.cell? ⟨w.heap.size, 0, none⟩ = some (.slice A0 n0 c0) ∧ X.cell? ⟨w.heap.size, 1, none⟩ = some (.slice A1 n1 c1)) := fun X hX => by
    have h := HB.out.fr hX (fun x => x)
    exact ⟨by rw [h.cell]; rfl, by rw [h.cell]; rfl⟩
  refine (al_valid a true _ (by omega) VA.out).mono ?_
  rintro e w1 ⟨rfl, f1⟩
  go_wp2_with fail
  refine (al_valid b true _ (by omega) VB.out).mono ?_
  rintro e w2 ⟨rfl, f2⟩
  go_wp2_with fail
  refine (al_valid (a ++ b) true _ (by omega) VC.out).mono ?_
  rintro e w3 ⟨rfl, f3⟩
  go_wp2_with fail
  refine (count_any (a ++ b) _ (by omega)).mono ?_
  rw [CC.out]
  rintro e w4 ⟨rfl, f4⟩
  go_wp2_with fail
  refine (count_any a _ (by omega)).mono ?_
  rw [CA.out]
  rintro e w5 ⟨rfl, f5⟩
  go_wp2_with fail
  refine (count_any b _ (by omega)).mono ?_
  rw [CB.out]
  rintro e w6 ⟨rfl, f6⟩
  have F0 : Fr No W0 w6 := ((((((Fr.refl No W0).trans f1 (fun _ _ h => h)).trans f2 (fun _ _ h => h)).trans f3 (fun _ _ h => h)).trans f4 (fun _ _ h => h)).trans f5 (fun _ _ h => h)).trans f6 (fun _ _ h => h)
  obtain ⟨x0, x1⟩ := HX.out _ F0
  go_wp2_with fail
  refine (put_any _ xs _ _ _ _ HN0.out (HR0.out.frNo (FW.out.trans F0 (fun _ _ h => h))) (by omega)).mono ?_
  rw [P0.out]
  rintro e wa ⟨rfl, fa⟩
  simp only [Option.getD_some, Option.isSome_some, Option.getD_none, Option.isSome_none, Lib.mk_data]
  have Fa : Fr No W0 wa := F0.trans fa (fun _ _ h => h)
  obtain ⟨y0, y1⟩ := HX.out _ Fa
  clear x0 x1
  go_wp2_with fail
  refine (put_any _ xs _ _ _ _ HN1.out (HR1.out.frNo (FW.out.trans Fa (fun _ _ h => h))) (by omega)).mono ?_
  rw [P0.out]
  rintro e wb ⟨rfl, fb⟩
  simp only [Option.getD_some, Option.isSome_some, Option.getD_none, Option.isSome_none, Lib.mk_data]
  have Fb : Fr No W0 wb := Fa.trans fb (fun _ _ h => h)
  obtain ⟨z0, z1⟩ := HX.out _ Fb
  clear y0 y1
  go_wp2_with fail
  refine (rsame_any _ _ xs xs _ _ _ _ _ _ _ HN0.out HN1.out (HR0.out.frNo (FW.out.trans Fb (fun _ _ h => h))) (HR1.out.frNo (FW.out.trans Fb (fun _ _ h => h))) (by omega) (by omega)).mono ?_
  rintro e wc ⟨rfl, nc, rfl⟩
  simp only [decide_true]
  go_wp2_with fail
  refine (alive_any _).mono ?_
  rintro e wz ⟨rfl, fz⟩
  go_wp2_with fail
  go_ret
  exact ⟨rfl, FW.out.trans ((Fb.drewN nc).trans fz (fun _ _ h => h)) (fun _ _ h => h)⟩

set_option maxHeartbeats 3200000 in
theorem joins_23 (a b : ByteArray) (A0 A1 : Option Addr) (xs ys : List Int) (n0 n1 c0 c1 : Nat) (w : World) (ha : a.size ≤ 1000) (hb : b.size ≤ 1000) (HN0 : Hid (xs.length = n0)) (HN1 : Hid (ys.length = n1)) (hn0 : n0 ≤ 300) (hn1 : n1 ≤ 300) (HR0 : Hid (Rd w w.heap.size A0 (Ks .i32 xs))) (HR1 : Hid (Rd w w.heap.size A1 (Ks .i32 ys))) (VA : Hid ((runes a.data.toList).isSome = true)) (VB : Hid ((runes b.data.toList).isSome = true)) (VC : Hid ((runes (a ++ b).data.toList).isSome = true)) (na nb : Nat) (ba : na ≤ 1000) (bb : nb ≤ 1000) (CA : Hid (count a.data.toList = na)) (CB : Hid (count b.data.toList = nb)) (CC : Hid (count (a ++ b).data.toList = na + nb)) (hab : (a ++ b).size ≤ 2000) (hxy : Hid (xs ≠ ys)) (t0 t1 : ByteArray) (P0 : Hid (putL xs = some t0.data.toList)) (P1 : Hid (putL ys = some t1.data.toList)) (hne : (t0.toList == t1.toList) = false) :
    Calls Try.prog 7 #[.string a, .string b, .agg #[.slice A0 n0 c0, .slice A1 n1 c1]] w fun e w' => e = .returned (.bool true) ∧ Fr No w w' := by
  have FW := hid ((Fr.refl No w).alloc (.cells #[.slice A0 n0 c0, .slice A1 n1 c1] 35))
  have HB := hid (Blk.new w 35 #[.slice A0 n0 c0, .slice A1 n1 c1])
  go_enter Try.func7, Try.ntmps7
  go_wp2_with fail
  generalize w.alloc (.cells #[.slice A0 n0 c0, .slice A1 n1 c1] 35) = W0 at *
  have HX : Hid (∀ X, Fr No W0 X → X.cell? ⟨w.heap.size, 0, none⟩ = some (.slice A0 n0 c0) ∧ X.cell? ⟨w.heap.size, 1, none⟩ = some (.slice A1 n1 c1)) := fun X hX => by
    have h := HB.out.fr hX (fun x => x)
    exact ⟨by rw [h.cell]; rfl, by rw [h.cell]; rfl⟩
  refine (al_valid a true _ (by omega) VA.out).mono ?_
  rintro e w1 ⟨rfl, f1⟩
  go_wp2_with fail
  refine (al_valid b true _ (by omega) VB.out).mono ?_
  rintro e w2 ⟨rfl, f2⟩
  go_wp2_with fail
  refine (al_valid (a ++ b) true _ (by omega) VC.out).mono ?_
  rintro e w3 ⟨rfl, f3⟩
  go_wp2_with fail
  refine (count_any (a ++ b) _ (by omega)).mono ?_
  rw [CC.out]
  rintro e w4 ⟨rfl, f4⟩
  go_wp2_with fail
  refine (count_any a _ (by omega)).mono ?_
  rw [CA.out]
  rintro e w5 ⟨rfl, f5⟩
  go_wp2_with fail
  refine (count_any b _ (by omega)).mono ?_
  rw [CB.out]
  rintro e w6 ⟨rfl, f6⟩
  have F0 : Fr No W0 w6 := ((((((Fr.refl No W0).trans f1 (fun _ _ h => h)).trans f2 (fun _ _ h => h)).trans f3 (fun _ _ h => h)).trans f4 (fun _ _ h => h)).trans f5 (fun _ _ h => h)).trans f6 (fun _ _ h => h)
  obtain ⟨x0, x1⟩ := HX.out _ F0
  go_wp2_with fail
  refine (put_any _ xs _ _ _ _ HN0.out (HR0.out.frNo (FW.out.trans F0 (fun _ _ h => h))) (by omega)).mono ?_
  rw [P0.out]
  rintro e wa ⟨rfl, fa⟩
  simp only [Option.getD_some, Option.isSome_some, Option.getD_none, Option.isSome_none, Lib.mk_data]
  have Fa : Fr No W0 wa := F0.trans fa (fun _ _ h => h)
  obtain ⟨y0, y1⟩ := HX.out _ Fa
  clear x0 x1
  go_wp2_with fail
  refine (put_any _ ys _ _ _ _ HN1.out (HR1.out.frNo (FW.out.trans Fa (fun _ _ h => h))) (by omega)).mono ?_
  rw [P1.out]
  rintro e wb ⟨rfl, fb⟩
  simp only [Option.getD_some, Option.isSome_some, Option.getD_none, Option.isSome_none, Lib.mk_data]
  have Fb : Fr No W0 wb := Fa.trans fb (fun _ _ h => h)
  obtain ⟨z0, z1⟩ := HX.out _ Fb
  clear y0 y1
  go_wp2_with fail
  refine (rsame_any _ _ xs ys _ _ _ _ _ _ _ HN0.out HN1.out (HR0.out.frNo (FW.out.trans Fb (fun _ _ h => h))) (HR1.out.frNo (FW.out.trans Fb (fun _ _ h => h))) (by omega) (by omega)).mono ?_
  rintro e wc ⟨rfl, nc, rfl⟩
  rw [decide_eq_false hxy.out]
  go_wp2_with fail
  refine (alive_any _).mono ?_
  rintro e wz ⟨rfl, fz⟩
  go_wp2_with fail
  go_ret
  exact ⟨rfl, FW.out.trans ((Fb.drewN nc).trans fz (fun _ _ h => h)) (fun _ _ h => h)⟩

set_option maxHeartbeats 1600000 in
theorem joins_big (a b : ByteArray) (A0 A1 : Option Addr) (n0 n1 c0 c1 : Nat) (w : World) (ha : a.size ≤ maxLen) (hb : b.size ≤ maxLen) (hn0 : n0 ≤ maxLen) (hn1 : n1 ≤ maxLen) (h : ¬ (a.size ≤ 1000 ∧ b.size ≤ 1000 ∧ n0 ≤ 300 ∧ n1 ≤ 300)) :
    Calls Try.prog 7 #[.string a, .string b, .agg #[.slice A0 n0 c0, .slice A1 n1 c1]] w fun e w' => e = .returned (.bool true) ∧ Fr No w w' := by
  unfold maxLen at ha hb hn0 hn1
  have H := hid h
  clear h
  by_cases h1 : a.size ≤ 1000
  · by_cases h2 : b.size ≤ 1000
    · by_cases h3 : n0 ≤ 300
      · have h4 : ¬ n1 ≤ 300 := fun x => H.out ⟨h1, h2, h3, x⟩
        go_enter Try.func7, Try.ntmps7
        go_wp2_with fail
        refine (alive_any _).mono ?_
        rintro e w7 ⟨rfl, f7⟩
        go_wp2_with fail
        go_ret
        exact ⟨rfl, ((Fr.refl No w).alloc _).trans f7 (fun _ _ h => h)⟩
      · go_enter Try.func7, Try.ntmps7
        go_wp2_with fail
        refine (alive_any _).mono ?_
        rintro e w7 ⟨rfl, f7⟩
        go_wp2_with fail
        go_ret
        exact ⟨rfl, ((Fr.refl No w).alloc _).trans f7 (fun _ _ h => h)⟩
    · go_enter Try.func7, Try.ntmps7
      go_wp2_with fail
      refine (alive_any _).mono ?_
      rintro e w7 ⟨rfl, f7⟩
      go_wp2_with fail
      go_ret
      exact ⟨rfl, ((Fr.refl No w).alloc _).trans f7 (fun _ _ h => h)⟩
  · go_enter Try.func7, Try.ntmps7
    go_wp2_with fail
    refine (alive_any _).mono ?_
    rintro e w7 ⟨rfl, f7⟩
    go_wp2_with fail
    go_ret
    exact ⟨rfl, ((Fr.refl No w).alloc _).trans f7 (fun _ _ h => h)⟩

theorem isSome_ex {α : Type} {o : Option α} (h : o.isSome = true) : ∃ x, o = some x := by cases o with | none => cases h | some x => exact ⟨x, rfl⟩
theorem data_add (a b : ByteArray) : (a ++ b).data.toList = a.data.toList ++ b.data.toList := by simp
theorem size_add (a b : ByteArray) : (a ++ b).size = a.size + b.size := by simp

theorem joins_any (a b : ByteArray) (A0 A1 : Option Addr) (xs ys : List Int) (c0 c1 : Nat) (w : World) (ha : a.size ≤ maxLen) (hb : b.size ≤ maxLen) (hn0 : xs.length ≤ maxLen) (hn1 : ys.length ≤ maxLen) (hr0 : Rd w w.heap.size A0 (Ks .i32 xs)) (hr1 : Rd w w.heap.size A1 (Ks .i32 ys)) :
    Calls Try.prog 7 #[.string a, .string b, .agg #[.slice A0 xs.length c0, .slice A1 ys.length c1]] w fun e w' => e = .returned (.bool true) ∧ Fr No w w' := by
  by_cases h : a.size ≤ 1000 ∧ b.size ≤ 1000 ∧ xs.length ≤ 300 ∧ ys.length ≤ 300
  · obtain ⟨h1, h2, h3, h4⟩ := h
    have tail : ∀ (K : Prop), ((putL xs = none → K) → (∀ t0 : ByteArray, putL xs = some t0.data.toList → putL ys = none → K) → (∀ t0 : ByteArray, xs = ys → putL xs = some t0.data.toList → K) →
        (∀ t0 t1 : ByteArray, xs ≠ ys → putL xs = some t0.data.toList → putL ys = some t1.data.toList → (t0.toList == t1.toList) = false → K) → K) := by
      intro K k0 k1 k2 k3
      cases hp : putL xs with
      | none => exact k0 hp
      | some bs =>
        cases hq : putL ys with
        | none => exact k1 ⟨bs.toArray⟩ hp hq
        | some cs =>
          by_cases hxy : xs = ys
          · exact k2 ⟨bs.toArray⟩ hxy hp
          · refine k3 ⟨bs.toArray⟩ ⟨cs.toArray⟩ hxy hp hq ?_
            rw [Lib.toList_data, Lib.toList_data, beq_eq_false_iff_ne]
            intro he
            have he : bs = cs := he
            subst he
            exact hxy (put_inj hp hq)
    cases hva : (runes a.data.toList).isSome with
    | false =>
      exact tail _ (fun p => joins_00 a b A0 A1 xs ys _ _ c0 c1 w h1 h2 rfl rfl h3 h4 hr0 hr1 hva p _ rfl) (fun t0 p q => joins_01 a b A0 A1 xs ys _ _ c0 c1 w h1 h2 rfl rfl h3 h4 hr0 hr1 hva t0 p q)
        (fun t0 e p => joins_02 a b A0 A1 xs ys _ _ c0 c1 w h1 h2 rfl rfl h3 h4 hr0 hr1 hva e t0 p) (fun t0 t1 e p q r => joins_03 a b A0 A1 xs ys _ _ c0 c1 w h1 h2 rfl rfl h3 h4 hr0 hr1 hva e t0 t1 p q r)
    | true =>
      cases hvb : (runes b.data.toList).isSome with
      | false =>
        exact tail _ (fun p => joins_10 a b A0 A1 xs ys _ _ c0 c1 w h1 h2 rfl rfl h3 h4 hr0 hr1 hva hvb p _ rfl) (fun t0 p q => joins_11 a b A0 A1 xs ys _ _ c0 c1 w h1 h2 rfl rfl h3 h4 hr0 hr1 hva hvb t0 p q)
          (fun t0 e p => joins_12 a b A0 A1 xs ys _ _ c0 c1 w h1 h2 rfl rfl h3 h4 hr0 hr1 hva hvb e t0 p) (fun t0 t1 e p q r => joins_13 a b A0 A1 xs ys _ _ c0 c1 w h1 h2 rfl rfl h3 h4 hr0 hr1 hva hvb e t0 t1 p q r)
      | true =>
        obtain ⟨x, hx⟩ := isSome_ex hva
        obtain ⟨y, hy⟩ := isSome_ex hvb
        obtain ⟨e1, e2⟩ := runes_append _ _ _ _ _ (Nat.le_refl _) hx hy
        rw [← data_add] at e1 e2
        have vc : (runes (a ++ b).data.toList).isSome = true := by rw [e1]; rfl
        have b1 := count_le _ a.data.toList (Nat.le_refl _)
        have b2 := count_le _ b.data.toList (Nat.le_refl _)
        simp at b1 b2
        have hab : (a ++ b).size ≤ 2000 := by rw [size_add]; omega
        exact tail _ (fun p => joins_20 a b A0 A1 xs ys _ _ c0 c1 w h1 h2 rfl rfl h3 h4 hr0 hr1 hva hvb vc _ _ (by omega) (by omega) rfl rfl e2 hab p _ rfl) (fun t0 p q => joins_21 a b A0 A1 xs ys _ _ c0 c1 w h1 h2 rfl rfl h3 h4 hr0 hr1 hva hvb vc _ _ (by omega) (by omega) rfl rfl e2 hab t0 p q)
          (fun t0 e p => joins_22 a b A0 A1 xs ys _ _ c0 c1 w h1 h2 rfl rfl h3 h4 hr0 hr1 hva hvb vc _ _ (by omega) (by omega) rfl rfl e2 hab e t0 p) (fun t0 t1 e p q r => joins_23 a b A0 A1 xs ys _ _ c0 c1 w h1 h2 rfl rfl h3 h4 hr0 hr1 hva hvb vc _ _ (by omega) (by omega) rfl rfl e2 hab e t0 t1 p q r)
  · exact joins_big a b A0 A1 _ _ c0 c1 w ha hb hn0 hn1 h

theorem utfJoins_walk (w : World) (v0 v1 v2 : Value) (x0 x1 : ByteArray) (x2 : List Int × List Int) (y0 : Ty.str.rd w w.heap.size v0.cells.toList x0) (y1 : Ty.str.rd w w.heap.size v1.cells.toList x1) (y2 : ((Ty.int .i32).slice.pair (Ty.int .i32).slice).rd w w.heap.size v2.cells.toList x2)
    (s0 : ∃ s, v0 = .string s) (s1 : ∃ s, v1 = .string s) (s2 : ∃ cs, v2 = .agg cs) :
    Calls Try.prog 7 #[v0, v1, v2] w fun e w' => e = .returned (.bool true) ∧ Below w.heap.size w w' := by
  obtain ⟨rfl, h0⟩ := str_of y0 s0
  obtain ⟨rfl, h1⟩ := str_of y1 s1
  obtain ⟨cs, rfl⟩ := s2
  obtain ⟨d1, d2, e, ⟨A0, c0, rfl, p1, p2, p3⟩, ⟨A1, c1, rfl, q1, q2, q3⟩⟩ := y2
  have e' : cs = #[.slice A0 x2.1.length c0, .slice A1 x2.2.length c1] := by
    have : cs.toList = [.slice A0 x2.1.length c0, .slice A1 x2.2.length c1] := by simpa [Value.cells] using e
    rw [← Array.toArray_toList (xs := cs), this]
  subst e'
  exact (joins_any x0 x1 A0 A1 x2.1 x2.2 c0 c1 w h0 h1 (Nat.le_trans p1 p2) (Nat.le_trans q1 q2) p3.ints q3.ints).mono fun e w' ⟨h1, h2⟩ => ⟨h1, h2.below⟩
end Go.Proofs.Ytnjfkpmbjncbnaa
