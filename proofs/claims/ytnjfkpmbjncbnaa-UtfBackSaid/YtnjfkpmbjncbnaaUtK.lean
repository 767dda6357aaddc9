/- The walks of UtfPuts, UtfCuts. -/
import Derived.Test.YtnjfkpmbjncbnaaUtI
import Derived.Test.YtnjfkpmbjncbnaaTy
namespace Go.Proofs.Ytnjfkpmbjncbnaa
open Go.RowKit

theorem wf_i32 {n : Int} (h : (Lit.int .i32 n).wf = true) : -2147483648 ≤ n ∧ n ≤ 2147483647 := by
  simpa [Lit.wf, IntKind.min, IntKind.max, IntKind.signed, IntKind.bits] using h

set_option maxHeartbeats 1600000 in
theorem puts_any (A : Option Addr) (xs : List Int) (n c : Nat) (w : World) (hn : xs.length = n) (hm : n ≤ maxLen) (hr : Rd w w.heap.size A (Ks .i32 xs)) (hwf : Hid (∀ x ∈ xs, -2147483648 ≤ x ∧ x ≤ 2147483647)) : Calls Try.prog 4 #[.slice A n c] w fun e w' => e = .returned (.bool true) ∧ Fr No w w' := by
  unfold maxLen at hm
  have HN := hid hn
  have HR := hid hr
  clear hn hr
  by_cases h : n ≤ 1000
  · go_enter Try.func4, Try.ntmps4
    go_wp2_with fail
    refine (put_any _ xs _ _ _ _ HN.out HR.out (by omega)).mono ?_
    rintro e w1 ⟨rfl, f1⟩
    go_wp2_with fail
    refine (rput_any _ xs _ _ _ _ HN.out (HR.out.frNo f1) (by omega) hwf).mono ?_
    rintro e w2 ⟨rfl, f2⟩
    generalize putL xs = o
    go_wp2_with fail
    refine (alive_any _).mono ?_
    rintro e w7 ⟨rfl, f7⟩
    go_wp2_with fail
    go_ret
    exact ⟨rfl, (f1.trans f2 (fun _ _ h => h)).trans f7 (fun _ _ h => h)⟩
  · go_enter Try.func4, Try.ntmps4
    go_wp2_with fail
    refine (alive_any _).mono ?_
    rintro e w7 ⟨rfl, f7⟩
    go_wp2_with fail
    go_ret
    exact ⟨rfl, f7⟩

theorem ints_of {k : IntKind} {w : World} {v : Value} {xs : List Int} (y : (Ty.int k).slice.rd w w.heap.size v.cells.toList xs) (s : ∃ a l c, v = .slice a l c) :
    ∃ A c, v = .slice A xs.length c ∧ xs.length ≤ maxLen ∧ Rd w w.heap.size A (Ks k xs) ∧ ∀ x ∈ xs, (Lit.int k x).wf = true := by
  obtain ⟨a, l, c, rfl⟩ := s
  obtain ⟨A, cl, e1, h1, h2, h3⟩ := y
  have e2 : Value.slice a l c = .slice A xs.length cl := by simpa [Value.cells] using e1
  refine ⟨A, cl, e2, Nat.le_trans h1 h2, h3.ints, fun x hx => ?_⟩
  obtain ⟨i, hi, rfl⟩ := List.getElem_of_mem hx
  obtain ⟨b, o, ds, _, _, _, hd⟩ := h3.at_ i hi
  exact hd.2
theorem utfPuts_walk (w : World) (v0 : Value) (x0 : List Int) (y0 : (Ty.int .i32).slice.rd w w.heap.size v0.cells.toList x0) (s0 : ∃ a l c, v0 = .slice a l c) :
    Calls Try.prog 4 #[v0] w fun e w' => e = .returned (.bool true) ∧ Below w.heap.size w w' := by
  obtain ⟨A, c, rfl, h1, h2, h3⟩ := ints_of y0 s0
  exact (puts_any A x0 _ c w rfl h1 h2 (fun x hx => wf_i32 (h3 x hx))).mono fun e w' ⟨h1, h2⟩ => ⟨h1, h2.below⟩

theorem str_of {w : World} {v : Value} {x : ByteArray} (y : Ty.str.rd w w.heap.size v.cells.toList x) (s : ∃ s, v = .string s) : v = .string x ∧ x.size ≤ maxLen := by
  obtain ⟨s, rfl⟩ := s
  obtain ⟨e, h⟩ := y
  have : s = x := by simpa [Value.cells] using e
  subst this
  exact ⟨rfl, h⟩
theorem int_of {k : IntKind} {w : World} {B : Nat} {v : Value} {x : Int} (y : (Ty.int k).rd w B v.cells.toList x) (s : ∃ n, v = .int k n) : v = .int k x ∧ (Lit.int k x).wf = true := by
  obtain ⟨n, rfl⟩ := s
  obtain ⟨e, h⟩ := y
  have : n = x := by simpa [Value.cells] using e
  subst this
  exact ⟨rfl, h⟩

set_option maxHeartbeats 1600000 in
theorem cuts_any (s : ByteArray) (m : Int) (w : World) (hs : s.size ≤ maxLen) (m0 : -9223372036854775808 ≤ m) (m1 : m ≤ 9223372036854775807) : Calls Try.prog 5 #[.string s, .int .i64 m] w fun e w' => e = .returned (.bool true) ∧ Fr No w w' := by
  unfold maxLen at hs
  by_cases h : s.size ≤ 2000
  · obtain ⟨hc1, hc2⟩ := cut_le _ s.data.toList m (Nat.le_refl _)
    have hz : (cutS s m).size = cutN s.data.toList m := by
      rw [Lib.size_eq, cutS_data, List.length_take]; omega
    have hz1 : (cutS s m).size ≤ 2000 := by rw [hz]; simp at hc1; omega
    have hv : Hid ((runes s.data.toList).isSome = true → (runes (cutS s m).data.toList).isSome = true) := by
      intro h1
      rw [cutS_data]
      have := cut_valid _ s.data.toList m (Nat.le_refl _) (fun h => by rw [h] at h1; cases h1)
      cases hq : runes (s.data.toList.take (cutN s.data.toList m)) with
      | none => exact absurd hq this
      | some _ => rfl
    by_cases h0 : 0 ≤ m
    · have hmx : ((cutS s m).size : Int) ≤ m := by rw [hz]; omega
      have hss : Hid (cutS (cutS s m) m = cutS s m) := cutS_all _ _ hmx
      clear hz hc1 hc2
      generalize ht : cutS s m = t at hz1 hmx hss hv
      have HT := hid ht
      clear ht
      cases hvs : (runes s.data.toList).isSome with
      | true =>
        have hvt := hv.out hvs
        have HVS := hid hvs
        have HVT := hid hvt
        clear hvs hvt hv
        go_enter Try.func5, Try.ntmps5
        go_wp2_with fail
        refine (cut_any _ _ _ (by omega)).mono ?_
        rw [HT.out]
        rintro e w1 ⟨rfl, f1⟩
        go_wp2_with fail
        refine (rcut_any _ _ _ (by omega) m0 m1).mono ?_
        rw [HT.out]
        rintro e w2 ⟨rfl, rfl⟩
        go_wp2_with fail
        refine (cut_any _ _ _ (by omega)).mono ?_
        rw [hss.out]
        rintro e w3 ⟨rfl, f3⟩
        go_wp2_with fail
        refine (al_valid _ true _ (by omega) HVS.out).mono ?_
        rintro e w4 ⟨rfl, f4⟩
        go_wp2_with fail
        refine (al_valid _ true _ (by omega) HVT.out).mono ?_
        rintro e w5 ⟨rfl, f5⟩
        go_wp2_with fail
        refine (alive_any _).mono ?_
        rintro e w7 ⟨rfl, f7⟩
        go_wp2_with fail
        go_ret
        exact ⟨rfl, (((f1.trans f3 (fun _ _ h => h)).trans f4 (fun _ _ h => h)).trans f5 (fun _ _ h => h)).trans f7 (fun _ _ h => h)⟩
      | false =>
        have HVS := hid hvs
        clear hvs hv
        go_enter Try.func5, Try.ntmps5
        go_wp2_with fail
        refine (cut_any _ _ _ (by omega)).mono ?_
        rw [HT.out]
        rintro e w1 ⟨rfl, f1⟩
        go_wp2_with fail
        refine (rcut_any _ _ _ (by omega) m0 m1).mono ?_
        rw [HT.out]
        rintro e w2 ⟨rfl, rfl⟩
        go_wp2_with fail
        refine (cut_any _ _ _ (by omega)).mono ?_
        rw [hss.out]
        rintro e w3 ⟨rfl, f3⟩
        go_wp2_with fail
        refine (al_valid _ false _ (by omega) HVS.out).mono ?_
        rintro e w4 ⟨rfl, f4⟩
        go_wp2_with fail
        refine (alive_any _).mono ?_
        rintro e w7 ⟨rfl, f7⟩
        go_wp2_with fail
        go_ret
        exact ⟨rfl, ((f1.trans f3 (fun _ _ h => h)).trans f4 (fun _ _ h => h)).trans f7 (fun _ _ h => h)⟩

    · have e0 : cutN s.data.toList m = 0 := by omega
      have e1 : (cutS s m).data.toList = [] := by rw [cutS_data, e0]; rfl
      have HT : Hid (cutS s m = ByteArray.empty) := by rw [Hid, ← Lib.mk_data (cutS s m), e1]; rfl
      have hss : Hid (cutS ByteArray.empty m = ByteArray.empty) := by
        rw [Hid, ← Lib.mk_data (cutS ByteArray.empty m), cutS_data]; rfl
      rw [HT.out] at hv hz1
      have hv0 : ByteArray.empty.size ≤ 100000 := by decide
      clear hz hc1 hc2 e0 e1 hz1
      cases hvs : (runes s.data.toList).isSome with
      | true =>
        have hvt := hv.out hvs
        have HVS := hid hvs
        have HVT := hid hvt
        clear hvs hvt hv
        go_enter Try.func5, Try.ntmps5
        go_wp2_with fail
        refine (cut_any _ _ _ (by omega)).mono ?_
        rw [HT.out]
        rintro e w1 ⟨rfl, f1⟩
        go_wp2_with fail
        refine (rcut_any _ _ _ (by omega) m0 m1).mono ?_
        rw [HT.out]
        rintro e w2 ⟨rfl, rfl⟩
        go_wp2_with fail
        refine (cut_any _ _ _ (by omega)).mono ?_
        rw [hss.out]
        rintro e w3 ⟨rfl, f3⟩
        go_wp2_with fail
        refine (al_valid _ true _ (by omega) HVS.out).mono ?_
        rintro e w4 ⟨rfl, f4⟩
        go_wp2_with fail
        refine (al_valid _ true _ (by omega) HVT.out).mono ?_
        rintro e w5 ⟨rfl, f5⟩
        go_wp2_with fail
        refine (alive_any _).mono ?_
        rintro e w7 ⟨rfl, f7⟩
        go_wp2_with fail
        go_ret
        exact ⟨rfl, (((f1.trans f3 (fun _ _ h => h)).trans f4 (fun _ _ h => h)).trans f5 (fun _ _ h => h)).trans f7 (fun _ _ h => h)⟩
      | false =>
        have HVS := hid hvs
        clear hvs hv
        go_enter Try.func5, Try.ntmps5
        go_wp2_with fail
        refine (cut_any _ _ _ (by omega)).mono ?_
        rw [HT.out]
        rintro e w1 ⟨rfl, f1⟩
        go_wp2_with fail
        refine (rcut_any _ _ _ (by omega) m0 m1).mono ?_
        rw [HT.out]
        rintro e w2 ⟨rfl, rfl⟩
        go_wp2_with fail
        refine (cut_any _ _ _ (by omega)).mono ?_
        rw [hss.out]
        rintro e w3 ⟨rfl, f3⟩
        go_wp2_with fail
        refine (al_valid _ false _ (by omega) HVS.out).mono ?_
        rintro e w4 ⟨rfl, f4⟩
        go_wp2_with fail
        refine (alive_any _).mono ?_
        rintro e w7 ⟨rfl, f7⟩
        go_wp2_with fail
        go_ret
        exact ⟨rfl, ((f1.trans f3 (fun _ _ h => h)).trans f4 (fun _ _ h => h)).trans f7 (fun _ _ h => h)⟩

  · go_enter Try.func5, Try.ntmps5
    go_wp2_with fail
    refine (alive_any _).mono ?_
    rintro e w7 ⟨rfl, f7⟩
    go_wp2_with fail
    go_ret
    exact ⟨rfl, f7⟩

theorem wf_i64' {n : Int} (h : (Lit.int .i64 n).wf = true) : -9223372036854775808 ≤ n ∧ n ≤ 9223372036854775807 := by
  simpa [Lit.wf, IntKind.min, IntKind.max, IntKind.signed, IntKind.bits] using h
theorem utfCuts_walk (w : World) (v0 v1 : Value) (x0 : ByteArray) (x1 : Int) (y0 : Ty.str.rd w w.heap.size v0.cells.toList x0) (y1 : (Ty.int .i64).rd w w.heap.size v1.cells.toList x1) (s0 : ∃ s, v0 = .string s) (s1 : ∃ n, v1 = .int .i64 n) :
    Calls Try.prog 5 #[v0, v1] w fun e w' => e = .returned (.bool true) ∧ Below w.heap.size w w' := by
  obtain ⟨rfl, h⟩ := str_of y0 s0
  obtain ⟨rfl, h'⟩ := int_of y1 s1
  exact (cuts_any x0 x1 w h (wf_i64' h').1 (wf_i64' h').2).mono fun e w' ⟨h1, h2⟩ => ⟨h1, h2.below⟩
end Go.Proofs.Ytnjfkpmbjncbnaa
