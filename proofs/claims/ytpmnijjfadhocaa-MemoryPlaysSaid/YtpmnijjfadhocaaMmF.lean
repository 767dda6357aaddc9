/- Chapter 28: the widths. -/
import Derived.Test.YtpmnijjfadhocaaMmE
namespace Go.Proofs.Ytpmnijjfadhocaa
open Go.RowKit

def wl : List Nat := [1, 2, 4, 8]
theorem wl_wid {op : Int} (h : ∀ i : Nat, i < 4 → wl[i]? ≠ some (wid op)) : wid op = 0 := by
  rcases Nat.eq_zero_or_pos (wid op) with h0 | h0
  · exact h0
  · rcases wid_form (Nat.ne_of_gt h0) with e | e | e | e
    · exact absurd (by rw [e]; rfl) (h 0 (by omega))
    · exact absurd (by rw [e]; rfl) (h 1 (by omega))
    · exact absurd (by rw [e]; rfl) (h 2 (by omega))
    · exact absurd (by rw [e]; rfl) (h 3 (by omega))
theorem zeros_bts (n : Nat) : Bts (List.replicate n 0) := fun b hb => by rw [List.mem_replicate] at hb; omega
theorem zeros_els {w : World} {q c n : Nat} {t : TypeId} (hb : Blk w q t (Array.replicate c (.int .u8 0))) (hn : n ≤ c) : tB.els w (· = q) (some ⟨q, 0, none⟩) (List.replicate n (0 : Int)) :=
  css_els (S := Emp) (S' := (· = q)) (css_bts (zeros_bts n)) inferInstance (fun _ h => h.elim) rfl 0 (fun k u hu => by
    rw [flat_bts, Ks, List.map_replicate, List.getElem?_replicate] at hu
    split at hu
    · rw [Nat.zero_add, hb.cell, Array.getElem?_replicate, if_pos (by omega)]; exact hu
    · cases hu)
theorem wl_at {k : Nat} (hk : k < 4) : ∃ m : Nat, wl[k]? = some m ∧ (#[Value.int .i64 1, Value.int .i64 2, Value.int .i64 4, Value.int .i64 8] : Array Value)[k]? = some (.int .i64 m) ∧ 1 ≤ m ∧ m ≤ 8 := by
  have : k = 0 ∨ k = 1 ∨ k = 2 ∨ k = 3 := by omega
  rcases this with rfl | rfl | rfl | rfl
  · exact ⟨1, rfl, rfl, by omega, by omega⟩
  · exact ⟨2, rfl, rfl, by omega, by omega⟩
  · exact ⟨4, rfl, rfl, by omega, by omega⟩
  · exact ⟨8, rfl, rfl, by omega, by omega⟩
theorem ldD_zero (op : Int) (m : Nat) : (ldD op (List.replicate m 0)).2 = decide (wid op ≠ 0 ∧ m = wid op) := by
  unfold ldD
  rw [List.length_replicate]
  split <;> rename_i h
  · rw [decide_eq_false]; omega
  · rw [decide_eq_true]; omega
set_option maxRecDepth 100000 in
set_option maxHeartbeats 1600000 in
theorem width_any (op : Int) (w : World) : Calls Try.prog 28 #[.int .i64 op] w fun e w' => e = .returned (.int .i64 (wid op)) ∧ Fr No w w' := by
  have F0 := hid (((Fr.refl No w).alloc (.cells #[.int .u8 0, .int .u8 0, .int .u8 0, .int .u8 0, .int .u8 0, .int .u8 0, .int .u8 0, .int .u8 0] 76)).alloc (.cells #[.int .i64 1, .int .i64 2, .int .i64 4, .int .i64 8] 3))
  go_enter Try.func28, Try.ntmps28
  have G0 := hid ((Blk.new w 76 #[.int .u8 0, .int .u8 0, .int .u8 0, .int .u8 0, .int .u8 0, .int .u8 0, .int .u8 0, .int .u8 0]).alloc (.cells #[.int .i64 1, .int .i64 2, .int .i64 4, .int .i64 8] 3))
  have G1 := hid (Blk.new1 w (.cells #[.int .u8 0, .int .u8 0, .int .u8 0, .int .u8 0, .int .u8 0, .int .u8 0, .int .u8 0, .int .u8 0] 76) 3 #[.int .i64 1, .int .i64 2, .int .i64 4, .int .i64 8])
  go_wp2
  generalize (w.alloc (.cells #[.int .u8 0, .int .u8 0, .int .u8 0, .int .u8 0, .int .u8 0, .int .u8 0, .int .u8 0, .int .u8 0] 76)).alloc (.cells #[.int .i64 1, .int .i64 2, .int .i64 4, .int .i64 8] 3) = W at *
  go_loop [10] (fun j => ∃ k : Nat, k ≤ 4 ∧ j = .int .i64 k ∧ Hid (∀ i : Nat, i < k → wid op ≠ 0 → wl[i]? ≠ some (wid op))) (fun j => 4 - (intOf j).toNat)
  case atStart => exact ⟨0, by omega, rfl, fun i hi => by omega⟩
  case round =>
    obtain ⟨k, hk, rfl, HN⟩ := hrel
    by_cases hk4 : k < 4
    · obtain ⟨m, hm, hc, hm1, hm8⟩ := wl_at hk4
      have y0 : W.cell? ⟨w.heap.size + 1, k, none⟩ = some (.int .i64 m) := (G1.out.cell k).trans hc
      have HE := zeros_els (n := m) (c := 8) (t := 76) G0.out (by omega)
      have HA := aload_any (some ⟨w.heap.size, 0, none⟩) (List.replicate m 0) 8 op _ W HE (by simp; omega)
      rw [ldD_zero, List.length_replicate] at HA
      have HA := hid HA
      have HM := hid hm
      have i0 : (0 : Int) ≤ k := by omega
      have i1 : (k : Int) < 4 := by omega
      have j0 : (0 : Int) ≤ m := by omega
      have j1 : (m : Int) ≤ 8 := by omega
      clear hc HE hm
      by_cases hok : wid op ≠ 0 ∧ m = wid op
      · rw [decide_eq_true hok] at HA
        have HK := hid hok
        clear hok
        go_wp2_with fail
        refine HA.out.mono ?_
        rintro e w' ⟨rfl, rfl⟩
        go_wp2
        go_ret
        exact ⟨ret_int (by rw [← HK.out.2]), F0.out⟩
      · rw [decide_eq_false hok] at HA
        have HK := hid hok
        clear hok
        go_wp2_with fail
        refine HA.out.mono ?_
        rintro e w' ⟨rfl, rfl⟩
        go_wp2
        go_round
        case rel => exact ⟨k + 1, by omega, by go_num, fun i hi h0 => by
          rcases Nat.lt_or_ge i k with h | h
          · exact HN.out i h h0
          · have hik : i = k := by omega
            subst hik
            rw [HM.out]
            intro e
            injection e with e
            exact HK.out ⟨h0, e⟩⟩
        case measure => simp [intOf] <;> omega
    · have hke : k = 4 := by omega
      subst hke
      have h0 : wid op = 0 := by
        rcases Nat.eq_zero_or_pos (wid op) with h | h
        · exact h
        · exact wl_wid (fun i hi => HN.out i hi (Nat.ne_of_gt h))
      rw [h0]
      go_wp2
      go_ret
      exact ⟨rfl, F0.out⟩
set_option maxRecDepth 100000 in
set_option maxHeartbeats 1600000 in
theorem wide_any (op : Int) (w : World) : Calls Try.prog 37 #[.int .i64 op] w fun e w' => e = .returned (.int .i64 (wid op)) ∧ Fr No w w' := by
  have F0 := hid ((Fr.refl No w).alloc (.cells #[.int .i64 1, .int .i64 2, .int .i64 4, .int .i64 8] 3))
  have G1 := hid (Blk.new w 3 #[.int .i64 1, .int .i64 2, .int .i64 4, .int .i64 8])
  go_enter Try.func37, Try.ntmps37
  go_wp2
  generalize w.alloc (.cells #[.int .i64 1, .int .i64 2, .int .i64 4, .int .i64 8] 3) = W at *
  go_loopw [4] (fun j wr => ∃ k : Nat, k ≤ 4 ∧ j = .int .i64 k ∧ Hid (∀ i : Nat, i < k → wid op ≠ 0 → wl[i]? ≠ some (wid op)) ∧ Hid (Fr No W wr)) (fun j _ => 4 - (intOf j).toNat)
  case atStart => exact ⟨0, by omega, rfl, fun i hi => by omega, Fr.refl _ _⟩
  case round =>
    obtain ⟨k, hk, rfl, HN, F⟩ := hrel
    by_cases hk4 : k < 4
    · obtain ⟨m, hm, hc, hm1, hm8⟩ := wl_at hk4
      have y0 : wr.cell? ⟨w.heap.size, k, none⟩ = some (.int .i64 m) := ((G1.out.fr F.out (fun x => x)).cell k).trans hc
      have hmk := run_mk elBs rfl wr .i64 .i64 m (by omega) (by omega)
      have GZ := Blk.new wr 5 (Array.replicate m (.int .u8 0))
      have HE := zeros_els (n := m) (c := m) GZ (by omega)
      have HA := rload_any (some ⟨wr.heap.size, 0, none⟩) (List.replicate m 0) m op _ _ HE (by simp; omega)
      rw [ldD_zero, List.length_replicate] at HA
      have HA := hid HA
      have HM := hid hm
      have FA := hid (F.out.alloc (.cells (Array.replicate m (.int .u8 0)) 5))
      have i0 : (0 : Int) ≤ k := by omega
      have i1 : (k : Int) < 4 := by omega
      have j0 : (0 : Int) ≤ m := by omega
      have j1 : (m : Int) ≤ 8 := by omega
      clear hc HE hm GZ
      by_cases hok : wid op ≠ 0 ∧ m = wid op
      · rw [decide_eq_true hok] at HA
        have HK := hid hok
        clear hok
        go_wp2_with fail
        refine HA.out.mono ?_
        rintro e w' ⟨rfl, f⟩
        have y1 : w'.cell? ⟨w.heap.size, k, none⟩ = some (.int .i64 m) := by
          rw [(FA.out.trans f (fun _ _ h => h)).cell (p := ⟨w.heap.size, k, none⟩) G1.out.lt (fun x => x)]
          rw [F.out.cell (p := ⟨w.heap.size, k, none⟩) G1.out.lt (fun x => x)] at y0
          exact y0
        have F2 := hid (F0.out.trans (FA.out.trans f (fun _ _ h => h)) (fun _ _ h => h))
        clear f hmk y0
        go_wp2
        go_ret
        exact ⟨ret_int (by rw [← HK.out.2]), F2.out⟩
      · rw [decide_eq_false hok] at HA
        have HK := hid hok
        clear hok
        go_wp2_with fail
        refine HA.out.mono ?_
        rintro e w' ⟨rfl, f⟩
        have F2 := hid (FA.out.trans f (fun _ _ h => h))
        clear f hmk y0
        go_wp2
        refine ⟨⟨k + 1, by omega, by go_num, fun i hi h0 => ?_, F2⟩, by simp [intOf] <;> omega⟩
        rcases Nat.lt_or_ge i k with h | h
        · exact HN.out i h h0
        · have hik : i = k := by omega
          subst hik
          rw [HM.out]
          intro e
          injection e with e
          exact HK.out ⟨h0, e⟩
    · have hke : k = 4 := by omega
      subst hke
      have h0 : wid op = 0 := by
        rcases Nat.eq_zero_or_pos (wid op) with h | h
        · exact h
        · exact wl_wid (fun i hi => HN.out i hi (Nat.ne_of_gt h))
      go_wp2
      go_ret
      exact ⟨ret_int (by rw [h0]; rfl), F0.out.trans F.out (fun _ _ h => h)⟩
end Go.Proofs.Ytpmnijjfadhocaa
