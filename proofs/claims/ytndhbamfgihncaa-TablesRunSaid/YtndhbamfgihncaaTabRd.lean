/- Contracts of the reference of tables, part 4: Fill, Init, Copy, Grow. -/
import Derived.Test.YtndhbamfgihncaaTabRc
namespace Go.Proofs.Ytndhbamfgihncaa
open Go.RowKit

section
variable (e mn mx : Int) (h : Bool) (A : Option Addr) (xs : List Int) (c : Nat) (w : World) {B0 : Nat}

set_option maxHeartbeats 1600000 in
theorem rfill_yes (to x n : Int) (T N : Nat) (hx : xs.length ≤ 1024) (hr : Rd w w.heap.size A (Us xs)) (h0 : 0 ≤ to) (h1 : to < 18446744073709551616) (h2 : 0 ≤ n) (h3 : n < 18446744073709551616) (eT : to % 4294967296 = T) (eN : n % 4294967296 = N) (hf : T + N ≤ xs.length) :
    Calls Try.prog 35 #[.agg #[.int .i64 e, .int .i64 mn, .int .i64 mx, .bool h, .slice A xs.length c], .int .u64 to, .int .u64 x, .int .u64 n] w (RTo e mn mx h B0 A (splice xs T (List.replicate N x)) (.int .i64 0) w) := by
  have hb := there_true (n := xs.length) (i := to) (m := n) (by omega)
  have B0 := hid ((Blk.new w 51 #[.int .i64 e, .int .i64 mn, .int .i64 mx, .bool h, .slice A xs.length c]).alloc (.cells #[.int .i64 0, .int .i64 0, .int .i64 0, .bool false, .slice none 0 0] 51))
  have R0 := hid (Blk.new1 w (.cells #[.int .i64 e, .int .i64 mn, .int .i64 mx, .bool h, .slice A xs.length c] 51) 51 #[.int .i64 0, .int .i64 0, .int .i64 0, .bool false, .slice none 0 0])
  have F0 := hid (((Fr.refl No w).alloc (.cells #[.int .i64 e, .int .i64 mn, .int .i64 mx, .bool h, .slice A xs.length c] 51)).alloc (.cells #[.int .i64 0, .int .i64 0, .int .i64 0, .bool false, .slice none 0 0] 51))
  have LT : Hid (∀ W : World, Calls Try.prog 41 #[.int .u64 to] W fun e w' => e = .returned (.int .i64 T) ∧ W = w') := fun W => by have := rlow_any to W h0 h1; rwa [eT] at this
  have LN : Hid (∀ W : World, Calls Try.prog 41 #[.int .u64 n] W fun e w' => e = .returned (.int .i64 N) ∧ W = w') := fun W => by have := rlow_any n W h2 h3; rwa [eN] at this
  have HR := hid hr
  clear hr
  go_enter Try.func35, Try.ntmps35
  go_wp2_with (go_at_call 40; refine (rthere_any _ _ _ _ _ _ (by omega) (by omega) (by omega) (by omega) (by omega)).mono ?_; rintro e w' ⟨rfl, rfl⟩)
  generalize (w.alloc (.cells #[.int .i64 e, .int .i64 mn, .int .i64 mx, .bool h, .slice A xs.length c] 51)).alloc (.cells #[.int .i64 0, .int .i64 0, .int .i64 0, .bool false, .slice none 0 0] 51) = W at *
  have hWs : w.heap.size + 2 ≤ W.heap.size := R0.out.lt
  clear eT eN
  refine wp_region_ord (fun X => X.cell? ⟨w.heap.size, 0, none⟩ = some (.int .i64 e) ∧ X.cell? ⟨w.heap.size, 1, none⟩ = some (.int .i64 mn) ∧ X.cell? ⟨w.heap.size, 2, none⟩ = some (.int .i64 mx) ∧ X.cell? ⟨w.heap.size, 3, none⟩ = some (.bool h) ∧ X.cell? ⟨w.heap.size, 4, none⟩ = some (.slice A xs.length c)) [] [(0, true), (1, true), (2, true), (3, true), (4, true), (5, true), (6, false), (7, false), (8, false), (9, true)] (by kernel_rfl) (by kernel_rfl) (by kernel_rfl) rfl (five B0.out) ?_
  repeat (first
    | (refine wpO_skip rfl rfl ?_; simp only [List.getElem_toArray, List.getElem_cons_succ, List.getElem_cons_zero, Act.put, List.setIfInBounds_toArray, List.set_cons_zero, List.set_cons_succ])
    | (refine wpO_call rfl rfl ?_; simp only [List.getElem_toArray, List.getElem_cons_succ, List.getElem_cons_zero]; apply Exists.intro; refine ⟨fun X hX => ?_, ?_⟩
       · (obtain ⟨s0, s1, s2, s3, s4⟩ := hX; go_simp; first | exact stillUpon_value | exact stillUpon_enter (LT.out _) | exact stillUpon_enter (LN.out _))
       simp only [Act.put, List.setIfInBounds_toArray, List.set_cons_zero, List.set_cons_succ]))
  refine wpO_eff rfl rfl (fun K hK => ?_)
  simp only [List.getElem_toArray, List.getElem_cons_succ, List.getElem_cons_zero]
  go_simp
  refine (rsame_any x N W.drew (by omega)).mono ?_
  rintro e3 w3 ⟨v3, rfl, o3, f3⟩
  obtain ⟨A3, c3, hv3, hc3, r3, _⟩ := row_form o3
  have e3 : (Us (List.replicate N x)).length = N := by simp
  rw [e3] at hv3
  subst hv3
  have B3 := hid (B0.out.drew.fr f3 (fun x => x))
  have R3 := hid (R0.out.drew.fr f3 (fun x => x))
  have F3 := hid (F0.out.drew.trans f3 (fun _ _ h => h))
  have HP := rput_any e mn mx h A A3 xs (List.replicate N x) c c3 T w.heap.size w3.heap.size w3 (HR.out.frNo F3.out) r3 hx (by simp; omega)
  rw [List.length_replicate] at HP
  have HP := hid HP
  clear o3 r3 e3
  refine hK _ _ (fun _ => five B3.out) ?_
  clear hK K
  refine wpO_eff rfl rfl (fun K hK => ?_)
  simp only [List.getElem_toArray, List.getElem_cons_succ, List.getElem_cons_zero]
  go_simp
  refine HP.out.mono ?_
  rintro e' w4 ⟨q, c4, rfl, ho, hq, f4⟩
  have B4 := hid (B3.out.fr f4 (fun x => x))
  have R4 := hid (R3.out.fr f4 (fun x => x))
  have O4 := hid ho
  have s3 := F3.out.size
  have s3' := R3.out.lt
  clear ho HP
  refine hK _ _ (fun _ => five B4.out) ?_
  clear hK K
  obtain ⟨r0, r1, r2, r3, r4⟩ := five R4.out
  obtain ⟨z0, z1, z2, z3, z4⟩ := fz R4.out
  refine wpO_eff rfl rfl (fun K hK => ?_)
  simp only [List.getElem_toArray, List.getElem_cons_succ, List.getElem_cons_zero]
  go_simp
  refine hK _ _ (fun _ => five (((((B4.out.far (p := ⟨w.heap.size + 1, 0, none⟩) (by simp) _).far (p := ⟨w.heap.size + 1, 1, none⟩) (by simp) _).far (p := ⟨w.heap.size + 1, 2, none⟩) (by simp) _).far (p := ⟨w.heap.size + 1, 3, none⟩) (by simp) _).far (p := ⟨w.heap.size + 1, 4, none⟩) (by simp) _)) ?_
  clear hK K
  repeat (first
    | (refine wpO_skip rfl rfl ?_; simp only [List.getElem_toArray, List.getElem_cons_succ, List.getElem_cons_zero, Act.put, List.setIfInBounds_toArray, List.set_cons_zero, List.set_cons_succ])
    | (refine wpO_call rfl rfl ?_; simp only [List.getElem_toArray, List.getElem_cons_succ, List.getElem_cons_zero]; apply Exists.intro; refine ⟨fun X hX => ?_, ?_⟩
       · (obtain ⟨s0, s1, s2, s3, s4⟩ := hX; go_simp; exact stillUpon_value)
       simp only [Act.put, List.setIfInBounds_toArray, List.set_cons_zero, List.set_cons_succ]))
  refine wpO_nil ?_
  go_wp2
  refine bodyPost_ret (v := .tuple #[.agg #[.int .i64 e, .int .i64 mn, .int .i64 mx, .bool h, .slice (some ⟨q, 0, none⟩) xs.length c4], .int .i64 0]) (by simp [results, Try.results35, go_sem, *]) rfl ?_
  exact rend e mn mx h w (by omega) (length_splice _ _ _ (by simp; omega)) (w.heap.size + 1) (by omega) (by omega) _ _ _ _ _ O4.out (F3.out.trans f4 (fun _ _ h => h))
end
end Go.Proofs.Ytndhbamfgihncaa
