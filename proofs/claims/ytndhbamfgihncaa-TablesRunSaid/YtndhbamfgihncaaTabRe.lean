/- Contracts of the reference of tables, part 5: Init. -/
import Derived.Test.YtndhbamfgihncaaTabRd
namespace Go.Proofs.Ytndhbamfgihncaa
open Go.RowKit

theorem rd_sub {w : World} {B : Nat} {D : Option Addr} {ys : List Int} (hd : Rd w B D (Us ys)) (U N : Nat) : Rd w B (D.map fun x => x.add U) (Us ((ys.drop U).take N)) := by
  rcases hd with hx | ⟨b, o, rfl, hb, hc⟩
  · have h' : ys = [] := by cases ys with | nil => rfl | cons _ _ => simp [Us] at hx
    subst h'
    left; simp [Us]
  · refine .inr ⟨b, o + U, by rw [Option.map_some, add_lit'], hb, fun j u hu => ?_⟩
    have := hc (U + j) u (by
      simp only [Us, List.getElem?_map, List.getElem?_take, List.getElem?_drop] at hu ⊢
      split at hu
      · exact hu
      · simp at hu)
    rwa [← Nat.add_assoc] at this

section
variable (e mn mx : Int) (h : Bool) (A : Option Addr) (xs : List Int) (c : Nat) (w : World) {B0 : Nat}

set_option maxHeartbeats 1600000 in
theorem rinit_in (D : Option Addr) (ys : List Int) (B d : Nat) (to at_ n : Int) (T U N : Nat) (hx : xs.length ≤ 1024) (hy : ys.length ≤ 1048576) (hyd : ys.length ≤ d) (hr : Rd w w.heap.size A (Us xs)) (hd : Rd w B D (Us ys)) (h0 : 0 ≤ to) (h1 : to < 18446744073709551616) (h2 : 0 ≤ n) (h3 : n < 18446744073709551616) (h4 : 0 ≤ at_) (h5 : at_ < 18446744073709551616)
    (eT : to % 4294967296 = T) (eU : at_ % 4294967296 = U) (eN : n % 4294967296 = N) (hf : T + N ≤ xs.length) (hf2 : U + N ≤ ys.length) (hcap : ¬ d = U) :
    Calls Try.prog 37 #[.agg #[.int .i64 e, .int .i64 mn, .int .i64 mx, .bool h, .slice A xs.length c], .slice D ys.length d, .int .u64 to, .int .u64 at_, .int .u64 n] w (RTo e mn mx h B0 A (splice xs T ((ys.drop U).take N)) (.int .i64 0) w) := by
  have hb := there_true (n := xs.length) (i := to) (m := n) (by omega)
  have hb2 := there_true (n := ys.length) (i := at_) (m := n) (by omega)
  have B0 := hid ((Blk.new w 51 #[.int .i64 e, .int .i64 mn, .int .i64 mx, .bool h, .slice A xs.length c]).alloc (.cells #[.int .i64 0, .int .i64 0, .int .i64 0, .bool false, .slice none 0 0] 51))
  have R0 := hid (Blk.new1 w (.cells #[.int .i64 e, .int .i64 mn, .int .i64 mx, .bool h, .slice A xs.length c] 51) 51 #[.int .i64 0, .int .i64 0, .int .i64 0, .bool false, .slice none 0 0])
  have F0 := hid (((Fr.refl No w).alloc (.cells #[.int .i64 e, .int .i64 mn, .int .i64 mx, .bool h, .slice A xs.length c] 51)).alloc (.cells #[.int .i64 0, .int .i64 0, .int .i64 0, .bool false, .slice none 0 0] 51))
  have LT : Hid (∀ W : World, Calls Try.prog 41 #[.int .u64 to] W fun e w' => e = .returned (.int .i64 T) ∧ W = w') := fun W => by have := rlow_any to W h0 h1; rwa [eT] at this
  have LU : Hid (∀ W : World, Calls Try.prog 41 #[.int .u64 at_] W fun e w' => e = .returned (.int .i64 U) ∧ W = w') := fun W => by have := rlow_any at_ W h4 h5; rwa [eU] at this
  have LN : Hid (∀ W : World, Calls Try.prog 41 #[.int .u64 n] W fun e w' => e = .returned (.int .i64 (N : Int)) ∧ W = w') := fun W => by have := rlow_any n W h2 h3; rwa [eN] at this
  have HRD : Hid (∀ X, Fr No w X → Rd X B (D.map fun x => x.add U) (Us ((ys.drop U).take N))) := fun X hX => rd_sub (hd.frNo hX) U N
  have HL : Hid (((ys.drop U).take N).length = N) := by unfold Hid; simp; omega
  have HR := hid hr
  clear hr hd
  go_enter Try.func37, Try.ntmps37
  go_wp2_with (go_at_call 40; refine (rthere_any _ _ _ _ _ _ (by omega) (by omega) (by omega) (by omega) (by omega)).mono ?_; rintro e w' ⟨rfl, rfl⟩)
  generalize (w.alloc (.cells #[.int .i64 e, .int .i64 mn, .int .i64 mx, .bool h, .slice A xs.length c] 51)).alloc (.cells #[.int .i64 0, .int .i64 0, .int .i64 0, .bool false, .slice none 0 0] 51) = W at *
  have hWs : w.heap.size + 2 ≤ W.heap.size := R0.out.lt
  clear eT eN eU
  have i3 : (0 : Int) ≤ (U : Int) := by omega
  have i4 : (U : Int) + (N : Int) ≤ d := by omega
  have i5 : (U : Int) ≤ U + (N : Int) := by omega
  have i6 : (0 : Int) ≤ (U : Int) + (N : Int) := by omega
  have ws : IntKind.i64.wrap ((U : Int) + (N : Int)) = (U : Int) + (N : Int) := IntWalk.i64_in _ (by omega)
  have wt : ((U : Int) + (N : Int)).toNat = U + N := by omega
  have wu : ((U : Int)).toNat = U := by omega
  have HS3 := hid (HR.out.frNo F0.out.drew)
  refine wp_region_ord (fun X => X.cell? ⟨w.heap.size, 0, none⟩ = some (.int .i64 e) ∧ X.cell? ⟨w.heap.size, 1, none⟩ = some (.int .i64 mn) ∧ X.cell? ⟨w.heap.size, 2, none⟩ = some (.int .i64 mx) ∧ X.cell? ⟨w.heap.size, 3, none⟩ = some (.bool h) ∧ X.cell? ⟨w.heap.size, 4, none⟩ = some (.slice A xs.length c)) [] [(0, true), (1, true), (2, true), (3, true), (4, true), (5, true), (6, true), (7, true), (8, true), (9, true), (10, true), (11, true), (12, false), (13, false), (14, true)] (by kernel_rfl) (by kernel_rfl) (by kernel_rfl) rfl (five B0.out) ?_
  repeat (first
    | (refine wpO_skip rfl rfl ?_; simp only [List.getElem_toArray, List.getElem_cons_succ, List.getElem_cons_zero, Act.put, List.setIfInBounds_toArray, List.set_cons_zero, List.set_cons_succ])
    | (refine wpO_call rfl rfl ?_; simp only [List.getElem_toArray, List.getElem_cons_succ, List.getElem_cons_zero]; apply Exists.intro; refine ⟨fun X hX => ?_, ?_⟩
       · (obtain ⟨s0, s1, s2, s3, s4⟩ := hX; go_simp; first | exact stillUpon_value | exact stillUpon_enter (LT.out _) | exact stillUpon_enter (LU.out _) | exact stillUpon_enter (LN.out _))
       simp only [Act.put, List.setIfInBounds_toArray, List.set_cons_zero, List.set_cons_succ]))
  clear ws wt wu
  refine wpO_eff rfl rfl (fun K hK => ?_)
  simp only [List.getElem_toArray, List.getElem_cons_succ, List.getElem_cons_zero]
  go_simp
  have HP := rput_any e mn mx h A (D.map fun x => x.add U) xs ((ys.drop U).take N) c (d - U) T w.heap.size B W.drew HS3.out (HRD.out _ F0.out.drew) hx (by rw [HL.out]; omega)
  rw [HL.out] at HP
  refine HP.mono ?_
  rintro e' w4 ⟨q, c4, rfl, ho, hq, f4⟩
  have B4 := hid (B0.out.drew.fr f4 (fun x => x))
  have R4 := hid (R0.out.drew.fr f4 (fun x => x))
  have O4 := hid ho
  have hq' : W.heap.size ≤ q := hq
  clear ho HP hq
  refine hK _ _ (fun _ => five B4.out) ?_
  clear hK K
  obtain ⟨r0, r1, r2, r3, r4⟩ := five R4.out
  obtain ⟨z0, z1, z2, z3, z4⟩ := fz R4.out
  refine wpO_eff rfl rfl (fun K hK => ?_)
  simp only [List.getElem_toArray, List.getElem_cons_succ, List.getElem_cons_zero]
  go_simp
  refine hK _ _ (fun _ => five (((((B4.out.far (p := ⟨w.heap.size + 1, 0, none⟩) (by simp) _).far (p := ⟨w.heap.size + 1, 1, none⟩) (by simp) _).far (p := ⟨w.heap.size + 1, 2, none⟩) (by simp) _).far (p := ⟨w.heap.size + 1, 3, none⟩) (by simp) _).far (p := ⟨w.heap.size + 1, 4, none⟩) (by simp) _)) ?_
  clear hK K
  repeat (first
    | (refine wpO_skip rfl rfl ?_; simp only [List.getElem_toArray, List.getElem_cons_succ, List.getElem_cons_zero, Act.put, List.setIfInBounds_toArray, List.set_cons_zero, List.set_cons_succ])
    | (refine wpO_call rfl rfl ?_; simp only [List.getElem_toArray, List.getElem_cons_succ, List.getElem_cons_zero]; apply Exists.intro; refine ⟨fun X hX => ?_, ?_⟩
       · (obtain ⟨s0, s1, s2, s3, s4⟩ := hX; go_simp; exact stillUpon_value)
       simp only [Act.put, List.setIfInBounds_toArray, List.set_cons_zero, List.set_cons_succ]))
  refine wpO_nil ?_
  go_wp2
  refine bodyPost_ret (v := .tuple #[.agg #[.int .i64 e, .int .i64 mn, .int .i64 mx, .bool h, .slice (some ⟨q, 0, none⟩) xs.length c4], .int .i64 0]) (by simp [results, Try.results37, go_sem, *]) rfl ?_
  exact rend e mn mx h w (by omega) (length_splice _ _ _ (by rw [HL.out]; omega)) (w.heap.size + 1) (by omega) (by omega) _ _ _ _ _ O4.out (F0.out.drew.trans f4 (fun _ _ h => h))

set_option maxHeartbeats 1600000 in
theorem rinit_cap (D : Option Addr) (ys : List Int) (B d : Nat) (to at_ n : Int) (T U N : Nat) (hx : xs.length ≤ 1024) (hy : ys.length ≤ 1048576) (hyd : ys.length ≤ d) (hr : Rd w w.heap.size A (Us xs)) (hd : Rd w B D (Us ys)) (h0 : 0 ≤ to) (h1 : to < 18446744073709551616) (h2 : 0 ≤ n) (h3 : n < 18446744073709551616) (h4 : 0 ≤ at_) (h5 : at_ < 18446744073709551616)
    (eT : to % 4294967296 = T) (eU : at_ % 4294967296 = U) (eN : n % 4294967296 = N) (hf : T + N ≤ xs.length) (hf2 : U + N ≤ ys.length) (hcap : d = U) :
    Calls Try.prog 37 #[.agg #[.int .i64 e, .int .i64 mn, .int .i64 mx, .bool h, .slice A xs.length c], .slice D ys.length d, .int .u64 to, .int .u64 at_, .int .u64 n] w (RTo e mn mx h B0 A (splice xs T ((ys.drop U).take N)) (.int .i64 0) w) := by
  have hb := there_true (n := xs.length) (i := to) (m := n) (by omega)
  have hb2 := there_true (n := ys.length) (i := at_) (m := n) (by omega)
  subst hcap
  obtain rfl : N = 0 := by omega
  have B0 := hid ((Blk.new w 51 #[.int .i64 e, .int .i64 mn, .int .i64 mx, .bool h, .slice A xs.length c]).alloc (.cells #[.int .i64 0, .int .i64 0, .int .i64 0, .bool false, .slice none 0 0] 51))
  have R0 := hid (Blk.new1 w (.cells #[.int .i64 e, .int .i64 mn, .int .i64 mx, .bool h, .slice A xs.length c] 51) 51 #[.int .i64 0, .int .i64 0, .int .i64 0, .bool false, .slice none 0 0])
  have F0 := hid (((Fr.refl No w).alloc (.cells #[.int .i64 e, .int .i64 mn, .int .i64 mx, .bool h, .slice A xs.length c] 51)).alloc (.cells #[.int .i64 0, .int .i64 0, .int .i64 0, .bool false, .slice none 0 0] 51))
  have LT : Hid (∀ W : World, Calls Try.prog 41 #[.int .u64 to] W fun e w' => e = .returned (.int .i64 T) ∧ W = w') := fun W => by have := rlow_any to W h0 h1; rwa [eT] at this
  have LU : Hid (∀ W : World, Calls Try.prog 41 #[.int .u64 at_] W fun e w' => e = .returned (.int .i64 d) ∧ W = w') := fun W => by have := rlow_any at_ W h4 h5; rwa [eU] at this
  have LN : Hid (∀ W : World, Calls Try.prog 41 #[.int .u64 n] W fun e w' => e = .returned (.int .i64 0) ∧ W = w') := fun W => by have := rlow_any n W h2 h3; rwa [eN] at this
  have HRD : Hid (∀ X, Fr No w X → Rd X B D (Us ((ys.drop d).take 0))) := fun X hX => by rw [List.take_zero]; exact .inl rfl
  have HL : Hid (((ys.drop d).take 0).length = 0) := by unfold Hid; simp
  have HR := hid hr
  clear hr hd
  go_enter Try.func37, Try.ntmps37
  go_wp2_with (go_at_call 40; refine (rthere_any _ _ _ _ _ _ (by omega) (by omega) (by omega) (by omega) (by omega)).mono ?_; rintro e w' ⟨rfl, rfl⟩)
  generalize (w.alloc (.cells #[.int .i64 e, .int .i64 mn, .int .i64 mx, .bool h, .slice A xs.length c] 51)).alloc (.cells #[.int .i64 0, .int .i64 0, .int .i64 0, .bool false, .slice none 0 0] 51) = W at *
  have hWs : w.heap.size + 2 ≤ W.heap.size := R0.out.lt
  clear eT eN eU
  have i3 : (0 : Int) ≤ (d : Int) := by omega
  have ws : IntKind.i64.wrap (d : Int) = (d : Int) := IntWalk.i64_in _ (by omega)
  have ws2 : IntKind.i64.wrap ((d : Int) + 0) = (d : Int) := IntWalk.i64_in _ (by omega)
  have wt : ((d : Int)).toNat = d := by omega
  have wu : ((d : Int)).toNat = d := by omega
  have HS3 := hid (HR.out.frNo F0.out.drew)
  refine wp_region_ord (fun X => X.cell? ⟨w.heap.size, 0, none⟩ = some (.int .i64 e) ∧ X.cell? ⟨w.heap.size, 1, none⟩ = some (.int .i64 mn) ∧ X.cell? ⟨w.heap.size, 2, none⟩ = some (.int .i64 mx) ∧ X.cell? ⟨w.heap.size, 3, none⟩ = some (.bool h) ∧ X.cell? ⟨w.heap.size, 4, none⟩ = some (.slice A xs.length c)) [] [(0, true), (1, true), (2, true), (3, true), (4, true), (5, true), (6, true), (7, true), (8, true), (9, true), (10, true), (11, true), (12, false), (13, false), (14, true)] (by kernel_rfl) (by kernel_rfl) (by kernel_rfl) rfl (five B0.out) ?_
  repeat (first
    | (refine wpO_skip rfl rfl ?_; simp only [List.getElem_toArray, List.getElem_cons_succ, List.getElem_cons_zero, Act.put, List.setIfInBounds_toArray, List.set_cons_zero, List.set_cons_succ])
    | (refine wpO_call rfl rfl ?_; simp only [List.getElem_toArray, List.getElem_cons_succ, List.getElem_cons_zero]; apply Exists.intro; refine ⟨fun X hX => ?_, ?_⟩
       · (obtain ⟨s0, s1, s2, s3, s4⟩ := hX; go_simp; first | exact stillUpon_value | exact stillUpon_enter (LT.out _) | exact stillUpon_enter (LU.out _) | exact stillUpon_enter (LN.out _))
       simp only [Act.put, List.setIfInBounds_toArray, List.set_cons_zero, List.set_cons_succ]))
  clear ws wt wu ws2
  refine wpO_eff rfl rfl (fun K hK => ?_)
  simp only [List.getElem_toArray, List.getElem_cons_succ, List.getElem_cons_zero]
  go_simp
  have HP := rput_any e mn mx h A D xs ((ys.drop d).take 0) c 0 T w.heap.size B W.drew HS3.out (HRD.out _ F0.out.drew) hx (by rw [HL.out]; omega)
  rw [HL.out] at HP
  refine HP.mono ?_
  rintro e' w4 ⟨q, c4, rfl, ho, hq, f4⟩
  have B4 := hid (B0.out.drew.fr f4 (fun x => x))
  have R4 := hid (R0.out.drew.fr f4 (fun x => x))
  have O4 := hid ho
  have hq' : W.heap.size ≤ q := hq
  clear ho HP hq
  refine hK _ _ (fun _ => five B4.out) ?_
  clear hK K
  obtain ⟨r0, r1, r2, r3, r4⟩ := five R4.out
  obtain ⟨z0, z1, z2, z3, z4⟩ := fz R4.out
  refine wpO_eff rfl rfl (fun K hK => ?_)
  simp only [List.getElem_toArray, List.getElem_cons_succ, List.getElem_cons_zero]
  go_simp
  refine hK _ _ (fun _ => five (((((B4.out.far (p := ⟨w.heap.size + 1, 0, none⟩) (by simp) _).far (p := ⟨w.heap.size + 1, 1, none⟩) (by simp) _).far (p := ⟨w.heap.size + 1, 2, none⟩) (by simp) _).far (p := ⟨w.heap.size + 1, 3, none⟩) (by simp) _).far (p := ⟨w.heap.size + 1, 4, none⟩) (by simp) _)) ?_
  clear hK K
  repeat (first
    | (refine wpO_skip rfl rfl ?_; simp only [List.getElem_toArray, List.getElem_cons_succ, List.getElem_cons_zero, Act.put, List.setIfInBounds_toArray, List.set_cons_zero, List.set_cons_succ])
    | (refine wpO_call rfl rfl ?_; simp only [List.getElem_toArray, List.getElem_cons_succ, List.getElem_cons_zero]; apply Exists.intro; refine ⟨fun X hX => ?_, ?_⟩
       · (obtain ⟨s0, s1, s2, s3, s4⟩ := hX; go_simp; exact stillUpon_value)
       simp only [Act.put, List.setIfInBounds_toArray, List.set_cons_zero, List.set_cons_succ]))
  refine wpO_nil ?_
  go_wp2
  refine bodyPost_ret (v := .tuple #[.agg #[.int .i64 e, .int .i64 mn, .int .i64 mx, .bool h, .slice (some ⟨q, 0, none⟩) xs.length c4], .int .i64 0]) (by simp [results, Try.results37, go_sem, *]) rfl ?_
  exact rend e mn mx h w (by omega) (length_splice _ _ _ (by rw [HL.out]; omega)) (w.heap.size + 1) (by omega) (by omega) _ _ _ _ _ O4.out (F0.out.drew.trans f4 (fun _ _ h => h))

end
end Go.Proofs.Ytndhbamfgihncaa
