/- Contracts of the reference of tables, part 6: Grow, and all operations as functions. -/
import Derived.Test.YtndhbamfgihncaaTabRe
namespace Go.Proofs.Ytndhbamfgihncaa
open Go.RowKit

section
variable (e mn mx : Int) (h : Bool) (A : Option Addr) (xs : List Int) (c : Nat) (w : World) {B0 : Nat}

set_option maxHeartbeats 1600000 in
theorem rgrow_no (n x : Int) (hx : xs.length ≤ 1024) (hc : xs.length ≤ c) (hm : 0 ≤ mostS mx h ∧ mostS mx h ≤ 1024) (hB0 : B0 ≤ w.heap.size) (hr : Rd w B0 A (Us xs)) (h0 : 0 ≤ n) (h1 : n < 18446744073709551616) (hi : mostS mx h < xs.length + n % 4294967296) :
    Calls Try.prog 34 #[.agg #[.int .i64 e, .int .i64 mn, .int .i64 mx, .bool h, .slice A xs.length c], .int .u64 n, .int .u64 x] w (RTo e mn mx h B0 A xs (.int .u64 4294967295) w) := by
  have B0 := hid ((Blk.new w 51 #[.int .i64 e, .int .i64 mn, .int .i64 mx, .bool h, .slice A xs.length c]).alloc (.cells #[.int .i64 0, .int .i64 0, .int .i64 0, .bool false, .slice none 0 0] 51))
  have R0 := hid (Blk.new1 w (.cells #[.int .i64 e, .int .i64 mn, .int .i64 mx, .bool h, .slice A xs.length c] 51) 51 #[.int .i64 0, .int .i64 0, .int .i64 0, .bool false, .slice none 0 0])
  have F0 := hid (((Fr.refl No w).alloc (.cells #[.int .i64 e, .int .i64 mn, .int .i64 mx, .bool h, .slice A xs.length c] 51)).alloc (.cells #[.int .i64 0, .int .i64 0, .int .i64 0, .bool false, .slice none 0 0] 51))
  have HM := hid (fun W : World => rmost_any e mn mx h (.slice A xs.length c) W rfl rfl)
  have LN := hid (fun W : World => rlow_any n W h0 h1)
  have HR := hid hr
  obtain ⟨m0, m1⟩ := hm
  have hn0 : 0 ≤ n % 4294967296 := by omega
  have hn1 : n % 4294967296 < 4294967296 := by omega
  generalize n % 4294967296 = N at *
  generalize mostS mx h = M at *
  clear hr
  go_enter Try.func34, Try.ntmps34
  go_wp2_with fail
  generalize (w.alloc (.cells #[.int .i64 e, .int .i64 mn, .int .i64 mx, .bool h, .slice A xs.length c] 51)).alloc (.cells #[.int .i64 0, .int .i64 0, .int .i64 0, .bool false, .slice none 0 0] 51) = W at *
  have hWs : w.heap.size + 2 ≤ W.heap.size := R0.out.lt
  have ws : IntKind.i64.wrap (M - xs.length) = M - xs.length := IntWalk.i64_in _ (by omega)
  have wd : decide (M - xs.length < N) = true := by simp; omega
  refine wp_region_ord (fun X => X.cell? ⟨w.heap.size, 0, none⟩ = some (.int .i64 e) ∧ X.cell? ⟨w.heap.size, 1, none⟩ = some (.int .i64 mn) ∧ X.cell? ⟨w.heap.size, 2, none⟩ = some (.int .i64 mx) ∧ X.cell? ⟨w.heap.size, 3, none⟩ = some (.bool h) ∧ X.cell? ⟨w.heap.size, 4, none⟩ = some (.slice A xs.length c)) [] [(0, true), (1, true), (2, true), (4, true), (3, false), (5, true), (6, true)] (by kernel_rfl) (by kernel_rfl) (by kernel_rfl) rfl (five B0.out) ?_
  repeat (first
    | (refine wpO_skip rfl rfl ?_; simp only [List.getElem_toArray, List.getElem_cons_succ, List.getElem_cons_zero, Act.put, List.setIfInBounds_toArray, List.set_cons_zero, List.set_cons_succ])
    | (refine wpO_call rfl rfl ?_; simp only [List.getElem_toArray, List.getElem_cons_succ, List.getElem_cons_zero]; apply Exists.intro; refine ⟨fun X hX => ?_, ?_⟩
       · (obtain ⟨s0, s1, s2, s3, s4⟩ := hX; go_simp; first | exact stillUpon_value | exact stillUpon_enter (LN.out _))
       simp only [Act.put, List.setIfInBounds_toArray, List.set_cons_zero, List.set_cons_succ]))
  refine wpO_eff rfl rfl (fun K hK => ?_)
  simp only [List.getElem_toArray, List.getElem_cons_succ, List.getElem_cons_zero]
  go_simp
  refine (HM.out _).mono ?_
  rintro e3 w3 ⟨rfl, f3⟩
  have B3 := hid (B0.out.drew.fr f3 (fun x => x))
  have R3 := hid (R0.out.drew.fr f3 (fun x => x))
  have F3 := hid (F0.out.drew.trans f3 (fun _ _ h => h))
  refine hK _ _ (fun _ => five B3.out) ?_
  clear hK K
  repeat (first
    | (refine wpO_skip rfl rfl ?_; simp only [List.getElem_toArray, List.getElem_cons_succ, List.getElem_cons_zero, Act.put, List.setIfInBounds_toArray, List.set_cons_zero, List.set_cons_succ])
    | (refine wpO_call rfl rfl ?_; simp only [List.getElem_toArray, List.getElem_cons_succ, List.getElem_cons_zero]; apply Exists.intro; refine ⟨fun X hX => ?_, ?_⟩
       · (obtain ⟨s0, s1, s2, s3, s4⟩ := hX; go_simp; exact stillUpon_value)
       simp only [Act.put, List.setIfInBounds_toArray, List.set_cons_zero, List.set_cons_succ]))
  clear ws
  refine wpO_nil ?_
  obtain ⟨b0, b1, b2, b3, b4⟩ := five B3.out
  obtain ⟨r0, r1, r2, r3, r4⟩ := five R3.out
  obtain ⟨z0, z1, z2, z3, z4⟩ := fz R3.out
  go_wp2
  refine bodyPost_ret (v := .tuple #[.agg #[.int .i64 e, .int .i64 mn, .int .i64 mx, .bool h, .slice A xs.length c], .int .u64 4294967295]) (by simp [results, Try.results34, go_sem, *]) rfl ?_
  exact rsame_end e mn mx h A xs c w hc hB0 HR.out (F3.out.five _ _ _ _ _ _ (fun h => by omega))

set_option maxHeartbeats 3200000 in
theorem rgrow_yes (n x : Int) (N : Nat) (hx : xs.length ≤ 1024) (hm : mostS mx h ≤ 1024) (hr : Rd w w.heap.size A (Us xs)) (h0 : 0 ≤ n) (h1 : n < 18446744073709551616) (eN : n % 4294967296 = N) (hi : xs.length + N ≤ mostS mx h) :
    Calls Try.prog 34 #[.agg #[.int .i64 e, .int .i64 mn, .int .i64 mx, .bool h, .slice A xs.length c], .int .u64 n, .int .u64 x] w (RTo e mn mx h B0 A (xs ++ List.replicate N x) (.int .u64 xs.length) w) := by
  have B0 := hid ((Blk.new w 51 #[.int .i64 e, .int .i64 mn, .int .i64 mx, .bool h, .slice A xs.length c]).alloc (.cells #[.int .i64 0, .int .i64 0, .int .i64 0, .bool false, .slice none 0 0] 51))
  have R0 := hid (Blk.new1 w (.cells #[.int .i64 e, .int .i64 mn, .int .i64 mx, .bool h, .slice A xs.length c] 51) 51 #[.int .i64 0, .int .i64 0, .int .i64 0, .bool false, .slice none 0 0])
  have F0 := hid (((Fr.refl No w).alloc (.cells #[.int .i64 e, .int .i64 mn, .int .i64 mx, .bool h, .slice A xs.length c] 51)).alloc (.cells #[.int .i64 0, .int .i64 0, .int .i64 0, .bool false, .slice none 0 0] 51))
  have HM := hid (fun W : World => rmost_any e mn mx h (.slice A xs.length c) W rfl rfl)
  have LN : Hid (∀ W : World, Calls Try.prog 41 #[.int .u64 n] W fun e w' => e = .returned (.int .i64 N) ∧ W = w') := fun W => by have := rlow_any n W h0 h1; rwa [eN] at this
  have HR := hid hr
  generalize mostS mx h = M at *
  clear hr eN
  go_enter Try.func34, Try.ntmps34
  go_wp2_with fail
  generalize (w.alloc (.cells #[.int .i64 e, .int .i64 mn, .int .i64 mx, .bool h, .slice A xs.length c] 51)).alloc (.cells #[.int .i64 0, .int .i64 0, .int .i64 0, .bool false, .slice none 0 0] 51) = W at *
  have hWs : w.heap.size + 2 ≤ W.heap.size := R0.out.lt
  have ws : IntKind.i64.wrap (M - xs.length) = M - xs.length := IntWalk.i64_in _ (by omega)
  have wd : decide (M - xs.length < (N : Int)) = false := by simp; omega
  refine wp_region_ord (fun X => X.cell? ⟨w.heap.size, 0, none⟩ = some (.int .i64 e) ∧ X.cell? ⟨w.heap.size, 1, none⟩ = some (.int .i64 mn) ∧ X.cell? ⟨w.heap.size, 2, none⟩ = some (.int .i64 mx) ∧ X.cell? ⟨w.heap.size, 3, none⟩ = some (.bool h) ∧ X.cell? ⟨w.heap.size, 4, none⟩ = some (.slice A xs.length c)) [] [(0, true), (1, true), (2, true), (4, true), (3, false), (5, true), (6, true)] (by kernel_rfl) (by kernel_rfl) (by kernel_rfl) rfl (five B0.out) ?_
  repeat (first
    | (refine wpO_skip rfl rfl ?_; simp only [List.getElem_toArray, List.getElem_cons_succ, List.getElem_cons_zero, Act.put, List.setIfInBounds_toArray, List.set_cons_zero, List.set_cons_succ])
    | (refine wpO_call rfl rfl ?_; simp only [List.getElem_toArray, List.getElem_cons_succ, List.getElem_cons_zero]; apply Exists.intro; refine ⟨fun X hX => ?_, ?_⟩
       · (obtain ⟨s0, s1, s2, s3, s4⟩ := hX; go_simp; first | exact stillUpon_value | exact stillUpon_enter (LN.out _))
       simp only [Act.put, List.setIfInBounds_toArray, List.set_cons_zero, List.set_cons_succ]))
  refine wpO_eff rfl rfl (fun K hK => ?_)
  simp only [List.getElem_toArray, List.getElem_cons_succ, List.getElem_cons_zero]
  go_simp
  refine (HM.out _).mono ?_
  rintro e3 w3 ⟨rfl, f3⟩
  have B3 := hid (B0.out.drew.fr f3 (fun x => x))
  have R3 := hid (R0.out.drew.fr f3 (fun x => x))
  have F3 := hid (F0.out.drew.trans f3 (fun _ _ h => h))
  refine hK _ _ (fun _ => five B3.out) ?_
  clear hK K
  repeat (first
    | (refine wpO_skip rfl rfl ?_; simp only [List.getElem_toArray, List.getElem_cons_succ, List.getElem_cons_zero, Act.put, List.setIfInBounds_toArray, List.set_cons_zero, List.set_cons_succ])
    | (refine wpO_call rfl rfl ?_; simp only [List.getElem_toArray, List.getElem_cons_succ, List.getElem_cons_zero]; apply Exists.intro; refine ⟨fun X hX => ?_, ?_⟩
       · (obtain ⟨s0, s1, s2, s3, s4⟩ := hX; go_simp; exact stillUpon_value)
       simp only [Act.put, List.setIfInBounds_toArray, List.set_cons_zero, List.set_cons_succ]))
  clear ws
  refine wpO_nil ?_
  have s3 := R3.out.lt
  have g4 : Fr No w3 (w3.alloc (.cells #[] 23)) := (Fr.refl No w3).alloc _
  have HA := hid ((HR.out.frNo F3.out).frNo g4)
  have hol := hid (own_lit w3 23 [] (by simp))
  have B4 := hid (B3.out.alloc (.cells #[] 23))
  have R4 := hid (R3.out.alloc (.cells #[] 23))
  have F4 := hid (F3.out.alloc (.cells #[] 23))
  have b4 : (w3.alloc (.cells #[] 23)).cell? ⟨w.heap.size, 4, none⟩ = some (.slice A xs.length c) := (five B4.out).2.2.2.2
  clear g4
  go_wp2_with (first
    | (at_builtin; refine wpList_app1 c u64s rfl rfl (xs := []) rfl rfl hol.out HA.out (len_Us _) (one_Us _) (by simp; omega) (by omega) ?_; intro q c5 w5 ho5 hf5 hq5
       have O5 : Hid (Own w5 q 23 c5 (Us xs)) := by simpa [Hid] using ho5
       have g5 : w3.heap.size ≤ q := by simp at hq5; omega
       have B5 := hid (B4.out.fr hf5 (fun h => by have h : w.heap.size = w3.heap.size := h; omega))
       have R5 := hid (R4.out.fr hf5 (fun h => by have h : w.heap.size + 1 = w3.heap.size := h; omega))
       have F5 := hid (F4.out.trans hf5 (fun i hi h => by have h : i = w3.heap.size := h; omega))
       clear ho5 hq5)
    | (go_at_call 41; refine (LN.out _).mono ?_; rintro e6 w6 ⟨rfl, rfl⟩)
    | (go_at_call 44; refine (rsame_any x N _ (by omega)).mono ?_; rintro e7 w7 ⟨v7, rfl, o7, f7⟩
       obtain ⟨A7, c7, hv7, hc7, r7, _⟩ := row_form o7
       have e7 : (Us (List.replicate N x)).length = N := by simp
       rw [e7] at hv7
       subst hv7
       have O7 := hid (O5.out.fr f7 (fun x => x))
       have B7 := hid (B5.out.fr f7 (fun x => x))
       have R7 := hid (R5.out.fr f7 (fun x => x))
       have F7 := hid (F5.out.trans f7 (fun _ _ h => h))
       have S7 := hid r7
       have E7 := hid e7
       clear o7 r7 e7 hc7)
    | (at_builtin; refine wpList_app1 c7 u64s rfl rfl (xs := Us xs) (by simp; rfl) rfl O7.out S7.out E7.out (one_Us _) (by simp; omega) (by omega) ?_; intro q8 c8 w8 ho8 hf8 hq8
       have O8 := hid ho8
       have z8 := O7.out.lt
       have B8 := hid (B7.out.fr hf8 (fun h => by have h : w.heap.size = q := h; omega))
       have R8 := hid (R7.out.fr hf8 (fun h => by have h : w.heap.size + 1 = q := h; omega))
       have F8 := hid (F7.out.trans hf8 (fun i hi h => by have h : i = q := h; omega))
       obtain ⟨b0, b1, b2, b3, b4⟩ := five B8.out
       obtain ⟨y0, y1, y2, y3, y4⟩ := fz B8.out
       obtain ⟨r0, r1, r2, r3, r4⟩ := five R8.out
       obtain ⟨z0, z1, z2, z3, z4⟩ := fz R8.out
       clear ho8))
  refine bodyPost_ret (v := .tuple #[.agg #[.int .i64 e, .int .i64 mn, .int .i64 mx, .bool h, .slice (some ⟨q8, 0, none⟩) (xs.length + N) c8], .int .u64 xs.length]) (by simp [results, Try.results34, go_sem, *]) rfl ?_
  have hq8' : w3.heap.size ≤ q8 := by omega
  have FS := (Fr.refl (One w.heap.size) w8).setCell ⟨w.heap.size, 4, none⟩ (.slice (some ⟨q8, 0, none⟩) (xs.length + N) c8) (fun _ => rfl)
  have O9 := O8.out.fr FS (fun h => by have h : q8 = w.heap.size := h; omega)
  rw [show Us xs ++ Us (List.replicate N x) = Us (xs ++ List.replicate N x) from by simp [Us]] at O9
  exact rend e mn mx h w (by omega) (by simp) (w.heap.size + 1) (by omega) (by omega) _ _ _ _ _ O9 (F8.out.trans FS (fun i hi h => by have h : i = w.heap.size := h; omega))

theorem rinit_any (D : Option Addr) (ys : List Int) (B d : Nat) (to at_ n : Int) (hx : xs.length ≤ 1024) (hc : xs.length ≤ c) (hy : ys.length ≤ 1048576) (hyd : ys.length ≤ d) (hB0 : B0 ≤ w.heap.size) (hr : Rd w B0 A (Us xs)) (hd : Rd w B D (Us ys)) (h0 : 0 ≤ to) (h1 : to < 18446744073709551616) (h2 : 0 ≤ n) (h3 : n < 18446744073709551616) (h4 : 0 ≤ at_) (h5 : at_ < 18446744073709551616) :
    Calls Try.prog 37 #[.agg #[.int .i64 e, .int .i64 mn, .int .i64 mx, .bool h, .slice A xs.length c], .slice D ys.length d, .int .u64 to, .int .u64 at_, .int .u64 n] w (RTo e mn mx h B0 A (initS xs ys to at_ n).2 (.int .i64 (initS xs ys to at_ n).1) w) := by
  by_cases hf : Fits xs.length ys.length to at_ n
  · have e1 : initS xs ys to at_ n = (0, splice xs (to % 4294967296).toNat ((ys.drop (at_ % 4294967296).toNat).take (n % 4294967296).toNat)) := by unfold initS; rw [if_pos hf]
    rw [e1]
    obtain ⟨f1, f2⟩ := hf
    by_cases hcap : d = (at_ % 4294967296).toNat
    · exact rinit_cap e mn mx h A xs c w D ys B d to at_ n _ _ _ hx hy hyd (hr.more hB0) hd h0 h1 h2 h3 h4 h5 (by omega) (by omega) (by omega) (by omega) (by omega) hcap
    · exact rinit_in e mn mx h A xs c w D ys B d to at_ n _ _ _ hx hy hyd (hr.more hB0) hd h0 h1 h2 h3 h4 h5 (by omega) (by omega) (by omega) (by omega) (by omega) hcap
  · have e1 : initS xs ys to at_ n = (3, xs) := by unfold initS; rw [if_neg hf]
    rw [e1]
    exact rinit_no e mn mx h A xs c w D ys.length d to at_ n hx hy hc hB0 hr h0 h1 h2 h3 h4 h5 hf

theorem Rd.back {w w' : World} {B : Nat} {A : Option Addr} {xs : List Value} (h : Rd w' B A xs) (hb : Fr No w w') (hB : B ≤ w.heap.size) : Rd w B A xs := by
  rcases h with rfl | ⟨b, o, e, hlt, hc⟩
  · exact .inl rfl
  · exact .inr ⟨b, o, e, hlt, fun k u hu => (hb.cell (p := ⟨b, o + k, none⟩) (Nat.lt_of_lt_of_le hlt hB) (fun x => x)).symm.trans (hc k u hu)⟩
theorem Rd.sub_fr {M : Nat → Prop} {w w' : World} {B q o : Nat} {xs : List Value} (h : Rd w B (some ⟨q, o, none⟩) xs) (hb : Fr M w w') (hM : ¬ M q) : Rd w' B (some ⟨q, o, none⟩) xs := by
  rcases h with rfl | ⟨b, o', e, hlt, hc⟩
  · exact .inl rfl
  · cases e
    exact .inr ⟨q, o, rfl, hlt, fun k u hu => (hb.cell (p := ⟨q, o + k, none⟩) (World.block_lt_of_cell? w ⟨q, o + k, none⟩ (hc k u hu)) hM).trans (hc k u hu)⟩

set_option maxHeartbeats 1600000 in
theorem rcopy_any (e2 mn2 mx2 : Int) (h2' : Bool) (D : Option Addr) (ys : List Int) (B d : Nat) (to at_ n : Int) (hx : xs.length ≤ 1024) (hc : xs.length ≤ c) (hy : ys.length ≤ 1048576) (hyd : ys.length ≤ d) (hB0 : B0 ≤ w.heap.size) (hr : Rd w B0 A (Us xs)) (hd : Rd w B D (Us ys)) (h0 : 0 ≤ to) (h1 : to < 18446744073709551616) (h2 : 0 ≤ n) (h3 : n < 18446744073709551616) (h4 : 0 ≤ at_) (h5 : at_ < 18446744073709551616) :
    Calls Try.prog 36 #[.agg #[.int .i64 e, .int .i64 mn, .int .i64 mx, .bool h, .slice A xs.length c], .agg #[.int .i64 e2, .int .i64 mn2, .int .i64 mx2, .bool h2', .slice D ys.length d], .int .u64 to, .int .u64 at_, .int .u64 n] w (RTo e mn mx h B0 A (initS xs ys to at_ n).2 (.int .i64 (initS xs ys to at_ n).1) w) := by
  have HI := hid (fun (X : World) (hX : Fr No w X) => rinit_any e mn mx h A xs c X (B0 := B0) D ys B d to at_ n hx hc hy hyd (Nat.le_trans hB0 hX.size) (hr.frNo hX) (hd.frNo hX) h0 h1 h2 h3 h4 h5)
  have F0 := hid ((((Fr.refl No w).alloc (.cells #[.int .i64 e, .int .i64 mn, .int .i64 mx, .bool h, .slice A xs.length c] 51)).alloc (.cells #[.int .i64 e2, .int .i64 mn2, .int .i64 mx2, .bool h2', .slice D ys.length d] 51)).alloc (.cells #[.int .i64 0, .int .i64 0, .int .i64 0, .bool false, .slice none 0 0] 51))
  have R0 := hid (show Blk (((w.alloc (.cells #[.int .i64 e, .int .i64 mn, .int .i64 mx, .bool h, .slice A xs.length c] 51)).alloc (.cells #[.int .i64 e2, .int .i64 mn2, .int .i64 mx2, .bool h2', .slice D ys.length d] 51)).alloc (.cells #[.int .i64 0, .int .i64 0, .int .i64 0, .bool false, .slice none 0 0] 51)) (w.heap.size + 2) 51 #[.int .i64 0, .int .i64 0, .int .i64 0, .bool false, .slice none 0 0] from by
    have := Blk.new1 (w.alloc (.cells #[.int .i64 e, .int .i64 mn, .int .i64 mx, .bool h, .slice A xs.length c] 51)) (.cells #[.int .i64 e2, .int .i64 mn2, .int .i64 mx2, .bool h2', .slice D ys.length d] 51) 51 #[.int .i64 0, .int .i64 0, .int .i64 0, .bool false, .slice none 0 0]
    simpa using this)
  clear hr hd
  generalize initS xs ys to at_ n = I at *
  obtain ⟨i1, zs⟩ := I
  go_enter Try.func36, Try.ntmps36
  go_wp2_with fail
  refine (HI.out _ F0.out).mono ?_
  rintro e3 w3 ⟨A3, c3, rfl, hc3, r3, f3, hA3⟩
  have HA3 := hid hA3
  have HF3 := hid f3
  have F0' := F0
  clear hA3
  have R3 := hid (R0.out.fr f3 (fun x => x))
  have F3 := hid (F0.out.trans f3 (fun _ _ h => h))
  have D3 := hid r3
  obtain ⟨r0, r1, r2, r3, r4⟩ := five R3.out
  obtain ⟨z0, z1, z2, z3, z4⟩ := fz R3.out
  clear HI F0 R0
  go_wp2_with fail
  refine bodyPost_ret (v := .tuple #[.agg #[.int .i64 e, .int .i64 mn, .int .i64 mx, .bool h, .slice A3 zs.length c3], .int .i64 i1]) (by simp [results, Try.results36, go_sem, *]) rfl ?_
  have FF := (Fr.refl (One (w.heap.size + 2)) w3).five (w.heap.size + 2) (.int .i64 e) (.int .i64 mn) (.int .i64 mx) (.bool h) (.slice A3 zs.length c3) (fun _ => rfl)
  have hsz : w.heap.size + 2 < w3.heap.size := R3.out.lt
  have HA : Rd w3 B0 A3 (Us zs) ∨ ∃ q, A3 = some ⟨q, 0, none⟩ ∧ w.heap.size + 3 ≤ q := by
    rcases HA3.out with ⟨_, h⟩ | ⟨q, h1, h2, _⟩
    · exact .inl (h.frNo HF3.out)
    · exact .inr ⟨q, h1, by simpa using h2⟩
  refine ⟨A3, c3, rfl, hc3, ?_, F3.out.five _ _ _ _ _ _ (fun h => by omega), ?_⟩
  · rcases HA with hA | ⟨q, rfl, hq⟩
    · exact ((hA.fr FF (fun k hk h => by have h : k = w.heap.size + 2 := h; omega)).more (Nat.le_trans (show B0 ≤ w3.heap.size by omega) FF.size))
    · exact (D3.out.sub_fr FF (fun h => by have h : q = w.heap.size + 2 := h; omega)).more FF.size
  · rcases HA3.out with ⟨h0, h⟩ | ⟨q, h1, h2, h3⟩
    · exact .inl ⟨h0, h.back F0'.out (by omega)⟩
    · exact .inr ⟨q, h1, by simp at h2; omega, Nat.lt_of_lt_of_le h3 FF.size⟩
end
end Go.Proofs.Ytndhbamfgihncaa
