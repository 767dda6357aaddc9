/- Contracts of the reference of tables, part 3: what is refused; New; Fill. -/
import Derived.Test.YtndhbamfgihncaaTabRb
namespace Go.Proofs.Ytndhbamfgihncaa
open Go.RowKit

section
variable (e mn mx : Int) (h : Bool) (A : Option Addr) (xs : List Int) (c : Nat) (w : World) {B0 : Nat}

/-- The end of a function of the reference that hands back the table that it was given. -/
theorem rsame_end {W : World} {v : Value} (hc : xs.length ≤ c) (hB0 : B0 ≤ w.heap.size) (hr : Rd w B0 A (Us xs)) (f : Fr No w W) :
    RTo e mn mx h B0 A xs v w (.returned (.tuple #[.agg #[.int .i64 e, .int .i64 mn, .int .i64 mx, .bool h, .slice A xs.length c], v])) W :=
  ⟨A, c, rfl, hc, (hr.frNo f).more (by have := f.size; omega), f, .inl ⟨rfl, hr⟩⟩

set_option maxHeartbeats 800000 in
theorem rset_no (i x : Int) (hx : xs.length ≤ 1024) (hc : xs.length ≤ c) (hB0 : B0 ≤ w.heap.size) (hr : Rd w B0 A (Us xs)) (h0 : 0 ≤ i) (h1 : i < 18446744073709551616) (hi : ¬ i % 4294967296 < xs.length) :
    Calls Try.prog 33 #[.agg #[.int .i64 e, .int .i64 mn, .int .i64 mx, .bool h, .slice A xs.length c], .int .u64 i, .int .u64 x] w (RTo e mn mx h B0 A xs (.int .i64 3) w) := by
  have hb := there_false (n := xs.length) (i := i) (m := 1) (by omega)
  have HR := hid hr
  clear hr
  go_enter Try.func33, Try.ntmps33
  go_wp2_with (go_at_call 40; refine (rthere_any _ _ _ _ _ _ (by omega) (by omega) (by omega) (by omega) (by omega)).mono ?_; rintro e w' ⟨rfl, rfl⟩)
  refine bodyPost_ret (v := .tuple #[.agg #[.int .i64 e, .int .i64 mn, .int .i64 mx, .bool h, .slice A xs.length c], .int .i64 3]) (by simp [results, Try.results33, go_sem]) rfl ?_
  exact rsame_end e mn mx h A xs c w hc hB0 HR.out (((Fr.refl No w).alloc _).alloc _)

set_option maxHeartbeats 800000 in
theorem rfill_no (to x n : Int) (hx : xs.length ≤ 1024) (hc : xs.length ≤ c) (hB0 : B0 ≤ w.heap.size) (hr : Rd w B0 A (Us xs)) (h0 : 0 ≤ to) (h1 : to < 18446744073709551616) (h2 : 0 ≤ n) (h3 : n < 18446744073709551616) (hi : ¬ to % 4294967296 + n % 4294967296 ≤ (xs.length : Int)) :
    Calls Try.prog 35 #[.agg #[.int .i64 e, .int .i64 mn, .int .i64 mx, .bool h, .slice A xs.length c], .int .u64 to, .int .u64 x, .int .u64 n] w (RTo e mn mx h B0 A xs (.int .i64 3) w) := by
  have hb := there_false hi
  have HR := hid hr
  clear hr hi
  go_enter Try.func35, Try.ntmps35
  go_wp2_with (go_at_call 40; refine (rthere_any _ _ _ _ _ _ (by omega) (by omega) (by omega) (by omega) (by omega)).mono ?_; rintro e w' ⟨rfl, rfl⟩)
  refine bodyPost_ret (v := .tuple #[.agg #[.int .i64 e, .int .i64 mn, .int .i64 mx, .bool h, .slice A xs.length c], .int .i64 3]) (by simp [results, Try.results35, go_sem]) rfl ?_
  exact rsame_end e mn mx h A xs c w hc hB0 HR.out (((Fr.refl No w).alloc _).alloc _)

set_option maxHeartbeats 800000 in
theorem rinit_no (D : Option Addr) (m d : Nat) (to at_ n : Int) (hx : xs.length ≤ 1024) (hm : m ≤ 1048576) (hc : xs.length ≤ c) (hB0 : B0 ≤ w.heap.size) (hr : Rd w B0 A (Us xs)) (h0 : 0 ≤ to) (h1 : to < 18446744073709551616) (h2 : 0 ≤ n) (h3 : n < 18446744073709551616) (h4 : 0 ≤ at_) (h5 : at_ < 18446744073709551616) (hi : ¬ Fits xs.length m to at_ n) :
    Calls Try.prog 37 #[.agg #[.int .i64 e, .int .i64 mn, .int .i64 mx, .bool h, .slice A xs.length c], .slice D m d, .int .u64 to, .int .u64 at_, .int .u64 n] w (RTo e mn mx h B0 A xs (.int .i64 3) w) := by
  have HR := hid hr
  by_cases hf : to % 4294967296 + n % 4294967296 ≤ (xs.length : Int)
  · have hb := there_true hf
    have hb2 := there_false (n := m) (i := at_) (m := n) (fun h => hi ⟨hf, h⟩)
    clear hr hi hf
    go_enter Try.func37, Try.ntmps37
    go_wp2_with (go_at_call 40; refine (rthere_any _ _ _ _ _ _ (by omega) (by omega) (by omega) (by omega) (by omega)).mono ?_; rintro e w' ⟨rfl, rfl⟩)
    refine bodyPost_ret (v := .tuple #[.agg #[.int .i64 e, .int .i64 mn, .int .i64 mx, .bool h, .slice A xs.length c], .int .i64 3]) (by simp [results, Try.results37, go_sem]) rfl ?_
    exact rsame_end e mn mx h A xs c w hc hB0 HR.out (((Fr.refl No w).alloc _).alloc _)
  · have hb := there_false hf
    clear hr hi hf
    go_enter Try.func37, Try.ntmps37
    go_wp2_with (go_at_call 40; refine (rthere_any _ _ _ _ _ _ (by omega) (by omega) (by omega) (by omega) (by omega)).mono ?_; rintro e w' ⟨rfl, rfl⟩)
    refine bodyPost_ret (v := .tuple #[.agg #[.int .i64 e, .int .i64 mn, .int .i64 mx, .bool h, .slice A xs.length c], .int .i64 3]) (by simp [results, Try.results37, go_sem]) rfl ?_
    exact rsame_end e mn mx h A xs c w hc hB0 HR.out (((Fr.refl No w).alloc _).alloc _)

set_option maxHeartbeats 800000 in
theorem rnew_no (hk : tabB e mn mx h = false) :
    Calls Try.prog 21 #[.agg #[.int .i64 e, .int .i64 mn, .int .i64 mx, .bool h]] w fun e' w' => e' = .returned (.tuple #[.agg #[.int .i64 0, .int .i64 0, .int .i64 0, .bool false, .slice none 0 0], .bool false]) ∧ Fr No w w' := by
  have R0 := hid (Blk.new1 w (.cells #[.int .i64 e, .int .i64 mn, .int .i64 mx, .bool h] 37) 51 #[.int .i64 0, .int .i64 0, .int .i64 0, .bool false, .slice none 0 0])
  go_enter Try.func21, Try.ntmps21
  go_wp2_with fail
  refine (r6table_any _ _ _ _ _).mono ?_
  rintro e' w1 ⟨rfl, hb⟩
  have f1 : Fr No _ w1 := Fr.of_below hb
  have R1 := hid (R0.out.fr f1 (fun x => x))
  obtain ⟨r0, r1, r2, r3, r4⟩ := five R1.out
  obtain ⟨z0, z1, z2, z3, z4⟩ := fz R1.out
  rw [hk]
  clear hb
  go_wp2_with fail
  refine bodyPost_ret (v := .tuple #[.agg #[.int .i64 0, .int .i64 0, .int .i64 0, .bool false, .slice none 0 0], .bool false]) (by simp [results, Try.results21, go_sem, *]) rfl ?_
  exact ⟨rfl, ((((Fr.refl No w).alloc _).alloc _).trans f1 (fun _ _ h => h)).five _ _ _ _ _ _ (fun h => by omega)⟩

set_option maxHeartbeats 1600000 in
theorem rnew_yes (hk : tabB e mn mx h = true) :
    Calls Try.prog 21 #[.agg #[.int .i64 e, .int .i64 mn, .int .i64 mx, .bool h]] w (RTo e mn mx h B0 none (List.replicate mn.toNat 0) (.bool true) w) := by
  obtain ⟨h0, h1, h2⟩ := tabB_lim hk
  obtain ⟨n, rfl⟩ := Int.eq_ofNat_of_zero_le h0
  have hmk := fun (W : World) => run_mk u64s rfl W .i64 .i64 n (by omega) (by omega)
  have HM := hid hmk
  clear hmk h0 h2
  have R0 := hid (Blk.new1 w (.cells #[.int .i64 e, .int .i64 n, .int .i64 mx, .bool h] 37) 51 #[.int .i64 0, .int .i64 0, .int .i64 0, .bool false, .slice none 0 0])
  have B0 := hid ((Blk.new w 37 #[.int .i64 e, .int .i64 n, .int .i64 mx, .bool h]).alloc (.cells #[.int .i64 0, .int .i64 0, .int .i64 0, .bool false, .slice none 0 0] 51))
  go_enter Try.func21, Try.ntmps21
  go_wp2_with fail
  refine (r6table_any _ _ _ _ _).mono ?_
  rintro e' w1 ⟨rfl, hb⟩
  have f1 : Fr No _ w1 := Fr.of_below hb
  have R1 := hid (R0.out.fr f1 (fun x => x))
  have B1 := hid (B0.out.fr f1 (fun x => x))
  have F1 := hid ((((Fr.refl No w).alloc _).alloc _).trans f1 (fun _ _ h => h))
  rw [hk]
  clear hb R0 B0 f1
  have S0 : Hid (∀ X, Fr (One (w.heap.size + 1)) w1.drew X → X.cell? ⟨w.heap.size, 0, none⟩ = some (.int .i64 e) ∧ X.cell? ⟨w.heap.size, 1, none⟩ = some (.int .i64 n) ∧ X.cell? ⟨w.heap.size, 2, none⟩ = some (.int .i64 mx) ∧ X.cell? ⟨w.heap.size, 3, none⟩ = some (.bool h)) := fun X hX => by
    have hh := B1.out.drew.fr hX (fun x => by have x : w.heap.size = w.heap.size + 1 := x; omega)
    exact ⟨by rw [hh.cell]; rfl, by rw [hh.cell]; rfl, by rw [hh.cell]; rfl, by rw [hh.cell]; rfl⟩
  go_wp2_with fail
  refine wp_region_ord (fun X => X.cell? ⟨w.heap.size, 0, none⟩ = some (.int .i64 e) ∧ X.cell? ⟨w.heap.size, 1, none⟩ = some (.int .i64 n) ∧ X.cell? ⟨w.heap.size, 2, none⟩ = some (.int .i64 mx) ∧ X.cell? ⟨w.heap.size, 3, none⟩ = some (.bool h)) [] [(0, true), (1, true), (2, true), (3, true), (4, false), (5, true), (6, false), (7, true)] (by kernel_rfl) (by kernel_rfl) (by kernel_rfl) rfl (S0.out _ (Fr.refl _ _)) ?_
  repeat (first
    | (refine wpO_skip rfl rfl ?_; simp only [List.getElem_toArray, List.getElem_cons_succ, List.getElem_cons_zero, Act.put, List.setIfInBounds_toArray, List.set_cons_zero, List.set_cons_succ])
    | (refine wpO_call rfl rfl ?_; simp only [List.getElem_toArray, List.getElem_cons_succ, List.getElem_cons_zero]; apply Exists.intro; refine ⟨fun X hX => ?_, ?_⟩
       · (obtain ⟨s0, s1, s2, s3⟩ := hX; go_simp; exact stillUpon_value)
       simp only [Act.put, List.setIfInBounds_toArray, List.set_cons_zero, List.set_cons_succ]))
  have hmk := HM.out w1.drew
  refine wpO_eff rfl rfl (fun K hK => ?_)
  simp only [List.getElem_toArray, List.getElem_cons_succ, List.getElem_cons_zero]
  go_simp
  have F2 : Fr (One (w.heap.size + 1)) w1.drew (w1.alloc (.cells (Array.replicate n (.int .u64 0)) 23)).drew := (Fr.refl _ w1.drew).alloc _
  have hsz := R1.out.lt
  refine hK _ _ (fun _ => S0.out _ F2) ?_
  clear hK K
  have O2 := hid ((own_mk w1 23 (.int .u64 0) n (by omega)).fr ((Fr.refl No _).drew) (fun x => x))
  have R2 := hid ((R1.out.alloc (.cells (Array.replicate n (.int .u64 0)) 23)).drew)
  have FF := hid (F1.out.alloc (.cells (Array.replicate n (.int .u64 0)) 23)).drew
  have F3 := hid F2
  generalize hW2 : (w1.alloc (.cells (Array.replicate n (.int .u64 0)) 23)).drew = W2 at *
  clear hW2 F2
  obtain ⟨r0, r1, r2, r3, r4⟩ := five R2.out
  obtain ⟨z0, z1, z2, z3, z4⟩ := fz R2.out
  repeat (first
    | (refine wpO_skip rfl rfl ?_; simp only [List.getElem_toArray, List.getElem_cons_succ, List.getElem_cons_zero, Act.put, List.setIfInBounds_toArray, List.set_cons_zero, List.set_cons_succ])
    | (refine wpO_call rfl rfl ?_; simp only [List.getElem_toArray, List.getElem_cons_succ, List.getElem_cons_zero]; apply Exists.intro; refine ⟨fun X hX => ?_, ?_⟩
       · (obtain ⟨s0, s1, s2, s3⟩ := hX; go_simp; exact stillUpon_value)
       simp only [Act.put, List.setIfInBounds_toArray, List.set_cons_zero, List.set_cons_succ]))
  refine wpO_eff rfl rfl (fun K hK => ?_)
  simp only [List.getElem_toArray, List.getElem_cons_succ, List.getElem_cons_zero]
  go_simp
  refine hK _ _ (fun _ => S0.out _ (F3.out.five (w.heap.size + 1) _ _ _ _ _ (fun _ => rfl))) ?_
  clear hK K
  repeat (first
    | (refine wpO_skip rfl rfl ?_; simp only [List.getElem_toArray, List.getElem_cons_succ, List.getElem_cons_zero, Act.put, List.setIfInBounds_toArray, List.set_cons_zero, List.set_cons_succ])
    | (refine wpO_call rfl rfl ?_; simp only [List.getElem_toArray, List.getElem_cons_succ, List.getElem_cons_zero]; apply Exists.intro; refine ⟨fun X hX => ?_, ?_⟩
       · (obtain ⟨s0, s1, s2, s3⟩ := hX; go_simp; exact stillUpon_value)
       simp only [Act.put, List.setIfInBounds_toArray, List.set_cons_zero, List.set_cons_succ]))
  refine wpO_nil ?_
  go_wp2
  refine bodyPost_ret (v := .tuple #[.agg #[.int .i64 e, .int .i64 n, .int .i64 mx, .bool h, .slice (some ⟨w1.heap.size, 0, none⟩) n n], .bool true]) (by simp [results, Try.results21, go_sem, *]) rfl ?_
  exact rend e n mx h w (by omega) (by simp) (w.heap.size + 1) (by omega) (by omega) _ _ _ _ _ (by simpa [Us] using O2.out) FF
end
end Go.Proofs.Ytndhbamfgihncaa
