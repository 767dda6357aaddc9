/- Chapter 28: the reference's Init, Copy. -/
import Derived.Test.YtpmnijjfadhocaaMmK
namespace Go.Proofs.Ytpmnijjfadhocaa
open Go.RowKit

/-- The lowest 32 bits. -/
def lo (x : Int) : Nat := (x % 4294967296).toNat
theorem lo_eq (x : Int) : x % 4294967296 = (lo x : Int) := by unfold lo; omega
theorem lo_lt (x : Int) : lo x < 4294967296 := by unfold lo; omega
theorem rlo_any (x : Int) (w : World) (hx : 0 ≤ x ∧ x < 18446744073709551616) : Calls Try.prog 38 #[.int .u64 x] w fun e w' => e = .returned (.int .i64 (lo x)) ∧ w = w' := by
  rw [← lo_eq]; exact rlow_any x w hx
theorem rfit_any (s a n : Nat) (w : World) (hs : s ≤ 1000000) (ha : a < 4294967296) (hn : n < 4294967296) : Calls Try.prog 45 #[.int .i64 s, .int .i64 a, .int .i64 n] w fun e w' => e = .returned (.bool (decide (a + n ≤ s))) ∧ w = w' := by
  have h := room_any s a n w (by omega) (by omega) (by omega)
  have e : (decide (0 ≤ (a : Int) ∧ 0 ≤ (n : Int)) && fits s a n) = decide (a + n ≤ s) := by rw [fits, Bool.eq_iff_iff]; simp; omega
  rwa [e] at h
def initR (B bs : List Int) (t a n : Nat) : List Int × Int := if a + n ≤ bs.length then (if t + n ≤ B.length then (splice B t ((bs.drop a).take n), 0) else (B, 2)) else (B, 2)
set_option maxRecDepth 100000 in
set_option maxHeartbeats 3200000 in
theorem rminit_any (l : Lim) (A D : Option Addr) (c d : Nat) (B bs : List Int) (xt xa xn : Int) (w : World) (hI : RmIn w A c B) (hD : SrcIn w D d bs) (hn : B.length ≤ 100000) (hn2 : bs.length ≤ 1000000) (h1 : 0 ≤ xt ∧ xt < 18446744073709551616) (h2 : 0 ≤ xa ∧ xa < 18446744073709551616) (h3 : 0 ≤ xn ∧ xn < 18446744073709551616) :
    Calls Try.prog 35 #[rmv l A B.length c, .slice D bs.length d, .int .u64 xt, .int .u64 xa, .int .u64 xn] w (RmTo l A B (initR B bs (lo xt) (lo xa) (lo xn)).1 (initR B bs (lo xt) (lo xa) (lo xn)).2 w) := by
  have F := hid (((Fr.refl No w).alloc (.cells #[.int .i64 l.min, .int .i64 l.max, .bool l.has, .slice A B.length c] 28)).alloc (.cells #[.int .i64 0, .int .i64 0, .bool false, .slice none 0 0] 28))
  have G := hid ((Blk.new w 28 #[.int .i64 l.min, .int .i64 l.max, .bool l.has, .slice A B.length c]).alloc (.cells #[.int .i64 0, .int .i64 0, .bool false, .slice none 0 0] 28))
  have GR := hid (Blk.new1 w (.cells #[.int .i64 l.min, .int .i64 l.max, .bool l.has, .slice A B.length c] 28) 28 #[.int .i64 0, .int .i64 0, .bool false, .slice none 0 0])
  have HT := hid (fun W => rlo_any xt W h1)
  have HA := hid (fun W => rlo_any xa W h2)
  have HN := hid (fun W => rlo_any xn W h3)
  have HI := hid hI
  have HD := hid hD
  have b1 := lo_lt xt
  have b2 := lo_lt xa
  have b3 := lo_lt xn
  generalize lo xt = t at *
  generalize lo xa = a at *
  generalize lo xn = n at *
  have HR1 := hid (fun W => rfit_any bs.length a n W hn2 b2 b3)
  have HR2 := hid (fun W => rfit_any B.length t n W (by omega) b1 b3)
  clear hI hD h1 h2 h3
  unfold rmv initR
  by_cases e1 : a + n ≤ bs.length
  · rw [if_pos e1]
    rw [decide_eq_true e1] at HR1
    by_cases e2 : t + n ≤ B.length
    · rw [if_pos e2]
      rw [decide_eq_true e2] at HR2
      go_enter Try.func35, Try.ntmps35
      go_wp2
      generalize (w.alloc (.cells #[.int .i64 l.min, .int .i64 l.max, .bool l.has, .slice A B.length c] 28)).alloc (.cells #[.int .i64 0, .int .i64 0, .bool false, .slice none 0 0] 28) = W at *
      have hc1 : w.heap.size + 1 < W.heap.size := GR.out.lt
      have HX : Hid (∀ X, Fr (One (w.heap.size + 1)) W X → X.cell? ⟨w.heap.size, 0, none⟩ = some (.int .i64 l.min) ∧ X.cell? ⟨w.heap.size, 1, none⟩ = some (.int .i64 l.max) ∧ X.cell? ⟨w.heap.size, 2, none⟩ = some (.bool l.has) ∧ X.cell? ⟨w.heap.size, 3, none⟩ = some (.slice A B.length c)) := fun X f => by
        have h := G.out.fr f (fun x => by simp only [One] at x; omega)
        exact ⟨h.cell 0, h.cell 1, h.cell 2, h.cell 3⟩
      refine wp_region_ord (fun X => X.cell? ⟨w.heap.size, 0, none⟩ = some (.int .i64 l.min) ∧ X.cell? ⟨w.heap.size, 1, none⟩ = some (.int .i64 l.max) ∧ X.cell? ⟨w.heap.size, 2, none⟩ = some (.bool l.has) ∧ X.cell? ⟨w.heap.size, 3, none⟩ = some (.slice A B.length c)) [] [(0, true), (1, true), (2, true), (4, true), (3, false), (5, false), (6, false), (7, true), (8, true), (9, true), (10, true), (11, true), (12, true), (14, true), (13, false), (15, false), (16, false), (17, true), (18, true)] (by kernel_rfl) (by kernel_rfl) (by kernel_rfl) rfl (HX.out _ (Fr.refl _ _).drew) ?_
      repeat (first
        | (refine wpO_skip rfl rfl ?_; simp only [List.getElem_toArray, List.getElem_cons_succ, List.getElem_cons_zero, Act.put, List.setIfInBounds_toArray, List.set_cons_zero, List.set_cons_succ])
        | (refine wpO_call rfl rfl ?_; simp only [List.getElem_toArray, List.getElem_cons_succ, List.getElem_cons_zero]; apply Exists.intro; refine ⟨fun X hX => ?_, ?_⟩
           · (have s0 := hX.1; have s1 := hX.2.1; have s2 := hX.2.2.1; have s3 := hX.2.2.2; go_simp; exact stillUpon_value)
           simp only [Act.put, List.setIfInBounds_toArray, List.set_cons_zero, List.set_cons_succ]))
      refine wpO_eff rfl rfl (fun K hK => ?_)
      simp only [List.getElem_toArray, List.getElem_cons_succ, List.getElem_cons_zero]
      go_simp
      refine (HA.out _).mono ?_
      rintro e w' ⟨rfl, rfl⟩
      refine hK _ _ (fun _ => HX.out _ (Fr.refl _ _).drew) ?_
      clear hK K
      repeat (first
        | (refine wpO_skip rfl rfl ?_; simp only [List.getElem_toArray, List.getElem_cons_succ, List.getElem_cons_zero, Act.put, List.setIfInBounds_toArray, List.set_cons_zero, List.set_cons_succ])
        | (refine wpO_call rfl rfl ?_; simp only [List.getElem_toArray, List.getElem_cons_succ, List.getElem_cons_zero]; apply Exists.intro; refine ⟨fun X hX => ?_, ?_⟩
           · (have s0 := hX.1; have s1 := hX.2.1; have s2 := hX.2.2.1; have s3 := hX.2.2.2; go_simp; exact stillUpon_value)
           simp only [Act.put, List.setIfInBounds_toArray, List.set_cons_zero, List.set_cons_succ]))
      refine wpO_eff rfl rfl (fun K hK => ?_)
      simp only [List.getElem_toArray, List.getElem_cons_succ, List.getElem_cons_zero]
      go_simp
      refine (HN.out _).mono ?_
      rintro e w' ⟨rfl, rfl⟩
      refine hK _ _ (fun _ => HX.out _ (Fr.refl _ _).drew) ?_
      clear hK K
      repeat (first
        | (refine wpO_skip rfl rfl ?_; simp only [List.getElem_toArray, List.getElem_cons_succ, List.getElem_cons_zero, Act.put, List.setIfInBounds_toArray, List.set_cons_zero, List.set_cons_succ])
        | (refine wpO_call rfl rfl ?_; simp only [List.getElem_toArray, List.getElem_cons_succ, List.getElem_cons_zero]; apply Exists.intro; refine ⟨fun X hX => ?_, ?_⟩
           · (have s0 := hX.1; have s1 := hX.2.1; have s2 := hX.2.2.1; have s3 := hX.2.2.2; go_simp; exact stillUpon_value)
           simp only [Act.put, List.setIfInBounds_toArray, List.set_cons_zero, List.set_cons_succ]))
      refine wpO_eff rfl rfl (fun K hK => ?_)
      simp only [List.getElem_toArray, List.getElem_cons_succ, List.getElem_cons_zero]
      go_simp
      refine (HR1.out _).mono ?_
      rintro e w' ⟨rfl, rfl⟩
      refine hK _ _ (fun _ => HX.out _ (Fr.refl _ _).drew) ?_
      clear hK K
      repeat (first
        | (refine wpO_skip rfl rfl ?_; simp only [List.getElem_toArray, List.getElem_cons_succ, List.getElem_cons_zero, Act.put, List.setIfInBounds_toArray, List.set_cons_zero, List.set_cons_succ])
        | (refine wpO_call rfl rfl ?_; simp only [List.getElem_toArray, List.getElem_cons_succ, List.getElem_cons_zero]; apply Exists.intro; refine ⟨fun X hX => ?_, ?_⟩
           · (have s0 := hX.1; have s1 := hX.2.1; have s2 := hX.2.2.1; have s3 := hX.2.2.2; go_simp; exact stillUpon_value)
           simp only [Act.put, List.setIfInBounds_toArray, List.set_cons_zero, List.set_cons_succ]))
      refine wpO_eff rfl rfl (fun K hK => ?_)
      simp only [List.getElem_toArray, List.getElem_cons_succ, List.getElem_cons_zero]
      go_simp
      refine (HT.out _).mono ?_
      rintro e w' ⟨rfl, rfl⟩
      refine hK _ _ (fun _ => HX.out _ (Fr.refl _ _).drew) ?_
      clear hK K
      repeat (first
        | (refine wpO_skip rfl rfl ?_; simp only [List.getElem_toArray, List.getElem_cons_succ, List.getElem_cons_zero, Act.put, List.setIfInBounds_toArray, List.set_cons_zero, List.set_cons_succ])
        | (refine wpO_call rfl rfl ?_; simp only [List.getElem_toArray, List.getElem_cons_succ, List.getElem_cons_zero]; apply Exists.intro; refine ⟨fun X hX => ?_, ?_⟩
           · (have s0 := hX.1; have s1 := hX.2.1; have s2 := hX.2.2.1; have s3 := hX.2.2.2; go_simp; exact stillUpon_value)
           simp only [Act.put, List.setIfInBounds_toArray, List.set_cons_zero, List.set_cons_succ]))
      refine wpO_eff rfl rfl (fun K hK => ?_)
      simp only [List.getElem_toArray, List.getElem_cons_succ, List.getElem_cons_zero]
      go_simp
      refine (HN.out _).mono ?_
      rintro e w' ⟨rfl, rfl⟩
      refine hK _ _ (fun _ => HX.out _ (Fr.refl _ _).drew) ?_
      clear hK K
      repeat (first
        | (refine wpO_skip rfl rfl ?_; simp only [List.getElem_toArray, List.getElem_cons_succ, List.getElem_cons_zero, Act.put, List.setIfInBounds_toArray, List.set_cons_zero, List.set_cons_succ])
        | (refine wpO_call rfl rfl ?_; simp only [List.getElem_toArray, List.getElem_cons_succ, List.getElem_cons_zero]; apply Exists.intro; refine ⟨fun X hX => ?_, ?_⟩
           · (have s0 := hX.1; have s1 := hX.2.1; have s2 := hX.2.2.1; have s3 := hX.2.2.2; go_simp; exact stillUpon_value)
           simp only [Act.put, List.setIfInBounds_toArray, List.set_cons_zero, List.set_cons_succ]))
      refine wpO_eff rfl rfl (fun K hK => ?_)
      simp only [List.getElem_toArray, List.getElem_cons_succ, List.getElem_cons_zero]
      go_simp
      refine (HR2.out _).mono ?_
      rintro e w' ⟨rfl, rfl⟩
      refine hK _ _ (fun _ => HX.out _ (Fr.refl _ _).drew) ?_
      clear hK K
      repeat (first
        | (refine wpO_skip rfl rfl ?_; simp only [List.getElem_toArray, List.getElem_cons_succ, List.getElem_cons_zero, Act.put, List.setIfInBounds_toArray, List.set_cons_zero, List.set_cons_succ])
        | (refine wpO_call rfl rfl ?_; simp only [List.getElem_toArray, List.getElem_cons_succ, List.getElem_cons_zero]; apply Exists.intro; refine ⟨fun X hX => ?_, ?_⟩
           · (have s0 := hX.1; have s1 := hX.2.1; have s2 := hX.2.2.1; have s3 := hX.2.2.2; go_simp; exact stillUpon_value)
           simp only [Act.put, List.setIfInBounds_toArray, List.set_cons_zero, List.set_cons_succ]))
      refine wpO_nil ?_
      obtain ⟨D', d', hsl, hd1, hd2⟩ := run_sub .i64 .i64 D bs.length d a n e1 HD.out.cap HD.out.spot
      have hw1 : IntKind.i64.wrap ((a : Int) + n) = a + n := by rw [IntKind.wrap_i64]; omega
      go_wp2_with fail
      refine wp_region_ord (fun X => X.cell? ⟨w.heap.size, 0, none⟩ = some (.int .i64 l.min) ∧ X.cell? ⟨w.heap.size, 1, none⟩ = some (.int .i64 l.max) ∧ X.cell? ⟨w.heap.size, 2, none⟩ = some (.bool l.has) ∧ X.cell? ⟨w.heap.size, 3, none⟩ = some (.slice A B.length c)) [] [(0, true), (1, true), (2, true), (3, true), (4, true), (6, true), (7, true), (9, true), (11, true), (5, false), (8, false), (10, false), (12, false), (13, true), (14, true), (15, false), (16, true), (17, false), (18, true)] (by kernel_rfl) (by kernel_rfl) (by kernel_rfl) rfl (HX.out _ ((Fr.refl (One (w.heap.size + 1)) W).drew.drew)) ?_
      repeat (first
        | (refine wpO_skip rfl rfl ?_; simp only [List.getElem_toArray, List.getElem_cons_succ, List.getElem_cons_zero, Act.put, List.setIfInBounds_toArray, List.set_cons_zero, List.set_cons_succ])
        | (refine wpO_call rfl rfl ?_; simp only [List.getElem_toArray, List.getElem_cons_succ, List.getElem_cons_zero]; apply Exists.intro; refine ⟨fun X hX => ?_, ?_⟩
           · (have s0 := hX.1; have s1 := hX.2.1; have s2 := hX.2.2.1; have s3 := hX.2.2.2; go_simp; exact stillUpon_value)
           simp only [Act.put, List.setIfInBounds_toArray, List.set_cons_zero, List.set_cons_succ]))
      refine wpO_eff rfl rfl (fun K hK => ?_)
      simp only [List.getElem_toArray, List.getElem_cons_succ, List.getElem_cons_zero]
      go_simp
      refine (HT.out _).mono ?_
      rintro e w' ⟨rfl, rfl⟩
      refine hK _ _ (fun _ => HX.out _ ((Fr.refl (One (w.heap.size + 1)) W).drew.drew)) ?_
      clear hK K
      repeat (first
        | (refine wpO_skip rfl rfl ?_; simp only [List.getElem_toArray, List.getElem_cons_succ, List.getElem_cons_zero, Act.put, List.setIfInBounds_toArray, List.set_cons_zero, List.set_cons_succ])
        | (refine wpO_call rfl rfl ?_; simp only [List.getElem_toArray, List.getElem_cons_succ, List.getElem_cons_zero]; apply Exists.intro; refine ⟨fun X hX => ?_, ?_⟩
           · (have s0 := hX.1; have s1 := hX.2.1; have s2 := hX.2.2.1; have s3 := hX.2.2.2; go_simp; exact stillUpon_value)
           simp only [Act.put, List.setIfInBounds_toArray, List.set_cons_zero, List.set_cons_succ]))
      refine wpO_eff rfl rfl (fun K hK => ?_)
      simp only [List.getElem_toArray, List.getElem_cons_succ, List.getElem_cons_zero]
      go_simp
      refine (HA.out _).mono ?_
      rintro e w' ⟨rfl, rfl⟩
      refine hK _ _ (fun _ => HX.out _ ((Fr.refl (One (w.heap.size + 1)) W).drew.drew)) ?_
      clear hK K
      repeat (first
        | (refine wpO_skip rfl rfl ?_; simp only [List.getElem_toArray, List.getElem_cons_succ, List.getElem_cons_zero, Act.put, List.setIfInBounds_toArray, List.set_cons_zero, List.set_cons_succ])
        | (refine wpO_call rfl rfl ?_; simp only [List.getElem_toArray, List.getElem_cons_succ, List.getElem_cons_zero]; apply Exists.intro; refine ⟨fun X hX => ?_, ?_⟩
           · (have s0 := hX.1; have s1 := hX.2.1; have s2 := hX.2.2.1; have s3 := hX.2.2.2; go_simp; exact stillUpon_value)
           simp only [Act.put, List.setIfInBounds_toArray, List.set_cons_zero, List.set_cons_succ]))
      refine wpO_eff rfl rfl (fun K hK => ?_)
      simp only [List.getElem_toArray, List.getElem_cons_succ, List.getElem_cons_zero]
      go_simp
      refine (HA.out _).mono ?_
      rintro e w' ⟨rfl, rfl⟩
      refine hK _ _ (fun _ => HX.out _ ((Fr.refl (One (w.heap.size + 1)) W).drew.drew)) ?_
      clear hK K
      repeat (first
        | (refine wpO_skip rfl rfl ?_; simp only [List.getElem_toArray, List.getElem_cons_succ, List.getElem_cons_zero, Act.put, List.setIfInBounds_toArray, List.set_cons_zero, List.set_cons_succ])
        | (refine wpO_call rfl rfl ?_; simp only [List.getElem_toArray, List.getElem_cons_succ, List.getElem_cons_zero]; apply Exists.intro; refine ⟨fun X hX => ?_, ?_⟩
           · (have s0 := hX.1; have s1 := hX.2.1; have s2 := hX.2.2.1; have s3 := hX.2.2.2; go_simp; exact stillUpon_value)
           simp only [Act.put, List.setIfInBounds_toArray, List.set_cons_zero, List.set_cons_succ]))
      refine wpO_eff rfl rfl (fun K hK => ?_)
      simp only [List.getElem_toArray, List.getElem_cons_succ, List.getElem_cons_zero]
      go_simp
      refine (HN.out _).mono ?_
      rintro e w' ⟨rfl, rfl⟩
      refine hK _ _ (fun _ => HX.out _ ((Fr.refl (One (w.heap.size + 1)) W).drew.drew)) ?_
      clear hK K
      repeat (first
        | (refine wpO_skip rfl rfl ?_; simp only [List.getElem_toArray, List.getElem_cons_succ, List.getElem_cons_zero, Act.put, List.setIfInBounds_toArray, List.set_cons_zero, List.set_cons_succ])
        | (refine wpO_call rfl rfl ?_; simp only [List.getElem_toArray, List.getElem_cons_succ, List.getElem_cons_zero]; apply Exists.intro; refine ⟨fun X hX => ?_, ?_⟩
           · (have s0 := hX.1; have s1 := hX.2.1; have s2 := hX.2.2.1; have s3 := hX.2.2.2; go_simp; exact stillUpon_value)
           simp only [Act.put, List.setIfInBounds_toArray, List.set_cons_zero, List.set_cons_succ]))
      refine wpO_eff rfl rfl (fun K hK => ?_)
      simp only [List.getElem_toArray, List.getElem_cons_succ, List.getElem_cons_zero]
      go_simp
      have FW := hid (F.out.drew.drew)
      have HI2 := hid (HI.out.fr FW.out)
      have hlen : ((bs.drop a).take n).length = n := by rw [List.length_take, List.length_drop]; omega
      have HW := written_any A D' c d' t B ((bs.drop a).take n) W.drew.drew HI2.out.rd HI2.out.nil (sub_rd (HD.out.fr FW.out).rd HD.out.nil e1 hd2) HI2.out.bts (HD.out.bts.sub a n) (by rw [hlen]; exact e2) HI2.out.cap hn HI2.out.spot
      rw [hlen] at HW
      refine HW.mono ?_
      clear HW
      rintro e w3 ⟨E, ec, rfl, hrow, f⟩
      have F3 := hid ((Fr.refl No W).drew.drew.trans f (fun _ _ h => h))
      have HR := hid hrow
      have GR3 := hid (GR.out.fr F3.out (fun x => x))
      clear hrow f
      refine hK _ _ (fun _ => HX.out _ (F3.out.mono (fun _ _ h => h.elim))) ?_
      clear hK K
      repeat (first
        | (refine wpO_skip rfl rfl ?_; simp only [List.getElem_toArray, List.getElem_cons_succ, List.getElem_cons_zero, Act.put, List.setIfInBounds_toArray, List.set_cons_zero, List.set_cons_succ])
        | (refine wpO_call rfl rfl ?_; simp only [List.getElem_toArray, List.getElem_cons_succ, List.getElem_cons_zero]; apply Exists.intro; refine ⟨fun X hX => ?_, ?_⟩
           · (have s0 := hX.1; have s1 := hX.2.1; have s2 := hX.2.2.1; have s3 := hX.2.2.2; go_simp; exact stillUpon_value)
           simp only [Act.put, List.setIfInBounds_toArray, List.set_cons_zero, List.set_cons_succ]))
      have q0 := GR3.out.frozen 0
      have q1 := GR3.out.frozen 1
      have q2 := GR3.out.frozen 2
      have q3 := GR3.out.frozen 3
      have z0 := GR3.out.cell 0
      have z1 := GR3.out.cell 1
      have z2 := GR3.out.cell 2
      have z3 := GR3.out.cell 3
      have FZ := hid ((((((Fr.refl (One (w.heap.size + 1)) w3).setCell ⟨w.heap.size + 1, 0, none⟩ (.int .i64 l.min) (fun _ => rfl)).setCell ⟨w.heap.size + 1, 1, none⟩ (.int .i64 l.max) (fun _ => rfl)).setCell ⟨w.heap.size + 1, 2, none⟩ (.bool l.has) (fun _ => rfl)).setCell ⟨w.heap.size + 1, 3, none⟩ (.slice E (splice B t ((bs.drop a).take n)).length ec) (fun _ => rfl)))
      refine wpO_eff rfl rfl (fun K hK => ?_)
      simp only [List.getElem_toArray, List.getElem_cons_succ, List.getElem_cons_zero]
      go_simp
      refine hK _ _ (fun _ => HX.out _ ((F3.out.mono (fun _ _ h => h.elim)).trans FZ.out (fun _ _ h => h))) ?_
      clear hK K
      repeat (first
        | (refine wpO_skip rfl rfl ?_; simp only [List.getElem_toArray, List.getElem_cons_succ, List.getElem_cons_zero, Act.put, List.setIfInBounds_toArray, List.set_cons_zero, List.set_cons_succ])
        | (refine wpO_call rfl rfl ?_; simp only [List.getElem_toArray, List.getElem_cons_succ, List.getElem_cons_zero]; apply Exists.intro; refine ⟨fun X hX => ?_, ?_⟩
           · (have s0 := hX.1; have s1 := hX.2.1; have s2 := hX.2.2.1; have s3 := hX.2.2.2; go_simp; exact stillUpon_value)
           simp only [Act.put, List.setIfInBounds_toArray, List.set_cons_zero, List.set_cons_succ]))
      refine wpO_nil ?_
      go_wp2
      have FF := (F.out.trans F3.out (fun _ _ h => h)).trans FZ.out (fun i hi h => by simp only [One] at h; omega)
      have hRm := rmIn_of_row (HR.out.fr FZ.out (fun _ h => h.elim) (fun k hk h => by have h1 := (HR.out.own hk).1; have h2 : W.drew.drew.heap.size = W.heap.size := rfl; simp only [One] at h; omega))
      exact bodyPost_ret (v := .tuple #[.agg #[.int .i64 l.min, .int .i64 l.max, .bool l.has, .slice E (splice B t ((bs.drop a).take n)).length ec], .int .i64 0]) (by simp [results, Try.results35, go_sem, z0, z1, z2, z3]) rfl ⟨E, ec, rfl, hRm, (.inr (fun q o he => by subst he; have h1 := (HR.out.own (g := q) (by simp [Value.ownBlock])).1; exact Nat.le_trans F.out.size h1)), FF⟩
    · rw [if_neg e2]
      rw [decide_eq_false e2] at HR2
      go_enter Try.func35, Try.ntmps35
      go_wp2
      generalize (w.alloc (.cells #[.int .i64 l.min, .int .i64 l.max, .bool l.has, .slice A B.length c] 28)).alloc (.cells #[.int .i64 0, .int .i64 0, .bool false, .slice none 0 0] 28) = W at *
      have hc1 : w.heap.size + 1 < W.heap.size := GR.out.lt
      have HX : Hid (∀ X, Fr (One (w.heap.size + 1)) W X → X.cell? ⟨w.heap.size, 0, none⟩ = some (.int .i64 l.min) ∧ X.cell? ⟨w.heap.size, 1, none⟩ = some (.int .i64 l.max) ∧ X.cell? ⟨w.heap.size, 2, none⟩ = some (.bool l.has) ∧ X.cell? ⟨w.heap.size, 3, none⟩ = some (.slice A B.length c)) := fun X f => by
        have h := G.out.fr f (fun x => by simp only [One] at x; omega)
        exact ⟨h.cell 0, h.cell 1, h.cell 2, h.cell 3⟩
      refine wp_region_ord (fun X => X.cell? ⟨w.heap.size, 0, none⟩ = some (.int .i64 l.min) ∧ X.cell? ⟨w.heap.size, 1, none⟩ = some (.int .i64 l.max) ∧ X.cell? ⟨w.heap.size, 2, none⟩ = some (.bool l.has) ∧ X.cell? ⟨w.heap.size, 3, none⟩ = some (.slice A B.length c)) [] [(0, true), (1, true), (2, true), (4, true), (3, false), (5, false), (6, false), (7, true), (8, true), (9, true), (10, true), (11, true), (12, true), (14, true), (13, false), (15, false), (16, false), (17, true), (18, true)] (by kernel_rfl) (by kernel_rfl) (by kernel_rfl) rfl (HX.out _ (Fr.refl _ _).drew) ?_
      repeat (first
        | (refine wpO_skip rfl rfl ?_; simp only [List.getElem_toArray, List.getElem_cons_succ, List.getElem_cons_zero, Act.put, List.setIfInBounds_toArray, List.set_cons_zero, List.set_cons_succ])
        | (refine wpO_call rfl rfl ?_; simp only [List.getElem_toArray, List.getElem_cons_succ, List.getElem_cons_zero]; apply Exists.intro; refine ⟨fun X hX => ?_, ?_⟩
           · (have s0 := hX.1; have s1 := hX.2.1; have s2 := hX.2.2.1; have s3 := hX.2.2.2; go_simp; exact stillUpon_value)
           simp only [Act.put, List.setIfInBounds_toArray, List.set_cons_zero, List.set_cons_succ]))
      refine wpO_eff rfl rfl (fun K hK => ?_)
      simp only [List.getElem_toArray, List.getElem_cons_succ, List.getElem_cons_zero]
      go_simp
      refine (HA.out _).mono ?_
      rintro e w' ⟨rfl, rfl⟩
      refine hK _ _ (fun _ => HX.out _ (Fr.refl _ _).drew) ?_
      clear hK K
      repeat (first
        | (refine wpO_skip rfl rfl ?_; simp only [List.getElem_toArray, List.getElem_cons_succ, List.getElem_cons_zero, Act.put, List.setIfInBounds_toArray, List.set_cons_zero, List.set_cons_succ])
        | (refine wpO_call rfl rfl ?_; simp only [List.getElem_toArray, List.getElem_cons_succ, List.getElem_cons_zero]; apply Exists.intro; refine ⟨fun X hX => ?_, ?_⟩
           · (have s0 := hX.1; have s1 := hX.2.1; have s2 := hX.2.2.1; have s3 := hX.2.2.2; go_simp; exact stillUpon_value)
           simp only [Act.put, List.setIfInBounds_toArray, List.set_cons_zero, List.set_cons_succ]))
      refine wpO_eff rfl rfl (fun K hK => ?_)
      simp only [List.getElem_toArray, List.getElem_cons_succ, List.getElem_cons_zero]
      go_simp
      refine (HN.out _).mono ?_
      rintro e w' ⟨rfl, rfl⟩
      refine hK _ _ (fun _ => HX.out _ (Fr.refl _ _).drew) ?_
      clear hK K
      repeat (first
        | (refine wpO_skip rfl rfl ?_; simp only [List.getElem_toArray, List.getElem_cons_succ, List.getElem_cons_zero, Act.put, List.setIfInBounds_toArray, List.set_cons_zero, List.set_cons_succ])
        | (refine wpO_call rfl rfl ?_; simp only [List.getElem_toArray, List.getElem_cons_succ, List.getElem_cons_zero]; apply Exists.intro; refine ⟨fun X hX => ?_, ?_⟩
           · (have s0 := hX.1; have s1 := hX.2.1; have s2 := hX.2.2.1; have s3 := hX.2.2.2; go_simp; exact stillUpon_value)
           simp only [Act.put, List.setIfInBounds_toArray, List.set_cons_zero, List.set_cons_succ]))
      refine wpO_eff rfl rfl (fun K hK => ?_)
      simp only [List.getElem_toArray, List.getElem_cons_succ, List.getElem_cons_zero]
      go_simp
      refine (HR1.out _).mono ?_
      rintro e w' ⟨rfl, rfl⟩
      refine hK _ _ (fun _ => HX.out _ (Fr.refl _ _).drew) ?_
      clear hK K
      repeat (first
        | (refine wpO_skip rfl rfl ?_; simp only [List.getElem_toArray, List.getElem_cons_succ, List.getElem_cons_zero, Act.put, List.setIfInBounds_toArray, List.set_cons_zero, List.set_cons_succ])
        | (refine wpO_call rfl rfl ?_; simp only [List.getElem_toArray, List.getElem_cons_succ, List.getElem_cons_zero]; apply Exists.intro; refine ⟨fun X hX => ?_, ?_⟩
           · (have s0 := hX.1; have s1 := hX.2.1; have s2 := hX.2.2.1; have s3 := hX.2.2.2; go_simp; exact stillUpon_value)
           simp only [Act.put, List.setIfInBounds_toArray, List.set_cons_zero, List.set_cons_succ]))
      refine wpO_eff rfl rfl (fun K hK => ?_)
      simp only [List.getElem_toArray, List.getElem_cons_succ, List.getElem_cons_zero]
      go_simp
      refine (HT.out _).mono ?_
      rintro e w' ⟨rfl, rfl⟩
      refine hK _ _ (fun _ => HX.out _ (Fr.refl _ _).drew) ?_
      clear hK K
      repeat (first
        | (refine wpO_skip rfl rfl ?_; simp only [List.getElem_toArray, List.getElem_cons_succ, List.getElem_cons_zero, Act.put, List.setIfInBounds_toArray, List.set_cons_zero, List.set_cons_succ])
        | (refine wpO_call rfl rfl ?_; simp only [List.getElem_toArray, List.getElem_cons_succ, List.getElem_cons_zero]; apply Exists.intro; refine ⟨fun X hX => ?_, ?_⟩
           · (have s0 := hX.1; have s1 := hX.2.1; have s2 := hX.2.2.1; have s3 := hX.2.2.2; go_simp; exact stillUpon_value)
           simp only [Act.put, List.setIfInBounds_toArray, List.set_cons_zero, List.set_cons_succ]))
      refine wpO_eff rfl rfl (fun K hK => ?_)
      simp only [List.getElem_toArray, List.getElem_cons_succ, List.getElem_cons_zero]
      go_simp
      refine (HN.out _).mono ?_
      rintro e w' ⟨rfl, rfl⟩
      refine hK _ _ (fun _ => HX.out _ (Fr.refl _ _).drew) ?_
      clear hK K
      repeat (first
        | (refine wpO_skip rfl rfl ?_; simp only [List.getElem_toArray, List.getElem_cons_succ, List.getElem_cons_zero, Act.put, List.setIfInBounds_toArray, List.set_cons_zero, List.set_cons_succ])
        | (refine wpO_call rfl rfl ?_; simp only [List.getElem_toArray, List.getElem_cons_succ, List.getElem_cons_zero]; apply Exists.intro; refine ⟨fun X hX => ?_, ?_⟩
           · (have s0 := hX.1; have s1 := hX.2.1; have s2 := hX.2.2.1; have s3 := hX.2.2.2; go_simp; exact stillUpon_value)
           simp only [Act.put, List.setIfInBounds_toArray, List.set_cons_zero, List.set_cons_succ]))
      refine wpO_eff rfl rfl (fun K hK => ?_)
      simp only [List.getElem_toArray, List.getElem_cons_succ, List.getElem_cons_zero]
      go_simp
      refine (HR2.out _).mono ?_
      rintro e w' ⟨rfl, rfl⟩
      refine hK _ _ (fun _ => HX.out _ (Fr.refl _ _).drew) ?_
      clear hK K
      repeat (first
        | (refine wpO_skip rfl rfl ?_; simp only [List.getElem_toArray, List.getElem_cons_succ, List.getElem_cons_zero, Act.put, List.setIfInBounds_toArray, List.set_cons_zero, List.set_cons_succ])
        | (refine wpO_call rfl rfl ?_; simp only [List.getElem_toArray, List.getElem_cons_succ, List.getElem_cons_zero]; apply Exists.intro; refine ⟨fun X hX => ?_, ?_⟩
           · (have s0 := hX.1; have s1 := hX.2.1; have s2 := hX.2.2.1; have s3 := hX.2.2.2; go_simp; exact stillUpon_value)
           simp only [Act.put, List.setIfInBounds_toArray, List.set_cons_zero, List.set_cons_succ]))
      refine wpO_nil ?_
      have y0 : W.cell? ⟨w.heap.size, 0, none⟩ = some (.int .i64 l.min) := G.out.cell 0
      have y1 : W.cell? ⟨w.heap.size, 1, none⟩ = some (.int .i64 l.max) := G.out.cell 1
      have y2 : W.cell? ⟨w.heap.size, 2, none⟩ = some (.bool l.has) := G.out.cell 2
      have y3 : W.cell? ⟨w.heap.size, 3, none⟩ = some (.slice A B.length c) := G.out.cell 3
      have z0 : W.cell? ⟨w.heap.size + 1, 0, none⟩ = some (.int .i64 0) := GR.out.cell 0
      have z1 : W.cell? ⟨w.heap.size + 1, 1, none⟩ = some (.int .i64 0) := GR.out.cell 1
      have z2 : W.cell? ⟨w.heap.size + 1, 2, none⟩ = some (.bool false) := GR.out.cell 2
      have z3 : W.cell? ⟨w.heap.size + 1, 3, none⟩ = some (.slice none 0 0) := GR.out.cell 3
      have q0 : W.frozen? ⟨w.heap.size + 1, 0, none⟩ = false := GR.out.frozen 0
      have q1 : W.frozen? ⟨w.heap.size + 1, 1, none⟩ = false := GR.out.frozen 1
      have q2 : W.frozen? ⟨w.heap.size + 1, 2, none⟩ = false := GR.out.frozen 2
      have q3 : W.frozen? ⟨w.heap.size + 1, 3, none⟩ = false := GR.out.frozen 3
      go_wp2
      have FZ := (((((Fr.refl (One (w.heap.size + 1)) W).setCell ⟨w.heap.size + 1, 0, none⟩ (.int .i64 l.min) (fun _ => rfl)).setCell ⟨w.heap.size + 1, 1, none⟩ (.int .i64 l.max) (fun _ => rfl)).setCell ⟨w.heap.size + 1, 2, none⟩ (.bool l.has) (fun _ => rfl)).setCell ⟨w.heap.size + 1, 3, none⟩ (.slice A B.length c) (fun _ => rfl))
      have FF := F.out.trans FZ.drew (fun i hi h => by simp only [One] at h; omega)
      exact bodyPost_ret (v := .tuple #[.agg #[.int .i64 l.min, .int .i64 l.max, .bool l.has, .slice A B.length c], .int .i64 2]) (by simp [results, Try.results35, go_sem, z0, z1, z2, z3]) rfl ⟨A, c, rfl, HI.out.fr FF, .inl ⟨rfl, rfl⟩, FF⟩
  · rw [if_neg e1]
    rw [decide_eq_false e1] at HR1
    go_enter Try.func35, Try.ntmps35
    go_wp2
    generalize (w.alloc (.cells #[.int .i64 l.min, .int .i64 l.max, .bool l.has, .slice A B.length c] 28)).alloc (.cells #[.int .i64 0, .int .i64 0, .bool false, .slice none 0 0] 28) = W at *
    have hc1 : w.heap.size + 1 < W.heap.size := GR.out.lt
    have HX : Hid (∀ X, Fr (One (w.heap.size + 1)) W X → X.cell? ⟨w.heap.size, 0, none⟩ = some (.int .i64 l.min) ∧ X.cell? ⟨w.heap.size, 1, none⟩ = some (.int .i64 l.max) ∧ X.cell? ⟨w.heap.size, 2, none⟩ = some (.bool l.has) ∧ X.cell? ⟨w.heap.size, 3, none⟩ = some (.slice A B.length c)) := fun X f => by
      have h := G.out.fr f (fun x => by simp only [One] at x; omega)
      exact ⟨h.cell 0, h.cell 1, h.cell 2, h.cell 3⟩
    refine wp_region_ord (fun X => X.cell? ⟨w.heap.size, 0, none⟩ = some (.int .i64 l.min) ∧ X.cell? ⟨w.heap.size, 1, none⟩ = some (.int .i64 l.max) ∧ X.cell? ⟨w.heap.size, 2, none⟩ = some (.bool l.has) ∧ X.cell? ⟨w.heap.size, 3, none⟩ = some (.slice A B.length c)) [] [(0, true), (1, true), (2, true), (4, true), (3, false), (5, false), (6, false), (7, true), (8, true), (9, true), (10, true), (11, true), (12, true), (14, true), (13, false), (15, false), (16, false), (17, true), (18, true)] (by kernel_rfl) (by kernel_rfl) (by kernel_rfl) rfl (HX.out _ (Fr.refl _ _).drew) ?_
    repeat (first
      | (refine wpO_skip rfl rfl ?_; simp only [List.getElem_toArray, List.getElem_cons_succ, List.getElem_cons_zero, Act.put, List.setIfInBounds_toArray, List.set_cons_zero, List.set_cons_succ])
      | (refine wpO_call rfl rfl ?_; simp only [List.getElem_toArray, List.getElem_cons_succ, List.getElem_cons_zero]; apply Exists.intro; refine ⟨fun X hX => ?_, ?_⟩
         · (have s0 := hX.1; have s1 := hX.2.1; have s2 := hX.2.2.1; have s3 := hX.2.2.2; go_simp; exact stillUpon_value)
         simp only [Act.put, List.setIfInBounds_toArray, List.set_cons_zero, List.set_cons_succ]))
    refine wpO_eff rfl rfl (fun K hK => ?_)
    simp only [List.getElem_toArray, List.getElem_cons_succ, List.getElem_cons_zero]
    go_simp
    refine (HA.out _).mono ?_
    rintro e w' ⟨rfl, rfl⟩
    refine hK _ _ (fun _ => HX.out _ (Fr.refl _ _).drew) ?_
    clear hK K
    repeat (first
      | (refine wpO_skip rfl rfl ?_; simp only [List.getElem_toArray, List.getElem_cons_succ, List.getElem_cons_zero, Act.put, List.setIfInBounds_toArray, List.set_cons_zero, List.set_cons_succ])
      | (refine wpO_call rfl rfl ?_; simp only [List.getElem_toArray, List.getElem_cons_succ, List.getElem_cons_zero]; apply Exists.intro; refine ⟨fun X hX => ?_, ?_⟩
         · (have s0 := hX.1; have s1 := hX.2.1; have s2 := hX.2.2.1; have s3 := hX.2.2.2; go_simp; exact stillUpon_value)
         simp only [Act.put, List.setIfInBounds_toArray, List.set_cons_zero, List.set_cons_succ]))
    refine wpO_eff rfl rfl (fun K hK => ?_)
    simp only [List.getElem_toArray, List.getElem_cons_succ, List.getElem_cons_zero]
    go_simp
    refine (HN.out _).mono ?_
    rintro e w' ⟨rfl, rfl⟩
    refine hK _ _ (fun _ => HX.out _ (Fr.refl _ _).drew) ?_
    clear hK K
    repeat (first
      | (refine wpO_skip rfl rfl ?_; simp only [List.getElem_toArray, List.getElem_cons_succ, List.getElem_cons_zero, Act.put, List.setIfInBounds_toArray, List.set_cons_zero, List.set_cons_succ])
      | (refine wpO_call rfl rfl ?_; simp only [List.getElem_toArray, List.getElem_cons_succ, List.getElem_cons_zero]; apply Exists.intro; refine ⟨fun X hX => ?_, ?_⟩
         · (have s0 := hX.1; have s1 := hX.2.1; have s2 := hX.2.2.1; have s3 := hX.2.2.2; go_simp; exact stillUpon_value)
         simp only [Act.put, List.setIfInBounds_toArray, List.set_cons_zero, List.set_cons_succ]))
    refine wpO_eff rfl rfl (fun K hK => ?_)
    simp only [List.getElem_toArray, List.getElem_cons_succ, List.getElem_cons_zero]
    go_simp
    refine (HR1.out _).mono ?_
    rintro e w' ⟨rfl, rfl⟩
    refine hK _ _ (fun _ => HX.out _ (Fr.refl _ _).drew) ?_
    clear hK K
    repeat (first
      | (refine wpO_skip rfl rfl ?_; simp only [List.getElem_toArray, List.getElem_cons_succ, List.getElem_cons_zero, Act.put, List.setIfInBounds_toArray, List.set_cons_zero, List.set_cons_succ])
      | (refine wpO_call rfl rfl ?_; simp only [List.getElem_toArray, List.getElem_cons_succ, List.getElem_cons_zero]; apply Exists.intro; refine ⟨fun X hX => ?_, ?_⟩
         · (have s0 := hX.1; have s1 := hX.2.1; have s2 := hX.2.2.1; have s3 := hX.2.2.2; go_simp; exact stillUpon_value)
         simp only [Act.put, List.setIfInBounds_toArray, List.set_cons_zero, List.set_cons_succ]))
    refine wpO_skipE rfl rfl (HX.out _ (Fr.refl _ _).drew) ?_
    simp only [List.getElem_toArray, List.getElem_cons_succ, List.getElem_cons_zero, Act.put, List.setIfInBounds_toArray, List.set_cons_zero, List.set_cons_succ]
    repeat (first
      | (refine wpO_skip rfl rfl ?_; simp only [List.getElem_toArray, List.getElem_cons_succ, List.getElem_cons_zero, Act.put, List.setIfInBounds_toArray, List.set_cons_zero, List.set_cons_succ])
      | (refine wpO_call rfl rfl ?_; simp only [List.getElem_toArray, List.getElem_cons_succ, List.getElem_cons_zero]; apply Exists.intro; refine ⟨fun X hX => ?_, ?_⟩
         · (have s0 := hX.1; have s1 := hX.2.1; have s2 := hX.2.2.1; have s3 := hX.2.2.2; go_simp; exact stillUpon_value)
         simp only [Act.put, List.setIfInBounds_toArray, List.set_cons_zero, List.set_cons_succ]))
    refine wpO_skipE rfl rfl (HX.out _ (Fr.refl _ _).drew) ?_
    simp only [List.getElem_toArray, List.getElem_cons_succ, List.getElem_cons_zero, Act.put, List.setIfInBounds_toArray, List.set_cons_zero, List.set_cons_succ]
    repeat (first
      | (refine wpO_skip rfl rfl ?_; simp only [List.getElem_toArray, List.getElem_cons_succ, List.getElem_cons_zero, Act.put, List.setIfInBounds_toArray, List.set_cons_zero, List.set_cons_succ])
      | (refine wpO_call rfl rfl ?_; simp only [List.getElem_toArray, List.getElem_cons_succ, List.getElem_cons_zero]; apply Exists.intro; refine ⟨fun X hX => ?_, ?_⟩
         · (have s0 := hX.1; have s1 := hX.2.1; have s2 := hX.2.2.1; have s3 := hX.2.2.2; go_simp; exact stillUpon_value)
         simp only [Act.put, List.setIfInBounds_toArray, List.set_cons_zero, List.set_cons_succ]))
    refine wpO_skipE rfl rfl (HX.out _ (Fr.refl _ _).drew) ?_
    simp only [List.getElem_toArray, List.getElem_cons_succ, List.getElem_cons_zero, Act.put, List.setIfInBounds_toArray, List.set_cons_zero, List.set_cons_succ]
    repeat (first
      | (refine wpO_skip rfl rfl ?_; simp only [List.getElem_toArray, List.getElem_cons_succ, List.getElem_cons_zero, Act.put, List.setIfInBounds_toArray, List.set_cons_zero, List.set_cons_succ])
      | (refine wpO_call rfl rfl ?_; simp only [List.getElem_toArray, List.getElem_cons_succ, List.getElem_cons_zero]; apply Exists.intro; refine ⟨fun X hX => ?_, ?_⟩
         · (have s0 := hX.1; have s1 := hX.2.1; have s2 := hX.2.2.1; have s3 := hX.2.2.2; go_simp; exact stillUpon_value)
         simp only [Act.put, List.setIfInBounds_toArray, List.set_cons_zero, List.set_cons_succ]))
    refine wpO_nil ?_
    have y0 : W.cell? ⟨w.heap.size, 0, none⟩ = some (.int .i64 l.min) := G.out.cell 0
    have y1 : W.cell? ⟨w.heap.size, 1, none⟩ = some (.int .i64 l.max) := G.out.cell 1
    have y2 : W.cell? ⟨w.heap.size, 2, none⟩ = some (.bool l.has) := G.out.cell 2
    have y3 : W.cell? ⟨w.heap.size, 3, none⟩ = some (.slice A B.length c) := G.out.cell 3
    have z0 : W.cell? ⟨w.heap.size + 1, 0, none⟩ = some (.int .i64 0) := GR.out.cell 0
    have z1 : W.cell? ⟨w.heap.size + 1, 1, none⟩ = some (.int .i64 0) := GR.out.cell 1
    have z2 : W.cell? ⟨w.heap.size + 1, 2, none⟩ = some (.bool false) := GR.out.cell 2
    have z3 : W.cell? ⟨w.heap.size + 1, 3, none⟩ = some (.slice none 0 0) := GR.out.cell 3
    have q0 : W.frozen? ⟨w.heap.size + 1, 0, none⟩ = false := GR.out.frozen 0
    have q1 : W.frozen? ⟨w.heap.size + 1, 1, none⟩ = false := GR.out.frozen 1
    have q2 : W.frozen? ⟨w.heap.size + 1, 2, none⟩ = false := GR.out.frozen 2
    have q3 : W.frozen? ⟨w.heap.size + 1, 3, none⟩ = false := GR.out.frozen 3
    go_wp2
    have FZ := (((((Fr.refl (One (w.heap.size + 1)) W).setCell ⟨w.heap.size + 1, 0, none⟩ (.int .i64 l.min) (fun _ => rfl)).setCell ⟨w.heap.size + 1, 1, none⟩ (.int .i64 l.max) (fun _ => rfl)).setCell ⟨w.heap.size + 1, 2, none⟩ (.bool l.has) (fun _ => rfl)).setCell ⟨w.heap.size + 1, 3, none⟩ (.slice A B.length c) (fun _ => rfl))
    have FF := F.out.trans FZ.drew (fun i hi h => by simp only [One] at h; omega)
    exact bodyPost_ret (v := .tuple #[.agg #[.int .i64 l.min, .int .i64 l.max, .bool l.has, .slice A B.length c], .int .i64 2]) (by simp [results, Try.results35, go_sem, z0, z1, z2, z3]) rfl ⟨A, c, rfl, HI.out.fr FF, .inl ⟨rfl, rfl⟩, FF⟩
end Go.Proofs.Ytpmnijjfadhocaa
