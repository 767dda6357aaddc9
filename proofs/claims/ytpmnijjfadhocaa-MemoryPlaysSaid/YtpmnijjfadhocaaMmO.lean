/- Chapter 28: the program's memory: Init. -/
import Derived.Test.YtpmnijjfadhocaaMmN
namespace Go.Proofs.Ytpmnijjfadhocaa
open Go.RowKit

theorem lfit_any (s a n : Nat) (w : World) (hs : s ≤ 1000000) (ha : a < 4294967296) (hn : n < 4294967296) : Calls Try.prog 30 #[.int .i64 s, .int .u64 a, .int .u64 n] w fun e w' => e = .returned (.bool (decide (a + n ≤ s))) ∧ w = w' := by
  have h := there_any s a n w (by omega) (by omega) (by omega)
  have e : fits s a n = decide (a + n ≤ s) := by rw [fits, Bool.eq_iff_iff]; simp; omega
  rwa [e] at h
theorem splice_nil' (B : List Int) (a : Nat) : splice B a [] = B := splice_nil B a
set_option maxRecDepth 100000 in
set_option maxHeartbeats 3200000 in
theorem minit_any (p q c : Nat) (l : Lim) (B bs : List Int) (D : Option Addr) (d : Nat) (xt xa xn : Int) (w : World) (hM : Mo w p q c l B) (hD : SrcIn w D d bs) (hn : B.length ≤ 100000) (hn2 : bs.length ≤ 1000000) (h1 : 0 ≤ xt ∧ xt < 18446744073709551616) (h2 : 0 ≤ xa ∧ xa < 18446744073709551616) (h3 : 0 ≤ xn ∧ xn < 18446744073709551616) :
    Calls Try.prog 16 #[.pointer (some ⟨p, 0, none⟩), .slice D bs.length d, .int .u64 xt, .int .u64 xa, .int .u64 xn] w (MoTo p q c l (initR B bs (lo xt) (lo xa) (lo xn)).1 (initR B bs (lo xt) (lo xa) (lo xn)).2 w) := by
  have HT := hid (fun W => lo_any xt W h1)
  have HA := hid (fun W => lo_any xa W h2)
  have HN := hid (fun W => lo_any xn W h3)
  have HM := hid hM
  have HD := hid hD
  have b1 := lo_lt xt
  have b2 := lo_lt xa
  have b3 := lo_lt xn
  generalize lo xt = t at *
  generalize lo xa = a at *
  generalize lo xn = n at *
  have HR1 := hid (fun W => lfit_any bs.length a n W hn2 b2 b3)
  have HR2 := hid (fun W => lfit_any B.length t n W (by omega) b1 b3)
  have c3 := hM.hp.cell 3
  have HX : Hid (∀ X, Fr No w X → X.cell? ⟨p, 3, none⟩ = some (.slice (some ⟨q, 0, none⟩) B.length c)) := fun X f => (HM.out.frNo f).hp.cell 3
  clear hM hD h1 h2 h3
  unfold initR
  by_cases e1 : a + n ≤ bs.length
  · rw [if_pos e1]
    rw [decide_eq_true e1] at HR1
    by_cases e2 : t + n ≤ B.length
    · rw [if_pos e2]
      rw [decide_eq_true e2] at HR2
      go_enter Try.func16, Try.ntmps16
      go_wp2_with fail
      refine (HT.out _).mono ?_
      rintro e w' ⟨rfl, rfl⟩
      go_wp2_with fail
      refine (HA.out _).mono ?_
      rintro e w' ⟨rfl, rfl⟩
      go_wp2_with fail
      refine (HN.out _).mono ?_
      rintro e w' ⟨rfl, rfl⟩
      go_wp2_with fail
      refine (HR1.out _).mono ?_
      rintro e w' ⟨rfl, rfl⟩
      go_wp2_with fail
      refine (HR2.out _).mono ?_
      rintro e w' ⟨rfl, rfl⟩
      obtain ⟨D', d', hsl, hd1, hd2⟩ := run_sub .u64 .u64 D bs.length d a n e1 HD.out.cap HD.out.spot
      obtain ⟨E', d2, hsl2, hd3, hd4⟩ := run_sub .u64 .u64 (some ⟨q, 0, none⟩) B.length c t n e2 HM.out.cap (fun _ ad h => ⟨q, 0, by injection h with h; exact h.symm⟩)
      have hw1 : IntKind.u64.wrap ((a : Int) + n) = a + n := by rw [IntKind.wrap_u64]; omega
      have hw2 : IntKind.u64.wrap ((t : Int) + n) = t + n := by rw [IntKind.wrap_u64]; omega
      have hoff : ∃ off, E' = some ⟨q, off, none⟩ ∧ (n = 0 ∨ off = t) ∧ off + n ≤ B.length := by
        rcases hd4 with ⟨h, h' | h' | h'⟩ | ⟨q', o', h, h'⟩
        · cases h'
        · exact ⟨0, h, .inl h', by omega⟩
        · exact ⟨0, h, .inr h'.symm, by omega⟩
        · cases h; exact ⟨0 + t, h', .inr (by omega), by omega⟩
      obtain ⟨off, rfl, ho1, ho2⟩ := hoff
      have hlen : ((bs.drop a).take n).length = n := by rw [List.length_take, List.length_drop]; omega
      clear hd4
      go_wp2_with fail
      refine wp_region_ord (fun X => X.cell? ⟨p, 3, none⟩ = some (.slice (some ⟨q, 0, none⟩) B.length c)) [] [(0, true), (1, true), (2, true), (3, true), (4, true), (5, true), (6, true), (7, true), (8, true), (9, true), (10, true), (11, true), (12, true), (13, true), (14, true), (15, false)] (by kernel_rfl) (by kernel_rfl) (by kernel_rfl) rfl c3 ?_
      repeat (first
        | (refine wpO_skip rfl rfl ?_; simp only [List.getElem_toArray, List.getElem_cons_succ, List.getElem_cons_zero, Act.put, List.setIfInBounds_toArray, List.set_cons_zero, List.set_cons_succ])
        | (refine wpO_call rfl rfl ?_; simp only [List.getElem_toArray, List.getElem_cons_succ, List.getElem_cons_zero]; apply Exists.intro; refine ⟨fun X hX => ?_, ?_⟩
           · (have s0 := hX; go_simp; exact stillUpon_value)
           simp only [Act.put, List.setIfInBounds_toArray, List.set_cons_zero, List.set_cons_succ]))
      refine wpO_eff rfl rfl (fun K hK => ?_)
      simp only [List.getElem_toArray, List.getElem_cons_succ, List.getElem_cons_zero]
      refine opwp_cp (xs := Ks .u8 B) (cs := Ks .u8 ((bs.drop a).take n)) (B := w.heap.size) elBs rfl rfl rfl (HM.out.frNo (Fr.refl No w).drew).own (sub_rd HD.out.rd HD.out.nil e1 hd2).drew (by rw [len_Ks, hlen]; exact (Nat.min_self n).symm) (by rw [len_Ks, len_Ks, hlen]; exact ho2) (one_Ks _ _) ?_
      intro w3 hown fcp
      have e3 : splice B off ((bs.drop a).take n) = splice B t ((bs.drop a).take n) := by
        rcases ho1 with h | h
        · subst h; rw [List.take_zero, splice_nil', splice_nil']
        · rw [h]
      have hm := Mo.put (HM.out.frNo (Fr.refl No w).drew) fcp hown (HD.out.bts.sub a n) (by rw [hlen]; exact ho2)
      rw [e3] at hm
      have HM3 := hid hm
      have F3 := hid (((Fr.refl (One q) w).drew).trans fcp (fun _ _ h => h))
      have c4 := HM3.out.hp.cell 3
      rw [splice_len (by rw [hlen]; exact e2)] at c4
      clear hown fcp hm
      refine hK _ _ (fun _ => c4) ?_
      clear hK K
      repeat (first
        | (refine wpO_skip rfl rfl ?_; simp only [List.getElem_toArray, List.getElem_cons_succ, List.getElem_cons_zero, Act.put, List.setIfInBounds_toArray, List.set_cons_zero, List.set_cons_succ])
        | (refine wpO_call rfl rfl ?_; simp only [List.getElem_toArray, List.getElem_cons_succ, List.getElem_cons_zero]; apply Exists.intro; refine ⟨fun X hX => ?_, ?_⟩
           · (have s0 := hX; go_simp; exact stillUpon_value)
           simp only [Act.put, List.setIfInBounds_toArray, List.set_cons_zero, List.set_cons_succ]))
      refine wpO_nil ?_
      go_wp2
      go_ret
      exact ⟨rfl, HM3.out, F3.out⟩
    · rw [if_neg e2]
      rw [decide_eq_false e2] at HR2
      go_enter Try.func16, Try.ntmps16
      go_wp2_with fail
      refine (HT.out _).mono ?_
      rintro e w' ⟨rfl, rfl⟩
      go_wp2_with fail
      refine (HA.out _).mono ?_
      rintro e w' ⟨rfl, rfl⟩
      go_wp2_with fail
      refine (HN.out _).mono ?_
      rintro e w' ⟨rfl, rfl⟩
      go_wp2_with fail
      refine (HR1.out _).mono ?_
      rintro e w' ⟨rfl, rfl⟩
      go_wp2_with fail
      refine (HR2.out _).mono ?_
      rintro e w' ⟨rfl, rfl⟩
      go_wp2
      go_ret
      exact ⟨rfl, HM.out, Fr.refl _ _⟩
  · rw [if_neg e1]
    rw [decide_eq_false e1] at HR1
    go_enter Try.func16, Try.ntmps16
    go_wp2_with fail
    refine (HT.out _).mono ?_
    rintro e w' ⟨rfl, rfl⟩
    go_wp2_with fail
    refine (HA.out _).mono ?_
    rintro e w' ⟨rfl, rfl⟩
    go_wp2_with fail
    refine (HN.out _).mono ?_
    rintro e w' ⟨rfl, rfl⟩
    go_wp2_with fail
    refine (HR1.out _).mono ?_
    rintro e w' ⟨rfl, rfl⟩
    go_wp2
    go_ret
    exact ⟨rfl, HM.out, Fr.refl _ _⟩
end Go.Proofs.Ytpmnijjfadhocaa
