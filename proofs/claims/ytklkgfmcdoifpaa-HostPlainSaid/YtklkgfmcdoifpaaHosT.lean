/- The walk of HostRound. -/
import Derived.Test.YtklkgfmcdoifpaaHosS
namespace Go.Proofs.Ytklkgfmcdoifpaa
open Go.RowKit

theorem actAt_of_hoB {h : Ho} {k : Nat} (hk : k < h.acts.length) (hb : hoB h = true) : actB h.acts[k] h.ty.results = true := by
  simp only [hoB, Bool.and_eq_true] at hb
  have := allUp_iff.1 hb.2.2.2.2 k hk
  simpa [actAt, hk] using this
theorem kind_yes {a : Ac} {rs : List Int} (h : ansB a rs = true) : (a.kind == 1) = false := by
  simp only [ansB, Bool.and_eq_true, Bool.or_eq_true, decide_eq_true_eq] at h
  rcases h.1 with h | h <;> simp [h]
theorem kind_no {a : Ac} {rs : List Int} (h : ansB a rs = false) (hb : actB a rs = true) : (a.kind == 1) = true := by
  unfold actB at hb
  unfold ansB at h
  by_cases h0 : a.kind = 0
  · simp [h0] at h hb
    rw [hb.1] at h; cases h
  · by_cases h1 : a.kind = 1
    · simp [h1]
    · by_cases h2 : a.kind = 2
      · simp [h2] at h hb
        rw [hb.1] at h; cases h
      · simp [h0, h1, h2] at hb

set_option maxHeartbeats 3200000 in
set_option maxRecDepth 100000 in
theorem round_yes (h : Ho) (A1 A2 A3 : Option Addr) (c1 c2 c3 : Nat) (n : Int) (k : Nat) (x : Ac) (w : World) (hb : Bool) (hhb : Hid (hoB h = hb)) (hi : Hid (HoIn w h A1 A2 A3 c1 c2 c3))
    (hn0 : 0 ≤ n) (hn1 : n ≤ 65535) (hk : Hid (k < h.acts.length)) (hx : Hid (h.acts[k]'(hk.out) = x)) (hm1 : Hid (n.tmod h.acts.length = k)) (hm2 : Hid ((n + h.acts.length).tmod h.acts.length = k)) (hl0 : (((h.acts.length : Nat) : Int) == 0) = false) (hans : Hid (ansB x h.ty.results = true)) (hk1 : hb = true → (x.kind == 1) = false) :
    Calls Try.prog 6 #[.agg #[.string h.mod, .string h.name, .slice A1 h.ty.params.length c1, .slice A2 h.ty.results.length c2, .slice A3 h.acts.length c3], .int .u16 n] w fun e w' => e = .returned (.bool true) ∧ Fr No w w' := by
  have HK := hid hk1
  clear hk1
  have F0 := hid ((Fr.refl No w).alloc (.cells #[.string h.mod, .string h.name, .slice A1 h.ty.params.length c1, .slice A2 h.ty.results.length c2, .slice A3 h.acts.length c3] 27))
  have lW : w.heap.size < (w.alloc (.cells #[.string h.mod, .string h.name, .slice A1 h.ty.params.length c1, .slice A2 h.ty.results.length c2, .slice A3 h.acts.length c3] 27)).heap.size := by simp
  have HX : Hid (∀ X, Fr No (w.alloc (.cells #[.string h.mod, .string h.name, .slice A1 h.ty.params.length c1, .slice A2 h.ty.results.length c2, .slice A3 h.acts.length c3] 27)) X → X.cell? ⟨w.heap.size, 0, none⟩ = some (.string h.mod) ∧ X.cell? ⟨w.heap.size, 1, none⟩ = some (.string h.name) ∧ X.cell? ⟨w.heap.size, 2, none⟩ = some (.slice A1 h.ty.params.length c1) ∧ X.cell? ⟨w.heap.size, 3, none⟩ = some (.slice A2 h.ty.results.length c2) ∧ X.cell? ⟨w.heap.size, 4, none⟩ = some (.slice A3 h.acts.length c3)) := fun X f => five_box f
  go_enter Try.func6, Try.ntmps6
  go_wp2_with fail
  generalize w.alloc (.cells #[.string h.mod, .string h.name, .slice A1 h.ty.params.length c1, .slice A2 h.ty.results.length c2, .slice A3 h.acts.length c3] 27) = W at *
  refine (few_any h A1 A2 A3 c1 c2 c3 w.heap.size W F0.out.size (hi.out.a.fr (Nat.le_refl _) F0.out (fun _ _ x => x)) hi.out.la hi.out.lv hi.out.lp hi.out.lr hi.out.lm hi.out.ln).mono ?_
  rintro e w1 ⟨r, rfl, hf, f1⟩
  have F1 := hid f1
  have HF := hid hf
  have s1 : w.heap.size < w1.heap.size := Nat.lt_of_lt_of_le lW f1.size
  clear f1 hf
  cases r
  · go_wp2_with fail
    refine (alive_any _).mono ?_
    rintro e w2 ⟨rfl, f2⟩
    go_wp2_with fail
    go_ret
    exact ⟨rfl, F0.out.trans (F1.out.trans f2 (fun _ _ h => h)) (fun _ _ h => h)⟩
  have ok := hid (hi.out.ok (HF.out rfl))
  have hl5 : h.acts.length ≤ 50 := ok.out.la
  have hx5 : x.vals.length ≤ 500 := by rw [← hx.out]; exact ok.out.lv _ (List.getElem_mem hk.out)
  clear HF
  have HB1 : Hid (ActBoth h A1 A2 A3 c1 c2 c3 n w.heap.size x true) := by have := both_some h A1 A2 A3 c1 c2 c3 n w.heap.size k hn0 (by omega) hk.out hm1.out; rw [hx.out] at this; exact this
  have HB2 : Hid (ActBoth h A1 A2 A3 c1 c2 c3 (n + h.acts.length) w.heap.size x true) := by have := both_some h A1 A2 A3 c1 c2 c3 (n + h.acts.length) w.heap.size k (by omega) (by omega) hk.out hm2.out; rw [hx.out] at this; exact this
  obtain ⟨x0, x1, x2, x3, x4⟩ := HX.out _ F1.out
  go_wp2_with fail
  refine (HB1.out.one w1 (by omega) (ok.out.fr (Nat.le_refl _) (F0.out.trans F1.out (fun _ _ h => h)))).mono ?_
  rintro e w2 ⟨Q1, e1, rfl, hq1, f2⟩
  clear x0 x1 x2 x3 x4
  have F2 := hid (F1.out.trans f2 (fun _ _ h => h))
  have HQ1 := hid hq1
  have s2 : w.heap.size < w2.heap.size := Nat.lt_of_lt_of_le lW F2.out.size
  clear hq1 f2 F1
  obtain ⟨x0, x1, x2, x3, x4⟩ := HX.out _ F2.out
  go_wp2_with fail
  have K1 := hid (Blk.new w2 32 #[.int .i64 x.kind, .slice Q1 x.vals.length e1, .int .i64 x.mem, .int .i64 x.at_, .int .u8 x.byte])
  have F3 := hid (F2.out.alloc (.cells #[.int .i64 x.kind, .slice Q1 x.vals.length e1, .int .i64 x.mem, .int .i64 x.at_, .int .u8 x.byte] 32))
  have HQ1' := hid ((HQ1.out.fr (Nat.le_refl _) ((Fr.refl No w2).alloc (.cells #[.int .i64 x.kind, .slice Q1 x.vals.length e1, .int .i64 x.mem, .int .i64 x.at_, .int .u8 x.byte] 32)) (fun _ _ x => x)))
  clear x0 x1 x2 x3 x4
  generalize w2.alloc (.cells #[.int .i64 x.kind, .slice Q1 x.vals.length e1, .int .i64 x.mem, .int .i64 x.at_, .int .u8 x.byte] 32) = W2 at *
  have hg2 : w2.heap.size < W2.heap.size := K1.out.lt
  generalize w2.heap.size = g2 at *
  clear F2 HQ1
  refine (HB2.out.one W2 (by omega) (ok.out.fr (Nat.le_refl _) (F0.out.trans F3.out (fun _ _ h => h)))).mono ?_
  rintro e w3 ⟨Q2, e2, rfl, hq2, f3⟩
  have F4 := hid (F3.out.trans f3 (fun _ _ h => h))
  have K2 := hid (K1.out.fr f3 (fun x => x))
  have HQ1 := hid (HQ1'.out.fr (Nat.le_of_lt hg2) f3 (fun _ _ x => x))
  have HQ2 := hid hq2
  have hg3 : g2 < w3.heap.size := Nat.lt_of_lt_of_le hg2 f3.size
  have s3 : w.heap.size < w3.heap.size := by omega
  clear hq2 f3 HQ1' K1 F3
  obtain ⟨y0, y1, y2, y3, y4⟩ := blk_act K2.out
  go_wp2_with fail
  have K3 := hid (Blk.new w3 32 #[.int .i64 x.kind, .slice Q2 x.vals.length e2, .int .i64 x.mem, .int .i64 x.at_, .int .u8 x.byte])
  have K4 := hid (K2.out.alloc (.cells #[.int .i64 x.kind, .slice Q2 x.vals.length e2, .int .i64 x.mem, .int .i64 x.at_, .int .u8 x.byte] 32))
  have F5 := hid (F4.out.alloc (.cells #[.int .i64 x.kind, .slice Q2 x.vals.length e2, .int .i64 x.mem, .int .i64 x.at_, .int .u8 x.byte] 32))
  have HQ1' := hid ((HQ1.out.fr (Nat.le_of_lt hg3) ((Fr.refl No w3).alloc (.cells #[.int .i64 x.kind, .slice Q2 x.vals.length e2, .int .i64 x.mem, .int .i64 x.at_, .int .u8 x.byte] 32)) (fun _ _ x => x)))
  have HQ2' := hid ((HQ2.out.fr (Nat.le_refl _) ((Fr.refl No w3).alloc (.cells #[.int .i64 x.kind, .slice Q2 x.vals.length e2, .int .i64 x.mem, .int .i64 x.at_, .int .u8 x.byte] 32)) (fun _ _ x => x)))
  clear y0 y1 y2 y3 y4
  generalize w3.alloc (.cells #[.int .i64 x.kind, .slice Q2 x.vals.length e2, .int .i64 x.mem, .int .i64 x.at_, .int .u8 x.byte] 32) = W3 at *
  have hg4 : w3.heap.size < W3.heap.size := K3.out.lt
  generalize w3.heap.size = g3 at *
  clear F4 HQ1 HQ2 K2
  refine (same_yes x.kind x.mem x.at_ x.byte x.vals Q1 Q2 e1 e2 _ _ W3 (show g2 ≤ W3.heap.size by omega) (show g3 ≤ W3.heap.size by omega) HQ1'.out HQ2'.out hx5).mono ?_
  rintro e w4 ⟨rfl, f4⟩
  have F6 := hid (F5.out.trans f4 (fun _ _ h => h))
  have K5 := hid (K4.out.fr f4 (fun x => x))
  have HQ1 := hid (HQ1'.out.fr (by omega) f4 (fun _ _ x => x))
  have s4 := f4.size
  clear f4 HQ1' HQ2' K3 K4 F5
  obtain ⟨x0, x1, x2, x3, x4⟩ := HX.out _ F6.out
  obtain ⟨y0, y1, y2, y3, y4⟩ := blk_act K5.out
  go_wp2_with fail
  refine ((ans_yes x h.ty.params.length h.ty.results Q1 A1 A2 e1 c1 c2 hx5 ok.out.lr hans.out).one w4 g2 (by omega) HQ1.out ((ok.out.r.fr (Nat.le_refl _) (F0.out.trans F6.out (fun _ _ h => h)) (fun _ _ x => x)).more (by omega))).mono ?_
  rintro e w5 ⟨Q3, e3, rfl, hq3, f5⟩
  clear x0 x1 x2 x3 x4 y0 y1 y2 y3 y4
  have F7 := hid (F6.out.trans f5 (fun _ _ h => h))
  have K6 := hid (K5.out.fr f5 (fun x => x))
  have HQ3 := hid hq3
  have s5 := f5.size
  clear hq3 f5 K5 F6 HQ1
  obtain ⟨x0, x1, x2, x3, x4⟩ := HX.out _ F7.out
  go_wp2_with fail
  refine (r27fit_any Q3 A2 x.vals h.ty.results e3 c2 _ w.heap.size w5 (Nat.le_refl _) (by omega) HQ3.out (ok.out.r.fr (Nat.le_refl _) (F0.out.trans F7.out (fun _ _ h => h)) (fun _ _ x => x)) (by omega) (by have := ok.out.lr; omega)).mono ?_
  rintro e w6 ⟨rfl, f6⟩
  have hfit : fitB x.vals h.ty.results = true := by have := hans.out; simp only [ansB, Bool.and_eq_true] at this; exact this.2
  rw [hfit]
  clear hfit
  clear x0 x1 x2 x3 x4
  have F8 := hid (F7.out.trans f6 (fun _ _ h => h))
  have K7 := hid (K6.out.fr f6 (fun x => x))
  have s6 := f6.size
  clear f6 K6 F7 HQ3
  obtain ⟨x0, x1, x2, x3, x4⟩ := HX.out _ F8.out
  go_wp2_with fail
  refine (hright_any h A1 A2 A3 c1 c2 c3 w.heap.size w6 (by omega) (ok.out.fr (Nat.le_refl _) (F0.out.trans F8.out (fun _ _ h => h)))).mono ?_
  rintro e w7 ⟨rfl, f7⟩
  rw [hhb.out]
  clear x0 x1 x2 x3 x4
  have F9 := hid (F8.out.trans f7 (fun _ _ h => h))
  have K8 := hid (K7.out.fr f7 (fun x => x))
  clear f7
  obtain ⟨y0, y1, y2, y3, y4⟩ := blk_act K8.out
  have AZ := hid (act_none zeroH none none none 0 0 0 n w7 (.inr rfl))
  cases hb with
  | true =>
    have hkk := HK.out rfl
    go_wp2_with fail
    refine AZ.out.mono ?_
    rintro e w8 ⟨rfl, f8⟩
    have FA := hid (F9.out.trans f8 (fun _ _ h => h))
    clear f8
    go_wp2_with fail
    refine (alive_any _).mono ?_
    rintro e w9 ⟨rfl, f9⟩
    go_wp2_with fail
    go_ret
    exact ⟨rfl, F0.out.trans ((FA.out.alloc _).trans f9 (fun _ _ h => h)) (fun _ _ h => h)⟩
  | false =>
    go_wp2_with fail
    refine AZ.out.mono ?_
    rintro e w8 ⟨rfl, f8⟩
    have FA := hid (F9.out.trans f8 (fun _ _ h => h))
    clear f8
    go_wp2_with fail
    refine (alive_any _).mono ?_
    rintro e w9 ⟨rfl, f9⟩
    go_wp2_with fail
    go_ret
    exact ⟨rfl, F0.out.trans ((FA.out.alloc _).trans f9 (fun _ _ h => h)) (fun _ _ h => h)⟩

set_option maxHeartbeats 3200000 in
set_option maxRecDepth 100000 in
theorem round_no (h : Ho) (A1 A2 A3 : Option Addr) (c1 c2 c3 : Nat) (n : Int) (k : Nat) (x : Ac) (w : World) (hb : Bool) (hhb : Hid (hoB h = hb)) (hi : Hid (HoIn w h A1 A2 A3 c1 c2 c3))
    (hn0 : 0 ≤ n) (hn1 : n ≤ 65535) (hk : Hid (k < h.acts.length)) (hx : Hid (h.acts[k]'(hk.out) = x)) (hm1 : Hid (n.tmod h.acts.length = k)) (hm2 : Hid ((n + h.acts.length).tmod h.acts.length = k)) (hl0 : (((h.acts.length : Nat) : Int) == 0) = false) (hans : Hid (ansB x h.ty.results = false)) (hk1 : hb = true → (x.kind == 1) = true) :
    Calls Try.prog 6 #[.agg #[.string h.mod, .string h.name, .slice A1 h.ty.params.length c1, .slice A2 h.ty.results.length c2, .slice A3 h.acts.length c3], .int .u16 n] w fun e w' => e = .returned (.bool true) ∧ Fr No w w' := by
  have HK := hid hk1
  clear hk1
  have F0 := hid ((Fr.refl No w).alloc (.cells #[.string h.mod, .string h.name, .slice A1 h.ty.params.length c1, .slice A2 h.ty.results.length c2, .slice A3 h.acts.length c3] 27))
  have lW : w.heap.size < (w.alloc (.cells #[.string h.mod, .string h.name, .slice A1 h.ty.params.length c1, .slice A2 h.ty.results.length c2, .slice A3 h.acts.length c3] 27)).heap.size := by simp
  have HX : Hid (∀ X, Fr No (w.alloc (.cells #[.string h.mod, .string h.name, .slice A1 h.ty.params.length c1, .slice A2 h.ty.results.length c2, .slice A3 h.acts.length c3] 27)) X → X.cell? ⟨w.heap.size, 0, none⟩ = some (.string h.mod) ∧ X.cell? ⟨w.heap.size, 1, none⟩ = some (.string h.name) ∧ X.cell? ⟨w.heap.size, 2, none⟩ = some (.slice A1 h.ty.params.length c1) ∧ X.cell? ⟨w.heap.size, 3, none⟩ = some (.slice A2 h.ty.results.length c2) ∧ X.cell? ⟨w.heap.size, 4, none⟩ = some (.slice A3 h.acts.length c3)) := fun X f => five_box f
  go_enter Try.func6, Try.ntmps6
  go_wp2_with fail
  generalize w.alloc (.cells #[.string h.mod, .string h.name, .slice A1 h.ty.params.length c1, .slice A2 h.ty.results.length c2, .slice A3 h.acts.length c3] 27) = W at *
  refine (few_any h A1 A2 A3 c1 c2 c3 w.heap.size W F0.out.size (hi.out.a.fr (Nat.le_refl _) F0.out (fun _ _ x => x)) hi.out.la hi.out.lv hi.out.lp hi.out.lr hi.out.lm hi.out.ln).mono ?_
  rintro e w1 ⟨r, rfl, hf, f1⟩
  have F1 := hid f1
  have HF := hid hf
  have s1 : w.heap.size < w1.heap.size := Nat.lt_of_lt_of_le lW f1.size
  clear f1 hf
  cases r
  · go_wp2_with fail
    refine (alive_any _).mono ?_
    rintro e w2 ⟨rfl, f2⟩
    go_wp2_with fail
    go_ret
    exact ⟨rfl, F0.out.trans (F1.out.trans f2 (fun _ _ h => h)) (fun _ _ h => h)⟩
  have ok := hid (hi.out.ok (HF.out rfl))
  have hl5 : h.acts.length ≤ 50 := ok.out.la
  have hx5 : x.vals.length ≤ 500 := by rw [← hx.out]; exact ok.out.lv _ (List.getElem_mem hk.out)
  clear HF
  have HB1 : Hid (ActBoth h A1 A2 A3 c1 c2 c3 n w.heap.size x true) := by have := both_some h A1 A2 A3 c1 c2 c3 n w.heap.size k hn0 (by omega) hk.out hm1.out; rw [hx.out] at this; exact this
  have HB2 : Hid (ActBoth h A1 A2 A3 c1 c2 c3 (n + h.acts.length) w.heap.size x true) := by have := both_some h A1 A2 A3 c1 c2 c3 (n + h.acts.length) w.heap.size k (by omega) (by omega) hk.out hm2.out; rw [hx.out] at this; exact this
  obtain ⟨x0, x1, x2, x3, x4⟩ := HX.out _ F1.out
  go_wp2_with fail
  refine (HB1.out.one w1 (by omega) (ok.out.fr (Nat.le_refl _) (F0.out.trans F1.out (fun _ _ h => h)))).mono ?_
  rintro e w2 ⟨Q1, e1, rfl, hq1, f2⟩
  clear x0 x1 x2 x3 x4
  have F2 := hid (F1.out.trans f2 (fun _ _ h => h))
  have HQ1 := hid hq1
  have s2 : w.heap.size < w2.heap.size := Nat.lt_of_lt_of_le lW F2.out.size
  clear hq1 f2 F1
  obtain ⟨x0, x1, x2, x3, x4⟩ := HX.out _ F2.out
  go_wp2_with fail
  have K1 := hid (Blk.new w2 32 #[.int .i64 x.kind, .slice Q1 x.vals.length e1, .int .i64 x.mem, .int .i64 x.at_, .int .u8 x.byte])
  have F3 := hid (F2.out.alloc (.cells #[.int .i64 x.kind, .slice Q1 x.vals.length e1, .int .i64 x.mem, .int .i64 x.at_, .int .u8 x.byte] 32))
  have HQ1' := hid ((HQ1.out.fr (Nat.le_refl _) ((Fr.refl No w2).alloc (.cells #[.int .i64 x.kind, .slice Q1 x.vals.length e1, .int .i64 x.mem, .int .i64 x.at_, .int .u8 x.byte] 32)) (fun _ _ x => x)))
  clear x0 x1 x2 x3 x4
  generalize w2.alloc (.cells #[.int .i64 x.kind, .slice Q1 x.vals.length e1, .int .i64 x.mem, .int .i64 x.at_, .int .u8 x.byte] 32) = W2 at *
  have hg2 : w2.heap.size < W2.heap.size := K1.out.lt
  generalize w2.heap.size = g2 at *
  clear F2 HQ1
  refine (HB2.out.one W2 (by omega) (ok.out.fr (Nat.le_refl _) (F0.out.trans F3.out (fun _ _ h => h)))).mono ?_
  rintro e w3 ⟨Q2, e2, rfl, hq2, f3⟩
  have F4 := hid (F3.out.trans f3 (fun _ _ h => h))
  have K2 := hid (K1.out.fr f3 (fun x => x))
  have HQ1 := hid (HQ1'.out.fr (Nat.le_of_lt hg2) f3 (fun _ _ x => x))
  have HQ2 := hid hq2
  have hg3 : g2 < w3.heap.size := Nat.lt_of_lt_of_le hg2 f3.size
  have s3 : w.heap.size < w3.heap.size := by omega
  clear hq2 f3 HQ1' K1 F3
  obtain ⟨y0, y1, y2, y3, y4⟩ := blk_act K2.out
  go_wp2_with fail
  have K3 := hid (Blk.new w3 32 #[.int .i64 x.kind, .slice Q2 x.vals.length e2, .int .i64 x.mem, .int .i64 x.at_, .int .u8 x.byte])
  have K4 := hid (K2.out.alloc (.cells #[.int .i64 x.kind, .slice Q2 x.vals.length e2, .int .i64 x.mem, .int .i64 x.at_, .int .u8 x.byte] 32))
  have F5 := hid (F4.out.alloc (.cells #[.int .i64 x.kind, .slice Q2 x.vals.length e2, .int .i64 x.mem, .int .i64 x.at_, .int .u8 x.byte] 32))
  have HQ1' := hid ((HQ1.out.fr (Nat.le_of_lt hg3) ((Fr.refl No w3).alloc (.cells #[.int .i64 x.kind, .slice Q2 x.vals.length e2, .int .i64 x.mem, .int .i64 x.at_, .int .u8 x.byte] 32)) (fun _ _ x => x)))
  have HQ2' := hid ((HQ2.out.fr (Nat.le_refl _) ((Fr.refl No w3).alloc (.cells #[.int .i64 x.kind, .slice Q2 x.vals.length e2, .int .i64 x.mem, .int .i64 x.at_, .int .u8 x.byte] 32)) (fun _ _ x => x)))
  clear y0 y1 y2 y3 y4
  generalize w3.alloc (.cells #[.int .i64 x.kind, .slice Q2 x.vals.length e2, .int .i64 x.mem, .int .i64 x.at_, .int .u8 x.byte] 32) = W3 at *
  have hg4 : w3.heap.size < W3.heap.size := K3.out.lt
  generalize w3.heap.size = g3 at *
  clear F4 HQ1 HQ2 K2
  refine (same_yes x.kind x.mem x.at_ x.byte x.vals Q1 Q2 e1 e2 _ _ W3 (show g2 ≤ W3.heap.size by omega) (show g3 ≤ W3.heap.size by omega) HQ1'.out HQ2'.out hx5).mono ?_
  rintro e w4 ⟨rfl, f4⟩
  have F6 := hid (F5.out.trans f4 (fun _ _ h => h))
  have K5 := hid (K4.out.fr f4 (fun x => x))
  have HQ1 := hid (HQ1'.out.fr (by omega) f4 (fun _ _ x => x))
  have s4 := f4.size
  clear f4 HQ1' HQ2' K3 K4 F5
  obtain ⟨x0, x1, x2, x3, x4⟩ := HX.out _ F6.out
  obtain ⟨y0, y1, y2, y3, y4⟩ := blk_act K5.out
  go_wp2_with fail
  refine ((ans_no x h.ty.params.length h.ty.results Q1 A1 A2 e1 c1 c2 hx5 ok.out.lr hans.out).one w4 g2 (by omega) HQ1.out ((ok.out.r.fr (Nat.le_refl _) (F0.out.trans F6.out (fun _ _ h => h)) (fun _ _ x => x)).more (by omega))).mono ?_
  rintro e w5 ⟨Q3, e3, rfl, hq3, f5⟩
  simp only [List.length_nil]
  clear x0 x1 x2 x3 x4 y0 y1 y2 y3 y4
  have F7 := hid (F6.out.trans f5 (fun _ _ h => h))
  have K6 := hid (K5.out.fr f5 (fun x => x))
  have HQ3 := hid hq3
  have s5 := f5.size
  clear hq3 f5 K5 F6 HQ1
  obtain ⟨x0, x1, x2, x3, x4⟩ := HX.out _ F7.out
  go_wp2_with fail
  refine (hright_any h A1 A2 A3 c1 c2 c3 w.heap.size w5 (by omega) (ok.out.fr (Nat.le_refl _) (F0.out.trans F7.out (fun _ _ h => h)))).mono ?_
  rintro e w7 ⟨rfl, f7⟩
  rw [hhb.out]
  clear x0 x1 x2 x3 x4
  have F9 := hid (F7.out.trans f7 (fun _ _ h => h))
  have K8 := hid (K6.out.fr f7 (fun x => x))
  clear f7
  obtain ⟨y0, y1, y2, y3, y4⟩ := blk_act K8.out
  have AZ := hid (act_none zeroH none none none 0 0 0 n w7 (.inr rfl))
  cases hb with
  | true =>
    have hkk := HK.out rfl
    go_wp2_with fail
    refine AZ.out.mono ?_
    rintro e w8 ⟨rfl, f8⟩
    have FA := hid (F9.out.trans f8 (fun _ _ h => h))
    clear f8
    go_wp2_with fail
    refine (alive_any _).mono ?_
    rintro e w9 ⟨rfl, f9⟩
    go_wp2_with fail
    go_ret
    exact ⟨rfl, F0.out.trans ((FA.out.alloc _).trans f9 (fun _ _ h => h)) (fun _ _ h => h)⟩
  | false =>
    go_wp2_with fail
    refine AZ.out.mono ?_
    rintro e w8 ⟨rfl, f8⟩
    have FA := hid (F9.out.trans f8 (fun _ _ h => h))
    clear f8
    go_wp2_with fail
    refine (alive_any _).mono ?_
    rintro e w9 ⟨rfl, f9⟩
    go_wp2_with fail
    go_ret
    exact ⟨rfl, F0.out.trans ((FA.out.alloc _).trans f9 (fun _ _ h => h)) (fun _ _ h => h)⟩

set_option maxHeartbeats 1600000 in
theorem round_nil (h : Ho) (A1 A2 A3 : Option Addr) (c1 c2 c3 : Nat) (n : Int) (w : World) (hi : Hid (HoIn w h A1 A2 A3 c1 c2 c3)) (h0 : h.acts.length = 0) :
    Calls Try.prog 6 #[.agg #[.string h.mod, .string h.name, .slice A1 h.ty.params.length c1, .slice A2 h.ty.results.length c2, .slice A3 h.acts.length c3], .int .u16 n] w fun e w' => e = .returned (.bool true) ∧ Fr No w w' := by
  have hl0 : (((h.acts.length : Nat) : Int) == 0) = true := by simp [h0]
  clear h0
  have F0 := hid ((Fr.refl No w).alloc (.cells #[.string h.mod, .string h.name, .slice A1 h.ty.params.length c1, .slice A2 h.ty.results.length c2, .slice A3 h.acts.length c3] 27))
  have lW : w.heap.size < (w.alloc (.cells #[.string h.mod, .string h.name, .slice A1 h.ty.params.length c1, .slice A2 h.ty.results.length c2, .slice A3 h.acts.length c3] 27)).heap.size := by simp
  have HX : Hid (∀ X, Fr No (w.alloc (.cells #[.string h.mod, .string h.name, .slice A1 h.ty.params.length c1, .slice A2 h.ty.results.length c2, .slice A3 h.acts.length c3] 27)) X → X.cell? ⟨w.heap.size, 0, none⟩ = some (.string h.mod) ∧ X.cell? ⟨w.heap.size, 1, none⟩ = some (.string h.name) ∧ X.cell? ⟨w.heap.size, 2, none⟩ = some (.slice A1 h.ty.params.length c1) ∧ X.cell? ⟨w.heap.size, 3, none⟩ = some (.slice A2 h.ty.results.length c2) ∧ X.cell? ⟨w.heap.size, 4, none⟩ = some (.slice A3 h.acts.length c3)) := fun X f => five_box f
  go_enter Try.func6, Try.ntmps6
  go_wp2_with fail
  generalize w.alloc (.cells #[.string h.mod, .string h.name, .slice A1 h.ty.params.length c1, .slice A2 h.ty.results.length c2, .slice A3 h.acts.length c3] 27) = W at *
  refine (few_any h A1 A2 A3 c1 c2 c3 w.heap.size W F0.out.size (hi.out.a.fr (Nat.le_refl _) F0.out (fun _ _ x => x)) hi.out.la hi.out.lv hi.out.lp hi.out.lr hi.out.lm hi.out.ln).mono ?_
  rintro e w1 ⟨r, rfl, hf, f1⟩
  have F1 := hid f1
  clear hf f1
  obtain ⟨x0, x1, x2, x3, x4⟩ := HX.out _ F1.out
  cases r
  all_goals
    go_wp2_with fail
    refine (alive_any _).mono ?_
    rintro e w2 ⟨rfl, f2⟩
    go_wp2_with fail
    go_ret
    exact ⟨rfl, F0.out.trans (F1.out.trans f2 (fun _ _ h => h)) (fun _ _ h => h)⟩

theorem hostRound_walk (w : World) (v0 v1 : Value) (x0 : Ho) (x1 : Int) (y0 : tHo.rd w w.heap.size v0.cells.toList x0) (y1 : (Ty.int .u16).rd w w.heap.size v1.cells.toList x1)
    (u0 : tHo.le 140737488351232 x0) (u1 : (Ty.int .u16).le 140737488351232 x1) (hv0 : ∃ cs, v0 = .agg cs) (hv1 : ∃ n, v1 = .int .u16 n) :
    Calls Try.prog 6 #[v0, v1] w fun e w' => e = .returned (.bool true) ∧ Below w.heap.size w w' := by
  obtain ⟨cs0, rfl⟩ := hv0
  obtain ⟨n, rfl⟩ := hv1
  obtain ⟨A1, A2, A3, c1, c2, c3, hcs, hi⟩ := ho_in y0 u0
  obtain ⟨hn, hw⟩ := y1
  simp only [Value.cells, List.cons.injEq, Value.int.injEq, true_and, and_true] at hn
  subst hn
  have hw' := wf_u16 hw
  have e0 : cs0 = #[.string x0.mod, .string x0.name, .slice A1 x0.ty.params.length c1, .slice A2 x0.ty.results.length c2, .slice A3 x0.acts.length c3] := by
    have : cs0.toList = _ := hcs
    rw [← Array.toArray_toList (xs := cs0), this]
  subst e0
  by_cases h0 : x0.acts.length = 0
  · exact (round_nil x0 A1 A2 A3 c1 c2 c3 n w hi h0).mono fun e w' ⟨h1, h2⟩ => ⟨h1, h2.below⟩
  · have hl0 : (((x0.acts.length : Nat) : Int) == 0) = false := by simpa using h0
    obtain ⟨k, hk, hm1⟩ := tmod_lt (n := n) (L := x0.acts.length) hw'.1 (by omega)
    have hm2 : (n + (x0.acts.length : Int)).tmod x0.acts.length = k := by
      rw [Int.tmod_eq_emod_of_nonneg (by omega)] at hm1 ⊢
      rw [Int.add_emod_right, hm1]
    cases hans : ansB x0.acts[k] x0.ty.results with
    | true => exact (round_yes x0 A1 A2 A3 c1 c2 c3 n k x0.acts[k] w (hoB x0) rfl hi hw'.1 hw'.2 hk rfl hm1 hm2 hl0 hans (fun _ => kind_yes hans)).mono fun e w' ⟨h1, h2⟩ => ⟨h1, h2.below⟩
    | false => exact (round_no x0 A1 A2 A3 c1 c2 c3 n k x0.acts[k] w (hoB x0) rfl hi hw'.1 hw'.2 hk rfl hm1 hm2 hl0 hans (fun hb => kind_no hans (actAt_of_hoB hk hb))).mono fun e w' ⟨h1, h2⟩ => ⟨h1, h2.below⟩
end Go.Proofs.Ytklkgfmcdoifpaa
