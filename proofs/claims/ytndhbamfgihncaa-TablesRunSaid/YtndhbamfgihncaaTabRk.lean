/- TablesRun: the other ways, and the whole. -/
import Derived.Test.YtndhbamfgihncaaTabRj
import Derived.Test.YtndhbamfgihncaaTabLi
namespace Go.Proofs.Ytndhbamfgihncaa
open Go.RowKit

set_option maxHeartbeats 1600000 in
set_option maxRecDepth 100000 in
theorem run_ff (ep mnp mxp eq mnq mxq : Int) (hp hq : Bool) (l : List Act_) (LA : Option Addr) (n lc : Nat) (w : World) (HN : Hid (l.length = n)) (hn : n ≤ 40) (HE : Hid (tAct.els w w.heap.size LA l)) (hfew : Hid (fewB l = true))
    (okp : Hid (tabB ep mnp mxp hp = false)) (okq : Hid (tabB eq mnq mxq hq = false)) :
    Calls Try.prog 6 #[.agg #[.int .i64 ep, .int .i64 mnp, .int .i64 mxp, .bool hp], .agg #[.int .i64 eq, .int .i64 mnq, .int .i64 mxq, .bool hq], .slice LA n lc] w fun e w' => e = .returned (.bool true) ∧ Fr No w w' := by
  have B1 := hid ((Blk.new w 37 #[.int .i64 ep, .int .i64 mnp, .int .i64 mxp, .bool hp]).alloc (.cells #[.int .i64 eq, .int .i64 mnq, .int .i64 mxq, .bool hq] 37))
  have B2 := hid (Blk.new1 w (.cells #[.int .i64 ep, .int .i64 mnp, .int .i64 mxp, .bool hp] 37) 37 #[.int .i64 eq, .int .i64 mnq, .int .i64 mxq, .bool hq])
  have F0 := hid (((Fr.refl No w).alloc (.cells #[.int .i64 ep, .int .i64 mnp, .int .i64 mxp, .bool hp] 37)).alloc (.cells #[.int .i64 eq, .int .i64 mnq, .int .i64 mxq, .bool hq] 37))
  go_enter Try.func6, Try.ntmps6
  go_wp2_with fail
  generalize (w.alloc (.cells #[.int .i64 ep, .int .i64 mnp, .int .i64 mxp, .bool hp] 37)).alloc (.cells #[.int .i64 eq, .int .i64 mnq, .int .i64 mxq, .bool hq] 37) = W at *
  have HF := few_any LA l lc w.heap.size W (HE.out.fr (Nat.le_refl _) F0.out (fun _ _ x => x)) (by rw [HN.out]; omega)
  rw [HN.out, hfew.out] at HF
  refine HF.mono ?_
  rintro e0 w0 ⟨rfl, rfl⟩
  clear HF
  have EE : Hid (∀ X, Fr No W X → E8 w ep mnp mxp eq mnq mxq hp hq X) := fun X hX => E8.mk (B1.out.fr hX (fun x => x)) (B2.out.fr hX (fun x => x))
  go_wp2_with fail
  refine wp_region_ord (E8 w ep mnp mxp eq mnq mxq hp hq) [] [(0, true), (2, true), (1, false), (3, false), (4, true), (5, true)] (by kernel_rfl) (by kernel_rfl) (by kernel_rfl) rfl (EE.out _ ((Fr.refl No W).drew)) ?_
  repeat (first
    | (refine wpO_skip rfl rfl ?_; simp only [List.getElem_toArray, List.getElem_cons_succ, List.getElem_cons_zero, Act.put, List.setIfInBounds_toArray, List.set_cons_zero, List.set_cons_succ])
    | (refine wpO_call rfl rfl ?_; simp only [List.getElem_toArray, List.getElem_cons_succ, List.getElem_cons_zero]; apply Exists.intro; refine ⟨fun X hX => ?_, ?_⟩
       · (obtain ⟨s0, s1, s2, s3, s4, s5, s6, s7⟩ := hX; go_simp; exact stillUpon_value)
       simp only [Act.put, List.setIfInBounds_toArray, List.set_cons_zero, List.set_cons_succ]))
  refine wpO_eff rfl rfl (fun K hK => ?_)
  simp only [List.getElem_toArray, List.getElem_cons_succ, List.getElem_cons_zero]
  go_simp
  refine (new_no _ _ _ _ _ okp.out).mono ?_
  rintro e1 w1 ⟨rfl, f1⟩
  have F1 := hid ((Fr.refl No W).drew.trans f1 (fun _ _ h => h))
  clear f1
  refine hK _ _ (fun _ => EE.out _ F1.out) ?_
  clear hK K
  refine wpO_eff rfl rfl (fun K hK => ?_)
  simp only [List.getElem_toArray, List.getElem_cons_succ, List.getElem_cons_zero]
  go_simp
  refine (new_no _ _ _ _ _ okq.out).mono ?_
  rintro e2 w2 ⟨rfl, f2⟩
  have F2 := hid (F1.out.trans f2 (fun _ _ h => h))
  clear f2
  refine hK _ _ (fun _ => EE.out _ F2.out) ?_
  clear hK K
  repeat (first
    | (refine wpO_skip rfl rfl ?_; simp only [List.getElem_toArray, List.getElem_cons_succ, List.getElem_cons_zero, Act.put, List.setIfInBounds_toArray, List.set_cons_zero, List.set_cons_succ])
    | (refine wpO_call rfl rfl ?_; simp only [List.getElem_toArray, List.getElem_cons_succ, List.getElem_cons_zero]; apply Exists.intro; refine ⟨fun X hX => ?_, ?_⟩
       · (obtain ⟨s0, s1, s2, s3, s4, s5, s6, s7⟩ := hX; go_simp; exact stillUpon_value)
       simp only [Act.put, List.setIfInBounds_toArray, List.set_cons_zero, List.set_cons_succ]))
  refine wpO_nil ?_
  obtain ⟨s0, s1, s2, s3, s4, s5, s6, s7⟩ := EE.out _ F2.out
  go_wp2_with fail
  refine (rnew_no ep mnp mxp hp _ okp.out).mono ?_
  rintro e3 w3 ⟨rfl, f3⟩
  have F3 := hid (F2.out.trans f3 (fun _ _ h => h))
  clear f3 s0 s1 s2 s3 s4 s5 s6 s7
  obtain ⟨s0, s1, s2, s3, s4, s5, s6, s7⟩ := EE.out _ (F3.out.alloc (.cells #[.int .i64 0, .int .i64 0, .int .i64 0, .bool false, .slice none 0 0] 51))
  go_wp2_with fail
  refine (rnew_no eq mnq mxq hq _ okq.out).mono ?_
  rintro e4 w4 ⟨rfl, f4⟩
  have F4 := hid ((F3.out.alloc (.cells #[.int .i64 0, .int .i64 0, .int .i64 0, .bool false, .slice none 0 0] 51)).trans f4 (fun _ _ h => h))
  clear f4 s0 s1 s2 s3 s4 s5 s6 s7
  go_wp2_with fail
  refine (alive_any _).mono ?_
  rintro e5 w5 ⟨rfl, f5⟩
  go_wp2_with fail
  go_ret
  exact ⟨rfl, F0.out.trans ((F4.out.alloc _).trans f5 (fun _ _ h => h)) (fun _ _ h => h)⟩

set_option maxHeartbeats 1600000 in
set_option maxRecDepth 100000 in
theorem run_ft (ep mnp mxp eq mnq mxq : Int) (hp hq : Bool) (l : List Act_) (LA : Option Addr) (n lc : Nat) (w : World) (HN : Hid (l.length = n)) (hn : n ≤ 40) (HE : Hid (tAct.els w w.heap.size LA l)) (hfew : Hid (fewB l = true))
    (okp : Hid (tabB ep mnp mxp hp = false)) (okq : Hid (tabB eq mnq mxq hq = true)) :
    Calls Try.prog 6 #[.agg #[.int .i64 ep, .int .i64 mnp, .int .i64 mxp, .bool hp], .agg #[.int .i64 eq, .int .i64 mnq, .int .i64 mxq, .bool hq], .slice LA n lc] w fun e w' => e = .returned (.bool true) ∧ Fr No w w' := by
  have B1 := hid ((Blk.new w 37 #[.int .i64 ep, .int .i64 mnp, .int .i64 mxp, .bool hp]).alloc (.cells #[.int .i64 eq, .int .i64 mnq, .int .i64 mxq, .bool hq] 37))
  have B2 := hid (Blk.new1 w (.cells #[.int .i64 ep, .int .i64 mnp, .int .i64 mxp, .bool hp] 37) 37 #[.int .i64 eq, .int .i64 mnq, .int .i64 mxq, .bool hq])
  have F0 := hid (((Fr.refl No w).alloc (.cells #[.int .i64 ep, .int .i64 mnp, .int .i64 mxp, .bool hp] 37)).alloc (.cells #[.int .i64 eq, .int .i64 mnq, .int .i64 mxq, .bool hq] 37))
  go_enter Try.func6, Try.ntmps6
  go_wp2_with fail
  generalize (w.alloc (.cells #[.int .i64 ep, .int .i64 mnp, .int .i64 mxp, .bool hp] 37)).alloc (.cells #[.int .i64 eq, .int .i64 mnq, .int .i64 mxq, .bool hq] 37) = W at *
  have HF := few_any LA l lc w.heap.size W (HE.out.fr (Nat.le_refl _) F0.out (fun _ _ x => x)) (by rw [HN.out]; omega)
  rw [HN.out, hfew.out] at HF
  refine HF.mono ?_
  rintro e0 w0 ⟨rfl, rfl⟩
  clear HF
  have EE : Hid (∀ X, Fr No W X → E8 w ep mnp mxp eq mnq mxq hp hq X) := fun X hX => E8.mk (B1.out.fr hX (fun x => x)) (B2.out.fr hX (fun x => x))
  go_wp2_with fail
  refine wp_region_ord (E8 w ep mnp mxp eq mnq mxq hp hq) [] [(0, true), (2, true), (1, false), (3, false), (4, true), (5, true)] (by kernel_rfl) (by kernel_rfl) (by kernel_rfl) rfl (EE.out _ ((Fr.refl No W).drew)) ?_
  repeat (first
    | (refine wpO_skip rfl rfl ?_; simp only [List.getElem_toArray, List.getElem_cons_succ, List.getElem_cons_zero, Act.put, List.setIfInBounds_toArray, List.set_cons_zero, List.set_cons_succ])
    | (refine wpO_call rfl rfl ?_; simp only [List.getElem_toArray, List.getElem_cons_succ, List.getElem_cons_zero]; apply Exists.intro; refine ⟨fun X hX => ?_, ?_⟩
       · (obtain ⟨s0, s1, s2, s3, s4, s5, s6, s7⟩ := hX; go_simp; exact stillUpon_value)
       simp only [Act.put, List.setIfInBounds_toArray, List.set_cons_zero, List.set_cons_succ]))
  refine wpO_eff rfl rfl (fun K hK => ?_)
  simp only [List.getElem_toArray, List.getElem_cons_succ, List.getElem_cons_zero]
  go_simp
  refine (new_no _ _ _ _ _ okp.out).mono ?_
  rintro e1 w1 ⟨rfl, f1⟩
  have F1 := hid ((Fr.refl No W).drew.trans f1 (fun _ _ h => h))
  clear f1
  refine hK _ _ (fun _ => EE.out _ F1.out) ?_
  clear hK K
  refine wpO_eff rfl rfl (fun K hK => ?_)
  simp only [List.getElem_toArray, List.getElem_cons_succ, List.getElem_cons_zero]
  go_simp
  refine (new_yes _ _ _ _ _ okq.out).mono ?_
  rintro e2 w2 ⟨p2, q2, rfl, t2, _, _, f2⟩
  clear t2
  have F2 := hid (F1.out.trans f2 (fun _ _ h => h))
  clear f2
  refine hK _ _ (fun _ => EE.out _ F2.out) ?_
  clear hK K
  repeat (first
    | (refine wpO_skip rfl rfl ?_; simp only [List.getElem_toArray, List.getElem_cons_succ, List.getElem_cons_zero, Act.put, List.setIfInBounds_toArray, List.set_cons_zero, List.set_cons_succ])
    | (refine wpO_call rfl rfl ?_; simp only [List.getElem_toArray, List.getElem_cons_succ, List.getElem_cons_zero]; apply Exists.intro; refine ⟨fun X hX => ?_, ?_⟩
       · (obtain ⟨s0, s1, s2, s3, s4, s5, s6, s7⟩ := hX; go_simp; exact stillUpon_value)
       simp only [Act.put, List.setIfInBounds_toArray, List.set_cons_zero, List.set_cons_succ]))
  refine wpO_nil ?_
  obtain ⟨s0, s1, s2, s3, s4, s5, s6, s7⟩ := EE.out _ F2.out
  go_wp2_with fail
  refine (rnew_no ep mnp mxp hp _ okp.out).mono ?_
  rintro e3 w3 ⟨rfl, f3⟩
  have F3 := hid (F2.out.trans f3 (fun _ _ h => h))
  clear f3 s0 s1 s2 s3 s4 s5 s6 s7
  obtain ⟨s0, s1, s2, s3, s4, s5, s6, s7⟩ := EE.out _ (F3.out.alloc (.cells #[.int .i64 0, .int .i64 0, .int .i64 0, .bool false, .slice none 0 0] 51))
  go_wp2_with fail
  refine (rnew_yes eq mnq mxq hq _ (B0 := 0) okq.out).mono ?_
  rintro e4 w4 ⟨A4, c4, rfl, _, _, f4, _⟩
  generalize (List.replicate _ (0 : Int)).length = n4
  have F4 := hid ((F3.out.alloc (.cells #[.int .i64 0, .int .i64 0, .int .i64 0, .bool false, .slice none 0 0] 51)).trans f4 (fun _ _ h => h))
  clear f4 s0 s1 s2 s3 s4 s5 s6 s7
  go_wp2_with fail
  refine (alive_any _).mono ?_
  rintro e5 w5 ⟨rfl, f5⟩
  go_wp2_with fail
  go_ret
  exact ⟨rfl, F0.out.trans ((F4.out.alloc _).trans f5 (fun _ _ h => h)) (fun _ _ h => h)⟩

set_option maxHeartbeats 1600000 in
set_option maxRecDepth 100000 in
theorem run_tf (ep mnp mxp eq mnq mxq : Int) (hp hq : Bool) (l : List Act_) (LA : Option Addr) (n lc : Nat) (w : World) (HN : Hid (l.length = n)) (hn : n ≤ 40) (HE : Hid (tAct.els w w.heap.size LA l)) (hfew : Hid (fewB l = true))
    (okp : Hid (tabB ep mnp mxp hp = true)) (okq : Hid (tabB eq mnq mxq hq = false)) :
    Calls Try.prog 6 #[.agg #[.int .i64 ep, .int .i64 mnp, .int .i64 mxp, .bool hp], .agg #[.int .i64 eq, .int .i64 mnq, .int .i64 mxq, .bool hq], .slice LA n lc] w fun e w' => e = .returned (.bool true) ∧ Fr No w w' := by
  have B1 := hid ((Blk.new w 37 #[.int .i64 ep, .int .i64 mnp, .int .i64 mxp, .bool hp]).alloc (.cells #[.int .i64 eq, .int .i64 mnq, .int .i64 mxq, .bool hq] 37))
  have B2 := hid (Blk.new1 w (.cells #[.int .i64 ep, .int .i64 mnp, .int .i64 mxp, .bool hp] 37) 37 #[.int .i64 eq, .int .i64 mnq, .int .i64 mxq, .bool hq])
  have F0 := hid (((Fr.refl No w).alloc (.cells #[.int .i64 ep, .int .i64 mnp, .int .i64 mxp, .bool hp] 37)).alloc (.cells #[.int .i64 eq, .int .i64 mnq, .int .i64 mxq, .bool hq] 37))
  go_enter Try.func6, Try.ntmps6
  go_wp2_with fail
  generalize (w.alloc (.cells #[.int .i64 ep, .int .i64 mnp, .int .i64 mxp, .bool hp] 37)).alloc (.cells #[.int .i64 eq, .int .i64 mnq, .int .i64 mxq, .bool hq] 37) = W at *
  have HF := few_any LA l lc w.heap.size W (HE.out.fr (Nat.le_refl _) F0.out (fun _ _ x => x)) (by rw [HN.out]; omega)
  rw [HN.out, hfew.out] at HF
  refine HF.mono ?_
  rintro e0 w0 ⟨rfl, rfl⟩
  clear HF
  have EE : Hid (∀ X, Fr No W X → E8 w ep mnp mxp eq mnq mxq hp hq X) := fun X hX => E8.mk (B1.out.fr hX (fun x => x)) (B2.out.fr hX (fun x => x))
  go_wp2_with fail
  refine wp_region_ord (E8 w ep mnp mxp eq mnq mxq hp hq) [] [(0, true), (2, true), (1, false), (3, false), (4, true), (5, true)] (by kernel_rfl) (by kernel_rfl) (by kernel_rfl) rfl (EE.out _ ((Fr.refl No W).drew)) ?_
  repeat (first
    | (refine wpO_skip rfl rfl ?_; simp only [List.getElem_toArray, List.getElem_cons_succ, List.getElem_cons_zero, Act.put, List.setIfInBounds_toArray, List.set_cons_zero, List.set_cons_succ])
    | (refine wpO_call rfl rfl ?_; simp only [List.getElem_toArray, List.getElem_cons_succ, List.getElem_cons_zero]; apply Exists.intro; refine ⟨fun X hX => ?_, ?_⟩
       · (obtain ⟨s0, s1, s2, s3, s4, s5, s6, s7⟩ := hX; go_simp; exact stillUpon_value)
       simp only [Act.put, List.setIfInBounds_toArray, List.set_cons_zero, List.set_cons_succ]))
  refine wpO_eff rfl rfl (fun K hK => ?_)
  simp only [List.getElem_toArray, List.getElem_cons_succ, List.getElem_cons_zero]
  go_simp
  refine (new_yes _ _ _ _ _ okp.out).mono ?_
  rintro e1 w1 ⟨p1, q1, rfl, t1, _, _, f1⟩
  clear t1
  have F1 := hid ((Fr.refl No W).drew.trans f1 (fun _ _ h => h))
  clear f1
  refine hK _ _ (fun _ => EE.out _ F1.out) ?_
  clear hK K
  refine wpO_eff rfl rfl (fun K hK => ?_)
  simp only [List.getElem_toArray, List.getElem_cons_succ, List.getElem_cons_zero]
  go_simp
  refine (new_no _ _ _ _ _ okq.out).mono ?_
  rintro e2 w2 ⟨rfl, f2⟩
  have F2 := hid (F1.out.trans f2 (fun _ _ h => h))
  clear f2
  refine hK _ _ (fun _ => EE.out _ F2.out) ?_
  clear hK K
  repeat (first
    | (refine wpO_skip rfl rfl ?_; simp only [List.getElem_toArray, List.getElem_cons_succ, List.getElem_cons_zero, Act.put, List.setIfInBounds_toArray, List.set_cons_zero, List.set_cons_succ])
    | (refine wpO_call rfl rfl ?_; simp only [List.getElem_toArray, List.getElem_cons_succ, List.getElem_cons_zero]; apply Exists.intro; refine ⟨fun X hX => ?_, ?_⟩
       · (obtain ⟨s0, s1, s2, s3, s4, s5, s6, s7⟩ := hX; go_simp; exact stillUpon_value)
       simp only [Act.put, List.setIfInBounds_toArray, List.set_cons_zero, List.set_cons_succ]))
  refine wpO_nil ?_
  obtain ⟨s0, s1, s2, s3, s4, s5, s6, s7⟩ := EE.out _ F2.out
  go_wp2_with fail
  refine (rnew_yes ep mnp mxp hp _ (B0 := 0) okp.out).mono ?_
  rintro e3 w3 ⟨A3, c3, rfl, _, _, f3, _⟩
  generalize (List.replicate _ (0 : Int)).length = n3
  have F3 := hid (F2.out.trans f3 (fun _ _ h => h))
  clear f3 s0 s1 s2 s3 s4 s5 s6 s7
  obtain ⟨s0, s1, s2, s3, s4, s5, s6, s7⟩ := EE.out _ (F3.out.alloc (.cells #[.int .i64 ep, .int .i64 mnp, .int .i64 mxp, .bool hp, .slice A3 n3 c3] 51))
  go_wp2_with fail
  refine (rnew_no eq mnq mxq hq _ okq.out).mono ?_
  rintro e4 w4 ⟨rfl, f4⟩
  have F4 := hid ((F3.out.alloc (.cells #[.int .i64 ep, .int .i64 mnp, .int .i64 mxp, .bool hp, .slice A3 n3 c3] 51)).trans f4 (fun _ _ h => h))
  clear f4 s0 s1 s2 s3 s4 s5 s6 s7
  go_wp2_with fail
  refine (alive_any _).mono ?_
  rintro e5 w5 ⟨rfl, f5⟩
  go_wp2_with fail
  go_ret
  exact ⟨rfl, F0.out.trans ((F4.out.alloc _).trans f5 (fun _ _ h => h)) (fun _ _ h => h)⟩

set_option maxHeartbeats 800000 in
set_option maxRecDepth 100000 in
theorem run_few (ep mnp mxp eq mnq mxq : Int) (hp hq : Bool) (l : List Act_) (LA : Option Addr) (n lc : Nat) (w : World) (HN : Hid (l.length = n)) (hn : n ≤ 9223372036854775807) (HE : Hid (tAct.els w w.heap.size LA l)) (hfew : Hid (fewB l = false)) :
    Calls Try.prog 6 #[.agg #[.int .i64 ep, .int .i64 mnp, .int .i64 mxp, .bool hp], .agg #[.int .i64 eq, .int .i64 mnq, .int .i64 mxq, .bool hq], .slice LA n lc] w fun e w' => e = .returned (.bool true) ∧ Fr No w w' := by
  have F0 := hid (((Fr.refl No w).alloc (.cells #[.int .i64 ep, .int .i64 mnp, .int .i64 mxp, .bool hp] 37)).alloc (.cells #[.int .i64 eq, .int .i64 mnq, .int .i64 mxq, .bool hq] 37))
  have HNN := hid hn
  clear hn
  go_enter Try.func6, Try.ntmps6
  go_wp2_with fail
  generalize (w.alloc (.cells #[.int .i64 ep, .int .i64 mnp, .int .i64 mxp, .bool hp] 37)).alloc (.cells #[.int .i64 eq, .int .i64 mnq, .int .i64 mxq, .bool hq] 37) = W at *
  have HF := few_any LA l lc w.heap.size W (HE.out.fr (Nat.le_refl _) F0.out (fun _ _ x => x)) (by rw [HN.out]; exact HNN.out)
  rw [HN.out, hfew.out] at HF
  refine HF.mono ?_
  rintro e0 w0 ⟨rfl, rfl⟩
  clear HF
  go_wp2_with fail
  refine (alive_any _).mono ?_
  rintro e5 w5 ⟨rfl, f5⟩
  go_wp2_with fail
  go_ret
  exact ⟨rfl, F0.out.trans f5 (fun _ _ h => h)⟩

theorem run_any (ep mnp mxp eq mnq mxq : Int) (hp hq : Bool) (l : List Act_) (LA : Option Addr) (lc : Nat) (w : World) (hn : l.length ≤ maxLen) (HE : tAct.els w w.heap.size LA l) :
    Calls Try.prog 6 #[.agg #[.int .i64 ep, .int .i64 mnp, .int .i64 mxp, .bool hp], .agg #[.int .i64 eq, .int .i64 mnq, .int .i64 mxq, .bool hq], .slice LA l.length lc] w fun e w' => e = .returned (.bool true) ∧ Fr No w w' := by
  cases hf : fewB l with
  | false => exact run_few ep mnp mxp eq mnq mxq hp hq l LA _ lc w rfl (by unfold maxLen at hn; omega) HE hf
  | true =>
    have h2 : l.length ≤ 40 ∧ ∀ a ∈ l, a.l.length ≤ 60 := by simpa [fewB] using hf
    cases okp : tabB ep mnp mxp hp with
    | false =>
      cases okq : tabB eq mnq mxq hq with
      | false => exact run_ff ep mnp mxp eq mnq mxq hp hq l LA _ lc w rfl h2.1 HE hf okp okq
      | true => exact run_ft ep mnp mxp eq mnq mxq hp hq l LA _ lc w rfl h2.1 HE hf okp okq
    | true =>
      cases okq : tabB eq mnq mxq hq with
      | false => exact run_tf ep mnp mxp eq mnq mxq hp hq l LA _ lc w rfl h2.1 HE hf okp okq
      | true => exact run_tt ep mnp mxp eq mnq mxq hp hq l LA _ lc w rfl h2.1 HE h2.2 hf okp okq

theorem table_of {w : World} {v : Value} {x : Int × Int × Int × Bool} (y : tTable.rd w w.heap.size v.cells.toList x) (s : ∃ cs, v = .agg cs) : v = .agg #[.int .i64 x.1, .int .i64 x.2.1, .int .i64 x.2.2.1, .bool x.2.2.2] := by
  obtain ⟨cs, rfl⟩ := s
  obtain ⟨c1, r1, e, ⟨rfl, _⟩, c2, r2, rfl, ⟨rfl, _⟩, c3, r3, rfl, ⟨rfl, _⟩, e4⟩ := y
  have e4 : r3 = [.bool x.2.2.2] := e4
  subst e4
  have : cs.toList = [.int .i64 x.1, .int .i64 x.2.1, .int .i64 x.2.2.1, .bool x.2.2.2] := by simpa [Value.cells] using e
  rw [← Array.toArray_toList (xs := cs), this]

theorem tablesRun_walk (w : World) (v0 v1 v2 : Value) (x0 x1 : Int × Int × Int × Bool) (x2 : List Act_) (y0 : tTable.rd w w.heap.size v0.cells.toList x0) (y1 : tTable.rd w w.heap.size v1.cells.toList x1) (y2 : tAct.slice.rd w w.heap.size v2.cells.toList x2)
    (s0 : ∃ cs, v0 = .agg cs) (s1 : ∃ cs, v1 = .agg cs) (s2 : ∃ a l c, v2 = .slice a l c) :
    Calls Try.prog 6 #[v0, v1, v2] w fun e w' => e = .returned (.bool true) ∧ Below w.heap.size w w' := by
  have e0 := table_of y0 s0
  have e1 := table_of y1 s1
  subst e0; subst e1
  obtain ⟨a, l, c, rfl⟩ := s2
  obtain ⟨A, cl, e2, h1, h2, h3⟩ := y2
  have e2 : Value.slice a l c = .slice A x2.length cl := by simpa [Value.cells] using e2
  rw [e2]
  exact (run_any _ _ _ _ _ _ _ _ x2 A cl w (Nat.le_trans h1 h2) h3).mono fun e w' ⟨h1, h2⟩ => ⟨h1, h2.below⟩
end Go.Proofs.Ytndhbamfgihncaa
