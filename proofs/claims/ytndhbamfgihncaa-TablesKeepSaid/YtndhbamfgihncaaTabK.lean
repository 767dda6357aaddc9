/- TablesKeep: the walks. -/
import Derived.Test.YtndhbamfgihncaaTabG
namespace Go.Proofs.Ytndhbamfgihncaa
open Go.RowKit
set_option maxHeartbeats 800000 in
set_option maxRecDepth 100000 in
theorem keep_big (A : Option Addr) (n0 cl : Nat) (at_ x n : Int) (w : World) (hn : 100 < n0) (hn2 : n0 ≤ 9223372036854775807) :
    Calls Try.prog 5 #[.slice A n0 cl, .int .u64 at_, .int .u64 x, .int .u64 n] w fun e' w' => e' = .returned (.bool true) ∧ Fr No w w' := by
  go_enter Try.func5, Try.ntmps5
  go_wp2_with (go_at_call 8; refine (alive_any _).mono ?_; rintro e w1 ⟨rfl, hf⟩)
  go_ret
  exact ⟨rfl, hf⟩

set_option maxHeartbeats 3200000 in
set_option maxRecDepth 100000 in
theorem keep_inMore (A : Option Addr) (ys : List Int) (cl : Nat) (at_ x n : Int) (K N : Nat) (w : World) (hn : ys.length ≤ 100) (hcl : ys.length ≤ cl) (hr : Rd w w.heap.size A (Us ys))
    (h0 : 0 ≤ at_) (h2 : 0 ≤ n) (eK : bits .and .u64 at_ 4294967295 = K) (eN : bits .and .u64 n 4294967295 = N) (mK : Hid (at_ % 4294967296 = K)) (mN : Hid (n % 4294967296 = N)) (bK : K ≤ 4294967295) (bN : N ≤ 4294967295) (hK : K < ys.length) (hN : ys.length + N ≤ 1024) :
    Calls Try.prog 5 #[.slice A ys.length cl, .int .u64 at_, .int .u64 x, .int .u64 n] w fun e' w' => e' = .returned (.bool true) ∧ Fr No w w' := by
  have d3 : decide ((100 : Int) < ys.length) = false := by simp; omega
  have d4 : decide ((K : Int) < ys.length) = true := by simp; omega
  have d5 : decide ((N : Int) ≤ 1024 - ys.length) = true := by simp; omega
  go_enter Try.func5, Try.ntmps5
  go_wp2_with fail
  refine (filled_any A ys _ cl _ hr (by omega) hcl).mono ?_
  rintro e w1 ⟨p, q, c, rfl, t, hp, hq, f1⟩
  have T1 := hid t
  clear t
  go_wp2_with fail
  refine (all_any T1.out).mono ?_
  rintro e w2 ⟨qa, ca, rfl, hoa, hqa, fa⟩
  have OA := hid hoa
  clear hoa
  go_wp2_with fail
  refine (same_any _ _ ys ys _ _ _ _ _ (OA.out.rd OA.out.lt) ((hr.frNo f1).frNo fa) (by omega) (by omega)).mono ?_
  rintro e w3 ⟨rfl, n3, rfl⟩
  have F3 : Fr No w (w2.drewN n3) := (f1.trans fa (fun _ _ h => h)).drewN _
  have T3 := hid (T1.out.fr (fa.drewN n3) (fun x => x) (fun x => x))
  have lp := T3.out.blk.lt
  have lq := T3.out.own.lt
  clear OA T1 fa
  generalize w2.drewN n3 = W at *
  go_wp2_with (at_builtin; refine wpList_app1 cl u64s rfl rfl (xs := []) rfl rfl (own_lit W 23 [] (by simp)) ((hr.frNo F3).frNo ((Fr.refl No W).alloc _)) (len_Us _) (one_Us _) (by simp; omega) (by omega) ?_; intro q3 c3 w4 ho4 hf4 hq4)
  have O4 := hid (show Own w4 q3 23 c3 (Us ys) from by simpa using ho4)
  have g3 : W.heap.size ≤ q3 := by simp at hq4; omega
  have s3 := F3.size
  have F4 : Fr No w w4 := (F3.alloc _).trans hf4 (fun i hi h => by have h : i = W.heap.size := h; omega)
  have T4 := hid (T3.out.fr (((Fr.refl (One W.heap.size) W).alloc _).trans hf4 (fun _ _ h => h)) (fun h => by have h : p = W.heap.size := h; omega) (fun h => by have h : q = W.heap.size := h; omega))
  clear ho4 hq4 hf4 T3 F3
  refine (set_yes T4.out at_ x h0 K hK mK.out).mono ?_
  rintro e w5 ⟨rfl, t5, f5⟩
  have F5 : Fr No w w5 := F4.trans f5 (fun i hi h => by have h : i = q := h; omega)
  have O5 := hid (O4.out.fr f5 (fun h => by have h : q3 = q := h; omega))
  have T5 := hid t5
  obtain ⟨u, hc⟩ : ∃ u, w5.cell? ⟨q3, K, none⟩ = some u := ⟨_, O5.out.cell K (by simpa using hK)⟩
  have hz := O5.out.frozen K
  have i0 : (0 : Int) ≤ K := by omega
  have i1 : (K : Int) < ys.length := by omega
  clear t5 f5 T4 O4 F4
  go_wp2_with fail
  have hlz : (ys.set K x).length = ys.length := List.length_set
  have hzk : (ys.set K x)[K]'(by rw [hlz]; exact hK) = x := by simp
  have T6 := hid (T5.out.fr ((Fr.refl (One q3) w5).setCell ⟨q3, K, none⟩ (.int .u64 x) (fun _ => rfl)) (fun h => by have h : p = q3 := h; omega) (fun h => by have h : q = q3 := h; omega))
  have O6 := hid (show Own (w5.setCell ⟨q3, K, none⟩ (.int .u64 x)) q3 23 c3 (Us (ys.set K x)) from by have := O5.out.set_ K (.int .u64 x); simpa [Us] using this)
  have F6 := F5.setCell ⟨q3, K, none⟩ (.int .u64 x) (fun h => by have h : q3 < w.heap.size := h; omega)
  have hget := get_yes T6.out at_ h0 K (by rw [hlz]; exact hK) mK.out
  rw [hzk] at hget
  clear hc hz u T5 O5 F5 hzk
  have HLz := hid hlz
  clear hlz
  generalize w5.setCell ⟨q3, K, none⟩ (.int .u64 x) = w6 at *
  generalize ys.set K x = zs at *
  have hget' := hid hget
  clear hget
  refine hget'.out.mono ?_
  clear hget'
  rintro e w7 ⟨rfl, n7, rfl⟩
  have T7 := hid (T6.out.drewN n7)
  have O7 := hid (O6.out.fr ((Fr.refl No w6).drewN n7) (fun x => x))
  have F7 := F6.drewN n7
  clear T6 O6 F6
  generalize w6.drewN n7 = w7 at *
  go_wp2_with fail
  have hg := grow_yes T7.out n x N h2 mN.out (by rw [HLz.out]; simp [mostS]; omega)
  rw [HLz.out] at hg
  refine hg.mono ?_
  clear hg
  rintro e w8 ⟨rfl, q8, c8, t8, f8, hq8⟩
  have hne : ((ys.length : Int) == 4294967295) = false := by rw [beq_eq_false_iff_ne]; omega
  have F8 : Fr No w w8 := F7.trans f8 (fun i hi h => by rcases h with h | h <;> omega)
  have l3 := O7.out.lt
  have O8 := hid (O7.out.fr f8 (fun h => by rcases h with h | h <;> omega))
  have hlu : (zs ++ List.replicate N x).length = ys.length + N := by rw [List.length_append, List.length_replicate, HLz.out]
  have HLu := hid hlu
  obtain ⟨us, hus⟩ : ∃ us, us = zs ++ List.replicate N x := ⟨_, rfl⟩
  rw [← hus] at t8 HLu
  have T8 := hid t8
  have HUs := hid hus
  have lus : us.length ≤ 2000 := by rw [HLu.out]; omega
  have n8 : p ≠ q3 ∧ q8 ≠ q3 := by constructor <;> omega
  have N8 := hid n8
  clear t8 f8 T7 O7 F7 hlu hus n8
  have s8 := F8.size
  have l8 := O8.out.lt
  go_wp2_with fail
  go_loopw [10, 18] (fun v i wr => ∃ (k q' c' : Nat), k ≤ N ∧ i = .int .u64 k ∧ v = .slice (some ⟨q', 0, none⟩) (ys.length + k) c' ∧ Own wr q' 23 c' (Us (zs ++ List.replicate k x)) ∧ Fr (One q3) w8 wr ∧ (q' = q3 ∨ w8.heap.size ≤ q')) (fun _ i _ => N - (intOf i).toNat)
  case atStart => exact ⟨0, q3, c3, by omega, rfl, rfl, by simpa using O8.out, Fr.refl _ _, .inl rfl⟩
  case round =>
    obtain ⟨k, q', c', hk, rfl, rfl, ho, hfr, hq'⟩ := hrel
    by_cases hlt : k < N
    · have hln : (zs ++ List.replicate k x).length = ys.length + k := by rw [List.length_append, List.length_replicate, HLz.out]
      have hy : Hid (zs ++ List.replicate k x ++ [x] = zs ++ List.replicate (k + 1) x) := by simp [Hid, List.replicate_succ']
      have HLn := hid hln
      generalize zs ++ List.replicate k x = vs at ho hy HLn
      clear hln
      go_wp2_with (at_builtin; refine wpList_push u64s rfl rfl rfl rfl ho ((len_Us _).trans HLn.out) rfl (by omega) (by omega) ?_; intro q9 c9 w9 ho9 hf9 hq9)
      refine ⟨⟨k + 1, q9, c9, by omega, by go_num, by rw [Nat.add_assoc], ?_, ?_, ?_⟩, by simp [intOf]; omega⟩
      · rw [← hy.out]; simpa [Us] using ho9
      · exact hfr.trans hf9 (fun i hi h => by have h : i = q' := h; rcases hq' with h' | h'; exact h.trans h'; omega)
      · have := hfr.size; rcases hq9 with h | h
        · rw [h]; exact hq'
        · right; omega
    · obtain rfl : k = N := by omega
      rw [← HUs.out] at ho
      have OW := hid ho
      have T9 := hid (T8.out.fr hfr N8.out.1 N8.out.2)
      have F9 := F8.trans hfr (fun i hi h => by have h : i = q3 := h; omega)
      clear ho hfr O8 T8 F8
      go_wp2_with fail
      refine (all_any T9.out).mono ?_
      rintro e wa ⟨qb, cb, rfl, hob, hqb, fb⟩
      have OB := hid hob
      clear hob
      go_wp2_with fail
      refine (same_at _ _ us us _ _ _ _ _ _ _ rfl HLu.out (OB.out.rd OB.out.lt) ((OW.out.rd OW.out.lt).frNo fb) (by omega) (by omega)).mono ?_
      rintro e wb ⟨rfl, nb, rfl⟩
      have TB := hid ((T9.out.fr fb (fun x => x) (fun x => x)).drewN nb)
      have FB := (F9.trans fb (fun _ _ h => h)).drewN nb
      have sz := size_any TB.out
      rw [HLu.out] at sz
      have SZ := hid sz
      clear sz
      go_wp2_with fail
      refine SZ.out.mono ?_
      rintro e wc ⟨rfl, rfl⟩
      have e9 : ((ys.length : Int) + k == (ys.length : Int) + k) = true := beq_self_eq_true _
      go_wp2_with (go_at_call 8; refine (alive_any _).mono ?_; rintro e we ⟨rfl, fe⟩)
      go_ret
      exact ⟨rfl, FB.trans fe (fun _ _ h => h)⟩
set_option maxHeartbeats 3200000 in
set_option maxRecDepth 100000 in
theorem keep_inFull (A : Option Addr) (ys : List Int) (cl : Nat) (at_ x n : Int) (K N : Nat) (w : World) (hn : ys.length ≤ 100) (hcl : ys.length ≤ cl) (hr : Rd w w.heap.size A (Us ys))
    (h0 : 0 ≤ at_) (h2 : 0 ≤ n) (eK : bits .and .u64 at_ 4294967295 = K) (eN : bits .and .u64 n 4294967295 = N) (mK : Hid (at_ % 4294967296 = K)) (mN : Hid (n % 4294967296 = N)) (bK : K ≤ 4294967295) (bN : N ≤ 4294967295) (hK : K < ys.length) (hN : ¬ ys.length + N ≤ 1024) :
    Calls Try.prog 5 #[.slice A ys.length cl, .int .u64 at_, .int .u64 x, .int .u64 n] w fun e' w' => e' = .returned (.bool true) ∧ Fr No w w' := by
  have d3 : decide ((100 : Int) < ys.length) = false := by simp; omega
  have d4 : decide ((K : Int) < ys.length) = true := by simp; omega
  have d5 : decide ((N : Int) ≤ 1024 - ys.length) = false := by simp; omega
  go_enter Try.func5, Try.ntmps5
  go_wp2_with fail
  refine (filled_any A ys _ cl _ hr (by omega) hcl).mono ?_
  rintro e w1 ⟨p, q, c, rfl, t, hp, hq, f1⟩
  have T1 := hid t
  clear t
  go_wp2_with fail
  refine (all_any T1.out).mono ?_
  rintro e w2 ⟨qa, ca, rfl, hoa, hqa, fa⟩
  have OA := hid hoa
  clear hoa
  go_wp2_with fail
  refine (same_any _ _ ys ys _ _ _ _ _ (OA.out.rd OA.out.lt) ((hr.frNo f1).frNo fa) (by omega) (by omega)).mono ?_
  rintro e w3 ⟨rfl, n3, rfl⟩
  have F3 : Fr No w (w2.drewN n3) := (f1.trans fa (fun _ _ h => h)).drewN _
  have T3 := hid (T1.out.fr (fa.drewN n3) (fun x => x) (fun x => x))
  have lp := T3.out.blk.lt
  have lq := T3.out.own.lt
  clear OA T1 fa
  generalize w2.drewN n3 = W at *
  go_wp2_with (at_builtin; refine wpList_app1 cl u64s rfl rfl (xs := []) rfl rfl (own_lit W 23 [] (by simp)) ((hr.frNo F3).frNo ((Fr.refl No W).alloc _)) (len_Us _) (one_Us _) (by simp; omega) (by omega) ?_; intro q3 c3 w4 ho4 hf4 hq4)
  have O4 := hid (show Own w4 q3 23 c3 (Us ys) from by simpa using ho4)
  have g3 : W.heap.size ≤ q3 := by simp at hq4; omega
  have s3 := F3.size
  have F4 : Fr No w w4 := (F3.alloc _).trans hf4 (fun i hi h => by have h : i = W.heap.size := h; omega)
  have T4 := hid (T3.out.fr (((Fr.refl (One W.heap.size) W).alloc _).trans hf4 (fun _ _ h => h)) (fun h => by have h : p = W.heap.size := h; omega) (fun h => by have h : q = W.heap.size := h; omega))
  clear ho4 hq4 hf4 T3 F3
  refine (set_yes T4.out at_ x h0 K hK mK.out).mono ?_
  rintro e w5 ⟨rfl, t5, f5⟩
  have F5 : Fr No w w5 := F4.trans f5 (fun i hi h => by have h : i = q := h; omega)
  have O5 := hid (O4.out.fr f5 (fun h => by have h : q3 = q := h; omega))
  have T5 := hid t5
  obtain ⟨u, hc⟩ : ∃ u, w5.cell? ⟨q3, K, none⟩ = some u := ⟨_, O5.out.cell K (by simpa using hK)⟩
  have hz := O5.out.frozen K
  have i0 : (0 : Int) ≤ K := by omega
  have i1 : (K : Int) < ys.length := by omega
  clear t5 f5 T4 O4 F4
  go_wp2_with fail
  have hlz : (ys.set K x).length = ys.length := List.length_set
  have hzk : (ys.set K x)[K]'(by rw [hlz]; exact hK) = x := by simp
  have T6 := hid (T5.out.fr ((Fr.refl (One q3) w5).setCell ⟨q3, K, none⟩ (.int .u64 x) (fun _ => rfl)) (fun h => by have h : p = q3 := h; omega) (fun h => by have h : q = q3 := h; omega))
  have O6 := hid (show Own (w5.setCell ⟨q3, K, none⟩ (.int .u64 x)) q3 23 c3 (Us (ys.set K x)) from by have := O5.out.set_ K (.int .u64 x); simpa [Us] using this)
  have F6 := F5.setCell ⟨q3, K, none⟩ (.int .u64 x) (fun h => by have h : q3 < w.heap.size := h; omega)
  have hget := get_yes T6.out at_ h0 K (by rw [hlz]; exact hK) mK.out
  rw [hzk] at hget
  clear hc hz u T5 O5 F5 hzk
  have HLz := hid hlz
  clear hlz
  generalize w5.setCell ⟨q3, K, none⟩ (.int .u64 x) = w6 at *
  generalize ys.set K x = zs at *
  have hget' := hid hget
  clear hget
  refine hget'.out.mono ?_
  clear hget'
  rintro e w7 ⟨rfl, n7, rfl⟩
  have T7 := hid (T6.out.drewN n7)
  have O7 := hid (O6.out.fr ((Fr.refl No w6).drewN n7) (fun x => x))
  have F7 := F6.drewN n7
  clear T6 O6 F6
  generalize w6.drewN n7 = w7 at *
  go_wp2_with fail
  refine (grow_no T7.out n x h2 (by rw [HLz.out, mN.out]; simp [mostS]; omega)).mono ?_
  rintro e w8 ⟨rfl, rfl⟩
  have hne : ((4294967295 : Int) == (ys.length : Int)) = false := by rw [beq_eq_false_iff_ne]; omega
  go_wp2_with fail
  refine (all_any T7.out).mono ?_
  rintro e wa ⟨qb, cb, rfl, hob, hqb, fb⟩
  have OB := hid hob
  clear hob
  have lzs : zs.length ≤ 2000 := by rw [HLz.out]; omega
  go_wp2_with fail
  refine (same_at _ _ zs zs _ _ _ _ _ _ _ rfl HLz.out (OB.out.rd OB.out.lt) ((O7.out.rd O7.out.lt).frNo fb) (by omega) (by omega)).mono ?_
  rintro e wb ⟨rfl, nb, rfl⟩
  have TB := hid ((T7.out.fr fb (fun x => x) (fun x => x)).drewN nb)
  have FB := (F7.trans fb (fun _ _ h => h)).drewN nb
  have sz := size_any TB.out
  rw [HLz.out] at sz
  have SZ := hid sz
  clear sz
  go_wp2_with fail
  refine SZ.out.mono ?_
  rintro e wc ⟨rfl, rfl⟩
  go_wp2_with (go_at_call 8; refine (alive_any _).mono ?_; rintro e we ⟨rfl, fe⟩)
  go_ret
  exact ⟨rfl, FB.trans fe (fun _ _ h => h)⟩
set_option maxHeartbeats 3200000 in
set_option maxRecDepth 100000 in
theorem keep_outMore (A : Option Addr) (ys : List Int) (cl : Nat) (at_ x n : Int) (K N : Nat) (w : World) (hn : ys.length ≤ 100) (hcl : ys.length ≤ cl) (hr : Rd w w.heap.size A (Us ys))
    (h0 : 0 ≤ at_) (h2 : 0 ≤ n) (eK : bits .and .u64 at_ 4294967295 = K) (eN : bits .and .u64 n 4294967295 = N) (mK : Hid (at_ % 4294967296 = K)) (mN : Hid (n % 4294967296 = N)) (bK : K ≤ 4294967295) (bN : N ≤ 4294967295) (hK : ¬ K < ys.length) (hN : ys.length + N ≤ 1024) :
    Calls Try.prog 5 #[.slice A ys.length cl, .int .u64 at_, .int .u64 x, .int .u64 n] w fun e' w' => e' = .returned (.bool true) ∧ Fr No w w' := by
  have d3 : decide ((100 : Int) < ys.length) = false := by simp; omega
  have d4 : decide ((K : Int) < ys.length) = false := by simp; omega
  have d5 : decide ((N : Int) ≤ 1024 - ys.length) = true := by simp; omega
  go_enter Try.func5, Try.ntmps5
  go_wp2_with fail
  refine (filled_any A ys _ cl _ hr (by omega) hcl).mono ?_
  rintro e w1 ⟨p, q, c, rfl, t, hp, hq, f1⟩
  have T1 := hid t
  clear t
  go_wp2_with fail
  refine (all_any T1.out).mono ?_
  rintro e w2 ⟨qa, ca, rfl, hoa, hqa, fa⟩
  have OA := hid hoa
  clear hoa
  go_wp2_with fail
  refine (same_any _ _ ys ys _ _ _ _ _ (OA.out.rd OA.out.lt) ((hr.frNo f1).frNo fa) (by omega) (by omega)).mono ?_
  rintro e w3 ⟨rfl, n3, rfl⟩
  have F3 : Fr No w (w2.drewN n3) := (f1.trans fa (fun _ _ h => h)).drewN _
  have T3 := hid (T1.out.fr (fa.drewN n3) (fun x => x) (fun x => x))
  have lp := T3.out.blk.lt
  have lq := T3.out.own.lt
  clear OA T1 fa
  generalize w2.drewN n3 = W at *
  go_wp2_with (at_builtin; refine wpList_app1 cl u64s rfl rfl (xs := []) rfl rfl (own_lit W 23 [] (by simp)) ((hr.frNo F3).frNo ((Fr.refl No W).alloc _)) (len_Us _) (one_Us _) (by simp; omega) (by omega) ?_; intro q3 c3 w4 ho4 hf4 hq4)
  have O4 := hid (show Own w4 q3 23 c3 (Us ys) from by simpa using ho4)
  have g3 : W.heap.size ≤ q3 := by simp at hq4; omega
  have s3 := F3.size
  have F4 : Fr No w w4 := (F3.alloc _).trans hf4 (fun i hi h => by have h : i = W.heap.size := h; omega)
  have T4 := hid (T3.out.fr (((Fr.refl (One W.heap.size) W).alloc _).trans hf4 (fun _ _ h => h)) (fun h => by have h : p = W.heap.size := h; omega) (fun h => by have h : q = W.heap.size := h; omega))
  clear ho4 hq4 hf4 T3 F3
  refine (set_no T4.out at_ x h0 (by rw [mK.out]; omega)).mono ?_
  rintro e w5 ⟨rfl, rfl⟩
  go_wp2_with fail
  refine (get_no T4.out at_ h0 (by rw [mK.out]; omega)).mono ?_
  rintro e w5 ⟨rfl, rfl⟩
  obtain ⟨zs, hzs⟩ : ∃ zs, zs = ys := ⟨ys, rfl⟩
  have HLz := hid (show zs.length = ys.length by rw [hzs])
  have T7 := T4
  have O7 := O4
  rw [← hzs] at T7 O7
  have F7 := F4
  clear T4 O4 F4 hzs
  obtain ⟨w7, rfl⟩ : ∃ w7, w7 = w4 := ⟨w4, rfl⟩
  go_wp2_with fail
  have hg := grow_yes T7.out n x N h2 mN.out (by rw [HLz.out]; simp [mostS]; omega)
  rw [HLz.out] at hg
  refine hg.mono ?_
  clear hg
  rintro e w8 ⟨rfl, q8, c8, t8, f8, hq8⟩
  have hne : ((ys.length : Int) == 4294967295) = false := by rw [beq_eq_false_iff_ne]; omega
  have F8 : Fr No w w8 := F7.trans f8 (fun i hi h => by rcases h with h | h <;> omega)
  have l3 := O7.out.lt
  have O8 := hid (O7.out.fr f8 (fun h => by rcases h with h | h <;> omega))
  have hlu : (zs ++ List.replicate N x).length = ys.length + N := by rw [List.length_append, List.length_replicate, HLz.out]
  have HLu := hid hlu
  obtain ⟨us, hus⟩ : ∃ us, us = zs ++ List.replicate N x := ⟨_, rfl⟩
  rw [← hus] at t8 HLu
  have T8 := hid t8
  have HUs := hid hus
  have lus : us.length ≤ 2000 := by rw [HLu.out]; omega
  have n8 : p ≠ q3 ∧ q8 ≠ q3 := by constructor <;> omega
  have N8 := hid n8
  clear t8 f8 T7 O7 F7 hlu hus n8
  have s8 := F8.size
  have l8 := O8.out.lt
  go_wp2_with fail
  go_loopw [10, 18] (fun v i wr => ∃ (k q' c' : Nat), k ≤ N ∧ i = .int .u64 k ∧ v = .slice (some ⟨q', 0, none⟩) (ys.length + k) c' ∧ Own wr q' 23 c' (Us (zs ++ List.replicate k x)) ∧ Fr (One q3) w8 wr ∧ (q' = q3 ∨ w8.heap.size ≤ q')) (fun _ i _ => N - (intOf i).toNat)
  case atStart => exact ⟨0, q3, c3, by omega, rfl, rfl, by simpa using O8.out, Fr.refl _ _, .inl rfl⟩
  case round =>
    obtain ⟨k, q', c', hk, rfl, rfl, ho, hfr, hq'⟩ := hrel
    by_cases hlt : k < N
    · have hln : (zs ++ List.replicate k x).length = ys.length + k := by rw [List.length_append, List.length_replicate, HLz.out]
      have hy : Hid (zs ++ List.replicate k x ++ [x] = zs ++ List.replicate (k + 1) x) := by simp [Hid, List.replicate_succ']
      have HLn := hid hln
      generalize zs ++ List.replicate k x = vs at ho hy HLn
      clear hln
      go_wp2_with (at_builtin; refine wpList_push u64s rfl rfl rfl rfl ho ((len_Us _).trans HLn.out) rfl (by omega) (by omega) ?_; intro q9 c9 w9 ho9 hf9 hq9)
      refine ⟨⟨k + 1, q9, c9, by omega, by go_num, by rw [Nat.add_assoc], ?_, ?_, ?_⟩, by simp [intOf]; omega⟩
      · rw [← hy.out]; simpa [Us] using ho9
      · exact hfr.trans hf9 (fun i hi h => by have h : i = q' := h; rcases hq' with h' | h'; exact h.trans h'; omega)
      · have := hfr.size; rcases hq9 with h | h
        · rw [h]; exact hq'
        · right; omega
    · obtain rfl : k = N := by omega
      rw [← HUs.out] at ho
      have OW := hid ho
      have T9 := hid (T8.out.fr hfr N8.out.1 N8.out.2)
      have F9 := F8.trans hfr (fun i hi h => by have h : i = q3 := h; omega)
      clear ho hfr O8 T8 F8
      go_wp2_with fail
      refine (all_any T9.out).mono ?_
      rintro e wa ⟨qb, cb, rfl, hob, hqb, fb⟩
      have OB := hid hob
      clear hob
      go_wp2_with fail
      refine (same_at _ _ us us _ _ _ _ _ _ _ rfl HLu.out (OB.out.rd OB.out.lt) ((OW.out.rd OW.out.lt).frNo fb) (by omega) (by omega)).mono ?_
      rintro e wb ⟨rfl, nb, rfl⟩
      have TB := hid ((T9.out.fr fb (fun x => x) (fun x => x)).drewN nb)
      have FB := (F9.trans fb (fun _ _ h => h)).drewN nb
      have sz := size_any TB.out
      rw [HLu.out] at sz
      have SZ := hid sz
      clear sz
      go_wp2_with fail
      refine SZ.out.mono ?_
      rintro e wc ⟨rfl, rfl⟩
      have e9 : ((ys.length : Int) + k == (ys.length : Int) + k) = true := beq_self_eq_true _
      go_wp2_with (go_at_call 8; refine (alive_any _).mono ?_; rintro e we ⟨rfl, fe⟩)
      go_ret
      exact ⟨rfl, FB.trans fe (fun _ _ h => h)⟩
set_option maxHeartbeats 3200000 in
set_option maxRecDepth 100000 in
theorem keep_outFull (A : Option Addr) (ys : List Int) (cl : Nat) (at_ x n : Int) (K N : Nat) (w : World) (hn : ys.length ≤ 100) (hcl : ys.length ≤ cl) (hr : Rd w w.heap.size A (Us ys))
    (h0 : 0 ≤ at_) (h2 : 0 ≤ n) (eK : bits .and .u64 at_ 4294967295 = K) (eN : bits .and .u64 n 4294967295 = N) (mK : Hid (at_ % 4294967296 = K)) (mN : Hid (n % 4294967296 = N)) (bK : K ≤ 4294967295) (bN : N ≤ 4294967295) (hK : ¬ K < ys.length) (hN : ¬ ys.length + N ≤ 1024) :
    Calls Try.prog 5 #[.slice A ys.length cl, .int .u64 at_, .int .u64 x, .int .u64 n] w fun e' w' => e' = .returned (.bool true) ∧ Fr No w w' := by
  have d3 : decide ((100 : Int) < ys.length) = false := by simp; omega
  have d4 : decide ((K : Int) < ys.length) = false := by simp; omega
  have d5 : decide ((N : Int) ≤ 1024 - ys.length) = false := by simp; omega
  go_enter Try.func5, Try.ntmps5
  go_wp2_with fail
  refine (filled_any A ys _ cl _ hr (by omega) hcl).mono ?_
  rintro e w1 ⟨p, q, c, rfl, t, hp, hq, f1⟩
  have T1 := hid t
  clear t
  go_wp2_with fail
  refine (all_any T1.out).mono ?_
  rintro e w2 ⟨qa, ca, rfl, hoa, hqa, fa⟩
  have OA := hid hoa
  clear hoa
  go_wp2_with fail
  refine (same_any _ _ ys ys _ _ _ _ _ (OA.out.rd OA.out.lt) ((hr.frNo f1).frNo fa) (by omega) (by omega)).mono ?_
  rintro e w3 ⟨rfl, n3, rfl⟩
  have F3 : Fr No w (w2.drewN n3) := (f1.trans fa (fun _ _ h => h)).drewN _
  have T3 := hid (T1.out.fr (fa.drewN n3) (fun x => x) (fun x => x))
  have lp := T3.out.blk.lt
  have lq := T3.out.own.lt
  clear OA T1 fa
  generalize w2.drewN n3 = W at *
  go_wp2_with (at_builtin; refine wpList_app1 cl u64s rfl rfl (xs := []) rfl rfl (own_lit W 23 [] (by simp)) ((hr.frNo F3).frNo ((Fr.refl No W).alloc _)) (len_Us _) (one_Us _) (by simp; omega) (by omega) ?_; intro q3 c3 w4 ho4 hf4 hq4)
  have O4 := hid (show Own w4 q3 23 c3 (Us ys) from by simpa using ho4)
  have g3 : W.heap.size ≤ q3 := by simp at hq4; omega
  have s3 := F3.size
  have F4 : Fr No w w4 := (F3.alloc _).trans hf4 (fun i hi h => by have h : i = W.heap.size := h; omega)
  have T4 := hid (T3.out.fr (((Fr.refl (One W.heap.size) W).alloc _).trans hf4 (fun _ _ h => h)) (fun h => by have h : p = W.heap.size := h; omega) (fun h => by have h : q = W.heap.size := h; omega))
  clear ho4 hq4 hf4 T3 F3
  refine (set_no T4.out at_ x h0 (by rw [mK.out]; omega)).mono ?_
  rintro e w5 ⟨rfl, rfl⟩
  go_wp2_with fail
  refine (get_no T4.out at_ h0 (by rw [mK.out]; omega)).mono ?_
  rintro e w5 ⟨rfl, rfl⟩
  obtain ⟨zs, hzs⟩ : ∃ zs, zs = ys := ⟨ys, rfl⟩
  have HLz := hid (show zs.length = ys.length by rw [hzs])
  have T7 := T4
  have O7 := O4
  rw [← hzs] at T7 O7
  have F7 := F4
  clear T4 O4 F4 hzs
  obtain ⟨w7, rfl⟩ : ∃ w7, w7 = w4 := ⟨w4, rfl⟩
  go_wp2_with fail
  refine (grow_no T7.out n x h2 (by rw [HLz.out, mN.out]; simp [mostS]; omega)).mono ?_
  rintro e w8 ⟨rfl, rfl⟩
  have hne : ((4294967295 : Int) == (ys.length : Int)) = false := by rw [beq_eq_false_iff_ne]; omega
  go_wp2_with fail
  refine (all_any T7.out).mono ?_
  rintro e wa ⟨qb, cb, rfl, hob, hqb, fb⟩
  have OB := hid hob
  clear hob
  have lzs : zs.length ≤ 2000 := by rw [HLz.out]; omega
  go_wp2_with fail
  refine (same_at _ _ zs zs _ _ _ _ _ _ _ rfl HLz.out (OB.out.rd OB.out.lt) ((O7.out.rd O7.out.lt).frNo fb) (by omega) (by omega)).mono ?_
  rintro e wb ⟨rfl, nb, rfl⟩
  have TB := hid ((T7.out.fr fb (fun x => x) (fun x => x)).drewN nb)
  have FB := (F7.trans fb (fun _ _ h => h)).drewN nb
  have sz := size_any TB.out
  rw [HLz.out] at sz
  have SZ := hid sz
  clear sz
  go_wp2_with fail
  refine SZ.out.mono ?_
  rintro e wc ⟨rfl, rfl⟩
  go_wp2_with (go_at_call 8; refine (alive_any _).mono ?_; rintro e we ⟨rfl, fe⟩)
  go_ret
  exact ⟨rfl, FB.trans fe (fun _ _ h => h)⟩
end Go.Proofs.Ytndhbamfgihncaa
