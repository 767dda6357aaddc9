/- TablesMove: the walk. -/
import Derived.Test.YtndhbamfgihncaaTabG
namespace Go.Proofs.Ytndhbamfgihncaa
open Go.RowKit

set_option maxHeartbeats 1600000 in
set_option maxRecDepth 100000 in
theorem move_big (A : Option Addr) (n0 cl : Nat) (to at_ n : Int) (w : World) (hn : 100 < n0) (hn2 : n0 ≤ 9223372036854775807) :
    Calls Try.prog 3 #[.slice A n0 cl, .int .u64 to, .int .u64 at_, .int .u64 n] w fun e' w' => e' = .returned (.bool true) ∧ Fr No w w' := by
  go_enter Try.func3, Try.ntmps3
  go_wp2_with (go_at_call 8; refine (alive_any _).mono ?_; rintro e w1 ⟨rfl, hf⟩)
  go_ret
  exact ⟨rfl, hf⟩


set_option maxHeartbeats 3200000 in
set_option maxRecDepth 100000 in
theorem move_fits (A : Option Addr) (ys : List Int) (cl : Nat) (to at_ n : Int) (T U N : Nat) (w : World) (hn : ys.length ≤ 100) (hcl : ys.length ≤ cl) (hr : Rd w w.heap.size A (Us ys))
    (h0 : 0 ≤ to) (h1 : 0 ≤ at_) (h2 : 0 ≤ n) (eT : bits .and .u64 to 4294967295 = T) (eU : bits .and .u64 at_ 4294967295 = U) (eN : bits .and .u64 n 4294967295 = N)
    (f1 : T + N ≤ ys.length) (f2 : U + N ≤ ys.length) (hI : Hid (initS ys ys to at_ n = (0, splice ys T ((ys.drop U).take N)))) :
    Calls Try.prog 3 #[.slice A ys.length cl, .int .u64 to, .int .u64 at_, .int .u64 n] w fun e' w' => e' = .returned (.bool true) ∧ Fr No w w' := by
  have d1 : decide ((T : Int) + N ≤ ys.length) = true := by simp; omega
  have d2 : decide ((U : Int) + N ≤ ys.length) = true := by simp; omega
  have d3 : decide ((100 : Int) < ys.length) = false := by simp; omega
  go_enter Try.func3, Try.ntmps3
  go_wp2_with fail
  refine (filled_any A ys _ cl _ hr (by omega) hcl).mono ?_
  rintro e w1 ⟨p, q, c, rfl, t, hp, hq, hf⟩
  have HT := hid t
  clear t
  go_wp2_with fail
  refine (filled_any A ys _ cl _ (hr.frNo hf) (by omega) hcl).mono ?_
  rintro e w2 ⟨p2, q2, c2, rfl, t2, hp2, hq2, hf2⟩
  have HT1 := hid (HT.out.fr hf2 (fun x => x) (fun x => x))
  have HT2 := hid t2
  have F2 := hf.trans hf2 (fun _ _ h => h)
  have l1 := HT.out.blk.lt
  have l2 := HT.out.own.lt
  clear t2 HT hf2
  go_wp2_with (at_builtin; refine wpList_app1 cl u64s rfl rfl (xs := []) rfl rfl (own_lit w2 23 [] (by simp)) ((hr.frNo F2).frNo ((Fr.refl No w2).alloc _)) (len_Us _) (one_Us _) (by simp; omega) (by omega) ?_; intro q3 c3 w3 ho3 hf3 hq3)
  have ho3 : Own w3 q3 23 c3 (Us ys) := by simpa using ho3
  have g3 : w2.heap.size ≤ q3 := by simp at hq3; omega
  have F3 : Fr No w w3 := (F2.alloc _).trans hf3 (fun i hi h => by have h : i = w2.heap.size := h; have := F2.size; omega)
  have s2 := F2.size
  have s1 := hf.size
  have HT1' := hid (HT1.out.fr (((Fr.refl (One w2.heap.size) w2).alloc _).trans hf3 (fun _ _ h => h)) (fun h => by have h : p = w2.heap.size := h; have := HT1.out.blk.lt; omega) (fun h => by have h : q = w2.heap.size := h; have := HT1.out.own.lt; omega))
  have HT2' := hid (HT2.out.fr (((Fr.refl (One w2.heap.size) w2).alloc _).trans hf3 (fun _ _ h => h)) (fun h => by have h : p2 = w2.heap.size := h; have := HT2.out.blk.lt; omega) (fun h => by have h : q2 = w2.heap.size := h; have := HT2.out.own.lt; omega))
  have n1 : p ≠ q3 ∧ q ≠ q3 ∧ p2 ≠ q3 ∧ q2 ≠ q3 := by
    have a1 := HT1.out.blk.lt
    have a2 := HT1.out.own.lt
    have a3 := HT2.out.blk.lt
    have a4 := HT2.out.own.lt
    omega
  have HO3 := hid ho3
  have HN1 := hid n1
  clear ho3 hq3 hf3 HT1 HT2 n1
  go_loopw [14] (fun i wr => ∃ k : Nat, k ≤ N ∧ i = .int .u64 k ∧ Own wr q3 23 c3 (Us (splice ys T ((ys.drop U).take k))) ∧ Fr (One q3) w3 wr) (fun i _ => N - (intOf i).toNat)
  case atStart => exact ⟨0, by omega, rfl, by rw [List.take_zero, splice_nil]; exact HO3.out, Fr.refl _ _⟩
  case round =>
    obtain ⟨k, hk, rfl, ho, hfr⟩ := hrel
    have Fr0 : Fr No w wr := F3.trans hfr (fun i hi h => by have h : i = q3 := h; omega)
    by_cases hlt : k < N
    · have hln : (splice ys T ((ys.drop U).take k)).length = ys.length := length_splice _ _ _ (by simp; omega)
      obtain ⟨b, o, rfl, cc⟩ := Us_rd (hr.frNo Fr0) (U + k) (by omega)
      obtain ⟨u, hc⟩ : ∃ u, wr.cell? ⟨q3, T + k, none⟩ = some u := ⟨_, ho.cell (T + k) (by rw [len_Us, hln]; omega)⟩
      have hz := ho.frozen (T + k)
      have hy := hid (splice_take_set ys T U N k f1 f2 hlt)
      have ho' := hid ho
      generalize splice ys T ((ys.drop U).take k) = zs at ho' hy
      generalize ys[U + k] = x at cc hy
      have i0 : (0 : Int) ≤ (T : Int) + k := by omega
      have i1 : (T : Int) + k < ys.length := by omega
      have i2 : (0 : Int) ≤ (U : Int) + k := by omega
      have i3 : (U : Int) + k < ys.length := by omega
      clear ho hln
      go_wp2
      go_roundw
      case rel =>
        refine ⟨k + 1, by omega, by go_num, ?_, hfr.setCell ⟨q3, T + k, none⟩ (.int .u64 x) (fun _ => rfl)⟩
        rw [← hy.out]
        have := ho'.out.set_ (T + k) (.int .u64 x)
        simpa [Us] using this
      case measure => simp [intOf]; omega
    · obtain rfl : k = N := by omega
      have hln : (splice ys T ((ys.drop U).take k)).length = ys.length := length_splice _ _ _ (by simp; omega)
      have HO := hid ho
      have HLn := hid hln
      have c1 := copy_at (HT1'.out.fr hfr HN1.out.1 HN1.out.2.1) (some ⟨q, 0, none⟩) ys wr.heap.size c to at_ n h0 h1 h2 (by omega) HT1'.out.cap
        ((HT1'.out.fr hfr HN1.out.1 HN1.out.2.1).own.rd (HT1'.out.fr hfr HN1.out.1 HN1.out.2.1).own.lt) (HT1'.out.fr hfr HN1.out.1 HN1.out.2.1).c4
      rw [hI.out] at c1
      have HI := hid hI.out
      generalize splice ys T ((ys.drop U).take k) = zs at *
      clear ho hln
      go_wp2_with fail
      refine c1.mono ?_
      rintro e w4 ⟨rfl, t4, f4⟩
      have T4 := hid t4
      have F4 : Fr No w w4 := Fr0.trans f4 (fun i hi h => by have h : i = q := h; omega)
      have U4 := hid ((HT2'.out.fr hfr HN1.out.2.2.1 HN1.out.2.2.2).fr f4 (fun h => by have h : p2 = q := h; omega) (fun h => by have h : q2 = q := h; omega))
      have O4 := hid (HO.out.fr f4 (fun h => by have h : q3 = q := h; have := HN1.out; omega))
      clear t4 f4 HO c1
      go_wp2_with fail
      have i1 := init_any U4.out A ys _ cl to at_ n h0 h1 h2 (by omega) hcl (hr.frNo F4)
      rw [HI.out] at i1
      refine i1.mono ?_
      rintro e w5 ⟨rfl, t5, f5⟩
      have T5 := hid (T4.out.fr f5 (fun h => by have h : p = q2 := h; omega) (fun h => by have h : q = q2 := h; omega))
      have U5 := hid t5
      have O5 := hid (O4.out.fr f5 (fun h => by have h : q3 = q2 := h; have := HN1.out; omega))
      have F5 : Fr No w w5 := F4.trans f5 (fun i hi h => by have h : i = q2 := h; omega)
      clear t5 f5 i1 T4 U4 O4 F4
      have hzl : zs.length ≤ 100 := by have := HLn.out; omega
      go_wp2_with fail
      refine (all_any T5.out).mono ?_
      rintro e w6 ⟨q6, c6, rfl, ho6, hq6, f6⟩
      have O6 := hid ho6
      clear ho6
      go_wp2_with fail
      refine (same_at _ _ zs zs _ _ _ _ _ _ _ rfl HLn.out (O6.out.rd O6.out.lt) ((O5.out.rd O5.out.lt).frNo f6) (by omega) (by omega)).mono ?_
      rintro e w7 ⟨rfl, n7, rfl⟩
      have g7 : Fr No w5 (w6.drewN n7) := f6.drewN _
      have T7 := hid (T5.out.fr g7 (fun x => x) (fun x => x))
      have U7 := hid (U5.out.fr g7 (fun x => x) (fun x => x))
      have O7 := hid (O5.out.fr g7 (fun x => x))
      have F7 := F5.trans g7 (fun _ _ h => h)
      clear T5 U5 O5 F5 f6 g7 O6
      go_wp2_with fail
      refine (all_any U7.out).mono ?_
      rintro e w8 ⟨q8, c8, rfl, ho8, hq8, f8⟩
      have O8 := hid ho8
      clear ho8
      go_wp2_with fail
      refine (same_at _ _ zs zs _ _ _ _ _ _ _ rfl HLn.out (O8.out.rd O8.out.lt) ((O7.out.rd O7.out.lt).frNo f8) (by omega) (by omega)).mono ?_
      rintro e w9 ⟨rfl, n9, rfl⟩
      have g9 : Fr No (w6.drewN n7) (w8.drewN n9) := f8.drewN _
      have T9 := hid (T7.out.fr g9 (fun x => x) (fun x => x))
      have O9 := hid (O7.out.fr g9 (fun x => x))
      have F9 := F7.trans g9 (fun _ _ h => h)
      clear T7 U7 O7 F7 f8 g9 O8
      go_wp2_with fail
      refine (all_any T9.out).mono ?_
      rintro e wa ⟨qa, ca, rfl, hoa, hqa, fa⟩
      have OA := hid hoa
      have TA := hid (T9.out.fr fa (fun x => x) (fun x => x))
      have WA := hid (O9.out.fr fa (fun x => x))
      have FA := F9.trans fa (fun _ _ h => h)
      have na : p ≠ qa ∧ q ≠ qa ∧ q3 ≠ qa ∧ w.heap.size ≤ qa := by
        have a1 := T9.out.blk.lt
        have a2 := T9.out.own.lt
        have a3 := O9.out.lt
        have a4 := F9.size
        omega
      have NA := hid na
      clear hoa fa T9 O9 F9 na
      go_wp2_with fail
      go_loopw [18] (fun i wr => ∃ (k : Nat) (vs : List Value), k ≤ zs.length ∧ i = .int .i64 k ∧ vs.length = zs.length ∧ (∀ j, k ≤ j → vs[j]? = (Us zs)[j]?) ∧ Own wr qa 23 ca vs ∧ Fr (One qa) wa wr) (fun i _ => zs.length - (intOf i).toNat)
      case atStart => exact ⟨0, Us zs, by omega, rfl, len_Us _, fun _ _ => rfl, OA.out, Fr.refl _ _⟩
      case round =>
        obtain ⟨k, vs, hk2, rfl, hvl, hvs, hov, hfr2⟩ := hrel
        have HV := hid hvl
        have HVS := hid hvs
        have HOV := hid hov
        clear hvs hov OA
        by_cases hlt : k < zs.length
        · have hc := HOV.out.cell k (by omega)
          have e1 : vs[k] = .int .u64 zs[k] := by
            have := HVS.out k (by omega)
            rw [List.getElem?_eq_getElem (by omega), List.getElem?_eq_getElem (by simpa using hlt), Us_at _ _ hlt] at this
            exact Option.some.inj this
          rw [e1] at hc
          have hz := HOV.out.frozen k
          generalize zs[k] = x at hc
          have i0 : (0 : Int) ≤ k := by omega
          have i1 : (k : Int) < zs.length := by omega
          clear hvl e1
          go_wp2
          go_roundw
          case rel =>
            refine ⟨k + 1, vs.set k _, by omega, by go_num, by simpa using HV.out, fun j hj => ?_, HOV.out.set_ k _, hfr2.setCell ⟨qa, k, none⟩ _ (fun _ => rfl)⟩
            rw [List.getElem?_set_ne (by omega)]; exact HVS.out j (by omega)
          case measure => simp [intOf]; omega
        · have TB := hid (TA.out.fr hfr2 NA.out.1 NA.out.2.1)
          have WB := hid (WA.out.fr hfr2 NA.out.2.2.1)
          have FB := FA.trans hfr2 (fun i hi h => by have h : i = qa := h; have := NA.out; omega)
          clear hvl HV HVS HOV hfr2
          go_wp2_with fail
          refine (all_any TB.out).mono ?_
          rintro e wc ⟨qc, cc, rfl, hoc, hqc, fc⟩
          have OC := hid hoc
          clear hoc
          go_wp2_with fail
          refine (same_at _ _ zs zs _ _ _ _ _ _ _ rfl HLn.out (OC.out.rd OC.out.lt) ((WB.out.rd WB.out.lt).frNo fc) (by omega) (by omega)).mono ?_
          rintro e wd ⟨rfl, nd, rfl⟩
          go_wp2_with (go_at_call 8; refine (alive_any _).mono ?_; rintro e we ⟨rfl, fe⟩)
          go_ret
          exact ⟨rfl, ((FB.trans fc (fun _ _ h => h)).drewN nd).trans fe (fun _ _ h => h)⟩
end Go.Proofs.Ytndhbamfgihncaa
