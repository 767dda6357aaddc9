/- Contracts of filled and alive. -/
import Derived.Test.YtndhbamfgihncaaTabE
import Derived.Test.YtndhbamfgihncaaTabF
namespace Go.Proofs.Ytndhbamfgihncaa
open Go.RowKit

theorem and32 (x : Int) (h0 : 0 ≤ x) (h1 : x < 18446744073709551616) : bits .and .u64 x 4294967295 = x % 4294967296 := by
  obtain ⟨n, rfl⟩ := Int.eq_ofNat_of_zero_le h0
  have := u64_and_nat n 4294967295 (by omega) (by omega)
  rw [show ((4294967295 : Nat) : Int) = 4294967295 from rfl] at this
  rw [this, show (4294967295 : Nat) = 2 ^ 32 - 1 from rfl, Nat.and_two_pow_sub_one_eq_mod]
  omega

theorem tabB_of (n : Nat) (h : n ≤ 1024) : tabB 4 n 0 false = true := by
  simp [tabB, refB, limB]; omega
theorem initS_all (ys : List Int) (h : ys.length ≤ 1024) : initS (List.replicate ys.length 0) ys 0 0 ys.length = (0, ys) := by
  have e1 : ((ys.length : Int) % 4294967296) = ys.length := by omega
  have e0 : ((0 : Int) % 4294967296) = 0 := rfl
  unfold initS
  rw [if_pos (by unfold Fits; rw [e1, e0]; simp), e1, e0]
  simp [splice]

def FilledTo (ys : List Int) (w : World) (e' : Ending) (w' : World) : Prop :=
  ∃ p q c, e' = .returned (.pointer (some ⟨p, 0, none⟩)) ∧ TabAt w' p q c 4 ys.length 0 false ys ∧ w.heap.size ≤ p ∧ w.heap.size ≤ q ∧ Fr No w w'

set_option maxHeartbeats 400000 in
theorem filled_any (A : Option Addr) (ys : List Int) (B cl : Nat) (w : World) (hr : Rd w B A (Us ys)) (hm : ys.length ≤ 1024) (hcl : ys.length ≤ cl) :
    Calls Try.prog 9 #[.slice A ys.length cl] w (FilledTo ys w) := by
  go_enter Try.func9, Try.ntmps9
  go_wp2_with fail
  refine (new_yes 4 ys.length 0 false _ (tabB_of _ hm)).mono ?_
  rintro e w1 ⟨p, q, rfl, t, hp, hq, hf⟩
  have HT := hid t
  clear t
  go_wp2_with fail
  have hi := init_any HT.out A ys B cl 0 0 ys.length (by omega) (by omega) (by omega) (by omega) hcl (hr.frNo hf)
  rw [Int.toNat_natCast, initS_all ys hm] at hi
  refine hi.mono ?_
  rintro e w2 ⟨rfl, t2, hf2⟩
  go_wp2
  go_ret
  exact ⟨p, q, _, rfl, t2, hp, hq, hf.trans hf2 (fun i hi h => by have h : i = q := h; omega)⟩

set_option maxHeartbeats 1600000 in
theorem alive_any (w : World) : Calls Try.prog 8 #[] w fun e' w' => e' = .returned (.bool true) ∧ Fr No w w' := by
  go_enter Try.func8, Try.ntmps8
  go_wp2_with fail
  refine (new_yes 3 2 3 true _ (by decide)).mono ?_
  rintro e w1 ⟨p, q, rfl, t, hp, hq, hf⟩
  have HT := hid t
  clear t
  go_wp2_with fail
  refine (grow_yes HT.out 1 7 1 (by omega) rfl (by decide)).mono ?_
  rintro e w2 ⟨rfl, q2, c2, t2, hf2, hq2⟩
  have HT2 : Hid (TabAt w2 p q2 c2 3 2 3 true [0, 0, 7]) := t2
  clear t2
  go_wp2_with fail
  refine (grow_no HT2.out 1 7 (by omega) (by decide)).mono ?_
  rintro e w2' ⟨rfl, rfl⟩
  go_wp2_with fail
  refine (all_any HT2.out).mono ?_
  rintro e w3 ⟨q3, c3, rfl, ho3, hq3, hf3⟩
  have HO3 := hid ho3
  clear ho3
  go_wp2_with fail
  refine (same_any _ _ [0, 0, 7] [0, 0, 7] _ _ _ _ _ ((HO3.out.rd HO3.out.lt).frNo ((Fr.refl No w3).alloc _)) (rd_lit w3 (Us [0, 0, 7]) 23) (by decide) (by decide)).mono ?_
  rintro e w4 ⟨rfl, n4, rfl⟩
  have f4 : Fr No w2 ((w3.alloc (Obj.cells #[Value.int IntKind.u64 0, Value.int IntKind.u64 0, Value.int IntKind.u64 7] 23)).drewN n4) := (hf3.alloc _).drewN _
  have T4 := hid (HT2.out.fr f4 (fun x => x) (fun x => x))
  have F4 : Fr No w ((w3.alloc (Obj.cells #[Value.int IntKind.u64 0, Value.int IntKind.u64 0, Value.int IntKind.u64 7] 23)).drewN n4) :=
    (hf.trans hf2 (fun i hi h => by rcases h with h | h <;> omega)).trans f4 (fun _ _ h => h)
  clear hf2 hf3 f4 HT HT2 HO3
  go_wp2_with fail
  have hcp := copy_at T4.out (some ⟨q2, 0, none⟩) [0, 0, 7] _ c2 0 1 2 (by omega) (by omega) (by omega) (by decide) T4.out.cap (T4.out.own.rd T4.out.own.lt) T4.out.c4
  rw [show initS [0, 0, 7] [0, 0, 7] 0 1 2 = (0, [0, 7, 7]) from by decide] at hcp
  refine hcp.mono ?_
  rintro e w5 ⟨rfl, t5, hf5⟩
  have T5 := hid t5
  have hq2' : w.heap.size ≤ q2 := by have := hf.size; rcases hq2 with h | h <;> omega
  have F5 : Fr No w w5 := F4.trans hf5 (fun i hi h => by have h : i = q2 := h; omega)
  clear t5 hf5 hcp F4 T4
  go_wp2_with fail
  refine (all_any T5.out).mono ?_
  rintro e w6 ⟨q6, c6, rfl, ho6, hq6, hf6⟩
  have HO6 := hid ho6
  clear ho6
  go_wp2_with fail
  refine (same_any _ _ [0, 7, 7] [0, 7, 7] _ _ _ _ _ ((HO6.out.rd HO6.out.lt).frNo ((Fr.refl No w6).alloc _)) (rd_lit w6 (Us [0, 7, 7]) 23) (by decide) (by decide)).mono ?_
  rintro e w7 ⟨rfl, n7, rfl⟩
  have f7 : Fr No w5 ((w6.alloc (Obj.cells #[Value.int IntKind.u64 0, Value.int IntKind.u64 7, Value.int IntKind.u64 7] 23)).drewN n7) := (hf6.alloc _).drewN _
  have T7 := hid (T5.out.fr f7 (fun x => x) (fun x => x))
  have F7 := F5.trans f7 (fun _ _ h => h)
  clear hf6 f7 T5 HO6 F5
  go_wp2_with fail
  have hfl := fill_any T7.out 3 9 0 (by omega) (by omega)
  rw [show fillS [0, 7, 7] 3 9 0 = (0, [0, 7, 7]) from by decide] at hfl
  refine hfl.mono ?_
  rintro e w8 ⟨rfl, t8, hf8⟩
  have T8 := hid t8
  have F8 : Fr No w w8 := F7.trans hf8 (fun i hi h => by have h : i = q2 := h; omega)
  clear t8 hf8 hfl F7 T7
  go_wp2_with fail
  have hfl := fill_any T8.out 4 9 0 (by omega) (by omega)
  rw [show fillS [0, 7, 7] 4 9 0 = (3, [0, 7, 7]) from by decide] at hfl
  refine hfl.mono ?_
  rintro e w9 ⟨rfl, t9, hf9⟩
  have F9 : Fr No w w9 := F8.trans hf9 (fun i hi h => by have h : i = q2 := h; omega)
  go_wp2
  go_ret
  exact ⟨rfl, F9⟩
end Go.Proofs.Ytndhbamfgihncaa
