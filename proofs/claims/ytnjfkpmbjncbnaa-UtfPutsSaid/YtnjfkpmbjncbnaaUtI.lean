/- Contracts of the functions of chapter 03, part 8: alive. -/
import Derived.Test.YtnjfkpmbjncbnaaUtH
namespace Go.Proofs.Ytnjfkpmbjncbnaa
open Go.RowKit

theorem sz3 (a b : List UInt8) : ((⟨a.toArray⟩ : ByteArray) ++ (⟨b.toArray⟩ : ByteArray)).data.toList = a ++ b := by simp

theorem al_count (W : World) : Calls Try.prog 13 #[.string (⟨#[195, 169]⟩ ++ ⟨#[255]⟩)] W fun e w' => e = .returned (.int .i64 2) ∧ Fr No W w' := by
  have h := count_any (⟨#[195, 169]⟩ ++ ⟨#[255]⟩) W (by decide)
  rw [show count ((⟨#[195, 169]⟩ ++ ⟨#[255]⟩ : ByteArray)).data.toList = 2 from by decide] at h
  exact h
theorem al_cut (W : World) : Calls Try.prog 17 #[.string (⟨#[97]⟩ ++ ⟨#[195, 169]⟩), .int .i64 2] W fun e w' => e = .returned (.string ⟨#[97]⟩) ∧ Fr No W w' := by
  have h := cut_any (⟨#[97]⟩ ++ ⟨#[195, 169]⟩) 2 W (by decide)
  have e : cutS (⟨#[97]⟩ ++ ⟨#[195, 169]⟩) 2 = ⟨#[97]⟩ := by
    rw [← Lib.mk_data (cutS (⟨#[97]⟩ ++ ⟨#[195, 169]⟩) 2), cutS_data]
    rw [show cutN ((⟨#[97]⟩ ++ ⟨#[195, 169]⟩ : ByteArray)).data.toList 2 = 1 from by decide]
    rfl
  rw [e] at h
  exact h
theorem al_valid (s : ByteArray) (b : Bool) (W : World) (hs : s.size ≤ 100000) (h : (runes s.data.toList).isSome = b) : Calls Try.prog 12 #[.string s] W fun e w' => e = .returned (.bool b) ∧ Fr No W w' := by
  subst h
  exact valid_any s W (by omega)

set_option maxHeartbeats 1600000 in
theorem alive_any (w : World) : Calls Try.prog 8 #[] w fun e w' => e = .returned (.bool true) ∧ Fr No w w' := by
  have p1 : putL [233] = some [195, 169] := by decide
  have p2 : putL [55296] = none := by decide
  have P1 := hid p1
  have P2 := hid p2
  clear p1 p2
  go_enter Try.func8, Try.ntmps8
  go_wp2_with fail
  refine (put_any _ [233] _ _ _ _ rfl (rd_lit w [.int .i32 233] 21) (by decide)).mono ?_
  rw [P1.out]
  rintro e w1 ⟨rfl, f1⟩
  go_wp2_with fail
  refine (put_any _ [55296] _ _ _ _ rfl (rd_lit w1 [.int .i32 55296] 21) (by decide)).mono ?_
  rw [P2.out]
  rintro e w2 ⟨rfl, f2⟩
  have F2 : Fr No w w2 := (((Fr.refl No w).alloc _).trans f1 (fun _ _ h => h)).trans (((Fr.refl No w1).alloc _).trans f2 (fun _ _ h => h)) (fun _ _ h => h)
  clear f1 f2
  go_wp2_with fail
  refine (al_count _).mono ?_
  rintro e w3 ⟨rfl, f3⟩
  go_wp2_with fail
  refine (al_cut _).mono ?_
  rintro e w4 ⟨rfl, f4⟩
  go_wp2_with fail
  refine (al_valid _ false _ (by decide) (by decide)).mono ?_
  rintro e w5 ⟨rfl, f5⟩
  go_wp2_with fail
  refine (al_valid _ false _ (by decide) (by decide)).mono ?_
  rintro e w6 ⟨rfl, f6⟩
  go_wp2_with fail
  refine (al_valid _ true _ (by decide) (by decide)).mono ?_
  rintro e w7 ⟨rfl, f7⟩
  go_wp2_with fail
  go_ret
  exact ⟨rfl, ((((F2.trans f3 (fun _ _ h => h)).trans f4 (fun _ _ h => h)).trans f5 (fun _ _ h => h)).trans f6 (fun _ _ h => h)).trans f7 (fun _ _ h => h)⟩
end Go.Proofs.Ytnjfkpmbjncbnaa
