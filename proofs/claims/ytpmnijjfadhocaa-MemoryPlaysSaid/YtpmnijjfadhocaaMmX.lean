/- Chapter 28: the worked example. -/
import Derived.Test.YtpmnijjfadhocaaMmW
namespace Go.Proofs.Ytpmnijjfadhocaa
open Go.RowKit

def l0 : Lim := ⟨1, 2, true⟩
def bZ : List Int := List.replicate 256 0
def bA : List Int := List.replicate 512 0
def bB : List Int := 2 :: 1 :: List.replicate 510 0
def bC : List Int := 1 :: 2 :: 3 :: 4 :: List.replicate 508 0
def bD : List Int := 1 :: 1 :: 2 :: 3 :: List.replicate 508 0
set_option maxRecDepth 100000
theorem k1 : growR l0 bZ (lo 1) = (bA, 1) := by kernel_rfl
theorem k2 : growR l0 bA (lo 1) = (bA, 4294967295) := by kernel_rfl
theorem k3 : storeR 54 bA 0 0 258 = (bB, 0) := by kernel_rfl
theorem k4 : loadR 45 bB 1 0 = (1, 0) := by kernel_rfl
theorem k5 : initR bB [1, 2, 3, 4] (lo 0) (lo 0) (lo 4) = (bC, 0) := by kernel_rfl
theorem k6 : initR bC bC (lo 1) (lo 0) (lo 3) = (bD, 0) := by kernel_rfl
theorem lZ : bZ.length = 256 := by kernel_rfl
theorem lA : bA.length = 512 := by kernel_rfl
theorem lB : bB.length = 512 := by kernel_rfl
theorem lC : bC.length = 512 := by kernel_rfl
theorem lD : bD.length = 512 := by kernel_rfl
theorem tD : bD.take 4 = Bs [1, 1, 2, 3] := by kernel_rfl
set_option maxHeartbeats 3200000 in
theorem alive_any (w : World) : Calls Try.prog 10 #[] w fun e w' => e = .returned (.bool true) ∧ Fr No w w' := by
  go_enter Try.func10, Try.ntmps10
  go_wp2_with fail
  refine (new_any l0 _).mono ?_
  intro e w1 h
  rw [NewTo, if_pos (by decide)] at h
  obtain ⟨p, q, c, rfl, hm, hp, hq, f⟩ := h
  have HM : Hid (Mo w1 p q c l0 bZ) := hm
  have F := hid f
  have HPP := hid hp
  have HQQ := hid hq
  clear hm f hp hq
  have c3 : w1.cell? ⟨p, 3, none⟩ = some (.slice (some ⟨q, 0, none⟩) 256 c) := by have := HM.out.hp.cell 3; rwa [lZ] at this
  have h1 := has_any p (some ⟨q, 0, none⟩) 256 c 255 0 1 w1 c3 (by omega) (by decide) (by decide) (by decide)
  have h2 := has_any p (some ⟨q, 0, none⟩) 256 c 255 1 1 w1 c3 (by omega) (by decide) (by decide) (by decide)
  rw [show hasB 256 255 0 1 = true by decide] at h1
  rw [show hasB 256 255 1 1 = false by decide] at h2
  have H1 := hid h1
  have H2 := hid h2
  clear h1 h2 c3
  go_wp2_with fail
  refine H1.out.mono ?_
  rintro e w' ⟨rfl, rfl⟩
  go_wp2_with fail
  refine H2.out.mono ?_
  rintro e w' ⟨rfl, rfl⟩
  have hg := mgrow_any p q c l0 bZ 1 w1 HM.out (by rw [lZ]; omega) (by rw [lZ]; decide) (by decide) (by decide)
  rw [k1] at hg
  have HG := hid hg
  clear hg H1 H2
  go_wp2_with fail
  refine HG.out.mono ?_
  rintro e w2 ⟨rfl, q2, c2, hm2, f2, hq2⟩
  have HM2 := hid hm2
  have F2 := hid f2
  have HQ2 := hid hq2
  clear hm2 f2 hq2
  have hg := mgrow_any p q2 c2 l0 bA 1 w2 HM2.out (by rw [lA]; omega) (by rw [lA]; decide) (by decide) (by decide)
  rw [k2] at hg
  have HG2 := hid hg
  clear hg HG
  go_wp2_with fail
  refine HG2.out.mono ?_
  rintro e w3 ⟨rfl, q3, c3, hm3, f3, hq3⟩
  have HM3 := hid hm3
  have F3 := hid f3
  have HQ3 := hid hq3
  clear hm3 f3 hq3 HG2
  have FW3 := hid ((F.out.trans F2.out (fun i hi h => by have := HPP.out; have := HQQ.out; rcases h with h | h <;> omega)).trans F3.out (fun i hi h => by
    have h1 := HPP.out; have h2 := HQQ.out; have h3 := F.out.size; have h4 := HQ2.out; rcases h with h | h <;> omega))
  have hq3w : Hid (w.heap.size ≤ q3) := by
    have h1 := HPP.out; have h2 := HQQ.out; have h3 := F.out.size; have h4 := HQ2.out; have h5 := HQ3.out; have h6 := F2.out.size; rw [Hid]; omega
  have hs := mstore_any p q3 c3 l0 bA 54 0 0 258 w3 HM3.out (by rw [lA]; omega) (by decide) (by decide) (by decide)
  rw [k3] at hs
  have HS := hid hs
  clear hs HM HM2 F2 F3 HQ2 HQ3
  go_wp2_with fail
  refine HS.out.mono ?_
  rintro e w4 ⟨rfl, hm, f⟩
  have HM4 := hid hm
  have FW4 := hid (FW3.out.trans f (fun i hi h => by have := hq3w.out; simp only [One] at h; omega))
  clear hm f HS HM3
  have c4 : w4.cell? ⟨p, 3, none⟩ = some (.slice (some ⟨q3, 0, none⟩) bB.length c3) := HM4.out.hp.cell 3
  have hl := load_any p (some ⟨q3, 0, none⟩) c3 bB 45 1 0 _ w4 c4 HM4.out.hp.lt (own_els HM4.out).els (fun _ h => h) HM4.out.cap (by rw [lB]; omega) (by decide) (by decide)
  rw [k4] at hl
  have HL := hid hl
  clear hl c4
  go_wp2_with fail
  refine HL.out.mono ?_
  rintro e w5 ⟨rfl, f⟩
  have HM5 := hid ((HM4.out.frNo f).frNo ((Fr.refl No w5).alloc (.cells #[.int .u8 1, .int .u8 2, .int .u8 3, .int .u8 4] 5)))
  have FW5 := hid ((FW4.out.trans f (fun _ _ h => h)).alloc (.cells #[.int .u8 1, .int .u8 2, .int .u8 3, .int .u8 4] 5))
  have hlit : RmIn (w5.alloc (.cells #[.int .u8 1, .int .u8 2, .int .u8 3, .int .u8 4] 5)) (some ⟨w5.heap.size, 0, none⟩) 4 [1, 2, 3, 4] :=
    rmIn_of_row (row_bts (base := 0) (l := [1, 2, 3, 4]) (Blk.new w5 5 #[.int .u8 1, .int .u8 2, .int .u8 3, .int .u8 4]) (Nat.zero_le _) (by intro b hb; simp at hb; omega) (by decide))
  have hi := minit_any p q3 c3 l0 bB [1, 2, 3, 4] (some ⟨w5.heap.size, 0, none⟩) 4 0 0 4 _ HM5.out hlit.src (by rw [lB]; omega) (by decide) (by decide) (by decide) (by decide)
  rw [k5] at hi
  have HI := hid hi
  clear hi hlit f HL HM4 FW4
  go_wp2_with fail
  refine HI.out.mono ?_
  rintro e w6 ⟨rfl, hm, f⟩
  have HM6 := hid hm
  have FW6 := hid (FW5.out.trans f (fun i hi h => by have := hq3w.out; simp only [One] at h; omega))
  clear hm f HI HM5 FW5
  have hc := mcopy_any p q3 c3 p q3 c3 l0 l0 bC bC 1 0 3 w6 HM6.out HM6.out (by rw [lC]; omega) (by rw [lC]; omega) (by decide) (by decide) (by decide)
  rw [k6] at hc
  have HC := hid hc
  clear hc
  go_wp2_with fail
  refine HC.out.mono ?_
  rintro e w7 ⟨rfl, hm, f⟩
  have HM7 := hid hm
  have FW7 := hid (FW6.out.trans f (fun i hi h => by have := hq3w.out; simp only [One] at h; omega))
  clear hm f HC HM6 FW6
  have c7 : w7.cell? ⟨p, 3, none⟩ = some (.slice (some ⟨q3, 0, none⟩) bD.length c3) := HM7.out.hp.cell 3
  have HBY := hid (bytes_any p c3 (some ⟨q3, 0, none⟩) bD w7 c7 HM7.out.hp.lt (own_els HM7.out) (by rw [lD]; omega))
  clear c7
  go_wp2_with fail
  refine HBY.out.mono ?_
  rintro e w8 ⟨A, k, rfl, hrow, f⟩
  have HM8 := hid (HM7.out.frNo f)
  have FW8 := hid (FW7.out.trans f (fun _ _ h => h))
  have hrm := rmIn_of_row hrow
  have hcap := hrm.cap
  have hrd := hrm.rd.take_ 4
  rw [Ks_take, tD] at hrd
  have c8 : w8.cell? ⟨p, 3, none⟩ = some (.slice (some ⟨q3, 0, none⟩) 512 c3) := by have := HM8.out.hp.cell 3; rwa [lD] at this
  have HPG := hid (pages_any p (some ⟨q3, 0, none⟩) 512 c3 w8 c8 (by omega))
  rw [lD] at hcap ⊢
  obtain ⟨g, o, rfl⟩ : ∃ g o, A = some ⟨g, o, none⟩ := by
    cases A with
    | none => have := hrm.nil rfl; rw [bD] at this; cases this
    | some ad => obtain ⟨g, o, h⟩ := hrm.spot ad rfl; exact ⟨g, o, by rw [h]⟩
  have hcv : ∀ c' : Nat, (convert 26 9 (.slice (some ⟨g, o, none⟩) 4 c')).run Try.prog w8 = .ok (.string ⟨#[1, 1, 2, 3]⟩) w8 := fun (c' : Nat) => conv_bytes (P := Try.prog) (w := w8) (l := [1, 1, 2, 3]) 26 9 5 c' Try.underlying26 Try.underlying5 Try.underlying9 hrd
  clear hrow f hrm HBY HM7 FW7 hrd c8
  go_wp2_with fail
  refine HPG.out.mono ?_
  rintro e w' ⟨rfl, rfl⟩
  go_wp2
  go_ret
  exact ⟨rfl, FW8.out⟩
end Go.Proofs.Ytpmnijjfadhocaa
