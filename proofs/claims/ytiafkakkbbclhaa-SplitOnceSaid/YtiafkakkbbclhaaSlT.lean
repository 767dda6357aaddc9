/- Chapter 46: alive. -/
import Derived.Test.YtiafkakkbbclhaaSlS
namespace Go.Proofs.Ytiafkakkbbclhaa
open Go.RowKit

theorem bothF_FL : FL bothF := by
  refine ⟨by decide, by decide, by decide, by decide, by decide, ?_, ?_, ?_, ?_, ?_⟩ <;> simp [bothF, bothB]
set_option maxRecDepth 100000 in
set_option maxHeartbeats 1600000 in
theorem alive_any (w : World) : Calls Try.prog 7 #[] w fun e w' => e = .returned (.bool true) ∧ Fr No w w' := by
  go_enter Try.func7, Try.ntmps7
  go_wp2_with fail
  refine (both_any _).mono ?_
  rintro e w1 ⟨V, B, rfl, eV, eB, f⟩
  have F1 := hid f
  have HV := hid eV
  have HB := hid eB
  clear f eV eB
  go_wp2_with fail
  refine (func_any none none V B 0 0 1 2 0 0 1 2 bothF (fun k => w.heap.size ≤ k ∧ k < w1.heap.size) w1 (.inl rfl) (.inl rfl) HV.out HB.out (fun k hk => hk.2) rfl rfl rfl rfl bothF_FL).mono ?_
  rintro e w2 ⟨AP, cP, AR, cR, AV, cV, AB, cB, rs, rfl, _, _, _, hcb, f⟩
  have es : splitB bothF.blocks = [⟨[], [⟨1, 0, 0, 0, 0, [], [0]⟩], ⟨1, 0, [], [⟨2, []⟩, ⟨3, []⟩], 0⟩⟩, ⟨[], [], ⟨3, 0, [], [], 0⟩⟩, jmp ⟨1, []⟩, jmp ⟨1, []⟩] := both_split
  have e1 : bothF.type.params.length = 0 := rfl
  have e2 : bothF.type.results.length = 0 := rfl
  have e3 : bothF.vals.length = 1 := rfl
  have e4 : (splitB bothF.blocks).length = 4 := by rw [es]; rfl
  rw [e4, es] at hcb
  rw [e1, e2, e3, e4]
  clear es e1 e2 e3 e4
  have F2 := hid (F1.out.trans f (fun _ _ h => h))
  have HC := hid hcb
  clear f hcb
  have FA := hid ((Fr.refl No w2).alloc (.cells #[.slice AP 0 cP, .slice AR 0 cR, .slice AV 1 cV, .slice AB 4 cB] 27))
  have GV := hid (Blk.new w2 27 #[.slice AP 0 cP, .slice AR 0 cR, .slice AV 1 cV, .slice AB 4 cB])
  go_wp2_with fail
  refine (both_any _).mono ?_
  rintro e w3 ⟨V2, B2, rfl, _, eB2, f⟩
  have F3 := hid (FA.out.trans f (fun _ _ h => h))
  have G3 := hid (GV.out.fr f (fun x => x))
  have HB2 := hid eB2
  clear f eB2 FA GV
  go_wp2_with fail
  refine (crit_any none none V2 B2 0 0 1 2 0 0 1 2 bothB _ w3 HB2.out (fun k hk => hk.2) rfl (by decide) (by decide)).mono ?_
  rintro e w4 ⟨AC, cC, rfl, _, f⟩
  have ec : (crit (tosOf bothB)).length = 2 := by rw [both_crit]; rfl
  rw [ec]
  have F4 := hid (F3.out.trans f (fun _ _ h => h))
  have G4 := hid (G3.out.fr f (fun x => x))
  have y3 := G4.out.cell 3
  have hels := (HC.out.frNo F4.out).els
  obtain ⟨b, o, _, _, _, _, _, _, A3, c3, rfl, _, _, _, _, _, _, y5, _, _, _, _, _, _, _, _, _, _, _, _, _, _, he0, _⟩ := Sb_at hels 0 (by decide)
  obtain ⟨b2, o2, _, _, _, _, _, _, A4, c4, hb2, _, _, _, _, _, _, y6, _, _, _, _, _, _, _, _, _, _, _, _, _, _, he3, _⟩ := Sb_at hels 3 (by decide)
  injection hb2 with hb2
  injection hb2 with hb3 hb4 _
  subst hb3 hb4
  obtain ⟨g0, p0, _, _, rfl, _, z0, _⟩ := Ed_at he0 1 (by decide)
  obtain ⟨g3, p3, _, _, rfl, _, z3, _⟩ := Ed_at he3 0 (by decide)
  have u5 : w4.cell? ⟨b, o + 5, none⟩ = some (.slice (some ⟨g0, p0, none⟩) 2 c3) := by simpa using y5
  have u6 : w4.cell? ⟨b, o + 26, none⟩ = some (.slice (some ⟨g3, p3, none⟩) 1 c4) := by simpa [jmp] using y6
  have v0 : w4.cell? ⟨g0, p0 + 2, none⟩ = some (.int .i64 3) := by simpa using z0
  have v3 : w4.cell? ⟨g3, p3, none⟩ = some (.int .i64 1) := by simpa [jmp] using z3
  clear y5 y6 z0 z3 he0 he3 hels f ec
  go_wp2_with fail
  go_ret
  exact ⟨rfl, F2.out.trans F4.out (fun _ _ h => h)⟩
end Go.Proofs.Ytiafkakkbbclhaa
