/- Contracts: alive. -/
import Derived.Test.YtfngopoaegofhaaSpR
namespace Go.Proofs.Ytfngopoaegofhaa
open Go.RowKit

theorem of2_types : (SpV.of md2).types = [⟨[], []⟩, ⟨[2], []⟩] := rfl
theorem of2_funcs : (SpV.of md2).funcs = [0, 1] := rfl
theorem of2_func : funcD (SpV.of md2) 1 = (⟨[2], []⟩, true) := rfl
theorem of2_block : blkD (SpV.of md2).types ⟨1, 1, 0⟩ = (⟨[], [1]⟩, true) := rfl
theorem of2_imp : (SpV.of md2).imp 0 = 1 := rfl
theorem of2_dec1 : declB (SpV.of md2) 1 = true := rfl
theorem of2_dec0 : declB (SpV.of md2) 0 = false := rfl
set_option maxRecDepth 100000 in
set_option maxHeartbeats 3200000 in
theorem alive_any (w : World) : Calls Try.prog 10 #[] w fun e w' => e = .returned (.bool true) ∧ Fr No w w' := by
  go_enter Try.func10, Try.ntmps10
  go_wp2_with fail
  refine (two_any _).mono ?_
  rintro e w1 ⟨At, Ai, Af, Ae, rfl, hin, f1⟩
  have F1 := hid f1
  have HOF := hid (of_any w1 md2 2 1 1 0 0 0 1 0 0 0 At Ai Af none none none Ae none none none 2 1 1 0 0 0 1 0 0 0 hin rfl rfl rfl rfl rfl rfl rfl rfl rfl (by omega) (by omega) (by omega) (by omega) (by omega) (by omega) (by omega) (by omega) (by omega))
  clear hin f1
  go_wp2_with fail
  refine HOF.out.mono ?_
  clear HOF
  rintro e w2 ⟨p, gx, gs, bi, bd, nI, nD, ST, v0, v1, v2, v3, v4, v5, rfl, hb, hs, f2⟩
  have F2 := hid (F1.out.trans f2 (fun _ _ h => h))
  have HP := hid (SpP.mk hb hs)
  have HLP : ∀ f ∈ (SpV.of md2).types, f.params.length * 8 ≤ 140737488351232 ∧ f.results.length * 8 ≤ 140737488351232 := by
    rw [of2_types]; intro f hf
    simp only [List.mem_cons, List.not_mem_nil, or_false] at hf
    rcases hf with rfl | rfl <;> decide
  have HLPH := hid HLP
  have hfn := mFunc_any _ w2 p gx gs bi bd ST nI nD v0 v1 v2 v3 v4 v5 (SpV.of md2) 1 (by rw [of2_types]; decide) (by rw [of2_funcs]; decide) HLP HP.out
  rw [of2_func] at hfn
  have HFn := hid hfn
  clear hfn hb hs f2 HLP
  go_wp2_with fail
  refine HFn.out.mono ?_
  clear HFn
  rintro e w3 ⟨A1, c1, A2, c2, rfl, hn1, f3⟩
  simp only [List.length_cons, List.length_nil, Nat.zero_add]
  have F3 := hid (F2.out.trans f3 (fun _ _ h => h))
  have HN1 := hid hn1
  have HP3 := hid ((HP.out.frNo f3).frNo ((Fr.refl No w3).alloc (.cells #[.slice A1 1 c1, .slice A2 0 c2] 38)))
  have hbl := mBlock_any _ _ p gx gs bi bd ST nI nD v0 v1 v2 v3 v4 v5 (SpV.of md2) ⟨1, 1, 0⟩ (by rw [of2_types]; decide) HLPH.out (by decide) HP3.out
  rw [of2_block] at hbl
  have HBl := hid hbl
  clear hbl hn1 f3 HP
  go_wp2_with fail
  refine HBl.out.mono ?_
  clear HBl
  rintro e w4 ⟨B1, d1, B2, d2, rfl, hn2, f4⟩
  simp only [List.length_cons, List.length_nil, Nat.zero_add]
  have F4 := hid ((F3.out.alloc (.cells #[.slice A1 1 c1, .slice A2 0 c2] 38)).trans f4 (fun _ _ h => h))
  have FW := hid (((Fr.refl No w3).alloc (.cells #[.slice A1 1 c1, .slice A2 0 c2] 38)).trans (f4.alloc (.cells #[.slice B1 0 d1, .slice B2 1 d2] 38)) (fun _ _ h => h))
  have HP4 := hid ((HP3.out.frNo f4).frNo ((Fr.refl No w4).alloc (.cells #[.slice B1 0 d1, .slice B2 1 d2] 38)))
  have G1 := hid (((Blk.new w3 38 #[.slice A1 1 c1, .slice A2 0 c2]).fr f4 (fun x => x)).alloc (.cells #[.slice B1 0 d1, .slice B2 1 d2] 38))
  have G2 := hid (Blk.new w4 38 #[.slice B1 0 d1, .slice B2 1 d2])
  have F5 := hid (F4.out.alloc (.cells #[.slice B1 0 d1, .slice B2 1 d2] 38))
  clear hn2 f4 HP3 F3 F4 F2 F1
  have hrd : tI.els w3 (· < w3.heap.size) A1 [2] := HN1.out.p.els' (fun _ h => h.elim) (fun g hg => by obtain ⟨_, _, hb⟩ := HN1.out.p.own hg; exact hb.lt)
  obtain ⟨bb, oo, rfl, hbb, y0, _⟩ := ints_at hrd 0 (by decide)
  have HY := hid ((FW.out.cell (p := ⟨bb, oo + 0, none⟩) hbb (fun x => x)).trans y0)
  clear y0 hrd hbb HN1 FW
  go_wp2_with fail
  generalize w4.alloc (.cells #[.slice B1 0 d1, .slice B2 1 d2] 38) = W5 at *
  have n1 := hid (nFuncs_any _ W5 p gx gs bi bd ST nI nD v0 v1 v2 v3 v4 v5 (SpV.of md2) HP4.out)
  have n2 := hid (nTypes_any _ W5 p gx gs bi bd ST nI nD v0 v1 v2 v3 v4 v5 (SpV.of md2) HP4.out)
  have n3 := hid (imported_any _ W5 p gx gs bi bd ST nI nD v0 v1 v2 v3 v4 v5 (SpV.of md2) 0 (by decide) HP4.out)
  have n4 := hid (declared_any _ W5 p gx gs bi bd ST nI nD v0 v1 v2 v3 v4 v5 (SpV.of md2) 1 (by decide) HP4.out)
  have n5 := hid (declared_any _ W5 p gx gs bi bd ST nI nD v0 v1 v2 v3 v4 v5 (SpV.of md2) 0 (by decide) HP4.out)
  rw [of2_funcs] at n1
  rw [of2_types] at n2
  rw [of2_imp] at n3
  rw [of2_dec1] at n4
  rw [of2_dec0] at n5
  simp only [List.length_cons, List.length_nil, Nat.zero_add, Nat.reduceAdd] at n1 n2
  have y0 : W5.cell? ⟨bb, oo, none⟩ = some (.int .i64 2) := HY.out
  have y1 : W5.cell? ⟨w3.heap.size, 0, none⟩ = some (.slice (some ⟨bb, oo, none⟩) 1 c1) := G1.out.cell 0
  have y2 : W5.cell? ⟨w4.heap.size, 1, none⟩ = some (.slice B2 1 d2) := G2.out.cell 1
  clear HY HP4 HLPH
  refine n1.out.mono ?_
  rintro e w' ⟨rfl, rfl⟩
  go_wp2_with fail
  refine n3.out.mono ?_
  rintro e w' ⟨rfl, rfl⟩
  go_wp2_with fail
  refine n2.out.mono ?_
  rintro e w' ⟨rfl, rfl⟩
  go_wp2_with fail
  refine n4.out.mono ?_
  rintro e w' ⟨rfl, rfl⟩
  go_wp2_with fail
  refine n5.out.mono ?_
  rintro e w' ⟨rfl, rfl⟩
  go_wp2
  go_ret
  exact ⟨rfl, F5.out⟩
end Go.Proofs.Ytfngopoaegofhaa
