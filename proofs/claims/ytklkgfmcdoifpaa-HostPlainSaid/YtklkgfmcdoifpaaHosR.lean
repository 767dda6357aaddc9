/- The walks of HostRights and HostFinds. -/
import Derived.Test.YtklkgfmcdoifpaaHosQ
namespace Go.Proofs.Ytklkgfmcdoifpaa
open Go.RowKit

def hov (h : Ho) (A1 A2 A3 : Option Addr) (c1 c2 c3 : Nat) : Value := .agg #[.string h.mod, .string h.name, .slice A1 h.ty.params.length c1, .slice A2 h.ty.results.length c2, .slice A3 h.acts.length c3]
structure HoIn (w : World) (h : Ho) (A1 A2 A3 : Option Addr) (c1 c2 c3 : Nat) : Prop where
  p : (Ty.int .i64).els w w.heap.size A1 h.ty.params
  r : (Ty.int .i64).els w w.heap.size A2 h.ty.results
  a : tAc.els w w.heap.size A3 h.acts
  lp : h.ty.params.length ≤ 140737488351232
  lr : h.ty.results.length ≤ 140737488351232
  la : h.acts.length ≤ 140737488351232
  lm : h.mod.size ≤ 140737488351232
  ln : h.name.size ≤ 140737488351232
  lv : ∀ a ∈ h.acts, a.vals.length ≤ 140737488351232
theorem ho_in {w : World} {cs : List Value} {h : Ho} (hr : tHo.rd w w.heap.size cs h) (hl : tHo.le 140737488351232 h) : ∃ A1 A2 A3 c1 c2 c3, cs = [.string h.mod, .string h.name, .slice A1 h.ty.params.length c1, .slice A2 h.ty.results.length c2, .slice A3 h.acts.length c3] ∧ HoIn w h A1 A2 A3 c1 c2 c3 := by
  obtain ⟨A1, c1, A2, c2, A3, c3, rfl, _, _, _, _, p, _, _, r, _, _, a⟩ := ho_cells hr
  obtain ⟨l1, l2, ⟨⟨l3, _⟩, l4, _⟩, l5, l6⟩ := hl
  refine ⟨A1, A2, A3, c1, c2, c3, rfl, p, r, a, l3, l4, l5, l1, l2, fun x hx => (l6 x hx).2.1.1⟩
theorem HoIn.ok {w : World} {h : Ho} {A1 A2 A3 : Option Addr} {c1 c2 c3 : Nat} (i : HoIn w h A1 A2 A3 c1 c2 c3) (f : fewH h) : HoOk w w.heap.size h A1 A2 A3 := by
  obtain ⟨f1, f2, f3, f4, f5, f6⟩ := f
  refine ⟨i.p, i.r, i.a, f3, f4, f1, by omega, by omega, fun a ha => ?_⟩
  obtain ⟨k, hk, rfl⟩ := List.getElem_of_mem ha
  exact f2 k hk

set_option maxHeartbeats 3200000 in
theorem rights_t (h : Ho) (A1 A2 A3 : Option Addr) (c1 c2 c3 : Nat) (w : World) (hi : Hid (HoIn w h A1 A2 A3 c1 c2 c3)) :
    Calls Try.prog 3 #[.agg #[.string h.mod, .string h.name, .slice A1 h.ty.params.length c1, .slice A2 h.ty.results.length c2, .slice A3 h.acts.length c3]] w fun e w' => e = .returned (.bool true) ∧ Fr No w w' := by
  have F0 := hid ((Fr.refl No w).alloc (.cells #[.string h.mod, .string h.name, .slice A1 h.ty.params.length c1, .slice A2 h.ty.results.length c2, .slice A3 h.acts.length c3] 27))
  have HX : Hid (∀ X, Fr No (w.alloc (.cells #[.string h.mod, .string h.name, .slice A1 h.ty.params.length c1, .slice A2 h.ty.results.length c2, .slice A3 h.acts.length c3] 27)) X → X.cell? ⟨w.heap.size, 0, none⟩ = some (.string h.mod) ∧ X.cell? ⟨w.heap.size, 1, none⟩ = some (.string h.name) ∧ X.cell? ⟨w.heap.size, 2, none⟩ = some (.slice A1 h.ty.params.length c1) ∧ X.cell? ⟨w.heap.size, 3, none⟩ = some (.slice A2 h.ty.results.length c2) ∧ X.cell? ⟨w.heap.size, 4, none⟩ = some (.slice A3 h.acts.length c3)) := fun X f => five_box f
  go_enter Try.func3, Try.ntmps3
  go_wp2_with fail
  generalize w.alloc (.cells #[.string h.mod, .string h.name, .slice A1 h.ty.params.length c1, .slice A2 h.ty.results.length c2, .slice A3 h.acts.length c3] 27) = W at *
  refine (few_any h A1 A2 A3 c1 c2 c3 w.heap.size W F0.out.size (hi.out.a.fr (Nat.le_refl _) F0.out (fun _ _ x => x)) hi.out.la hi.out.lv hi.out.lp hi.out.lr hi.out.lm hi.out.ln).mono ?_
  rintro e w1 ⟨r, rfl, hf, f1⟩
  have F1 := hid f1
  have HF := hid hf
  clear f1 hf
  cases r with
  | false =>
    go_wp2_with fail
    refine (alive_any _).mono ?_
    rintro e w2 ⟨rfl, f2⟩
    go_wp2_with fail
    go_ret
    exact ⟨rfl, F0.out.trans (F1.out.trans f2 (fun _ _ h => h)) (fun _ _ h => h)⟩
  | true =>
    have OK := hid (hi.out.ok (HF.out rfl))
    clear HF
    obtain ⟨x0, x1, x2, x3, x4⟩ := HX.out _ F1.out
    go_wp2_with fail
    refine wp_region_ord (fun X => X.cell? ⟨w.heap.size, 0, none⟩ = some (.string h.mod) ∧ X.cell? ⟨w.heap.size, 1, none⟩ = some (.string h.name) ∧ X.cell? ⟨w.heap.size, 2, none⟩ = some (.slice A1 h.ty.params.length c1) ∧ X.cell? ⟨w.heap.size, 3, none⟩ = some (.slice A2 h.ty.results.length c2) ∧ X.cell? ⟨w.heap.size, 4, none⟩ = some (.slice A3 h.acts.length c3)) [] [(0, true), (2, true), (1, false), (3, false), (4, true), (5, true), (6, false), (7, true), (8, true)] (by kernel_rfl) (by kernel_rfl) (by kernel_rfl) rfl (HX.out _ F1.out.drew) ?_
    clear x0 x1 x2 x3 x4
    repeat (first
      | (refine wpO_skip rfl rfl ?_; simp only [List.getElem_toArray, List.getElem_cons_succ, List.getElem_cons_zero, Act.put, List.setIfInBounds_toArray, List.set_cons_zero, List.set_cons_succ])
      | (refine wpO_call rfl rfl ?_; simp only [List.getElem_toArray, List.getElem_cons_succ, List.getElem_cons_zero]; apply Exists.intro; refine ⟨fun X hX => ?_, ?_⟩
         · (obtain ⟨s0, s1, s2, s3, s4⟩ := hX; go_simp; exact stillUpon_value)
         simp only [Act.put, List.setIfInBounds_toArray, List.set_cons_zero, List.set_cons_succ]))
    refine wpO_eff rfl rfl (fun K hK => ?_)
    simp only [List.getElem_toArray, List.getElem_cons_succ, List.getElem_cons_zero]
    go_simp
    refine (hright_any h A1 A2 A3 c1 c2 c3 w.heap.size _ (Nat.le_trans F0.out.size F1.out.drew.size) (OK.out.fr (Nat.le_refl _) (F0.out.trans F1.out.drew (fun _ _ h => h)))).mono ?_
    rintro e w2 ⟨rfl, f2⟩
    have F2 := hid (F1.out.drew.trans f2 (fun _ _ h => h))
    clear f2
    refine hK _ _ (fun _ => HX.out _ F2.out) ?_
    clear hK K
    repeat (first
      | (refine wpO_skip rfl rfl ?_; simp only [List.getElem_toArray, List.getElem_cons_succ, List.getElem_cons_zero, Act.put, List.setIfInBounds_toArray, List.set_cons_zero, List.set_cons_succ])
      | (refine wpO_call rfl rfl ?_; simp only [List.getElem_toArray, List.getElem_cons_succ, List.getElem_cons_zero]; apply Exists.intro; refine ⟨fun X hX => ?_, ?_⟩
         · (obtain ⟨s0, s1, s2, s3, s4⟩ := hX; go_simp; exact stillUpon_value)
         simp only [Act.put, List.setIfInBounds_toArray, List.set_cons_zero, List.set_cons_succ]))
    refine wpO_eff rfl rfl (fun K hK => ?_)
    simp only [List.getElem_toArray, List.getElem_cons_succ, List.getElem_cons_zero]
    go_simp
    refine (rright_any h A1 A2 A3 c1 c2 c3 w.heap.size _ (Nat.le_trans F0.out.size F2.out.size) (OK.out.fr (Nat.le_refl _) (F0.out.trans F2.out (fun _ _ h => h)))).mono ?_
    rintro e w3 ⟨rfl, f3⟩
    have F3 := hid (F2.out.trans f3 (fun _ _ h => h))
    clear f3
    refine hK _ _ (fun _ => HX.out _ F3.out) ?_
    clear hK K
    generalize hoB h = hb at *
    repeat (first
      | (refine wpO_skip rfl rfl ?_; simp only [List.getElem_toArray, List.getElem_cons_succ, List.getElem_cons_zero, Act.put, List.setIfInBounds_toArray, List.set_cons_zero, List.set_cons_succ])
      | (refine wpO_call rfl rfl ?_; simp only [List.getElem_toArray, List.getElem_cons_succ, List.getElem_cons_zero]; apply Exists.intro; refine ⟨fun X hX => ?_, ?_⟩
         · (obtain ⟨s0, s1, s2, s3, s4⟩ := hX; go_simp; exact stillUpon_value)
         simp only [Act.put, List.setIfInBounds_toArray, List.set_cons_zero, List.set_cons_succ]))
    refine wpO_eff rfl rfl (fun K hK => ?_)
    simp only [List.getElem_toArray, List.getElem_cons_succ, List.getElem_cons_zero]
    go_simp
    refine (alive_any _).mono ?_
    rintro e w4 ⟨rfl, f4⟩
    have F4 := hid (F3.out.trans f4 (fun _ _ h => h))
    clear f4
    refine hK _ _ (fun _ => HX.out _ F4.out) ?_
    clear hK K
    repeat (first
      | (refine wpO_skip rfl rfl ?_; simp only [List.getElem_toArray, List.getElem_cons_succ, List.getElem_cons_zero, Act.put, List.setIfInBounds_toArray, List.set_cons_zero, List.set_cons_succ])
      | (refine wpO_call rfl rfl ?_; simp only [List.getElem_toArray, List.getElem_cons_succ, List.getElem_cons_zero]; apply Exists.intro; refine ⟨fun X hX => ?_, ?_⟩
         · (obtain ⟨s0, s1, s2, s3, s4⟩ := hX; go_simp; exact stillUpon_value)
         simp only [Act.put, List.setIfInBounds_toArray, List.set_cons_zero, List.set_cons_succ]))
    refine wpO_nil ?_
    go_wp2_with fail
    go_ret
    exact ⟨rfl, F0.out.trans F4.out (fun _ _ h => h)⟩
theorem hostRights_walk (w : World) (v0 : Value) (x0 : Ho) (y0 : tHo.rd w w.heap.size v0.cells.toList x0) (u0 : tHo.le 140737488351232 x0) (hv0 : ∃ cs, v0 = .agg cs) :
    Calls Try.prog 3 #[v0] w fun e w' => e = .returned (.bool true) ∧ Below w.heap.size w w' := by
  obtain ⟨cs, rfl⟩ := hv0
  obtain ⟨A1, A2, A3, c1, c2, c3, hcs, hi⟩ := ho_in y0 u0
  have hcs' : cs = #[.string x0.mod, .string x0.name, .slice A1 x0.ty.params.length c1, .slice A2 x0.ty.results.length c2, .slice A3 x0.acts.length c3] := by
    have : cs.toList = _ := hcs
    rw [← Array.toArray_toList (xs := cs), this]
  subst hcs'
  exact (rights_t x0 A1 A2 A3 c1 c2 c3 w hi).mono fun e w' ⟨h1, h2⟩ => ⟨h1, h2.below⟩

set_option maxHeartbeats 1600000 in
theorem finds_t (A : Option Addr) (l : List Ho) (n : Nat) (m nm : ByteArray) (c : Nat) (w : World) (hn : l.length = n) (hr : Hid (tHo.els w w.heap.size A l)) (hl : n ≤ 140737488351232) :
    Calls Try.prog 5 #[.slice A n c, .string m, .string nm] w fun e w' => e = .returned (.bool true) ∧ Fr No w w' := by
  have HN := hid hn
  clear hn
  by_cases h50 : 50 < n
  · go_enter Try.func5, Try.ntmps5
    go_wp2_with fail
    refine (alive_any _).mono ?_
    rintro e w2 ⟨rfl, f2⟩
    go_wp2_with fail
    go_ret
    exact ⟨rfl, f2⟩
  · have H1 := hid (fun w' (h : tHo.els w' w.heap.size A l) => find_any A l m nm c w.heap.size w' h (by have := HN.out; omega))
    have H2 := hid (fun w' (h : tHo.els w' w.heap.size A l) => rfind_any A l m nm c w.heap.size w' h (by have := HN.out; omega))
    rw [HN.out] at H1 H2
    go_enter Try.func5, Try.ntmps5
    go_wp2_with fail
    refine (H1.out _ hr.out).mono ?_
    rintro e w2 ⟨rfl, rfl⟩
    go_wp2_with fail
    refine (H2.out _ hr.out).mono ?_
    rintro e w2 ⟨rfl, rfl⟩
    generalize findFrom m nm l 0 = q at *
    go_wp2_with fail
    refine (alive_any _).mono ?_
    rintro e w2 ⟨rfl, f2⟩
    go_wp2_with fail
    go_ret
    exact ⟨rfl, f2⟩
theorem hostFinds_walk (w : World) (v0 v1 v2 : Value) (x0 : List Ho) (x1 x2 : ByteArray) (y0 : tHo.slice.rd w w.heap.size v0.cells.toList x0) (y1 : Ty.str.rd w w.heap.size v1.cells.toList x1) (y2 : Ty.str.rd w w.heap.size v2.cells.toList x2)
    (u0 : tHo.slice.le 140737488351232 x0) (u1 : Ty.str.le 140737488351232 x1) (u2 : Ty.str.le 140737488351232 x2) (hv0 : ∃ A l c, v0 = .slice A l c) (hv1 : ∃ s, v1 = .string s) (hv2 : ∃ s, v2 = .string s) :
    Calls Try.prog 5 #[v0, v1, v2] w fun e w' => e = .returned (.bool true) ∧ Below w.heap.size w w' := by
  obtain ⟨A, n, c, rfl⟩ := hv0
  obtain ⟨s1, rfl⟩ := hv1
  obtain ⟨s2, rfl⟩ := hv2
  obtain ⟨A', c', h1, _, _, h4⟩ := y0
  simp only [Value.cells, List.cons.injEq, Value.slice.injEq, and_true] at h1
  obtain ⟨rfl, hn, rfl⟩ := h1
  exact (finds_t A x0 n s1 s2 c w hn.symm h4 (by rw [hn]; exact u0.1)).mono fun e w' ⟨h1, h2⟩ => ⟨h1, h2.below⟩
end Go.Proofs.Ytklkgfmcdoifpaa
