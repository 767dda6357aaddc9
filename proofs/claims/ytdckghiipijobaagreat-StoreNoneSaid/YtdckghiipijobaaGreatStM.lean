/- Contracts: AddElem, AddData, AddGlobal, AddMem. -/
import Derived.Test.YtdckghiipijobaaGreatStL
namespace Go.Proofs.YtdckghiipijobaaGreat
open Go.RowKit

theorem new_sd {w w1 : World} {R : Nat → Prop} (hR : ∀ k, R k → k < w.heap.size) {k : Nat} (h : Nw w w1 k) : Sd w1 R k := ⟨h.2, fun r => by have := hR k r; have := h.1; omega⟩
section
variable {w : World} {R : Nat → Prop} {V : Pl} {x : Rx}
set_option maxRecDepth 100000 in
set_option maxHeartbeats 1600000 in
theorem addElem_any (h : StIn w R V x) (A : Option Addr) (c : Nat) (refs : List Int) (S : Nat → Prop) (hr : tU.els w S A refs) (hS : ∀ k, S k → k < w.heap.size) (hl : refs.length * 8 ≤ 140737488351232) (hn : x.elems.length ≤ 1000000) :
    Calls Tryz.prog 21 #[.pointer (some ⟨V.P, 0, none⟩), .slice A refs.length c] w (GrTo R V (.int .i64 x.elems.length) { x with elems := x.elems ++ [⟨refs, false⟩] } w) := by
  have H := hid h
  have HC := hid (cloneU_any A c refs S w.drew hr hS hl)
  clear h hr hS hl
  go_enter Tryz.func21, Tryz.ntmps21
  go_wp2_with fail
  refine wp_region_ord (fun _ => True) [] [(0, true), (1, true), (2, true), (3, true), (4, false), (5, true), (6, false), (7, true)] (by kernel_rfl) (by kernel_rfl) (by kernel_rfl) rfl trivial ?_
  repeat (first
    | (refine wpO_skip rfl rfl ?_; simp only [List.getElem_toArray, List.getElem_cons_succ, List.getElem_cons_zero, Act.put, List.setIfInBounds_toArray, List.set_cons_zero, List.set_cons_succ])
    | (refine wpO_call rfl rfl ?_; simp only [List.getElem_toArray, List.getElem_cons_succ, List.getElem_cons_zero]; apply Exists.intro; refine ⟨fun X hX => ?_, ?_⟩
       · (go_simp; exact stillUpon_value)
       simp only [Act.put, List.setIfInBounds_toArray, List.set_cons_zero, List.set_cons_succ]))
  refine wpO_eff rfl rfl (fun K hK => ?_)
  simp only [List.getElem_toArray, List.getElem_cons_succ, List.getElem_cons_zero]
  go_simp
  refine HC.out.mono ?_
  rintro e w1 ⟨A1, c1, rfl, hr1, f1⟩
  have F1 : Hid (Fr No w w1) := (Fr.refl No w).drew.trans f1 (fun _ _ h => h)
  obtain ⟨p1, p2, p3⟩ := fresh_els (w := w) hr1 (Nat.le_refl _) (Fr.refl No w1) (fun _ _ _ x => x)
  have K1 := hid (H.out.frNo F1.out)
  have RX := hid (Rs_mk (a := ⟨refs, false⟩) p1 p2 (p3.more (fun k hk => new_sd H.out.low hk)))
  clear f1 hr1 p1 p2 p3
  refine hK _ _ (fun _ => trivial) ?_
  clear hK K
  repeat (first
    | (refine wpO_skip rfl rfl ?_; simp only [List.getElem_toArray, List.getElem_cons_succ, List.getElem_cons_zero, Act.put, List.setIfInBounds_toArray, List.set_cons_zero, List.set_cons_succ])
    | (refine wpO_call rfl rfl ?_; simp only [List.getElem_toArray, List.getElem_cons_succ, List.getElem_cons_zero]; apply Exists.intro; refine ⟨fun X hX => ?_, ?_⟩
       · (go_simp; exact stillUpon_value)
       simp only [Act.put, List.setIfInBounds_toArray, List.set_cons_zero, List.set_cons_succ]))
  refine wpO_eff rfl rfl (fun K hK => ?_)
  simp only [List.getElem_toArray, List.getElem_cons_succ, List.getElem_cons_zero]
  go_simp
  refine (addGs_any V.P 7 (Sd w1 R) V.el x.elems [.slice A1 refs.length c1, .bool false] ⟨refs, false⟩ w1 (K1.out.addIn_el RX.out hn)).mono ?_
  intro e w2 ha
  obtain ⟨V', R', rfl, h2, h3⟩ := K1.out.added_el ha
  refine hK _ _ (fun _ => trivial) ?_
  clear hK K
  repeat (first
    | (refine wpO_skip rfl rfl ?_; simp only [List.getElem_toArray, List.getElem_cons_succ, List.getElem_cons_zero, Act.put, List.setIfInBounds_toArray, List.set_cons_zero, List.set_cons_succ])
    | (refine wpO_call rfl rfl ?_; simp only [List.getElem_toArray, List.getElem_cons_succ, List.getElem_cons_zero]; apply Exists.intro; refine ⟨fun X hX => ?_, ?_⟩
       · (go_simp; exact stillUpon_value)
       simp only [Act.put, List.setIfInBounds_toArray, List.set_cons_zero, List.set_cons_succ]))
  refine wpO_nil ?_
  go_wp2
  go_ret
  exact ⟨V', R', rfl, h2, (Grown.of_no F1.out).trans h3⟩
set_option maxRecDepth 100000 in
set_option maxHeartbeats 1600000 in
theorem addData_any (h : StIn w R V x) (A : Option Addr) (c : Nat) (bs : List Int) (S : Nat → Prop) (hr : tB.els w S A bs) (hS : ∀ k, S k → k < w.heap.size) (hl : bs.length * 1 ≤ 140737488351232) (hn : x.datas.length ≤ 1000000) :
    Calls Tryz.prog 22 #[.pointer (some ⟨V.P, 0, none⟩), .slice A bs.length c] w (GrTo R V (.int .i64 x.datas.length) { x with datas := x.datas ++ [⟨bs, false⟩] } w) := by
  have H := hid h
  have HC := hid (cloneB_any A c bs S w.drew hr hS hl)
  clear h hr hS hl
  go_enter Tryz.func22, Tryz.ntmps22
  go_wp2_with fail
  refine wp_region_ord (fun _ => True) [] [(0, true), (1, true), (2, true), (3, true), (4, false), (5, true), (6, false), (7, true)] (by kernel_rfl) (by kernel_rfl) (by kernel_rfl) rfl trivial ?_
  repeat (first
    | (refine wpO_skip rfl rfl ?_; simp only [List.getElem_toArray, List.getElem_cons_succ, List.getElem_cons_zero, Act.put, List.setIfInBounds_toArray, List.set_cons_zero, List.set_cons_succ])
    | (refine wpO_call rfl rfl ?_; simp only [List.getElem_toArray, List.getElem_cons_succ, List.getElem_cons_zero]; apply Exists.intro; refine ⟨fun X hX => ?_, ?_⟩
       · (go_simp; exact stillUpon_value)
       simp only [Act.put, List.setIfInBounds_toArray, List.set_cons_zero, List.set_cons_succ]))
  refine wpO_eff rfl rfl (fun K hK => ?_)
  simp only [List.getElem_toArray, List.getElem_cons_succ, List.getElem_cons_zero]
  go_simp
  refine HC.out.mono ?_
  rintro e w1 ⟨A1, c1, rfl, hr1, f1⟩
  have F1 : Hid (Fr No w w1) := (Fr.refl No w).drew.trans f1 (fun _ _ h => h)
  obtain ⟨p1, p2, p3⟩ := fresh_els (w := w) hr1 (Nat.le_refl _) (Fr.refl No w1) (fun _ _ _ x => x)
  have K1 := hid (H.out.frNo F1.out)
  have RX := hid (Rb_mk (a := ⟨bs, false⟩) p1 p2 (p3.more (fun k hk => new_sd H.out.low hk)))
  clear f1 hr1 p1 p2 p3
  refine hK _ _ (fun _ => trivial) ?_
  clear hK K
  repeat (first
    | (refine wpO_skip rfl rfl ?_; simp only [List.getElem_toArray, List.getElem_cons_succ, List.getElem_cons_zero, Act.put, List.setIfInBounds_toArray, List.set_cons_zero, List.set_cons_succ])
    | (refine wpO_call rfl rfl ?_; simp only [List.getElem_toArray, List.getElem_cons_succ, List.getElem_cons_zero]; apply Exists.intro; refine ⟨fun X hX => ?_, ?_⟩
       · (go_simp; exact stillUpon_value)
       simp only [Act.put, List.setIfInBounds_toArray, List.set_cons_zero, List.set_cons_succ]))
  refine wpO_eff rfl rfl (fun K hK => ?_)
  simp only [List.getElem_toArray, List.getElem_cons_succ, List.getElem_cons_zero]
  go_simp
  refine (addGb_any V.P 8 (Sd w1 R) V.da x.datas [.slice A1 bs.length c1, .bool false] ⟨bs, false⟩ w1 (K1.out.addIn_da RX.out hn)).mono ?_
  intro e w2 ha
  obtain ⟨V', R', rfl, h2, h3⟩ := K1.out.added_da ha
  refine hK _ _ (fun _ => trivial) ?_
  clear hK K
  repeat (first
    | (refine wpO_skip rfl rfl ?_; simp only [List.getElem_toArray, List.getElem_cons_succ, List.getElem_cons_zero, Act.put, List.setIfInBounds_toArray, List.set_cons_zero, List.set_cons_succ])
    | (refine wpO_call rfl rfl ?_; simp only [List.getElem_toArray, List.getElem_cons_succ, List.getElem_cons_zero]; apply Exists.intro; refine ⟨fun X hX => ?_, ?_⟩
       · (go_simp; exact stillUpon_value)
       simp only [Act.put, List.setIfInBounds_toArray, List.set_cons_zero, List.set_cons_succ]))
  refine wpO_nil ?_
  go_wp2
  go_ret
  exact ⟨V', R', rfl, h2, (Grown.of_no F1.out).trans h3⟩
end
end Go.Proofs.YtdckghiipijobaaGreat
