/- Chapter 28: the law MemoryMakes. -/
import Derived.Test.YtpmnijjfadhocaaMmX
namespace Go.Proofs.Ytpmnijjfadhocaa
open Go.RowKit

theorem zeros_Bs (n : Nat) : List.replicate n (0 : Int) = Bs (List.replicate n 0) := by simp [Bs]
set_option maxRecDepth 100000 in
set_option maxHeartbeats 800000 in
theorem makes_t (l : Lim) (w : World) (hw : -9223372036854775808 ≤ l.min ∧ l.min ≤ 9223372036854775807) :
    Calls Try.prog 3 #[.agg #[.int .i64 l.min, .int .i64 l.max, .bool l.has]] w fun e w' => e = .returned (.bool true) ∧ Fr No w w' := by
  have F := hid ((Fr.refl No w).alloc (.cells #[.int .i64 l.min, .int .i64 l.max, .bool l.has] 23))
  have G := hid (Blk.new w 23 #[.int .i64 l.min, .int .i64 l.max, .bool l.has])
  have HN := hid (fun W => new_any l W)
  have HR := hid (fun W => rnew_any l W)
  unfold NewTo at HN
  unfold RnTo at HR
  have HB := hid (fun (h : validB l = true) => (of_decide_eq_true h : 0 ≤ l.min ∧ l.min ≤ 256 ∧ _))
  generalize validB l = vv at *
  cases vv with
  | false =>
    simp only [Bool.false_eq_true, if_false] at HN HR
    go_enter Try.func3, Try.ntmps3
    go_wp2_with fail
    refine (HN.out _).mono ?_
    rintro e w1 ⟨rfl, f⟩
    replace F := hid (F.out.trans f (fun _ _ h => h))
    replace G := hid (G.out.fr f (fun x => x))
    have y0 := G.out.cell 0
    have y1 := G.out.cell 1
    have y2 := G.out.cell 2
    clear f
    go_wp2_with fail
    refine (HR.out _).mono ?_
    rintro e w2 ⟨rfl, f⟩
    replace F := hid (F.out.trans f (fun _ _ h => h))
    clear f y0 y1 y2
    go_wp2_with fail
    refine (alive_any _).mono ?_
    rintro e w3 ⟨rfl, f⟩
    have FZ := hid (F.out.trans (((Fr.refl No w2).alloc (.cells #[.int .i64 0, .int .i64 0, .bool false, .slice none 0 0] 28)).trans f (fun _ _ h => h)) (fun _ _ h => h))
    clear f
    go_wp2
    go_ret
    exact ⟨rfl, FZ.out⟩
  | true =>
    simp only [if_true] at HN HR
    have hb := HB.out rfl
    obtain ⟨mn, hmn⟩ : ∃ mn : Nat, l.min = mn := ⟨l.min.toNat, by omega⟩
    have hto : l.min.toNat = mn := by omega
    have hmn2 : mn ≤ 256 := by omega
    rw [hto] at HN HR
    clear HB hb
    rw [hmn] at HN HR F G
    go_enter Try.func3, Try.ntmps3
    go_wp2_with fail
    refine (HN.out _).mono ?_
    rintro e w1 ⟨p, q, c, rfl, hm, _, _, f⟩
    replace F := hid (F.out.trans f (fun _ _ h => h))
    replace G := hid (G.out.fr f (fun x => x))
    have HM := hid hm
    have y0 := G.out.cell 0
    have y1 := G.out.cell 1
    have y2 := G.out.cell 2
    clear f hm
    go_wp2_with fail
    refine (HR.out _).mono ?_
    rintro e w2 ⟨A, ac, rfl, hr, f⟩
    replace F := hid (F.out.trans f (fun _ _ h => h))
    replace G := hid (G.out.fr f (fun x => x))
    replace HM := hid (HM.out.frNo f)
    have HRM := hid hr
    clear f hr y0 y1 y2 HN HR
    go_upto_region 5 with fail
    have HX : Hid (∀ X, Fr No (w2.alloc (.cells #[.int .i64 mn, .int .i64 l.max, .bool l.has, .slice A (mn * 256) ac] 28)) X → X.cell? ⟨w.heap.size, 0, none⟩ = some (.int .i64 mn) ∧ X.cell? ⟨w2.heap.size, 3, none⟩ = some (.slice A (mn * 256) ac) ∧ (convert 26 9 (.slice A (mn * 256) ac)).run Try.prog X = .ok (.string ⟨(List.replicate (mn * 256) (0 : UInt8)).toArray⟩) X) := fun X f => by
      refine ⟨((G.out.alloc _).fr f (fun x => x)).cell 0, ((Blk.new w2 _ _).fr f (fun x => x)).cell 3, ?_⟩
      have hr := ((HRM.out.fr ((Fr.refl No w2).alloc (.cells #[.int .i64 mn, .int .i64 l.max, .bool l.has, .slice A (mn * 256) ac] 28))).fr f).rd
      rw [zeros_Bs] at hr
      have := conv_bytes (P := Try.prog) (w := X) 26 9 5 ac Try.underlying26 Try.underlying5 Try.underlying9 hr
      rwa [List.length_replicate] at this
    replace F := hid (F.out.alloc (.cells #[.int .i64 mn, .int .i64 l.max, .bool l.has, .slice A (mn * 256) ac] 28))
    replace HM := hid (HM.out.frNo ((Fr.refl No w2).alloc (.cells #[.int .i64 mn, .int .i64 l.max, .bool l.has, .slice A (mn * 256) ac] 28)))
    generalize w2.alloc (.cells #[.int .i64 mn, .int .i64 l.max, .bool l.has, .slice A (mn * 256) ac] 28) = W at *
    clear G HRM
    have hc3 := fun X (f : Fr No W X) => (HM.out.frNo f).hp.cell 3
    simp only [List.length_replicate] at hc3
    have HPG := hid (fun X (f : Fr No W X) => pages_any p (some ⟨q, 0, none⟩) (mn * 256) c X (hc3 X f) (by omega))
    rw [show mn * 256 / 256 = mn by omega] at HPG
    have HBY := hid (fun X (f : Fr No W X) => bytes_any p c (some ⟨q, 0, none⟩) (List.replicate (mn * 256) 0) X ((HM.out.frNo f).hp.cell 3) (HM.out.frNo f).hp.lt (own_els (HM.out.frNo f)) (by rw [List.length_replicate]; omega))
    clear hc3
    refine wp_region_ort (Fr No W) (.rd 0 (.rd 1 (.rd 2 (.rd 3 (.rd 5 (.rd 6 (.eff 4 (.rd 7 (.rd 8 (.rd 9 (.rd 10 (.rd 13 (.rd 14 (.rd 15 (.eff 11 (.eff 12 (.rd 16 (.rd 17 (.rd 18 (.eff 19 (.rd 20 (.rd 21 .nil)))))))))))))))))))))) (by kernel_rfl) (by kernel_rfl) (by kernel_rfl) rfl ((Fr.refl No W).drew) ?_
    repeat (first
      | (refine wpT_skip rfl rfl ?_; simp only [List.getElem_toArray, List.getElem_cons_succ, List.getElem_cons_zero, Act.put, List.setIfInBounds_toArray, List.set_cons_zero, List.set_cons_succ])
      | (refine wpT_call rfl rfl ?_; simp only [List.getElem_toArray, List.getElem_cons_succ, List.getElem_cons_zero]; apply Exists.intro; refine ⟨fun X hX => ?_, ?_⟩
         · (obtain ⟨s0, s1, s2⟩ := HX.out X hX; go_simp; exact stillUpon_value)
         simp only [Act.put, List.setIfInBounds_toArray, List.set_cons_zero, List.set_cons_succ]))
    refine wpT_eff rfl rfl (fun K hK => ?_)
    simp only [List.getElem_toArray, List.getElem_cons_succ, List.getElem_cons_zero]
    go_simp
    refine (HPG.out _ (Fr.refl No W).drew).mono ?_
    rintro e w' ⟨rfl, rfl⟩
    refine hK _ _ ((Fr.refl No W).drew) ?_
    clear hK K
    repeat (first
      | (refine wpT_skip rfl rfl ?_; simp only [List.getElem_toArray, List.getElem_cons_succ, List.getElem_cons_zero, Act.put, List.setIfInBounds_toArray, List.set_cons_zero, List.set_cons_succ])
      | (refine wpT_call rfl rfl ?_; simp only [List.getElem_toArray, List.getElem_cons_succ, List.getElem_cons_zero]; apply Exists.intro; refine ⟨fun X hX => ?_, ?_⟩
         · (obtain ⟨s0, s1, s2⟩ := HX.out X hX; go_simp; exact stillUpon_value)
         simp only [Act.put, List.setIfInBounds_toArray, List.set_cons_zero, List.set_cons_succ]))
    refine wpT_eff rfl rfl (fun K hK => ?_)
    simp only [List.getElem_toArray, List.getElem_cons_succ, List.getElem_cons_zero]
    go_simp
    refine (HBY.out _ (Fr.refl No W).drew).mono ?_
    rintro e w4 ⟨A4, c4, rfl, hrow, f⟩
    have F4 := hid ((Fr.refl No W).drew.trans f (fun _ _ h => h))
    have hr4 := (rmIn_of_row hrow).rd
    rw [zeros_Bs] at hr4
    have hcv := conv_bytes (P := Try.prog) (w := w4) 26 9 5 c4 Try.underlying26 Try.underlying5 Try.underlying9 hr4
    rw [List.length_replicate] at hcv ⊢
    clear hrow f hr4
    refine hK _ _ (F4.out) ?_
    clear hK K
    refine wpT_eff rfl rfl (fun K hK => ?_)
    simp only [List.getElem_toArray, List.getElem_cons_succ, List.getElem_cons_zero]
    go_simp
    refine hK _ _ (F4.out) ?_
    clear hK K
    repeat (first
      | (refine wpT_skip rfl rfl ?_; simp only [List.getElem_toArray, List.getElem_cons_succ, List.getElem_cons_zero, Act.put, List.setIfInBounds_toArray, List.set_cons_zero, List.set_cons_succ])
      | (refine wpT_call rfl rfl ?_; simp only [List.getElem_toArray, List.getElem_cons_succ, List.getElem_cons_zero]; apply Exists.intro; refine ⟨fun X hX => ?_, ?_⟩
         · (obtain ⟨s0, s1, s2⟩ := HX.out X hX; go_simp; exact stillUpon_value)
         simp only [Act.put, List.setIfInBounds_toArray, List.set_cons_zero, List.set_cons_succ]))
    refine wpT_eff rfl rfl (fun K hK => ?_)
    simp only [List.getElem_toArray, List.getElem_cons_succ, List.getElem_cons_zero]
    go_simp
    refine (alive_any _).mono ?_
    rintro e w5 ⟨rfl, f⟩
    have F5 := hid (F4.out.trans f (fun _ _ h => h))
    clear f
    refine hK _ _ (F5.out) ?_
    clear hK K
    repeat (first
      | (refine wpT_skip rfl rfl ?_; simp only [List.getElem_toArray, List.getElem_cons_succ, List.getElem_cons_zero, Act.put, List.setIfInBounds_toArray, List.set_cons_zero, List.set_cons_succ])
      | (refine wpT_call rfl rfl ?_; simp only [List.getElem_toArray, List.getElem_cons_succ, List.getElem_cons_zero]; apply Exists.intro; refine ⟨fun X hX => ?_, ?_⟩
         · (obtain ⟨s0, s1, s2⟩ := HX.out X hX; go_simp; exact stillUpon_value)
         simp only [Act.put, List.setIfInBounds_toArray, List.set_cons_zero, List.set_cons_succ]))
    refine wpT_nil ?_
    go_wp2
    go_ret
    exact ⟨rfl, F.out.trans F5.out (fun _ _ h => h)⟩
theorem memoryMakes_walk (w : World) (v0 : Value) (x0 : Lim) (y0 : tLim.rd w (· < w.heap.size) v0.cells.toList x0) (_u0 : tLim.lw 140737488351232 x0) (hv0 : ∃ cs, v0 = .agg cs) :
    Calls Try.prog 3 #[v0] w fun e w' => e = .returned (.bool true) ∧ Below w.heap.size w w' := by
  obtain ⟨cs, rfl⟩ := hv0
  obtain ⟨hc, hm, _⟩ := Lim_cells y0
  have hcb : cs = #[.int .i64 x0.min, .int .i64 x0.max, .bool x0.has] := by
    have : cs.toList = _ := hc
    rw [← Array.toArray_toList (xs := cs), this]
  subst hcb
  exact (makes_t x0 w (wf_i64 hm)).mono fun e w' ⟨a, b⟩ => ⟨a, b.below⟩
end Go.Proofs.Ytpmnijjfadhocaa
