/- Chapter 46: the law SplitTells. -/
import Derived.Test.YtiafkakkbbclhaaSmC
namespace Go.Proofs.Ytiafkakkbbclhaa
open Go.RowKit

def FInTo (y : Sf) (np nr nv ng : Nat) (w : World) (e : Ending) (w' : World) : Prop :=
  ∃ (P R V B : Option Addr) (pc rc vc bc : Nat), e = .returned (.agg #[.slice P np pc, .slice R nr rc, .slice V nv vc, .slice B ng bc]) ∧ FIn w' (· < w'.heap.size) y P R V B ∧ Fr No w w'
theorem toEls {w : World} {base : Nat} {e : TypeId} {A : Option Addr} {n c : Nat} {l : List Int} (h : tI.row w base Emp e (.slice A n c) l) : tI.els w (· < w.heap.size) A l :=
  Ty.row.els' h (fun k hk => hk.elim) (fun g hg => by obtain ⟨_, cs, hb⟩ := h.own hg; exact hb.lt)
theorem func_in (P R V B : Option Addr) (np nr nv nb ng pc rc vc bc : Nat) (x : Sf) (S : Nat → Prop) (w : World) (h : FIn w S x P R V B) (ep : Hid (x.type.params.length = np)) (er : Hid (x.type.results.length = nr)) (ev : Hid (x.vals.length = nv)) (eb : Hid (x.blocks.length = nb)) (eg : Hid ((splitB x.blocks).length = ng)) (hl : Hid (FL x)) :
    Calls Try.prog 12 #[.agg #[.slice P np pc, .slice R nr rc, .slice V nv vc, .slice B nb bc]] w (FInTo (splitF x) np nr nv ng w) := by
  refine (func_any P R V B np nr nv nb pc rc vc bc x S w h.p h.r h.v h.b h.lt ep er ev eb hl).mono ?_
  rintro e w' ⟨AP, cP, AR, cR, AV, cV, AB, cB, rs, he, h1, h2, h3, hcb, f⟩
  refine ⟨AP, AR, AV, AB, cP, cR, cV, cB, by rw [he, ep.out, er.out, ev.out, eg.out], ⟨toEls h1, toEls h2, toEls h3, hcb.els.more (fun k hk => hk.2), fun _ h => h⟩, f⟩
theorem rfunc_in (P R V B : Option Addr) (np nr nv nb ng pc rc vc bc : Nat) (x : Sf) (S : Nat → Prop) (w : World) (h : FIn w S x P R V B) (eb : Hid (x.blocks.length = nb)) (eg : Hid ((splitB x.blocks).length = ng)) (hl : Hid (FL x)) :
    Calls Try.prog 13 #[.agg #[.slice P np pc, .slice R nr rc, .slice V nv vc, .slice B nb bc]] w (FInTo (splitF x) np nr nv ng w) := by
  refine (rfunc_any P R V B np nr nv nb pc rc vc bc x S w h.b h.lt eb hl).mono ?_
  rintro e w' ⟨A, c, he, h1, f⟩
  rw [← splitB_ref] at h1 he
  have hS : ∀ k, S k → k < w'.heap.size := fun k hk => Nat.lt_of_lt_of_le (h.lt k hk) f.size
  exact ⟨P, R, V, A, pc, rc, vc, c, by rw [he, eg.out], ⟨(h.fr f).p.more hS, (h.fr f).r.more hS, (h.fr f).v.more hS, h1, fun _ h => h⟩, f⟩
set_option maxRecDepth 100000 in
set_option maxHeartbeats 6400000 in
theorem tells_t (P R V B : Option Addr) (np nr nv nb pc rc vc bc : Nat) (x : Sf) (w : World) (h : FIn w (· < w.heap.size) x P R V B)
    (ep : Hid (x.type.params.length = np)) (er : Hid (x.type.results.length = nr)) (ev : Hid (x.vals.length = nv)) (eb : Hid (x.blocks.length = nb)) (u : tSf.lw 140737488351232 x) :
    Calls Try.prog 3 #[.agg #[.slice P np pc, .slice R nr rc, .slice V nv vc, .slice B nb bc]] w fun e w' => e = .returned (.bool true) ∧ Fr No w w' := by
  have F0 := hid ((Fr.refl No w).alloc (.cells #[.slice P np pc, .slice R nr rc, .slice V nv vc, .slice B nb bc] 27))
  have G0 := hid (Blk.new w 27 #[.slice P np pc, .slice R nr rc, .slice V nv vc, .slice B nb bc])
  have HF0 := hid (h.fr F0.out)
  have HFEW := hid (few_any P R V B np nr nv nb pc rc vc bc x (· < w.heap.size) (w.alloc (.cells #[.slice P np pc, .slice R nr rc, .slice V nv vc, .slice B nb bc] 27)) HF0.out.b HF0.out.lt (few_le u) eb ev)
  have HFL := hid (fun s : Small x => fl_of u s)
  have HFS := hid (fun s : Small x => fl_split (fl_of u s) s)
  clear h u
  go_enter Try.func3, Try.ntmps3
  go_wp2_with fail
  refine HFEW.out.mono ?_
  clear HFEW
  rintro e w1 ⟨⟨r, rfl, hs⟩, f⟩
  have F1 := hid (F0.out.trans f (fun _ _ h => h))
  have G1 := hid (G0.out.fr f (fun x => x))
  have HF1 := hid (HF0.out.fr f)
  have HS := hid hs
  clear f hs F0 G0 HF0
  have q0 := G1.out.cell 0
  have q1 := G1.out.cell 1
  have q2 := G1.out.cell 2
  have q3 := G1.out.cell 3
  cases r with
  | false =>
    go_wp2_with fail
    refine (alive_any _).mono ?_
    rintro e w2 ⟨rfl, f⟩
    have F2 := hid (F1.out.trans f (fun _ _ h => h))
    clear f q0 q1 q2 q3
    go_wp2
    go_ret
    exact ⟨rfl, F2.out⟩
  | true =>
    have hl := hid (HFL.out (HS.out rfl))
    have hl2 := hid (HFS.out (HS.out rfl))
    clear HFL HFS HS
    have HNB := hid hl.out.nb
    have HTT := hid hl.out.t
    obtain ⟨nc, hnc⟩ : ∃ n, (crit (tosOf x.blocks)).length = n := ⟨_, rfl⟩
    have HNC := hid hnc
    have hcl : nc ≤ 100000 := by rw [← hnc]; exact Nat.le_trans (critR_tot _ _) hl.out.t
    clear hnc
    obtain ⟨ng, hng⟩ : ∃ n, (splitB x.blocks).length = n := ⟨_, rfl⟩
    have HNG := hid hng
    clear hng
    have HX : Hid (∀ X, Fr No w1 X → X.cell? ⟨w.heap.size, 0, none⟩ = some (.slice P np pc) ∧ X.cell? ⟨w.heap.size, 1, none⟩ = some (.slice R nr rc) ∧ X.cell? ⟨w.heap.size, 2, none⟩ = some (.slice V nv vc) ∧ X.cell? ⟨w.heap.size, 3, none⟩ = some (.slice B nb bc)) := hid fun X f => by
      have g := G1.out.fr f (fun x => x)
      exact ⟨g.cell 0, g.cell 1, g.cell 2, g.cell 3⟩
    clear q0 q1 q2 q3 G1
    go_wp2_with fail
    have FD := hid (Fr.refl No w1).drew
    refine wp_region_ort (Fr No w1) (.rd 0 (.rd 2 (.eff 1 (.eff 3 (.eff 4 (.rd 5 (.rd 6 (.rd 8 (.eff 7 (.eff 9 (.eff 10 (.rd 11 (.rd 12 (.eff 13 (.rd 14 (.rd 15 .nil)))))))))))))))) (by kernel_rfl) (by kernel_rfl) (by kernel_rfl) rfl FD.out ?_
    generalize w1.drew = wd at *
    repeat (first
      | (refine wpT_skip rfl rfl ?_; simp only [List.getElem_toArray, List.getElem_cons_succ, List.getElem_cons_zero, Act.put, List.setIfInBounds_toArray, List.set_cons_zero, List.set_cons_succ])
      | (refine wpT_call rfl rfl ?_; simp only [List.getElem_toArray, List.getElem_cons_succ, List.getElem_cons_zero]; apply Exists.intro; refine ⟨fun X hX => ?_, ?_⟩
         · (obtain ⟨s0, s1, s2, s3⟩ := HX.out X hX; go_simp; exact stillUpon_value)
         simp only [Act.put, List.setIfInBounds_toArray, List.set_cons_zero, List.set_cons_succ]))
    refine wpT_eff rfl rfl (fun K hK => ?_)
    simp only [List.getElem_toArray, List.getElem_cons_succ, List.getElem_cons_zero]
    go_simp
    have HFd := hid (HF1.out.fr FD.out)
    refine (crit_any P R V B np nr nv nb pc rc vc bc x.blocks (· < w.heap.size) wd HFd.out.b HFd.out.lt eb (by rw [← eb.out]; exact HNB.out) HTT.out).mono ?_
    rintro e w2 ⟨A, c, rfl, hr, f⟩
    have HP1 : Hid (PrAt w2 A (crit (tosOf x.blocks))) := hid (fun k hk => pr_at hr k hk)
    have HF2 := hid (HFd.out.fr f)
    have F2 := hid (FD.out.trans f (fun _ _ h => h))
    rw [HNC.out]
    clear f hr HFd FD
    refine hK _ _ (F2.out) ?_
    clear hK K
    repeat (first
      | (refine wpT_skip rfl rfl ?_; simp only [List.getElem_toArray, List.getElem_cons_succ, List.getElem_cons_zero, Act.put, List.setIfInBounds_toArray, List.set_cons_zero, List.set_cons_succ])
      | (refine wpT_call rfl rfl ?_; simp only [List.getElem_toArray, List.getElem_cons_succ, List.getElem_cons_zero]; apply Exists.intro; refine ⟨fun X hX => ?_, ?_⟩
         · (obtain ⟨s0, s1, s2, s3⟩ := HX.out X hX; go_simp; exact stillUpon_value)
         simp only [Act.put, List.setIfInBounds_toArray, List.set_cons_zero, List.set_cons_succ]))
    refine wpT_eff rfl rfl (fun K hK => ?_)
    simp only [List.getElem_toArray, List.getElem_cons_succ, List.getElem_cons_zero]
    go_simp
    refine (rcrit_any P R V B np nr nv nb pc rc vc bc x.blocks (· < w.heap.size) w2 HF2.out.b HF2.out.lt eb (by rw [← eb.out]; exact HNB.out) HTT.out).mono ?_
    rintro e w3 ⟨A', c', rfl, hr, f⟩
    have HP2 : Hid (PrAt w3 A' (crit (tosOf x.blocks))) := hid (fun k hk => pr_at hr k hk)
    have HP3 := hid (HP1.out.fr f (fun _ _ h => h.elim))
    have HF3 := hid (HF2.out.fr f)
    have F3 := hid (F2.out.trans f (fun _ _ h => h))
    rw [HNC.out]
    clear f hr HF2 F2 HP1
    refine hK _ _ (F3.out) ?_
    clear hK K
    repeat (first
      | (refine wpT_skip rfl rfl ?_; simp only [List.getElem_toArray, List.getElem_cons_succ, List.getElem_cons_zero, Act.put, List.setIfInBounds_toArray, List.set_cons_zero, List.set_cons_succ])
      | (refine wpT_call rfl rfl ?_; simp only [List.getElem_toArray, List.getElem_cons_succ, List.getElem_cons_zero]; apply Exists.intro; refine ⟨fun X hX => ?_, ?_⟩
         · (obtain ⟨s0, s1, s2, s3⟩ := HX.out X hX; go_simp; exact stillUpon_value)
         simp only [Act.put, List.setIfInBounds_toArray, List.set_cons_zero, List.set_cons_succ]))
    refine wpT_eff rfl rfl (fun K hK => ?_)
    simp only [List.getElem_toArray, List.getElem_cons_succ, List.getElem_cons_zero]
    go_simp
    refine (pairs_any A A' c c' nc (crit (tosOf x.blocks)) w3 HP3.out HP2.out HNC hcl).mono ?_
    rintro e w4 ⟨rfl, f⟩
    have HF4 := hid (HF3.out.fr f)
    have F4 := hid (F3.out.trans f (fun _ _ h => h))
    clear f HF3 F3 HP3 HP2
    refine hK _ _ (F4.out) ?_
    clear hK K
    repeat (first
      | (refine wpT_skip rfl rfl ?_; simp only [List.getElem_toArray, List.getElem_cons_succ, List.getElem_cons_zero, Act.put, List.setIfInBounds_toArray, List.set_cons_zero, List.set_cons_succ])
      | (refine wpT_call rfl rfl ?_; simp only [List.getElem_toArray, List.getElem_cons_succ, List.getElem_cons_zero]; apply Exists.intro; refine ⟨fun X hX => ?_, ?_⟩
         · (obtain ⟨s0, s1, s2, s3⟩ := HX.out X hX; go_simp; exact stillUpon_value)
         simp only [Act.put, List.setIfInBounds_toArray, List.set_cons_zero, List.set_cons_succ]))
    refine wpT_eff rfl rfl (fun K hK => ?_)
    simp only [List.getElem_toArray, List.getElem_cons_succ, List.getElem_cons_zero]
    go_simp
    refine (func_in P R V B np nr nv nb ng pc rc vc bc x (· < w.heap.size) w4 HF4.out ep er ev eb HNG hl).mono ?_
    rintro e w5 ⟨P5, R5, V5, B5, pc5, rc5, vc5, bc5, rfl, h5, f⟩
    have H5 := hid h5
    have HF5 := hid (HF4.out.fr f)
    have F5 := hid (F4.out.trans f (fun _ _ h => h))
    clear f h5 HF4 F4
    refine hK _ _ (F5.out) ?_
    clear hK K
    repeat (first
      | (refine wpT_skip rfl rfl ?_; simp only [List.getElem_toArray, List.getElem_cons_succ, List.getElem_cons_zero, Act.put, List.setIfInBounds_toArray, List.set_cons_zero, List.set_cons_succ])
      | (refine wpT_call rfl rfl ?_; simp only [List.getElem_toArray, List.getElem_cons_succ, List.getElem_cons_zero]; apply Exists.intro; refine ⟨fun X hX => ?_, ?_⟩
         · (obtain ⟨s0, s1, s2, s3⟩ := HX.out X hX; go_simp; exact stillUpon_value)
         simp only [Act.put, List.setIfInBounds_toArray, List.set_cons_zero, List.set_cons_succ]))
    refine wpT_eff rfl rfl (fun K hK => ?_)
    simp only [List.getElem_toArray, List.getElem_cons_succ, List.getElem_cons_zero]
    go_simp
    refine (rfunc_in P R V B np nr nv nb ng pc rc vc bc x (· < w.heap.size) w5 HF5.out eb HNG hl).mono ?_
    rintro e w6 ⟨P6, R6, V6, B6, pc6, rc6, vc6, bc6, rfl, h6, f⟩
    have H6 := hid h6
    have H5' := hid (H5.out.fr f)
    have F6 := hid (F5.out.trans f (fun _ _ h => h))
    clear f h6 HF5 F5 H5
    refine hK _ _ (F6.out) ?_
    clear hK K
    repeat (first
      | (refine wpT_skip rfl rfl ?_; simp only [List.getElem_toArray, List.getElem_cons_succ, List.getElem_cons_zero, Act.put, List.setIfInBounds_toArray, List.set_cons_zero, List.set_cons_succ])
      | (refine wpT_call rfl rfl ?_; simp only [List.getElem_toArray, List.getElem_cons_succ, List.getElem_cons_zero]; apply Exists.intro; refine ⟨fun X hX => ?_, ?_⟩
         · (obtain ⟨s0, s1, s2, s3⟩ := HX.out X hX; go_simp; exact stillUpon_value)
         simp only [Act.put, List.setIfInBounds_toArray, List.set_cons_zero, List.set_cons_succ]))
    refine wpT_eff rfl rfl (fun K hK => ?_)
    simp only [List.getElem_toArray, List.getElem_cons_succ, List.getElem_cons_zero]
    go_simp
    refine (same_any P5 R5 V5 B5 P6 R6 V6 B6 np nr nv ng pc5 rc5 vc5 bc5 pc6 rc6 vc6 bc6 (splitF x) (· < w5.heap.size) (· < w6.heap.size) w6 H5'.out H6.out ep er ev HNG hl2).mono ?_
    rintro e w7 ⟨rfl, f⟩
    have F7 := hid (F6.out.trans f (fun _ _ h => h))
    clear f F6 H6 H5'
    refine hK _ _ (F7.out) ?_
    clear hK K
    repeat (first
      | (refine wpT_skip rfl rfl ?_; simp only [List.getElem_toArray, List.getElem_cons_succ, List.getElem_cons_zero, Act.put, List.setIfInBounds_toArray, List.set_cons_zero, List.set_cons_succ])
      | (refine wpT_call rfl rfl ?_; simp only [List.getElem_toArray, List.getElem_cons_succ, List.getElem_cons_zero]; apply Exists.intro; refine ⟨fun X hX => ?_, ?_⟩
         · (obtain ⟨s0, s1, s2, s3⟩ := HX.out X hX; go_simp; exact stillUpon_value)
         simp only [Act.put, List.setIfInBounds_toArray, List.set_cons_zero, List.set_cons_succ]))
    refine wpT_eff rfl rfl (fun K hK => ?_)
    simp only [List.getElem_toArray, List.getElem_cons_succ, List.getElem_cons_zero]
    go_simp
    refine (alive_any _).mono ?_
    rintro e w8 ⟨rfl, f⟩
    have F8 := hid (F7.out.trans f (fun _ _ h => h))
    clear f
    refine hK _ _ (F8.out) ?_
    clear hK K
    repeat (first
      | (refine wpT_skip rfl rfl ?_; simp only [List.getElem_toArray, List.getElem_cons_succ, List.getElem_cons_zero, Act.put, List.setIfInBounds_toArray, List.set_cons_zero, List.set_cons_succ])
      | (refine wpT_call rfl rfl ?_; simp only [List.getElem_toArray, List.getElem_cons_succ, List.getElem_cons_zero]; apply Exists.intro; refine ⟨fun X hX => ?_, ?_⟩
         · (obtain ⟨s0, s1, s2, s3⟩ := HX.out X hX; go_simp; exact stillUpon_value)
         simp only [Act.put, List.setIfInBounds_toArray, List.set_cons_zero, List.set_cons_succ]))
    refine wpT_nil ?_
    have F9 := hid (F1.out.trans F8.out (fun _ _ h => h))
    clear F7 F8 HX
    go_wp2
    go_ret
    exact ⟨rfl, F9.out⟩
theorem splitTells_walk (w : World) (v0 : Value) (x0 : Sf) (y0 : tSf.rd w (· < w.heap.size) v0.cells.toList x0) (u0 : tSf.lw 140737488351232 x0) (hv0 : ∃ cs, v0 = .agg cs) :
    Calls Try.prog 3 #[v0] w fun e w' => e = .returned (.bool true) ∧ Below w.heap.size w w' :=
  form_walk y0 hv0 fun P R V B pc rc vc bc e h1 h2 h3 h4 => by
    subst e
    exact (tells_t P R V B _ _ _ _ pc rc vc bc x0 w ⟨h1, h2, h3, h4, fun _ h => h⟩ rfl rfl rfl rfl u0).mono fun e w' ⟨a, b⟩ => ⟨a, b.below⟩
end Go.Proofs.Ytiafkakkbbclhaa
