/- Contracts: Call, a call that fits. -/
import Derived.Test.YtdckghiipijobaaGreatStS
namespace Go.Proofs.YtdckghiipijobaaGreat
open Go.RowKit

theorem CallTo.cast {R : Nat → Prop} {V : Pl} {r r' : Rx × List Vl × Int} {w w' : World} {e : Ending} (h : r = r') (k : CallTo R V r' w e w') : CallTo R V r w e w' := h ▸ k
theorem pokeS_hosts (x : Rx) (a : Ac) : (pokeS x a).1.hosts = x.hosts := by
  unfold pokeS
  split
  · rfl
  · split <;> rfl
theorem act_idx {n : Int} {L : Nat} (h0 : 0 ≤ n) (hL : 0 < L) : n.toNat % L < L ∧ n.tmod L = ((n.toNat % L : Nat) : Int) := by
  obtain ⟨m, rfl⟩ := Int.eq_ofNat_of_zero_le h0
  refine ⟨Nat.mod_lt _ hL, ?_⟩
  rw [Int.tmod_eq_emod_of_nonneg (Int.natCast_nonneg m), Int.toNat_natCast, Int.natCast_emod]
section
variable {w : World} {R : Nat → Prop} {V : Pl} {x : Rx}
set_option maxRecDepth 100000 in
set_option maxHeartbeats 12800000 in
theorem call_fit (h : StIn w R V x) (hok : StOk x) (k : Nat) (args : List Vl) (A : Option Addr) (c : Nat) (hk : k < x.hosts.length) (S : Nat → Prop) (hS : ∀ k, S k → k < w.heap.size) (ha : tVl.els w S A args) (hl2 : args.length ≤ 140737488351232) (hf : fitB args x.hosts[k].ty.params = true) :
    Calls Tryz.prog 28 #[.pointer (some ⟨V.P, 0, none⟩), .int .i64 k, .slice A args.length c] w (CallTo R V (callS x k args) w) := by
  have hkc : k < x.counts.length := by rw [hok.cl]; exact hk
  obtain ⟨n, hn⟩ : ∃ n, n = x.counts[k] := ⟨_, rfl⟩
  have hcn := hok.cn _ (List.getElem_mem hkc)
  rw [← hn] at hcn
  have hcs : callS x k args = finS (notedS x k n args) (actOf x.hosts[k] n) x.hosts[k].ty.results := by
    unfold callS
    rw [getI_yes hk]
    simp only [hf, if_true, Int.toNat_natCast, List.getElem?_eq_getElem hkc, Option.getD_some, ← hn]
  rw [hcs]
  clear hcs
  obtain ⟨X6, hX6⟩ : ∃ X6, X6 = notedS x k n args := ⟨_, rfl⟩
  have hH6 : Hid (X6.hosts = x.hosts) := by rw [hX6]; exact rfl
  have hMS : Hid (MemsOk X6 ∧ X6.mems.length ≤ 1000000) := by rw [hX6]; exact ⟨hok.ms, hok.lm⟩
  rw [← hX6]
  have HX6 := hid hX6
  clear hX6
  have HG := hid (hoB_good (hok.ho _ (List.getElem_mem hk)))
  have HBD := hid (hok.hb _ (List.getElem_mem hk))
  obtain ⟨a, hact⟩ : ∃ a, a = actOf x.hosts[k] n := ⟨_, rfl⟩
  rw [← hact]
  obtain ⟨hj0, hjm0⟩ := act_idx (L := x.hosts[k].acts.length) hcn.1 HG.out.a
  have haj0 : a = x.hosts[k].acts[n.toNat % x.hosts[k].acts.length] := by
    rw [hact]; unfold actOf; rw [List.getElem?_eq_getElem hj0]; rfl
  have hav : a.vals.length ≤ 8 := by rw [haj0]; exact HG.out.v _ (List.getElem_mem hj0)
  obtain ⟨j, hjj⟩ : ∃ j, j = n.toNat % x.hosts[k].acts.length := ⟨_, rfl⟩
  have hj : j < x.hosts[k].acts.length := by rw [hjj]; exact hj0
  have hjm : n.tmod x.hosts[k].acts.length = j := by rw [hjj]; exact hjm0
  have haj : a = x.hosts[k].acts[j] := by rw [haj0]; simp only [hjj]
  have HAJ := hid haj
  clear haj hact haj0 hjm0 hj0 hjj
  obtain ⟨Ah, ch, hv, _, hel⟩ := h.sl_ho
  have hcell : w.cell? ⟨V.P, 0, none⟩ = some (.slice Ah x.hosts.length ch) := by rw [← hv]; exact h.blk.cell 0
  obtain ⟨b, o, A1, c1, A2, c2, A3, c3, rfl, hbS, y0, y1, y2, y3, y4, m1, m2, p1, p2, p3, q1, q2, q3, r1, r2, r3⟩ := Ho_at hel k hk
  have H := hid h
  have HOK := hid hok
  have HN := hid hn
  have hl := hok.hl
  have hargs : args.length ≤ 8 := by have := fit_len hf; have := HG.out.p; omega
  have i0 : (0 : Int) ≤ k := by omega
  have i1 : (k : Int) < x.hosts.length := by omega
  have HF := hid (vfit_any A A1 args x.hosts[k].ty.params c c1 w.heap.size w.heap.size w (Nat.le_refl _) (Nat.le_refl _) (ha.more hS) p3 hl2 (by have := HG.out.p; omega))
  rw [hf] at HF
  have HA := hid ha
  have HS := hid hS
  clear h hv hel hok ha hf m1 m2 p1 p2 p3 q1 q2 q3 r1 r2 r3 y0 y1 y3 y4 hS hn
  go_enter Tryz.func28, Tryz.ntmps28
  go_wp2_with (go_at_call 89; refine HF.out.mono ?_; rintro e w1 ⟨rfl, f1⟩; have F1 := hid f1; clear f1)
  clear y2 hcell HF
  -- the log
  have K1 := hid (H.out.frNo F1.out)
  have HX1 : Hid (∀ X, Fr No w1 X → X.cell? ⟨V.P, 2, none⟩ = some V.ca) := fun X f => (K1.out.blk.fr f (fun x => x)).cell 2
  refine wp_region_ord (fun X => X.cell? ⟨V.P, 2, none⟩ = some V.ca) [13] [(0, true), (1, true), (2, true), (3, true), (4, true), (5, true), (6, true), (7, false), (8, true), (9, false), (10, false), (11, true), (12, true), (13, false)] (by kernel_rfl) (by kernel_rfl) (by kernel_rfl) rfl (HX1.out _ (Fr.refl _ _).drew) ?_
  repeat (first
    | (refine wpO_skip rfl rfl ?_; simp only [List.getElem_toArray, List.getElem_cons_succ, List.getElem_cons_zero, Act.put, List.setIfInBounds_toArray, List.set_cons_zero, List.set_cons_succ])
    | (refine wpO_call rfl rfl ?_; simp only [List.getElem_toArray, List.getElem_cons_succ, List.getElem_cons_zero]; apply Exists.intro; refine ⟨fun X hX => ?_, ?_⟩
       · (have s0 := hX; go_simp; exact stillUpon_value)
       simp only [Act.put, List.setIfInBounds_toArray, List.set_cons_zero, List.set_cons_succ]))
  refine wpO_eff rfl rfl (fun K hK => ?_)
  simp only [List.getElem_toArray, List.getElem_cons_succ, List.getElem_cons_zero]
  go_simp
  refine (cloneVl_any A c args S w1.drew (fr_els HA.out F1.out.drew HS.out) (fun k hk => Nat.lt_of_lt_of_le (HS.out k hk) F1.out.size) (by omega)).mono ?_
  rintro e w2 ⟨B1, d1, rfl, hr1, f2⟩
  have F2 : Hid (Fr No w1 w2) := (Fr.refl No w1).drew.trans f2 (fun _ _ h => h)
  obtain ⟨z1, z2, z3⟩ := fresh_els (w := w1) hr1 (Nat.le_refl _) (Fr.refl No w2) (fun _ _ _ x => x)
  have K2 := hid (K1.out.frNo F2.out)
  have RX : Hid (tCa.rd w2 (Sd w2 R) [.int .i64 k, .slice B1 args.length d1] ⟨k, args⟩) := Ca_mk (a := ⟨k, args⟩) (wf_bool64 (by show -9223372036854775808 ≤ (k : Int) ∧ (k : Int) ≤ 9223372036854775807; omega)) z1 z2 (z3.more (fun b hb => new_sd K1.out.low hb))
  clear f2 hr1 z1 z2 z3
  refine hK _ _ (fun _ => HX1.out _ F2.out) ?_
  clear hK K
  repeat (first
    | (refine wpO_skip rfl rfl ?_; simp only [List.getElem_toArray, List.getElem_cons_succ, List.getElem_cons_zero, Act.put, List.setIfInBounds_toArray, List.set_cons_zero, List.set_cons_succ])
    | (refine wpO_call rfl rfl ?_; simp only [List.getElem_toArray, List.getElem_cons_succ, List.getElem_cons_zero]; apply Exists.intro; refine ⟨fun X hX => ?_, ?_⟩
       · (have s0 := hX; go_simp; exact stillUpon_value)
       simp only [Act.put, List.setIfInBounds_toArray, List.set_cons_zero, List.set_cons_succ]))
  refine wpO_eff rfl rfl (fun K hK => ?_)
  simp only [List.getElem_toArray, List.getElem_cons_succ, List.getElem_cons_zero]
  go_simp
  have F3 := hid ((Fr.refl No w2).alloc (.cells #[.int .i64 k, .slice B1 args.length d1] 113))
  have G3 := hid (Blk.new w2 113 #[.int .i64 k, .slice B1 args.length d1])
  refine hK _ _ (fun _ => HX1.out _ (F2.out.trans F3.out (fun _ _ h => h))) ?_
  clear hK K
  generalize w2.alloc (.cells #[.int .i64 k, .slice B1 args.length d1] 113) = w3 at *
  have AI := hid (K2.out.addIn_ca RX.out HOK.out.lc)
  have AJ := hid (AI.out.fr F3.out)
  repeat (first
    | (refine wpO_skip rfl rfl ?_; simp only [List.getElem_toArray, List.getElem_cons_succ, List.getElem_cons_zero, Act.put, List.setIfInBounds_toArray, List.set_cons_zero, List.set_cons_succ])
    | (refine wpO_call rfl rfl ?_; simp only [List.getElem_toArray, List.getElem_cons_succ, List.getElem_cons_zero]; apply Exists.intro; refine ⟨fun X hX => ?_, ?_⟩
       · (have s0 := hX; go_simp; exact stillUpon_value)
       simp only [Act.put, List.setIfInBounds_toArray, List.set_cons_zero, List.set_cons_succ]))
  refine wpO_eff rfl rfl (fun K hK => ?_)
  simp only [List.getElem_toArray, List.getElem_cons_succ, List.getElem_cons_zero]
  refine opwp_appC (t := tCa) (P := Tryz.prog) (base := 0) (S := Sd w2 R) (v := V.ca) (xs := x.calls) (ys := [⟨k, args⟩]) (dss := [[.int .i64 k, .slice B1 args.length d1]]) (B2 := w3.heap.size) elCa rfl rfl rfl AJ.out.row (Css.one AJ.out.rd) (Rd.blk G3.out G3.out.lt 0 (fun k u hu => by rw [Nat.zero_add]; simpa using hu)) rfl (by have := AJ.out.len; simp; omega) (by have := AJ.out.len; simp; omega) (fun k hk => ⟨AJ.out.lt k hk, fun e => (AJ.out.own k hk).1 e.symm⟩) (Nat.zero_le _) ?_
  intro v1 w4 hr4 f4 hv4
  have ADD := hid (AI.out.finish F3.out hr4 f4 hv4)
  have HR4 := hid hr4
  have Z0 : Hid (w4.cell? ⟨V.P, 2, none⟩ = some V.ca) := (f4.cell (p := ⟨V.P, 2, none⟩) (World.block_lt_of_cell? w3 _ AJ.out.cell) (fun e => AJ.out.ne e.symm)).trans AJ.out.cell
  have Z1 : Hid (w4.frozen? ⟨V.P, 2, none⟩ = false) := (f4.frozen (p := ⟨V.P, 2, none⟩) (World.block_lt_of_cell? w3 _ AJ.out.cell) (fun e => AJ.out.ne e.symm)).trans AJ.out.fz
  refine hK _ _ (fun _ => Z0.out) ?_
  clear hK K hr4 f4 hv4
  simp only [Act.put, List.setIfInBounds_toArray, List.set_cons_zero, List.set_cons_succ]
  repeat (first
    | (refine wpO_skip rfl rfl ?_; simp only [List.getElem_toArray, List.getElem_cons_succ, List.getElem_cons_zero, Act.put, List.setIfInBounds_toArray, List.set_cons_zero, List.set_cons_succ])
    | (refine wpO_call rfl rfl ?_; simp only [List.getElem_toArray, List.getElem_cons_succ, List.getElem_cons_zero]; apply Exists.intro; refine ⟨fun X hX => ?_, ?_⟩
       · (have s0 := hX; go_simp; exact stillUpon_value)
       simp only [Act.put, List.setIfInBounds_toArray, List.set_cons_zero, List.set_cons_succ]))
  obtain ⟨A5, k5, e5, _, _, _⟩ := HR4.out.els (S' := fun _ => True) (fun _ _ => trivial) (fun _ _ => trivial)
  rw [show (x.calls ++ [(⟨k, args⟩ : Ca)]).length = x.calls.length + 1 by simp] at e5
  subst e5
  have z0 := Z0.out
  have z1 := Z1.out
  refine wpO_eff rfl rfl (fun K hK => ?_)
  simp only [List.getElem_toArray, List.getElem_cons_succ, List.getElem_cons_zero]
  go_simp
  refine hK _ _ (fun h => by simp at h) ?_
  clear hK K z0 z1 Z0 Z1 HR4
  refine wpO_nil ?_
  obtain ⟨V5, R5, _, k5', g5'⟩ := K2.out.added_ca ADD.out
  have K5 := hid k5'
  have GR5 := hid ((Grown.of_no (R := R) (V := V) (F1.out.trans F2.out (fun _ _ h => h))).trans g5')
  clear k5' g5' ADD
  generalize w4.setCell ⟨V.P, 2, none⟩ (.slice A5 (x.calls.length + 1) k5) = w5 at *
  -- the act
  obtain ⟨Ah5, ch5, hv5, _, hel5⟩ := K5.out.sl_ho
  have hP5 := GR5.out.P
  have hcell5 : w5.cell? ⟨V.P, 0, none⟩ = some (.slice Ah5 x.hosts.length ch5) := by have := K5.out.blk.cell 0; rw [hP5] at this; rw [← hv5]; exact this
  obtain ⟨b5, o5, E1, e1, E2, e2, E3, e3, rfl, hbS5, y0, y1, y2, y3, y4, m1, m2, p1, p2, p3, q1, q2, q3, r1, r2, r3⟩ := Ho_at hel5 k hk
  obtain ⟨gc, cc, hvc, _⟩ := row_some K5.out.co (by show 0 < x.counts.length; omega)
  have hvc : V5.co = .slice (some ⟨gc, 0, none⟩) x.counts.length cc := hvc
  have hcell6 : w5.cell? ⟨V.P, 1, none⟩ = some (.slice (some ⟨gc, 0, none⟩) x.counts.length cc) := by have := K5.out.blk.cell 1; rw [hP5] at this; rw [← hvc]; exact this
  obtain ⟨gc', oc', hgc, hcS, hcv, _⟩ := ints_at (l := x.counts) (by
    obtain ⟨A', c', hv', _, hel'⟩ := K5.out.sl_co
    rw [hvc] at hv'
    injection hv' with e1 _ _
    subst e1
    exact hel') k hkc
  injection hgc with hgc
  injection hgc with e1 e2 _
  subst e1 e2
  rw [← HN.out, Nat.zero_add] at hcv
  have HX5 : Hid (∀ X, Fr No w5 X → X.cell? ⟨V.P, 0, none⟩ = some (.slice (some ⟨b5, o5, none⟩) x.hosts.length ch5) ∧ X.cell? ⟨b5, o5 + k * 5, none⟩ = some (.string x.hosts[k].mod) ∧ X.cell? ⟨b5, o5 + k * 5 + 1, none⟩ = some (.string x.hosts[k].name) ∧ X.cell? ⟨b5, o5 + k * 5 + 2, none⟩ = some (.slice E1 x.hosts[k].ty.params.length e1) ∧ X.cell? ⟨b5, o5 + k * 5 + 3, none⟩ = some (.slice E2 x.hosts[k].ty.results.length e2) ∧ X.cell? ⟨b5, o5 + k * 5 + 4, none⟩ = some (.slice E3 x.hosts[k].acts.length e3) ∧ X.cell? ⟨V.P, 1, none⟩ = some (.slice (some ⟨gc, 0, none⟩) x.counts.length cc) ∧ X.cell? ⟨gc, k, none⟩ = some (.int .i64 n)) := fun X f => by
    have hPl := K5.out.blk.lt
    rw [hP5] at hPl
    exact ⟨(f.cell (p := ⟨V.P, 0, none⟩) hPl (fun x => x)).trans hcell5, (f.cell (p := ⟨b5, _, none⟩) hbS5 (fun x => x)).trans y0, (f.cell (p := ⟨b5, _, none⟩) hbS5 (fun x => x)).trans y1, (f.cell (p := ⟨b5, _, none⟩) hbS5 (fun x => x)).trans y2, (f.cell (p := ⟨b5, _, none⟩) hbS5 (fun x => x)).trans y3, (f.cell (p := ⟨b5, _, none⟩) hbS5 (fun x => x)).trans y4, (f.cell (p := ⟨V.P, 1, none⟩) hPl (fun x => x)).trans hcell6, (f.cell (p := ⟨gc, k, none⟩) hcS (fun x => x)).trans hcv⟩
  have HACT := hid (fun (X : World) (f : Fr No w5 X) => act_some x.hosts[k] E1 E2 E3 e1 e2 e3 (· < w5.heap.size) n j X (fun k hk => Nat.lt_of_lt_of_le hk f.size) (fr_els r3 f (fun _ h => h)) (by have := HBD.out.a; omega) hcn.1 (by omega) hj hjm (by rw [← HAJ.out]; omega))
  rw [← HAJ.out] at HACT
  have HAB : Hid ((-9223372036854775808 ≤ a.at_ ∧ a.at_ ≤ 9223372036854775807) ∧ 0 ≤ a.byte ∧ a.byte ≤ 255) := by
    obtain ⟨_, _, _, _, _, _, _, _, _, _, _, _, _, _, _, _, wa, wb⟩ := Ac_at r3 j hj
    rw [← HAJ.out] at wa wb
    exact ⟨wf_i64 wa, wf_u8 wb⟩
  clear hcell5 hcell6 hcv hel5 hv5 y0 y1 y2 y3 y4 m1 m2 p1 p2 p3 q1 q2 q3 r1 r2 r3
  have hkl : (k : Int) < x.counts.length := by omega
  go_wp2_with fail
  go_cut [8, 9] (fun t8 t9 wx => ∃ (ga : Nat) (Av : Option Addr) (cv : Nat), t8 = .pointer (some ⟨ga, 0, none⟩) ∧ Hid (Fr No w5 wx) ∧ Hid (w5.heap.size ≤ ga) ∧ Hid (Blk wx ga 110 #[.int .i64 a.kind, .slice Av a.vals.length cv, .int .i64 a.mem, .int .i64 a.at_, .int .u8 a.byte]) ∧ Hid (a.vals.length ≤ cv ∧ tVl.els wx (fun b => Nw w5 wx b ∧ b ≠ ga) Av a.vals))
  case first => as_aux_lemma =>
    refine wp_region_ort (Fr No w5) (.rd 0 (.rd 1 (.rd 2 (.rd 3 (.rd 4 (.rd 5 (.rd 6 (.rd 7 (.rd 8 (.rd 9 (.rd 10 (.rd 11 (.rd 12 (.rd 13 (.alt 14 (.rd 15 (.rd 16 (.rd 17 (.eff 18 (.eff 19 (.rd 20 .nil)))))) 18 (.eff 14 (.rd 15 (.rd 16 (.rd 17 (.eff 19 (.rd 20 .nil))))))))))))))))))))) (by kernel_rfl) (by kernel_rfl) (by kernel_rfl) rfl (Fr.refl _ w5).drew ?_
    repeat (first
      | (refine wpT_skip rfl rfl ?_; simp only [List.getElem_toArray, List.getElem_cons_succ, List.getElem_cons_zero, Act.put, List.setIfInBounds_toArray, List.set_cons_zero, List.set_cons_succ])
      | (refine wpT_call rfl rfl ?_; simp only [List.getElem_toArray, List.getElem_cons_succ, List.getElem_cons_zero]; apply Exists.intro; refine ⟨fun X hX => ?_, ?_⟩
         · (obtain ⟨s0, s1, s2, s3, s4, s5, s6, s7⟩ := HX5.out X hX; go_simp; exact stillUpon_value)
         simp only [Act.put, List.setIfInBounds_toArray, List.set_cons_zero, List.set_cons_succ]))
    refine wpT_alt ?_ ?_
    · skip
      refine wpT_eff rfl rfl (fun K hK => ?_)
      simp only [List.getElem_toArray, List.getElem_cons_succ, List.getElem_cons_zero]
      go_simp
      refine (HACT.out _ (Fr.refl No w5).drew).mono ?_
      rintro e w6 ⟨Av, cv, rfl, hcv, hev, f6⟩
      have F6 := hid ((Fr.refl No w5).drew.trans f6 (fun _ _ h => h))
      have HEV := hid hev
      clear f6 hev
      refine hK _ _ (F6.out) ?_
      clear hK K
      repeat (first
        | (refine wpT_skip rfl rfl ?_; simp only [List.getElem_toArray, List.getElem_cons_succ, List.getElem_cons_zero, Act.put, List.setIfInBounds_toArray, List.set_cons_zero, List.set_cons_succ])
        | (refine wpT_call rfl rfl ?_; simp only [List.getElem_toArray, List.getElem_cons_succ, List.getElem_cons_zero]; apply Exists.intro; refine ⟨fun X hX => ?_, ?_⟩
           · (obtain ⟨s0, s1, s2, s3, s4, s5, s6, s7⟩ := HX5.out X hX; go_simp; exact stillUpon_value)
           simp only [Act.put, List.setIfInBounds_toArray, List.set_cons_zero, List.set_cons_succ]))
      refine wpT_eff rfl rfl (fun K hK => ?_)
      simp only [List.getElem_toArray, List.getElem_cons_succ, List.getElem_cons_zero]
      go_simp
      refine hK _ _ ((F6.out.alloc _)) ?_
      clear hK K
      have FY := hid (F6.out.alloc (.cells #[.int .i64 0, .slice none 0 0, .int .i64 0, .int .i64 0, .int .u8 0] 110))
      have GB := hid (Blk.new w6 110 #[.int .i64 0, .slice none 0 0, .int .i64 0, .int .i64 0, .int .u8 0])
      have EY := hid (((HEV.out.fr ((Fr.refl No w6).alloc (.cells #[.int .i64 0, .slice none 0 0, .int .i64 0, .int .i64 0, .int .u8 0] 110)) (fun k hk => ⟨hk.2, fun x => x⟩)).more (S' := fun b => Nw w5 (w6.alloc (.cells #[.int .i64 0, .slice none 0 0, .int .i64 0, .int .i64 0, .int .u8 0] 110)) b ∧ b ≠ w6.heap.size) (fun k hk => ⟨⟨hk.1, Nat.lt_trans hk.2 GB.out.lt⟩, by have := hk.2; omega⟩)))
      obtain ⟨ga, hga⟩ : ∃ ga, w6.heap.size = ga := ⟨_, rfl⟩
      have LG : Hid (w5.heap.size ≤ ga) := by have := F6.out.size; show w5.heap.size ≤ ga; omega
      rw [hga] at GB EY ⊢
      clear hga
      generalize w6.alloc (.cells #[.int .i64 0, .slice none 0 0, .int .i64 0, .int .i64 0, .int .u8 0] 110) = Y at *
      have z0 := GB.out.cell 0
      have z1 := GB.out.cell 1
      have z2 := GB.out.cell 2
      have z3 := GB.out.cell 3
      have z4 := GB.out.cell 4
      have u0 := GB.out.frozen 0
      have u1 := GB.out.frozen 1
      have u2 := GB.out.frozen 2
      have u3 := GB.out.frozen 3
      have u4 := GB.out.frozen 4
      have hgal := GB.out.lt
      refine wpT_eff rfl rfl (fun K hK => ?_)
      simp only [List.getElem_toArray, List.getElem_cons_succ, List.getElem_cons_zero]
      go_simp
      have FS := hid ((((((Fr.refl (One ga) Y).setCell ⟨ga, 0, none⟩ (.int .i64 a.kind) (fun _ => rfl)).setCell ⟨ga, 1, none⟩ (.slice Av a.vals.length cv) (fun _ => rfl)).setCell ⟨ga, 2, none⟩ (.int .i64 a.mem) (fun _ => rfl)).setCell ⟨ga, 3, none⟩ (.int .i64 a.at_) (fun _ => rfl)).setCell ⟨ga, 4, none⟩ (.int .u8 a.byte) (fun _ => rfl))
      have GS := hid (((((GB.out.set_ 0 (.int .i64 a.kind)).set_ 1 (.slice Av a.vals.length cv)).set_ 2 (.int .i64 a.mem)).set_ 3 (.int .i64 a.at_)).set_ 4 (.int .u8 a.byte))
      clear z0 z1 z2 z3 z4 u0 u1 u2 u3 u4
      generalize ((((Y.setCell ⟨ga, 0, none⟩ (.int .i64 a.kind)).setCell ⟨ga, 1, none⟩ (.slice Av a.vals.length cv)).setCell ⟨ga, 2, none⟩ (.int .i64 a.mem)).setCell ⟨ga, 3, none⟩ (.int .i64 a.at_)).setCell ⟨ga, 4, none⟩ (.int .u8 a.byte) = Z at *
      have FYZ : Hid (Fr No w5 Z) := FY.out.trans FS.out (fun i hi h => by have h : i = ga := h; have := LG.out; omega)
      refine hK _ _ (FYZ.out) ?_
      clear hK K
      repeat (first
        | (refine wpT_skip rfl rfl ?_; simp only [List.getElem_toArray, List.getElem_cons_succ, List.getElem_cons_zero, Act.put, List.setIfInBounds_toArray, List.set_cons_zero, List.set_cons_succ])
        | (refine wpT_call rfl rfl ?_; simp only [List.getElem_toArray, List.getElem_cons_succ, List.getElem_cons_zero]; apply Exists.intro; refine ⟨fun X hX => ?_, ?_⟩
           · (obtain ⟨s0, s1, s2, s3, s4, s5, s6, s7⟩ := HX5.out X hX; go_simp; exact stillUpon_value)
           simp only [Act.put, List.setIfInBounds_toArray, List.set_cons_zero, List.set_cons_succ]))
      refine wpT_nil ?_
      go_wp2
      go_meet
      case rel =>
        refine ⟨ga, Av, cv, rfl, FYZ.out, LG.out, GS.out, hcv, ?_⟩
        exact (EY.out.fr FS.out (fun b hb => ⟨hb.1.2, fun e => hb.2 e⟩)).more (fun b hb => ⟨hb.1.up (Nat.le_refl _) FS.out.size, hb.2⟩)
    · skip
      refine wpT_eff rfl rfl (fun K hK => ?_)
      simp only [List.getElem_toArray, List.getElem_cons_succ, List.getElem_cons_zero]
      go_simp
      have FY0 := hid (((Fr.refl No w5).alloc (.cells #[.int .i64 0, .slice none 0 0, .int .i64 0, .int .i64 0, .int .u8 0] 110)).drew)
      have GB0 := hid (Blk.new w5 110 #[.int .i64 0, .slice none 0 0, .int .i64 0, .int .i64 0, .int .u8 0]).drew
      obtain ⟨ga, hga⟩ : ∃ ga, w5.heap.size = ga := ⟨_, rfl⟩
      have LG : Hid (w5.heap.size ≤ ga) := by show w5.heap.size ≤ ga; omega
      rw [hga] at GB0 ⊢
      clear hga
      generalize (w5.alloc (.cells #[.int .i64 0, .slice none 0 0, .int .i64 0, .int .i64 0, .int .u8 0] 110)).drew = Y0 at *
      have hgy : ga < Y0.heap.size := GB0.out.lt
      refine hK _ _ (FY0.out) ?_
      clear hK K
      repeat (first
        | (refine wpT_skip rfl rfl ?_; simp only [List.getElem_toArray, List.getElem_cons_succ, List.getElem_cons_zero, Act.put, List.setIfInBounds_toArray, List.set_cons_zero, List.set_cons_succ])
        | (refine wpT_call rfl rfl ?_; simp only [List.getElem_toArray, List.getElem_cons_succ, List.getElem_cons_zero]; apply Exists.intro; refine ⟨fun X hX => ?_, ?_⟩
           · (obtain ⟨s0, s1, s2, s3, s4, s5, s6, s7⟩ := HX5.out X hX; go_simp; exact stillUpon_value)
           simp only [Act.put, List.setIfInBounds_toArray, List.set_cons_zero, List.set_cons_succ]))
      refine wpT_eff rfl rfl (fun K hK => ?_)
      simp only [List.getElem_toArray, List.getElem_cons_succ, List.getElem_cons_zero]
      go_simp
      refine (HACT.out _ FY0.out).mono ?_
      rintro e Y ⟨Av, cv, rfl, hcv, hev, f6⟩
      have FY := hid (FY0.out.trans f6 (fun _ _ h => h))
      have GB := hid (GB0.out.fr f6 (fun x => x))
      have EY := hid (hev.more (S' := fun b => Nw w5 Y b ∧ b ≠ ga) (fun k hk => ⟨⟨Nat.le_trans FY0.out.size hk.1, hk.2⟩, by have := hk.1; omega⟩))
      clear f6 hev
      refine hK _ _ (FY.out) ?_
      clear hK K
      repeat (first
        | (refine wpT_skip rfl rfl ?_; simp only [List.getElem_toArray, List.getElem_cons_succ, List.getElem_cons_zero, Act.put, List.setIfInBounds_toArray, List.set_cons_zero, List.set_cons_succ])
        | (refine wpT_call rfl rfl ?_; simp only [List.getElem_toArray, List.getElem_cons_succ, List.getElem_cons_zero]; apply Exists.intro; refine ⟨fun X hX => ?_, ?_⟩
           · (obtain ⟨s0, s1, s2, s3, s4, s5, s6, s7⟩ := HX5.out X hX; go_simp; exact stillUpon_value)
           simp only [Act.put, List.setIfInBounds_toArray, List.set_cons_zero, List.set_cons_succ]))
      have z0 := GB.out.cell 0
      have z1 := GB.out.cell 1
      have z2 := GB.out.cell 2
      have z3 := GB.out.cell 3
      have z4 := GB.out.cell 4
      have u0 := GB.out.frozen 0
      have u1 := GB.out.frozen 1
      have u2 := GB.out.frozen 2
      have u3 := GB.out.frozen 3
      have u4 := GB.out.frozen 4
      have hgal := GB.out.lt
      refine wpT_eff rfl rfl (fun K hK => ?_)
      simp only [List.getElem_toArray, List.getElem_cons_succ, List.getElem_cons_zero]
      go_simp
      have FS := hid ((((((Fr.refl (One ga) Y).setCell ⟨ga, 0, none⟩ (.int .i64 a.kind) (fun _ => rfl)).setCell ⟨ga, 1, none⟩ (.slice Av a.vals.length cv) (fun _ => rfl)).setCell ⟨ga, 2, none⟩ (.int .i64 a.mem) (fun _ => rfl)).setCell ⟨ga, 3, none⟩ (.int .i64 a.at_) (fun _ => rfl)).setCell ⟨ga, 4, none⟩ (.int .u8 a.byte) (fun _ => rfl))
      have GS := hid (((((GB.out.set_ 0 (.int .i64 a.kind)).set_ 1 (.slice Av a.vals.length cv)).set_ 2 (.int .i64 a.mem)).set_ 3 (.int .i64 a.at_)).set_ 4 (.int .u8 a.byte))
      clear z0 z1 z2 z3 z4 u0 u1 u2 u3 u4
      generalize ((((Y.setCell ⟨ga, 0, none⟩ (.int .i64 a.kind)).setCell ⟨ga, 1, none⟩ (.slice Av a.vals.length cv)).setCell ⟨ga, 2, none⟩ (.int .i64 a.mem)).setCell ⟨ga, 3, none⟩ (.int .i64 a.at_)).setCell ⟨ga, 4, none⟩ (.int .u8 a.byte) = Z at *
      have FYZ : Hid (Fr No w5 Z) := FY.out.trans FS.out (fun i hi h => by have h : i = ga := h; have := LG.out; omega)
      refine hK _ _ (FYZ.out) ?_
      clear hK K
      repeat (first
        | (refine wpT_skip rfl rfl ?_; simp only [List.getElem_toArray, List.getElem_cons_succ, List.getElem_cons_zero, Act.put, List.setIfInBounds_toArray, List.set_cons_zero, List.set_cons_succ])
        | (refine wpT_call rfl rfl ?_; simp only [List.getElem_toArray, List.getElem_cons_succ, List.getElem_cons_zero]; apply Exists.intro; refine ⟨fun X hX => ?_, ?_⟩
           · (obtain ⟨s0, s1, s2, s3, s4, s5, s6, s7⟩ := HX5.out X hX; go_simp; exact stillUpon_value)
           simp only [Act.put, List.setIfInBounds_toArray, List.set_cons_zero, List.set_cons_succ]))
      refine wpT_nil ?_
      go_wp2
      go_meet
      case rel =>
        refine ⟨ga, Av, cv, rfl, FYZ.out, LG.out, GS.out, hcv, ?_⟩
        exact (EY.out.fr FS.out (fun b hb => ⟨hb.1.2, fun e => hb.2 e⟩)).more (fun b hb => ⟨hb.1.up (Nat.le_refl _) FS.out.size, hb.2⟩)
  case rest =>
    obtain ⟨ga, Av, cv, rfl, FX, LG, GA, hcv, EV⟩ := hcut
    obtain ⟨wx, hwx⟩ : ∃ wx, wx = wc := ⟨_, rfl⟩
    subst hwx
    have HEV := hid (And.intro hcv EV)
    clear hcv EV HACT
    have KX := hid (K5.out.frNo FX.out)
    have hg5 := LG.out
    have y1 : wx.cell? ⟨V.P, 1, none⟩ = some (.slice (some ⟨gc, 0, none⟩) x.counts.length cc) := (HX5.out _ FX.out).2.2.2.2.2.2.1
    have y2 : wx.cell? ⟨gc, k, none⟩ = some (.int .i64 n) := (HX5.out _ FX.out).2.2.2.2.2.2.2
    have y3 : wx.frozen? ⟨gc, k, none⟩ = false := by
      obtain ⟨css, _, ho⟩ := KX.out.co
      rw [hvc] at ho
      exact own_frozen ho k
    have hwn : IntKind.i64.wrap (n + 1) = n + 1 := IntWalk.i64_in _ (by omega)
    obtain ⟨s1, s2⟩ := KX.out.setCount (n := n + 1) hkc hvc (wf_bool64 (by omega))
    have K6 := hid s1
    have GR6 := hid ((GR5.out.trans (Grown.of_no FX.out)).trans s2)
    have f6 := (Fr.refl (One gc) wx).setCell ⟨gc, k, none⟩ (.int .i64 (n + 1)) (fun _ => rfl)
    have hgg : ga ≠ gc := by omega
    have GA6 := hid (GA.out.far (p := ⟨gc, k, none⟩) hgg (.int .i64 (n + 1)))
    have EV6 := hid (HEV.out.2.fr f6 (fun b hb => ⟨hb.1.2, fun e => by have e : b = gc := e; have := hb.1.1; omega⟩))
    have S6 := hid f6.size
    clear s1 s2 GA f6
    have K6 : Hid (StIn (wx.setCell ⟨gc, k, none⟩ (.int .i64 (n + 1))) R5 V5 X6) := by rw [HX6.out]; exact K6.out
    have HB7 := hid (And.intro HEV.out.1 (show a.vals.length ≤ 500 by omega))
    have z0 := GA6.out.cell 0
    have z1 := GA6.out.cell 1
    have z2 := GA6.out.cell 2
    have z3 := GA6.out.cell 3
    have z4 := GA6.out.cell 4
    by_cases hkk : a.kind = 2
    · have hd1 : decide (a.kind = 2) = true := by simpa using hkk
      have HKK := hid hkk
      obtain ⟨q, hq⟩ : ∃ q, q = (pokeS X6 a).2 := ⟨_, rfl⟩
      have HPK := hid (poke_any K6.out hMS.out.1 a Av cv hMS.out.2 HAB.out.1 HAB.out.2)
      rw [← hq, hP5, hkk] at HPK
      have HQ := hid hq
      clear hq
      go_wp2_with fail
      refine HPK.out.mono ?_
      rintro e wc ⟨V7, R7, rfl, k7, g7⟩
      have GR7 := hid (GR6.out.trans g7)
      have hgo : ¬ V5.own ga := fun o => by have := K5.out.lt o; omega
      have GA7 := hid (GA6.out.fr g7.fr hgo)
      have EA7 := hid ((EV6.out.fr g7.fr (fun b hb => ⟨Nat.lt_of_lt_of_le hb.1.2 S6.out, fun o => by have := K5.out.lt o; have := hb.1.1; omega⟩)).more (S' := Nw w5 wc) (fun b hb => hb.1.up (Nat.le_refl _) (Nat.le_trans S6.out g7.fr.size)))
      have K7 := hid k7
      have hH7 : Hid ((pokeS X6 a).1.hosts = x.hosts) := (pokeS_hosts X6 a).trans hH6.out
      clear z0 z1 z2 z3 z4 y1 y2 y3 k7 g7 HPK hkk hd1
      cases q with
      | false =>
        have HFIN : Hid (finS X6 a x.hosts[k].ty.results = ((pokeS X6 a).1, [], 11)) := by
          unfold Hid finS
          rw [if_pos HKK.out, ← HQ.out]; rfl
        go_wp2
        go_ret2
        exact CallTo.cast HFIN.out ⟨V7, R7, none, 0, rfl, K7.out, GR7.out, Nat.le_refl _, .inl rfl⟩
      | true =>
        have HFIN : Hid (finS X6 a x.hosts[k].ty.results = ((pokeS X6 a).1, ansL a x.hosts[k].ty.results)) := by
          unfold Hid finS
          rw [if_pos HKK.out, ← HQ.out]; rfl
        generalize (pokeS X6 a).1 = X7 at K7 hH7 HFIN
        obtain ⟨Ah7, ch7, hv7, _, hel7⟩ := K7.out.sl_ho
        have hP7 := GR7.out.P
        rw [hH7.out] at hel7 hv7
        have hcell7 : wc.cell? ⟨V.P, 0, none⟩ = some (.slice Ah7 x.hosts.length ch7) := by have := K7.out.blk.cell 0; rw [hP7, hv7] at this; exact this
        obtain ⟨b7, o7, D1, d1, D2, d2, D3, d3, rfl, hbS7, _, _, y2, y3, _, _, _, p17, p27, p37, q17, q27, q37, _, _, _⟩ := Ho_at hel7 k hk
        have HE7 := hid (And.intro p37 q37)
        have HX7 : Hid (∀ X, Fr No wc X → X.cell? ⟨V.P, 0, none⟩ = some (.slice (some ⟨b7, o7, none⟩) x.hosts.length ch7) ∧ X.cell? ⟨b7, o7 + k * 5 + 2, none⟩ = some (.slice D1 x.hosts[k].ty.params.length d1) ∧ X.cell? ⟨b7, o7 + k * 5 + 3, none⟩ = some (.slice D2 x.hosts[k].ty.results.length d2) ∧ X.cell? ⟨ga, 0, none⟩ = some (.int .i64 a.kind) ∧ X.cell? ⟨ga, 1, none⟩ = some (.slice Av a.vals.length cv) ∧ X.cell? ⟨ga, 2, none⟩ = some (.int .i64 a.mem) ∧ X.cell? ⟨ga, 3, none⟩ = some (.int .i64 a.at_) ∧ X.cell? ⟨ga, 4, none⟩ = some (.int .u8 a.byte)) := fun X f => by
          have hg := GA7.out.fr f (fun x => x)
          have hPl := K7.out.blk.lt
          rw [hP7] at hPl
          exact ⟨(f.cell (p := ⟨V.P, 0, none⟩) hPl (fun x => x)).trans hcell7, (f.cell (p := ⟨b7, o7 + k * 5 + 2, none⟩) hbS7 (fun x => x)).trans y2, (f.cell (p := ⟨b7, o7 + k * 5 + 3, none⟩) hbS7 (fun x => x)).trans y3, hg.cell 0, hg.cell 1, hg.cell 2, hg.cell 3, hg.cell 4⟩
        clear hcell7 hel7 hv7 y2 y3 p37 q37 p17 p27 q17 q27
        go_wp2_with fail
        refine wp_region_ord (Fr No wc) [] [(0, true), (1, true), (2, true), (3, true), (4, true), (5, true), (6, true), (7, true), (8, true), (9, false), (10, true), (11, true), (12, true), (13, true), (14, true)] (by kernel_rfl) (by kernel_rfl) (by kernel_rfl) rfl (Fr.refl _ wc).drew ?_
        repeat (first
          | (refine wpO_skip rfl rfl ?_; simp only [List.getElem_toArray, List.getElem_cons_succ, List.getElem_cons_zero, Act.put, List.setIfInBounds_toArray, List.set_cons_zero, List.set_cons_succ])
          | (refine wpO_call rfl rfl ?_; simp only [List.getElem_toArray, List.getElem_cons_succ, List.getElem_cons_zero]; apply Exists.intro; refine ⟨fun X hX => ?_, ?_⟩
             · (obtain ⟨s0, s1, s2, s3, s4, s5, s6, s7⟩ := HX7.out X hX; go_simp; exact stillUpon_value)
             simp only [Act.put, List.setIfInBounds_toArray, List.set_cons_zero, List.set_cons_succ]))
        refine wpO_eff rfl rfl (fun K hK => ?_)
        simp only [List.getElem_toArray, List.getElem_cons_succ, List.getElem_cons_zero]
        go_simp
        refine (hans_any a x.hosts[k].ty.params.length x.hosts[k].ty.results Av D1 D2 cv d1 d2 (· < wc.heap.size) wc.drew (fun _ h => h) (EA7.out.more (fun b hb => hb.2)) HE7.out.2 HB7.out.1 HB7.out.2 (by have := HG.out.r; omega)).mono ?_
        rintro e wd ⟨Ax, cx, rfl, hcx, hex, fd⟩
        have FD : Hid (Fr No wc wd) := (Fr.refl No wc).drew.trans fd (fun _ _ h => h)
        have HXE := hid hex
        refine hK _ _ (fun _ => FD.out) ?_
        clear hK K
        clear fd hex
        generalize hL : ansL a x.hosts[k].ty.results = L at *
        repeat (first
          | (refine wpO_skip rfl rfl ?_; simp only [List.getElem_toArray, List.getElem_cons_succ, List.getElem_cons_zero, Act.put, List.setIfInBounds_toArray, List.set_cons_zero, List.set_cons_succ])
          | (refine wpO_call rfl rfl ?_; simp only [List.getElem_toArray, List.getElem_cons_succ, List.getElem_cons_zero]; apply Exists.intro; refine ⟨fun X hX => ?_, ?_⟩
             · (obtain ⟨s0, s1, s2, s3, s4, s5, s6, s7⟩ := HX7.out X hX; go_simp; exact stillUpon_value)
             simp only [Act.put, List.setIfInBounds_toArray, List.set_cons_zero, List.set_cons_succ]))
        refine wpO_nil ?_
        go_wp2_with fail
        have hL1 : L.1.length ≤ 500 := by
          rw [← hL]
          unfold ansL
          split
          · exact HB7.out.2
          · simp
        refine (cloneVl_any Ax cx L.1 (· < wd.heap.size) wd (HXE.out.more (fun b hb => hb.2)) (fun _ h => h) (by omega)).mono ?_
        rintro e we ⟨Ay, cy, rfl, hry, fe⟩
        go_wp2
        go_ret2
        obtain ⟨z1, z2, z3⟩ := fresh_els (w := wd) hry (Nat.le_refl _) (Fr.refl No we) (fun _ _ _ x => x)
        have K8 := (K7.out.frNo FD.out).frNo fe
        have hlow := (K7.out.frNo FD.out).low
        refine CallTo.cast HFIN.out ⟨V7, R7, Ay, cy, rfl, ?_, GR7.out.trans (Grown.of_no (FD.out.trans fe (fun _ _ h => h))), z1, z3.more (fun b hb => new_sd hlow hb)⟩
        exact K8
    · have hd1 : decide (a.kind = 2) = false := by simpa using hkk
      have HFIN : Hid (finS X6 a x.hosts[k].ty.results = (X6, ansL a x.hosts[k].ty.results)) := by
        unfold Hid finS
        rw [if_neg hkk]
      go_wp2_with fail
      clear hd1 hkk
      have EA7 := hid (EV6.out.more (S' := Nw w5 (wx.setCell ⟨gc, k, none⟩ (.int .i64 (n + 1)))) (fun b hb => hb.1.up (Nat.le_refl _) S6.out))
      have K7 := K6
      have GR7 := GR6
      have GA7 := GA6
      have hH7 := hH6
      clear z0 z1 z2 z3 z4 y1 y2 y3 K6 GR6 GA6 EV6 S6
      generalize wx.setCell ⟨gc, k, none⟩ (.int .i64 (n + 1)) = wc at *
      obtain ⟨Ah7, ch7, hv7, _, hel7⟩ := K7.out.sl_ho
      have hP7 := GR7.out.P
      rw [hH7.out] at hel7 hv7
      have hcell7 : wc.cell? ⟨V.P, 0, none⟩ = some (.slice Ah7 x.hosts.length ch7) := by have := K7.out.blk.cell 0; rw [hP7, hv7] at this; exact this
      obtain ⟨b7, o7, D1, d1, D2, d2, D3, d3, rfl, hbS7, _, _, y2, y3, _, _, _, p17, p27, p37, q17, q27, q37, _, _, _⟩ := Ho_at hel7 k hk
      have HE7 := hid (And.intro p37 q37)
      have HX7 : Hid (∀ X, Fr No wc X → X.cell? ⟨V.P, 0, none⟩ = some (.slice (some ⟨b7, o7, none⟩) x.hosts.length ch7) ∧ X.cell? ⟨b7, o7 + k * 5 + 2, none⟩ = some (.slice D1 x.hosts[k].ty.params.length d1) ∧ X.cell? ⟨b7, o7 + k * 5 + 3, none⟩ = some (.slice D2 x.hosts[k].ty.results.length d2) ∧ X.cell? ⟨ga, 0, none⟩ = some (.int .i64 a.kind) ∧ X.cell? ⟨ga, 1, none⟩ = some (.slice Av a.vals.length cv) ∧ X.cell? ⟨ga, 2, none⟩ = some (.int .i64 a.mem) ∧ X.cell? ⟨ga, 3, none⟩ = some (.int .i64 a.at_) ∧ X.cell? ⟨ga, 4, none⟩ = some (.int .u8 a.byte)) := fun X f => by
        have hg := GA7.out.fr f (fun x => x)
        have hPl := K7.out.blk.lt
        rw [hP7] at hPl
        exact ⟨(f.cell (p := ⟨V.P, 0, none⟩) hPl (fun x => x)).trans hcell7, (f.cell (p := ⟨b7, o7 + k * 5 + 2, none⟩) hbS7 (fun x => x)).trans y2, (f.cell (p := ⟨b7, o7 + k * 5 + 3, none⟩) hbS7 (fun x => x)).trans y3, hg.cell 0, hg.cell 1, hg.cell 2, hg.cell 3, hg.cell 4⟩
      clear hcell7 hel7 hv7 y2 y3 p37 q37 p17 p27 q17 q27
      go_wp2_with fail
      refine wp_region_ord (Fr No wc) [] [(0, true), (1, true), (2, true), (3, true), (4, true), (5, true), (6, true), (7, true), (8, true), (9, false), (10, true), (11, true), (12, true), (13, true), (14, true)] (by kernel_rfl) (by kernel_rfl) (by kernel_rfl) rfl (Fr.refl _ wc).drew ?_
      repeat (first
        | (refine wpO_skip rfl rfl ?_; simp only [List.getElem_toArray, List.getElem_cons_succ, List.getElem_cons_zero, Act.put, List.setIfInBounds_toArray, List.set_cons_zero, List.set_cons_succ])
        | (refine wpO_call rfl rfl ?_; simp only [List.getElem_toArray, List.getElem_cons_succ, List.getElem_cons_zero]; apply Exists.intro; refine ⟨fun X hX => ?_, ?_⟩
           · (obtain ⟨s0, s1, s2, s3, s4, s5, s6, s7⟩ := HX7.out X hX; go_simp; exact stillUpon_value)
           simp only [Act.put, List.setIfInBounds_toArray, List.set_cons_zero, List.set_cons_succ]))
      refine wpO_eff rfl rfl (fun K hK => ?_)
      simp only [List.getElem_toArray, List.getElem_cons_succ, List.getElem_cons_zero]
      go_simp
      refine (hans_any a x.hosts[k].ty.params.length x.hosts[k].ty.results Av D1 D2 cv d1 d2 (· < wc.heap.size) wc.drew (fun _ h => h) (EA7.out.more (fun b hb => hb.2)) HE7.out.2 HB7.out.1 HB7.out.2 (by have := HG.out.r; omega)).mono ?_
      rintro e wd ⟨Ax, cx, rfl, hcx, hex, fd⟩
      have FD : Hid (Fr No wc wd) := (Fr.refl No wc).drew.trans fd (fun _ _ h => h)
      have HXE := hid hex
      refine hK _ _ (fun _ => FD.out) ?_
      clear hK K
      clear fd hex
      generalize hL : ansL a x.hosts[k].ty.results = L at *
      repeat (first
        | (refine wpO_skip rfl rfl ?_; simp only [List.getElem_toArray, List.getElem_cons_succ, List.getElem_cons_zero, Act.put, List.setIfInBounds_toArray, List.set_cons_zero, List.set_cons_succ])
        | (refine wpO_call rfl rfl ?_; simp only [List.getElem_toArray, List.getElem_cons_succ, List.getElem_cons_zero]; apply Exists.intro; refine ⟨fun X hX => ?_, ?_⟩
           · (obtain ⟨s0, s1, s2, s3, s4, s5, s6, s7⟩ := HX7.out X hX; go_simp; exact stillUpon_value)
           simp only [Act.put, List.setIfInBounds_toArray, List.set_cons_zero, List.set_cons_succ]))
      refine wpO_nil ?_
      go_wp2_with fail
      have hL1 : L.1.length ≤ 500 := by
        rw [← hL]
        unfold ansL
        split
        · exact HB7.out.2
        · simp
      refine (cloneVl_any Ax cx L.1 (· < wd.heap.size) wd (HXE.out.more (fun b hb => hb.2)) (fun _ h => h) (by omega)).mono ?_
      rintro e we ⟨Ay, cy, rfl, hry, fe⟩
      go_wp2
      go_ret2
      obtain ⟨z1, z2, z3⟩ := fresh_els (w := wd) hry (Nat.le_refl _) (Fr.refl No we) (fun _ _ _ x => x)
      have K8 := (K7.out.frNo FD.out).frNo fe
      have hlow := (K7.out.frNo FD.out).low
      refine CallTo.cast HFIN.out ⟨V5, R5, Ay, cy, rfl, ?_, GR7.out.trans (Grown.of_no (FD.out.trans fe (fun _ _ h => h))), z1, z3.more (fun b hb => new_sd hlow hb)⟩
      exact K8
end
end Go.Proofs.YtdckghiipijobaaGreat
