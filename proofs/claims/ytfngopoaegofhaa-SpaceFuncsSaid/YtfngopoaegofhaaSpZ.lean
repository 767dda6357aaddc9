/- The law SpaceBlocks. -/
import Derived.Test.YtfngopoaegofhaaSpX
import Derived.Test.YtfngopoaegofhaaSpY
import Derived.Test.YtfngopoaegofhaaOrt
import Derived.Deep.DeepCutAuto
namespace Go.Proofs.Ytfngopoaegofhaa
open Go.RowKit

theorem FnNew.els {w : World} {base : Nat} {A1 A2 : Option Addr} {c1 c2 : Nat} {f : Fn} (h : FnNew w base A1 c1 A2 c2 f) : tI.els w (· < w.heap.size) A1 f.params ∧ tI.els w (· < w.heap.size) A2 f.results :=
  ⟨h.p.els' (fun _ h => h.elim) (fun g hg => by obtain ⟨_, _, hb⟩ := h.p.own hg; exact hb.lt), h.r.els' (fun _ h => h.elim) (fun g hg => by obtain ⟨_, _, hb⟩ := h.r.own hg; exact hb.lt)⟩
/-- A function type in a variable. -/
def FnVar (W : World) (f : Fn) (q : Nat) (A1 : Option Addr) (c1 : Nat) (A2 : Option Addr) (c2 : Nat) (X : World) : Prop :=
  Blk X q 38 #[.slice A1 f.params.length c1, .slice A2 f.results.length c2] ∧ tI.els X (· < X.heap.size) A1 f.params ∧ tI.els X (· < X.heap.size) A2 f.results ∧ Fr No W X
theorem FnVar.fr {W X X' : World} {f : Fn} {q c1 c2 : Nat} {A1 A2 : Option Addr} (h : FnVar W f q A1 c1 A2 c2 X) (g : Fr No X X') : FnVar W f q A1 c1 A2 c2 X' :=
  ⟨h.1.fr g (fun x => x), (h.2.1.fr g (fun _ hk => ⟨hk, fun x => x⟩)).more (fun _ hk => Nat.lt_of_lt_of_le hk g.size), (h.2.2.1.fr g (fun _ hk => ⟨hk, fun x => x⟩)).more (fun _ hk => Nat.lt_of_lt_of_le hk g.size), h.2.2.2.trans g (fun _ _ h => h)⟩
theorem fnVar_new {W X : World} {base : Nat} {f : Fn} {A1 A2 : Option Addr} {c1 c2 : Nat} (h : FnNew X base A1 c1 A2 c2 f) (g : Fr No W X) : FnVar W f X.heap.size A1 c1 A2 c2 (X.alloc (.cells #[.slice A1 f.params.length c1, .slice A2 f.results.length c2] 38)) := by
  have F := (Fr.refl No X).alloc (.cells #[.slice A1 f.params.length c1, .slice A2 f.results.length c2] 38)
  refine ⟨Blk.new X _ _, ?_, ?_, g.alloc _⟩
  · exact (h.els.1.fr F (fun _ hk => ⟨hk, fun x => x⟩)).more (fun _ hk => Nat.lt_of_lt_of_le hk F.size)
  · exact (h.els.2.fr F (fun _ hk => ⟨hk, fun x => x⟩)).more (fun _ hk => Nat.lt_of_lt_of_le hk F.size)
theorem fnVar_set {W X : World} {base q : Nat} {f : Fn} {A1 A2 : Option Addr} {c1 c2 : Nat} (h : FnNew X base A1 c1 A2 c2 f) (hq : Blk X q 38 #[.slice none 0 0, .slice none 0 0]) (g : Fr No W X) (hb : q < base) (hw : W.heap.size ≤ q) : FnVar W f q A1 c1 A2 c2 ((X.setCell ⟨q, 0, none⟩ (.slice A1 f.params.length c1)).setCell ⟨q, 1, none⟩ (.slice A2 f.results.length c2)) := by
  have F := ((Fr.refl (One q) X).setCell ⟨q, 0, none⟩ (.slice A1 f.params.length c1) (fun _ => rfl)).setCell ⟨q, 1, none⟩ (.slice A2 f.results.length c2) (fun _ => rfl)
  refine ⟨?_, ?_, ?_, g.trans F (fun i hi h => by simp only [One] at h; omega)⟩
  · have := (hq.set_ 0 (.slice A1 f.params.length c1)).set_ 1 (.slice A2 f.results.length c2)
    simpa using this
  · exact (h.fr' F (fun k hk h => by simp only [One] at h; omega)).els.1
  · exact (h.fr' F (fun k hk h => by simp only [One] at h; omega)).els.2
set_option maxRecDepth 100000 in
set_option maxHeartbeats 6400000 in
theorem sblk_t (nt ni nf nta nm ng ne nel nd nc ct ci cf cta cm cg ce cel cd cc : Nat) (At Ai Af Ata Am Ag Ae Ael Ad Ac : Option Addr) (bst : Bool) (vst : Int) (w : World) (m : Md) (b : Bk) (hv : (Lit.int .i64 b.val).wf = true) (hbst : m.hasStart = bst) (hvst : m.start = vst)
    (hIN : FewOk m.elems nt ni nf nta nm ng ne nel nd → MdIn w m At Ai Af Ata Am Ag Ae Ael) (hel : tEl.els w (· < w.heap.size) Ael m.elems) (hit : ∀ e ∈ m.elems, e.items.length ≤ 140737488351232)
    (et : Hid (m.types.length = nt)) (ei : Hid (m.imports.length = ni)) (ef : Hid (m.funcs.length = nf)) (eta_ : Hid (m.tables.length = nta)) (em : Hid (m.mems.length = nm)) (eg : Hid (m.globals.length = ng)) (ee : Hid (m.exports.length = ne)) (eel : Hid (m.elems.length = nel)) (ed : Hid (m.datas = nd)) :
    Calls Try.prog 5 #[.agg #[.slice At nt ct, .slice Ai ni ci, .slice Af nf cf, .slice Ata nta cta, .slice Am nm cm, .slice Ag ng cg, .slice Ae ne ce, .bool bst, .int .i64 vst, .slice Ael nel cel, .slice Ad nd cd, .slice Ac nc cc], .agg #[.int .i64 b.kind, .int .i64 b.val, .int .i64 b.index]] w fun e w' => e = .returned (.bool true) ∧ Fr No w w' := by
  have F0 := hid (((Fr.refl No w).alloc (.cells #[.slice At nt ct, .slice Ai ni ci, .slice Af nf cf, .slice Ata nta cta, .slice Am nm cm, .slice Ag ng cg, .slice Ae ne ce, .bool bst, .int .i64 vst, .slice Ael nel cel, .slice Ad nd cd, .slice Ac nc cc] 33)).alloc (.cells #[.int .i64 b.kind, .int .i64 b.val, .int .i64 b.index] 52))
  have G0 := hid ((Blk.new w 33 #[.slice At nt ct, .slice Ai ni ci, .slice Af nf cf, .slice Ata nta cta, .slice Am nm cm, .slice Ag ng cg, .slice Ae ne ce, .bool bst, .int .i64 vst, .slice Ael nel cel, .slice Ad nd cd, .slice Ac nc cc]).alloc (.cells #[.int .i64 b.kind, .int .i64 b.val, .int .i64 b.index] 52))
  have GB := hid (Blk.new (w.alloc (.cells #[.slice At nt ct, .slice Ai ni ci, .slice Af nf cf, .slice Ata nta cta, .slice Am nm cm, .slice Ag ng cg, .slice Ae ne ce, .bool bst, .int .i64 vst, .slice Ael nel cel, .slice Ad nd cd, .slice Ac nc cc] 33)) 52 #[.int .i64 b.kind, .int .i64 b.val, .int .i64 b.index])
  have hsz : (w.alloc (.cells #[.slice At nt ct, .slice Ai ni ci, .slice Af nf cf, .slice Ata nta cta, .slice Am nm cm, .slice Ag ng cg, .slice Ae ne ce, .bool bst, .int .i64 vst, .slice Ael nel cel, .slice Ad nd cd, .slice Ac nc cc] 33)).heap.size = w.heap.size + 1 := by simp
  rw [hsz] at GB
  have HIN := hid hIN
  have HFW := hid (few_any nt ni nf nta nm ng ne nel nd nc ct ci cf cta cm cg ce cel cd cc At Ai Af Ata Am Ag Ae Ael Ad Ac bst vst ((w.alloc (.cells #[.slice At nt ct, .slice Ai ni ci, .slice Af nf cf, .slice Ata nta cta, .slice Am nm cm, .slice Ag ng cg, .slice Ae ne ce, .bool bst, .int .i64 vst, .slice Ael nel cel, .slice Ad nd cd, .slice Ac nc cc] 33)).alloc (.cells #[.int .i64 b.kind, .int .i64 b.val, .int .i64 b.index] 52)) m.elems (· < w.heap.size) (hel.fr F0.out (fun k hk => ⟨hk, fun x => x⟩)) (fun k hk => Nat.lt_of_lt_of_le hk F0.out.size) eel hit)
  have HB := hid hbst
  have HV := hid hvst
  clear hIN hel hit hbst hvst hsz
  go_enter Try.func5, Try.ntmps5
  go_wp2_with fail
  refine HFW.out.mono ?_
  rintro e w1 ⟨⟨r, rfl, hr⟩, f1⟩
  have F1 := hid (F0.out.trans f1 (fun _ _ h => h))
  have G1 := hid (G0.out.fr f1 (fun x => x))
  have G1B := hid (GB.out.fr f1 (fun x => x))
  have HR := hid hr
  clear hr f1 HFW G0 F0 GB
  cases r with
  | false =>
    go_wp2_with fail
    refine (alive_any _).mono ?_
    rintro e w2 ⟨rfl, f2⟩
    have F2 := hid (F1.out.trans f2 (fun _ _ h => h))
    clear f2
    go_wp2
    go_ret
    exact ⟨rfl, F2.out⟩
  | true =>
    have HF := hid (HR.out rfl)
    have HM := hid (HIN.out HF.out)
    have HX : Hid (∀ X, Fr No w1 X → X.cell? ⟨w.heap.size, 0, none⟩ = some (.slice At nt ct) ∧ X.cell? ⟨w.heap.size, 1, none⟩ = some (.slice Ai ni ci) ∧ X.cell? ⟨w.heap.size, 2, none⟩ = some (.slice Af nf cf) ∧ X.cell? ⟨w.heap.size, 3, none⟩ = some (.slice Ata nta cta) ∧ X.cell? ⟨w.heap.size, 4, none⟩ = some (.slice Am nm cm) ∧ X.cell? ⟨w.heap.size, 5, none⟩ = some (.slice Ag ng cg) ∧ X.cell? ⟨w.heap.size, 6, none⟩ = some (.slice Ae ne ce) ∧ X.cell? ⟨w.heap.size, 7, none⟩ = some (.bool bst) ∧ X.cell? ⟨w.heap.size, 8, none⟩ = some (.int .i64 vst) ∧ X.cell? ⟨w.heap.size, 9, none⟩ = some (.slice Ael nel cel) ∧ X.cell? ⟨w.heap.size, 10, none⟩ = some (.slice Ad nd cd) ∧ X.cell? ⟨w.heap.size, 11, none⟩ = some (.slice Ac nc cc) ∧ X.cell? ⟨w.heap.size + 1, 0, none⟩ = some (.int .i64 b.kind) ∧ X.cell? ⟨w.heap.size + 1, 1, none⟩ = some (.int .i64 b.val) ∧ X.cell? ⟨w.heap.size + 1, 2, none⟩ = some (.int .i64 b.index)) := fun X f => by
      have h := G1.out.fr f (fun x => x)
      have h' := G1B.out.fr f (fun x => x)
      exact ⟨h.cell 0, h.cell 1, h.cell 2, h.cell 3, h.cell 4, h.cell 5, h.cell 6, h.cell 7, h.cell 8, h.cell 9, h.cell 10, h.cell 11, h'.cell 0, h'.cell 1, h'.cell 2⟩
    have HLP : Hid (∀ f ∈ (SpV.of m).types, f.params.length * 8 ≤ 140737488351232 ∧ f.results.length * 8 ≤ 140737488351232) := by
      rw [(of_fields m).1]
      exact HM.out.lp
    have HT1 : Hid ((SpV.of m).types.length ≤ 1000000) := by
      rw [(of_fields m).1, et.out]
      have := HF.out.lt
      show _ ≤ _
      omega
    have HOFF : Hid (∀ X, Fr No w1 X → Calls Try.prog 11 #[.agg #[.slice At nt ct, .slice Ai ni ci, .slice Af nf cf, .slice Ata nta cta, .slice Am nm cm, .slice Ag ng cg, .slice Ae ne ce, .bool bst, .int .i64 vst, .slice Ael nel cel, .slice Ad nd cd, .slice Ac nc cc]] X (OfTo m X)) := fun X f => by
      have HOF := of_any X m nt ni nf nta nm ng ne nel nd nc At Ai Af Ata Am Ag Ae Ael Ad Ac ct ci cf cta cm cg ce cel cd cc ((HM.out.fr F1.out).fr f) et ei ef eta_ em eg ee eel ed HF.out.lt (Nat.le_succ_of_le HF.out.li) HF.out.lf HF.out.lta HF.out.lm HF.out.lg HF.out.le HF.out.lel HF.out.ld
      rw [HB.out, HV.out] at HOF
      exact HOF
    clear HR HIN G1 G1B
    go_upto_region 3 with fail
    go_cut [5, 6] (fun p5 b6 wx => ∃ (q : Nat) (A1 : Option Addr) (c1 : Nat) (A2 : Option Addr) (c2 : Nat), p5 = .pointer (some ⟨q, 0, none⟩) ∧ b6 = .bool (blkD m.types b).2 ∧ FnVar w1 (blkD m.types b).1 q A1 c1 A2 c2 wx)
    case first =>
      refine wp_region_ort (Fr No w1) (.rd 0 (.rd 2 (.alt 1 (.alt 3 (.rd 4 (.rd 5 (.rd 6 (.eff 7 (.eff 8 (.rd 9 .nil)))))) 7 (.eff 3 (.rd 4 (.rd 5 (.rd 6 (.eff 8 (.rd 9 .nil)))))))  7 (.eff 1 (.eff 3 (.rd 4 (.rd 5 (.rd 6 (.eff 8 (.rd 9 .nil)))))))))) (by kernel_rfl) (by kernel_rfl) (by kernel_rfl) rfl ((Fr.refl _ _).drew) ?_
      repeat (first
        | (refine wpT_skip rfl rfl ?_; simp only [List.getElem_toArray, List.getElem_cons_succ, List.getElem_cons_zero, Act.put, List.setIfInBounds_toArray, List.set_cons_zero, List.set_cons_succ])
        | (refine wpT_call rfl rfl ?_; simp only [List.getElem_toArray, List.getElem_cons_succ, List.getElem_cons_zero]; apply Exists.intro; refine ⟨fun X hX => ?_, ?_⟩
           · (obtain ⟨s0, s1, s2, s3, s4, s5, s6, s7, s8, s9, s10, s11, s12, s13, s14⟩ := HX.out X hX; go_simp; exact stillUpon_value)
           simp only [Act.put, List.setIfInBounds_toArray, List.set_cons_zero, List.set_cons_succ]))
      refine wpT_alt ?_ ?_
      · skip
        refine wpT_eff rfl rfl (fun K hK => ?_)
        simp only [List.getElem_toArray, List.getElem_cons_succ, List.getElem_cons_zero]
        go_simp
        refine (HOFF.out _ ((Fr.refl No w1).drew)).mono ?_
        rintro e w2 ⟨p, gx, gs, bi, bd, nI, nD, ST, v0, v1, v2, v3, v4, v5, rfl, hb, hs, f2⟩
        have F2 := hid (((Fr.refl No w1).drew).trans f2 (fun _ _ h => h))
        have FO := hid f2
        have HP := hid (SpP.mk hb hs)
        clear hb hs f2
        refine hK _ _ (F2.out) ?_
        clear hK K
        refine wpT_alt ?_ ?_
        · skip
          refine wpT_eff rfl rfl (fun K hK => ?_)
          simp only [List.getElem_toArray, List.getElem_cons_succ, List.getElem_cons_zero]
          go_simp
          refine (mBlock_any _ w2 p gx gs bi bd ST nI nD v0 v1 v2 v3 v4 v5 (SpV.of m) b HT1.out HLP.out hv HP.out).mono ?_
          rw [(of_fields m).1]
          rintro e w3 ⟨A1, c1, A2, c2, rfl, hn, f3⟩
          have HN := hid hn
          have F3 := hid (F2.out.trans f3 (fun _ _ h => h))
          have F3' := hid f3
          clear hn f3
          refine hK _ _ (F3.out) ?_
          clear hK K
          repeat (first
            | (refine wpT_skip rfl rfl ?_; simp only [List.getElem_toArray, List.getElem_cons_succ, List.getElem_cons_zero, Act.put, List.setIfInBounds_toArray, List.set_cons_zero, List.set_cons_succ])
            | (refine wpT_call rfl rfl ?_; simp only [List.getElem_toArray, List.getElem_cons_succ, List.getElem_cons_zero]; apply Exists.intro; refine ⟨fun X hX => ?_, ?_⟩
               · (obtain ⟨s0, s1, s2, s3, s4, s5, s6, s7, s8, s9, s10, s11, s12, s13, s14⟩ := HX.out X hX; go_simp; exact stillUpon_value)
               simp only [Act.put, List.setIfInBounds_toArray, List.set_cons_zero, List.set_cons_succ]))
          refine wpT_eff rfl rfl (fun K hK => ?_)
          simp only [List.getElem_toArray, List.getElem_cons_succ, List.getElem_cons_zero]
          go_simp
          refine hK _ _ (F3.out.alloc _) ?_
          clear hK K
          refine wpT_eff rfl rfl (fun K hK => ?_)
          simp only [List.getElem_toArray, List.getElem_cons_succ, List.getElem_cons_zero]
          go_simp
          refine hK _ _ (F3.out.alloc _) ?_
          clear hK K
          repeat (first
            | (refine wpT_skip rfl rfl ?_; simp only [List.getElem_toArray, List.getElem_cons_succ, List.getElem_cons_zero, Act.put, List.setIfInBounds_toArray, List.set_cons_zero, List.set_cons_succ])
            | (refine wpT_call rfl rfl ?_; simp only [List.getElem_toArray, List.getElem_cons_succ, List.getElem_cons_zero]; apply Exists.intro; refine ⟨fun X hX => ?_, ?_⟩
               · (obtain ⟨s0, s1, s2, s3, s4, s5, s6, s7, s8, s9, s10, s11, s12, s13, s14⟩ := HX.out X hX; go_simp; exact stillUpon_value)
               simp only [Act.put, List.setIfInBounds_toArray, List.set_cons_zero, List.set_cons_succ]))
          refine wpT_nil ?_
          go_wp2_with fail
          go_meet
          case rel => exact ⟨_, A1, c1, A2, c2, rfl, rfl, fnVar_new HN.out F3.out⟩
        · skip
          refine wpT_eff rfl rfl (fun K hK => ?_)
          simp only [List.getElem_toArray, List.getElem_cons_succ, List.getElem_cons_zero]
          go_simp
          refine hK _ _ ((F2.out.alloc _)) ?_
          clear hK K
          have HPz := hid (HP.out.frNo ((Fr.refl No w2).alloc (.cells #[.slice none 0 0, .slice none 0 0] 38)))
          have Fz := hid (F2.out.alloc (.cells #[.slice none 0 0, .slice none 0 0] 38))
          have Gz := hid (Blk.new w2 38 #[.slice none 0 0, .slice none 0 0])
          have hge := F2.out.size
          have hsl : w2.heap.size < (w2.alloc (.cells #[.slice none 0 0, .slice none 0 0] 38)).heap.size := Gz.out.lt
          generalize hWz : w2.alloc (.cells #[.slice none 0 0, .slice none 0 0] 38) = Wz at *
          clear hWz
          clear F2 HP
          have F2 := Fz
          have HP := HPz
          refine wpT_eff rfl rfl (fun K hK => ?_)
          simp only [List.getElem_toArray, List.getElem_cons_succ, List.getElem_cons_zero]
          go_simp
          refine (mBlock_any _ Wz p gx gs bi bd ST nI nD v0 v1 v2 v3 v4 v5 (SpV.of m) b HT1.out HLP.out hv HP.out).mono ?_
          rw [(of_fields m).1]
          rintro e w3 ⟨A1, c1, A2, c2, rfl, hn, f3⟩
          have HN := hid hn
          have F3 := hid (F2.out.trans f3 (fun _ _ h => h))
          have F3' := hid f3
          clear hn f3
          refine hK _ _ (F3.out) ?_
          clear hK K
          repeat (first
            | (refine wpT_skip rfl rfl ?_; simp only [List.getElem_toArray, List.getElem_cons_succ, List.getElem_cons_zero, Act.put, List.setIfInBounds_toArray, List.set_cons_zero, List.set_cons_succ])
            | (refine wpT_call rfl rfl ?_; simp only [List.getElem_toArray, List.getElem_cons_succ, List.getElem_cons_zero]; apply Exists.intro; refine ⟨fun X hX => ?_, ?_⟩
               · (obtain ⟨s0, s1, s2, s3, s4, s5, s6, s7, s8, s9, s10, s11, s12, s13, s14⟩ := HX.out X hX; go_simp; exact stillUpon_value)
               simp only [Act.put, List.setIfInBounds_toArray, List.set_cons_zero, List.set_cons_succ]))
          have Gz := hid (Gz.out.fr F3'.out (fun x => x))
          have hFZ := hid (fnVar_set HN.out Gz.out F3.out hsl (hge))
          obtain ⟨z0, z1⟩ := (⟨Gz.out.cell 0, Gz.out.cell 1⟩ : _ ∧ _)
          obtain ⟨q0, q1⟩ := (⟨Gz.out.frozen 0, Gz.out.frozen 1⟩ : _ ∧ _)
          have hn1 := hid F3.out
          refine wpT_eff rfl rfl (fun K hK => ?_)
          simp only [List.getElem_toArray, List.getElem_cons_succ, List.getElem_cons_zero]
          go_simp
          refine hK _ _ (hFZ.out.2.2.2) ?_
          clear hK K
          repeat (first
            | (refine wpT_skip rfl rfl ?_; simp only [List.getElem_toArray, List.getElem_cons_succ, List.getElem_cons_zero, Act.put, List.setIfInBounds_toArray, List.set_cons_zero, List.set_cons_succ])
            | (refine wpT_call rfl rfl ?_; simp only [List.getElem_toArray, List.getElem_cons_succ, List.getElem_cons_zero]; apply Exists.intro; refine ⟨fun X hX => ?_, ?_⟩
               · (obtain ⟨s0, s1, s2, s3, s4, s5, s6, s7, s8, s9, s10, s11, s12, s13, s14⟩ := HX.out X hX; go_simp; exact stillUpon_value)
               simp only [Act.put, List.setIfInBounds_toArray, List.set_cons_zero, List.set_cons_succ]))
          refine wpT_nil ?_
          go_wp2_with fail
          go_meet
          case rel => exact ⟨_, A1, c1, A2, c2, rfl, rfl, hFZ.out⟩
      · skip
        refine wpT_eff rfl rfl (fun K hK => ?_)
        simp only [List.getElem_toArray, List.getElem_cons_succ, List.getElem_cons_zero]
        go_simp
        refine hK _ _ (((Fr.refl No w1).alloc _).drew) ?_
        clear hK K
        have Fz := hid ((Fr.refl No w1).alloc (.cells #[.slice none 0 0, .slice none 0 0] 38)).drew
        have Gz := hid (Blk.new w1 38 #[.slice none 0 0, .slice none 0 0]).drew
        have hge : w1.heap.size ≤ w1.heap.size := Nat.le_refl _
        have hsl : w1.heap.size < (w1.alloc (.cells #[.slice none 0 0, .slice none 0 0] 38)).drew.heap.size := Gz.out.lt
        generalize hWz : (w1.alloc (.cells #[.slice none 0 0, .slice none 0 0] 38)).drew = Wz at *
        clear hWz
        refine wpT_eff rfl rfl (fun K hK => ?_)
        simp only [List.getElem_toArray, List.getElem_cons_succ, List.getElem_cons_zero]
        go_simp
        refine (HOFF.out _ (Fz.out)).mono ?_
        rintro e w2 ⟨p, gx, gs, bi, bd, nI, nD, ST, v0, v1, v2, v3, v4, v5, rfl, hb, hs, f2⟩
        have F2 := hid ((Fz.out).trans f2 (fun _ _ h => h))
        have FO := hid f2
        have HP := hid (SpP.mk hb hs)
        clear hb hs f2
        have Gz := hid (Gz.out.fr FO.out (fun x => x))
        have hsl := Nat.lt_of_lt_of_le hsl FO.out.size
        refine hK _ _ (F2.out) ?_
        clear hK K
        refine wpT_eff rfl rfl (fun K hK => ?_)
        simp only [List.getElem_toArray, List.getElem_cons_succ, List.getElem_cons_zero]
        go_simp
        refine (mBlock_any _ w2 p gx gs bi bd ST nI nD v0 v1 v2 v3 v4 v5 (SpV.of m) b HT1.out HLP.out hv HP.out).mono ?_
        rw [(of_fields m).1]
        rintro e w3 ⟨A1, c1, A2, c2, rfl, hn, f3⟩
        have HN := hid hn
        have F3 := hid (F2.out.trans f3 (fun _ _ h => h))
        have F3' := hid f3
        clear hn f3
        refine hK _ _ (F3.out) ?_
        clear hK K
        repeat (first
          | (refine wpT_skip rfl rfl ?_; simp only [List.getElem_toArray, List.getElem_cons_succ, List.getElem_cons_zero, Act.put, List.setIfInBounds_toArray, List.set_cons_zero, List.set_cons_succ])
          | (refine wpT_call rfl rfl ?_; simp only [List.getElem_toArray, List.getElem_cons_succ, List.getElem_cons_zero]; apply Exists.intro; refine ⟨fun X hX => ?_, ?_⟩
             · (obtain ⟨s0, s1, s2, s3, s4, s5, s6, s7, s8, s9, s10, s11, s12, s13, s14⟩ := HX.out X hX; go_simp; exact stillUpon_value)
             simp only [Act.put, List.setIfInBounds_toArray, List.set_cons_zero, List.set_cons_succ]))
        have Gz := hid (Gz.out.fr F3'.out (fun x => x))
        have hFZ := hid (fnVar_set HN.out Gz.out F3.out hsl (hge))
        obtain ⟨z0, z1⟩ := (⟨Gz.out.cell 0, Gz.out.cell 1⟩ : _ ∧ _)
        obtain ⟨q0, q1⟩ := (⟨Gz.out.frozen 0, Gz.out.frozen 1⟩ : _ ∧ _)
        have hn1 := hid F3.out
        refine wpT_eff rfl rfl (fun K hK => ?_)
        simp only [List.getElem_toArray, List.getElem_cons_succ, List.getElem_cons_zero]
        go_simp
        refine hK _ _ (hFZ.out.2.2.2) ?_
        clear hK K
        repeat (first
          | (refine wpT_skip rfl rfl ?_; simp only [List.getElem_toArray, List.getElem_cons_succ, List.getElem_cons_zero, Act.put, List.setIfInBounds_toArray, List.set_cons_zero, List.set_cons_succ])
          | (refine wpT_call rfl rfl ?_; simp only [List.getElem_toArray, List.getElem_cons_succ, List.getElem_cons_zero]; apply Exists.intro; refine ⟨fun X hX => ?_, ?_⟩
             · (obtain ⟨s0, s1, s2, s3, s4, s5, s6, s7, s8, s9, s10, s11, s12, s13, s14⟩ := HX.out X hX; go_simp; exact stillUpon_value)
             simp only [Act.put, List.setIfInBounds_toArray, List.set_cons_zero, List.set_cons_succ]))
        refine wpT_nil ?_
        go_wp2_with fail
        go_meet
        case rel => exact ⟨_, A1, c1, A2, c2, rfl, rfl, hFZ.out⟩
    case rest =>
      obtain ⟨q, A1, c1, A2, c2, rfl, rfl, hvar⟩ := hcut
      have HV1 := hid hvar
      have FB := hid (rBlock_any nt ni nf nta nm ng ne nel nd nc ct ci cf cta cm cg ce cel cd cc At Ai Af Ata Am Ag Ae Ael Ad Ac bst vst wc m.types b (· < w.heap.size) (((HM.out.types.fr F1.out (fun k hk => ⟨hk, fun x => x⟩)).fr hvar.2.2.2 (fun k hk => ⟨Nat.lt_of_lt_of_le hk F1.out.size, fun x => x⟩))) (fun k hk => Nat.lt_of_lt_of_le hk (F1.out.trans hvar.2.2.2 (fun _ _ h => h)).size) et HF.out.lt hv)
      obtain ⟨y0, y1, y2, y3, y4, y5, y6, y7, y8, y9, y10, y11, y12, y13, y14⟩ := HX.out _ hvar.2.2.2
      have HLEN : Hid ((blkD m.types b).1.params.length ≤ 140737488355328 ∧ (blkD m.types b).1.results.length ≤ 140737488355328) := by
        have hlp := HM.out.lp
        show _ ∧ _
        unfold blkD
        split
        · exact ⟨by simp [zFn], by simp [zFn]⟩
        split
        · split <;> exact ⟨by simp [zFn], by simp [zFn]⟩
        split
        · rcases at_cases m.types b.index with ⟨k, hk, hi⟩ | hi | ⟨hi0, hi⟩
          · rw [hi, atD_yes hk]
            have := hlp _ (List.getElem_mem hk)
            show m.types[k].params.length ≤ _ ∧ m.types[k].results.length ≤ _
            exact ⟨by omega, by omega⟩
          · rw [atD_no (.inl hi)]; exact ⟨by simp [zFn], by simp [zFn]⟩
          · rw [atD_no (.inr hi)]; exact ⟨by simp [zFn], by simp [zFn]⟩
        · exact ⟨by simp [zFn], by simp [zFn]⟩
      clear hvar
      generalize hf : (blkD m.types b).1 = f at *
      generalize hok : (blkD m.types b).2 = ok at *
      clear hf hok
      go_wp2_with fail
      refine FB.out.mono ?_
      clear FB
      rintro e w5 ⟨B1, d1, B2, d2, rfl, r1, r2, f5⟩
      have V5 := hid ((HV1.out.fr f5).fr ((Fr.refl No w5).alloc (.cells #[.slice B1 f.params.length d1, .slice B2 f.results.length d2] 38)))
      have F6 := (Fr.refl No w5).alloc (.cells #[.slice B1 f.params.length d1, .slice B2 f.results.length d2] 38)
      have HS := hid (rSame_any A1 A2 B1 B2 f f c1 c2 d1 d2 (· < (w5.alloc (.cells #[.slice B1 f.params.length d1, .slice B2 f.results.length d2] 38)).heap.size) (· < (w5.alloc (.cells #[.slice B1 f.params.length d1, .slice B2 f.results.length d2] 38)).heap.size) (w5.alloc (.cells #[.slice B1 f.params.length d1, .slice B2 f.results.length d2] 38)) (fun _ h => h) (fun _ h => h) V5.out.2.1 V5.out.2.2.1
        ((r1.fr F6 (fun _ hk => ⟨hk, fun x => x⟩)).more (fun _ hk => Nat.lt_of_lt_of_le hk F6.size)) ((r2.fr F6 (fun _ hk => ⟨hk, fun x => x⟩)).more (fun _ hk => Nat.lt_of_lt_of_le hk F6.size)) HLEN.out.1 HLEN.out.2 HLEN.out.1 HLEN.out.2)
      have e0 : sameB f f = true := by simp [sameB]
      rw [e0] at HS
      have GW := Blk.new w5 38 #[.slice B1 f.params.length d1, .slice B2 f.results.length d2]
      have z0 := GW.cell 0
      have z1 := GW.cell 1
      have x0 := V5.out.1.cell 0
      have x1 := V5.out.1.cell 1
      clear GW r1 r2 f5 F6 e0 y0 y1 y2 y3 y4 y5 y6 y7 y8 y9 y10 y11 y12 y13 y14
      go_wp2_with fail
      refine HS.out.mono ?_
      clear HS
      rintro e w6 ⟨rfl, f6⟩
      have F7 := hid (F1.out.trans (V5.out.2.2.2.trans f6 (fun _ _ h => h)) (fun _ _ h => h))
      clear f6
      cases ok <;>
      · go_wp2_with fail
        refine (alive_any _).mono ?_
        rintro e w7 ⟨rfl, f7⟩
        have F8 := hid (F7.out.trans f7 (fun _ _ h => h))
        clear f7
        go_wp2
        go_ret
        exact ⟨rfl, F8.out⟩
theorem spaceBlocks_walk (w : World) (v0 v1 : Value) (x0 : Md) (x1 : Bk) (y0 : tMd.rd w (· < w.heap.size) v0.cells.toList x0) (y1 : tBk.rd w (· < w.heap.size) v1.cells.toList x1) (u0 : tMd.lw 140737488351232 x0) (_u1 : tBk.lw 140737488351232 x1) (hv0 : ∃ cs, v0 = .agg cs) (hv1 : ∃ cs, v1 = .agg cs) :
    Calls Try.prog 5 #[v0, v1] w fun e w' => e = .returned (.bool true) ∧ Below w.heap.size w w' := by
  obtain ⟨cs, rfl⟩ := hv0
  obtain ⟨cs', rfl⟩ := hv1
  obtain ⟨hbc, _, hbv, _⟩ := Bk_cells y1
  have hcb : cs' = #[.int .i64 x1.kind, .int .i64 x1.val, .int .i64 x1.index] := by
    have : cs'.toList = _ := hbc
    rw [← Array.toArray_toList (xs := cs'), this]
  subst hcb
  obtain ⟨At, ct, Ai, ci, Af, cf, Ata, cta, Am, cm, Ag, cg, Ae, ce, Ael, cel, Ad, cd, Ac, cc, hcs, _, _, h1, _, _, h2, _, _, h3, _, _, h4, _, _, h5, _, _, h6, _, _, h7, _, _, _, h8, _⟩ := Md_cells y0
  have hcs' : cs = #[.slice At x0.types.length ct, .slice Ai x0.imports.length ci, .slice Af x0.funcs.length cf, .slice Ata x0.tables.length cta, .slice Am x0.mems.length cm, .slice Ag x0.globals.length cg, .slice Ae x0.exports.length ce, .bool x0.hasStart, .int .i64 x0.start, .slice Ael x0.elems.length cel, .slice Ad x0.datas cd, .slice Ac x0.customs cc] := by
    have : cs.toList = _ := hcs
    rw [← Array.toArray_toList (xs := cs), this]
  subst hcs'
  exact (sblk_t _ _ _ _ _ _ _ _ _ _ ct ci cf cta cm cg ce cel cd cc At Ai Af Ata Am Ag Ae Ael Ad Ac _ _ w x0 x1 hbv rfl rfl (md_in h1 h2 h3 h4 h5 h6 h7 h8 u0) h8 (md_items u0) rfl rfl rfl rfl rfl rfl rfl rfl rfl).mono fun e w' ⟨a, b⟩ => ⟨a, b.below⟩
end Go.Proofs.Ytfngopoaegofhaa
