/- Contracts: Shot, its walk. -/
import Derived.Test.YtdckghiipijobaaGreatStT
import Derived.Test.YtdckghiipijobaaGreatStU
namespace Go.Proofs.YtdckghiipijobaaGreat
open Go.RowKit

theorem own_us {w : World} {q c : Nat} {xs : List Int} {S : Nat → Prop} (h : Own w q 55 c (Us xs)) (hw : ∀ u ∈ xs, (Lit.int .u64 u).wf = true) (hS : q < w.heap.size → S q) :
    xs.length ≤ c ∧ c ≤ maxLen ∧ tU.els w S (some ⟨q, 0, none⟩) xs := by
  have hlt := h.lt
  obtain ⟨cur, h1, h2, h3, _⟩ := h.cur
  rw [len_Us] at h2
  refine ⟨h2, h3, .inr ⟨q, 0, rfl, hS hlt, fun i u hi => ⟨[.int .u64 u], fun j v hj => ?_, int_mk (hw u (List.mem_of_getElem? hi))⟩⟩⟩
  obtain ⟨hil, hiu⟩ := List.getElem?_eq_some_iff.1 hi
  obtain ⟨b, o, e, hc⟩ := Us_rd (h.rd h.lt) i hil
  injection e with e
  injection e with e1 e2 _
  subst e1 e2
  have hj0 : j = 0 := by have := (List.getElem?_eq_some_iff.1 hj).1; simpa using this
  subst hj0
  have hv : v = .int .u64 u := by simpa using hj.symm
  rw [hv, ← hiu, show tU.size = 1 from rfl, Nat.mul_one, Nat.add_zero]
  exact hc
structure ShOk (x : Rx) : Prop where
  tw : ∀ t ∈ x.tabs, ∀ u ∈ t.l, (Lit.int .u64 u).wf = true
  ms : ∀ m ∈ x.mems, m.b.length ≤ 100000
  lme : x.mems.length ≤ 1000000
  lta : x.tabs.length ≤ 1000000
  lgl : x.globs.length ≤ 1000000
  lel : x.elems.length ≤ 1000000
  lda : x.datas.length ≤ 1000000
  lca : x.calls.length ≤ 1000000
  ca : ∀ c ∈ x.calls, c.args.length * 16 ≤ 140737488351232
section
variable {w : World} {R : Nat → Prop} {V : Pl} {x : Rx}
set_option maxRecDepth 100000 in
set_option maxHeartbeats 12800000 in
theorem shot_any (h : StIn w R V x) (hok : ShOk x) :
    Calls Tryz.prog 15 #[.pointer (some ⟨V.P, 0, none⟩)] w (FreshTo tSh (shotS x) w) := by
  have H := hid h
  have hok := hid hok
  obtain ⟨B0, d0, s0, _, e0⟩ := h.sl_me
  obtain ⟨B1, d1, s1, _, e1⟩ := h.sl_ta
  rw [List.length_map, h.ml] at s0
  rw [List.length_map, h.tl] at s1
  obtain ⟨B2, d2, s2, _, e2⟩ := h.sl_gl
  obtain ⟨B3, d3, s3, _, e3⟩ := h.sl_el
  obtain ⟨B4, d4, s4, _, e4⟩ := h.sl_da
  obtain ⟨B5, d5, s5, _, e5⟩ := h.sl_ca
  have SL0 := hid s0
  have EL0 := hid e0
  have SL1 := hid s1
  have EL1 := hid e1
  have SL2 := hid s2
  have EL2 := hid e2
  have SL3 := hid s3
  have EL3 := hid e3
  have SL4 := hid s4
  have EL4 := hid e4
  have SL5 := hid s5
  have EL5 := hid e5
  clear h s0 e0 s1 e1 s2 e2 s3 e3 s4 e4 s5 e5
  have SB0 : Hid (ShB 83 w ((w.alloc (.cells #[.slice none 0 0, .slice none 0 0, .slice none 0 0, .slice none 0 0, .slice none 0 0, .slice none 0 0] 83)).alloc (.cells #[.slice none 0 0, .slice none 0 0, .slice none 0 0, .slice none 0 0, .slice none 0 0, .slice none 0 0] 83)) w.heap.size (w.heap.size + 1) #[.slice none 0 0, .slice none 0 0, .slice none 0 0, .slice none 0 0, .slice none 0 0, .slice none 0 0] #[.slice none 0 0, .slice none 0 0, .slice none 0 0, .slice none 0 0, .slice none 0 0, .slice none 0 0]) :=
    ⟨((Fr.refl No w).alloc _).alloc _, (Blk.new w 83 #[.slice none 0 0, .slice none 0 0, .slice none 0 0, .slice none 0 0, .slice none 0 0, .slice none 0 0]).alloc _, Blk.new1 w _ 83 #[.slice none 0 0, .slice none 0 0, .slice none 0 0, .slice none 0 0, .slice none 0 0, .slice none 0 0], Nat.le_refl _, by omega, by omega⟩
  go_enter Tryz.func15, Tryz.ntmps15
  have yP : w.cell? ⟨V.P, 5, none⟩ = some (.slice B0 x.mems.length d0) := (H.out.blk.cell 5).trans (congrArg some SL0.out)
  have hPl := H.out.blk.lt
  go_upto_region 4 with fail
  clear yP hPl
  generalize (w.alloc (.cells #[.slice none 0 0, .slice none 0 0, .slice none 0 0, .slice none 0 0, .slice none 0 0, .slice none 0 0] 83)).alloc (.cells #[.slice none 0 0, .slice none 0 0, .slice none 0 0, .slice none 0 0, .slice none 0 0, .slice none 0 0] 83) = W0 at *
  obtain ⟨B, hB⟩ : ∃ B, B = w.heap.size + 1 := ⟨_, rfl⟩
  obtain ⟨D, hD⟩ : ∃ D, D = w.heap.size := ⟨_, rfl⟩
  rw [← hB, ← hD] at SB0
  rw [← hB, ← hD]
  clear hB hD
  have SB := SB0
  clear SB0
  have y5 : W0.cell? ⟨V.P, 5, none⟩ = some (.slice B0 x.mems.length d0) := ((SB.out.fr.cell (p := ⟨V.P, 5, none⟩) H.out.blk.lt (fun x => x)).trans (H.out.blk.cell 5)).trans (congrArg some SL0.out)
  have ST := hid (Stg.start (t := tB.slice) (el := 59) (i := 0) SB.out.hB rfl)
  go_wp2_with fail
  clear y5
  go_loopw [23] (fun i wr => ∃ (k : Nat) (v : Value), k ≤ x.mems.length ∧ i = .int .i64 k ∧ Hid (Stg tB.slice 83 59 W0 wr B 0 #[.slice none 0 0, .slice none 0 0, .slice none 0 0, .slice none 0 0, .slice none 0 0, .slice none 0 0] ((x.mems.map (·.b)).take k) v)) (fun i _ => x.mems.length - (intOf i).toNat)
  case atStart => exact ⟨0, _, by omega, rfl, ST.out⟩
  case round =>
    clear ST
    obtain ⟨k, v, hk, rfl, I⟩ := hrel
    by_cases hlt : k < x.mems.length
    · have F := hid (SB.out.step I.out).fr
      obtain ⟨z, hz⟩ := get_pair H.out.ml (List.getElem?_eq_getElem hlt)
      have HZ := hid ((H.out.mat k z x.mems[k] hz (List.getElem?_eq_getElem hlt)).frNo F.out)
      have hlv : k < (V.mp.map (·.1)).length := by rw [List.length_map, H.out.ml]; exact hlt
      have hzz : (V.mp.map (·.1))[k]'hlv = z.1 := by simp [(List.getElem?_eq_some_iff.1 hz).2]
      have HLEN := hid (hok.out.ms _ (List.getElem_mem hlt))
      obtain ⟨b, o, hA, hbS, hcp⟩ := pt_at EL0.out k hlv
      subst hA
      rw [hzz] at hcp
      clear hz hzz
      have hcp : wr.cell? ⟨b, o + k, none⟩ = some (.pointer (some ⟨z.1, 0, none⟩)) := (F.out.cell (p := ⟨b, o + k, none⟩) hbS (fun x => x)).trans hcp
      have i0 : (0 : Int) ≤ k := by omega
      have i1 : (k : Int) < x.mems.length := by omega
      have HX : Hid (∀ X, Fr No wr X → X.cell? ⟨B, 0, none⟩ = some v) := fun X f => (I.out.hB.fr f (fun x => x)).cell 0
      go_wp2_with fail
      clear hcp
      refine wp_region_ord (fun X => X.cell? ⟨B, 0, none⟩ = some v) [7] [(0, true), (1, true), (2, true), (3, false), (4, false), (5, false), (6, true), (7, false)] (by kernel_rfl) (by kernel_rfl) (by kernel_rfl) rfl (HX.out _ (Fr.refl _ _).drew) ?_
      repeat (first
        | (refine wpO_skip rfl rfl ?_; simp only [List.getElem_toArray, List.getElem_cons_succ, List.getElem_cons_zero, Act.put, List.setIfInBounds_toArray, List.set_cons_zero, List.set_cons_succ])
        | (refine wpO_call rfl rfl ?_; simp only [List.getElem_toArray, List.getElem_cons_succ, List.getElem_cons_zero]; apply Exists.intro; refine ⟨fun X hX => ?_, ?_⟩
           · (have s0 := hX; go_simp; exact stillUpon_value)
           simp only [Act.put, List.setIfInBounds_toArray, List.set_cons_zero, List.set_cons_succ]))
      refine wpO_eff rfl rfl (fun K hK => ?_)
      simp only [List.getElem_toArray, List.getElem_cons_succ, List.getElem_cons_zero]
      go_simp
      refine (bytes_any z.1 z.2.2 (some ⟨z.2.1, 0, none⟩) x.mems[k].b wr.drew ((HZ.out.frNo (Fr.refl No wr).drew).hp.cell 3) (HZ.out.frNo (Fr.refl No wr).drew).hp.lt (own_els (HZ.out.frNo (Fr.refl No wr).drew)) HLEN.out).mono ?_
      rintro e w2 ⟨A8, c8, rfl, hr2, f2⟩
      have F2 : Hid (Fr No wr w2) := (Fr.refl No wr).drew.trans f2 (fun _ _ h => h)
      have RX : Hid (tB.slice.rd w2 (Nw wr w2) [.slice A8 x.mems[k].b.length c8] x.mems[k].b) := by
        obtain ⟨z1, z2, z3⟩ := fresh_els (w := wr) hr2 (Nat.le_refl _) (Fr.refl No w2) (fun _ _ _ x => x)
        exact ⟨A8, c8, rfl, z1, z2, z3⟩
      clear hr2 f2
      refine hK _ _ (fun _ => HX.out _ F2.out) ?_
      clear hK K
      repeat (first
        | (refine wpO_skip rfl rfl ?_; simp only [List.getElem_toArray, List.getElem_cons_succ, List.getElem_cons_zero, Act.put, List.setIfInBounds_toArray, List.set_cons_zero, List.set_cons_succ])
        | (refine wpO_call rfl rfl ?_; simp only [List.getElem_toArray, List.getElem_cons_succ, List.getElem_cons_zero]; apply Exists.intro; refine ⟨fun X hX => ?_, ?_⟩
           · (have s0 := hX; go_simp; exact stillUpon_value)
           simp only [Act.put, List.setIfInBounds_toArray, List.set_cons_zero, List.set_cons_succ]))
      refine wpO_eff rfl rfl (fun K hK => ?_)
      simp only [List.getElem_toArray, List.getElem_cons_succ, List.getElem_cons_zero]
      go_simp
      have F3 := hid ((Fr.refl No w2).alloc (.cells #[.slice A8 x.mems[k].b.length c8] 59))
      have G3 := hid (Blk.new w2 59 #[.slice A8 x.mems[k].b.length c8])
      refine hK _ _ (fun _ => HX.out _ (F2.out.trans F3.out (fun _ _ h => h))) ?_
      clear hK K
      generalize w2.alloc (.cells #[.slice A8 x.mems[k].b.length c8] 59) = w3 at *
      have I3 := hid (I.out.frNo (F2.out.trans F3.out (fun _ _ h => h)))
      have RX3 : Hid (tB.slice.rd w3 (fun b => Nw W0 w3 b ∧ v.ownBlock ≠ some b) [.slice A8 x.mems[k].b.length c8] x.mems[k].b) :=
        TyMore.more _ _ _ _ _ (TyOk.keep _ w3 _ _ _ RX.out (fun p hp => F3.out.cell hp.2 (fun x => x))) (fun b hb => by
          have h1 := hb.1
          have h2 := hb.2
          have h3 := I.out.fr.size
          have h4 := F3.out.size
          exact ⟨⟨by omega, by omega⟩, fun e => by have := (I.out.own e).2; omega⟩)
      repeat (first
        | (refine wpO_skip rfl rfl ?_; simp only [List.getElem_toArray, List.getElem_cons_succ, List.getElem_cons_zero, Act.put, List.setIfInBounds_toArray, List.set_cons_zero, List.set_cons_succ])
        | (refine wpO_call rfl rfl ?_; simp only [List.getElem_toArray, List.getElem_cons_succ, List.getElem_cons_zero]; apply Exists.intro; refine ⟨fun X hX => ?_, ?_⟩
           · (have s0 := hX; go_simp; exact stillUpon_value)
           simp only [Act.put, List.setIfInBounds_toArray, List.set_cons_zero, List.set_cons_succ]))
      refine wpO_eff rfl rfl (fun K hK => ?_)
      simp only [List.getElem_toArray, List.getElem_cons_succ, List.getElem_cons_zero]
      have hlk : ((x.mems.map (·.b)).take k).length = k := by simp; omega
      have hlm := hok.out.lme
      refine opwp_appC (t := tB.slice) (P := Tryz.prog) (base := W0.heap.size) (S := fun b => Nw W0 w3 b ∧ v.ownBlock ≠ some b) (v := v) (xs := (x.mems.map (·.b)).take k) (ys := [x.mems[k].b]) (dss := [[.slice A8 x.mems[k].b.length c8]]) (B2 := w3.heap.size) elBss rfl rfl rfl I3.out.row (Css.one RX3.out) (Rd.blk G3.out G3.out.lt 0 (fun k u hu => by rw [Nat.zero_add]; simpa using hu)) rfl (by rw [hlk]; omega) (by rw [hlk]; omega) (fun b hb => ⟨hb.1.2, fun e => hb.2 e.symm⟩) I3.out.fr.size ?_
      intro v1 w4 hr4 f4 hv4
      have PU := hid (I3.out.push hr4 f4 hv4)
      have HR4 := hid hr4
      have hBo : ¬ some B = v.ownBlock := fun e => by have := (I3.out.own e.symm).1; have := I3.out.lt; omega
      have Z0 : Hid (w4.cell? ⟨B, 0, none⟩ = some v) := (I3.out.hB.fr f4 hBo).cell 0
      have Z1 : Hid (w4.frozen? ⟨B, 0, none⟩ = false) := (I3.out.hB.fr f4 hBo).frozen 0
      refine hK _ _ (fun _ => Z0.out) ?_
      clear hK K hr4 f4 hv4 hlk
      simp only [Act.put, List.setIfInBounds_toArray, List.set_cons_zero, List.set_cons_succ]
      repeat (first
        | (refine wpO_skip rfl rfl ?_; simp only [List.getElem_toArray, List.getElem_cons_succ, List.getElem_cons_zero, Act.put, List.setIfInBounds_toArray, List.set_cons_zero, List.set_cons_succ])
        | (refine wpO_call rfl rfl ?_; simp only [List.getElem_toArray, List.getElem_cons_succ, List.getElem_cons_zero]; apply Exists.intro; refine ⟨fun X hX => ?_, ?_⟩
           · (have s0 := hX; go_simp; exact stillUpon_value)
           simp only [Act.put, List.setIfInBounds_toArray, List.set_cons_zero, List.set_cons_succ]))
      obtain ⟨A9, k9, e9, _, _, _⟩ := HR4.out.els (S' := fun _ => True) (fun _ _ => trivial) (fun _ _ => trivial)
      rw [show (((x.mems.map (·.b)).take k) ++ [x.mems[k].b]).length = k + 1 by simp; omega] at e9
      subst e9
      have z0 := Z0.out
      have z1 := Z1.out
      refine wpO_eff rfl rfl (fun K hK => ?_)
      simp only [List.getElem_toArray, List.getElem_cons_succ, List.getElem_cons_zero]
      go_simp
      refine hK _ _ (fun h => by simp at h) ?_
      clear hK K
      refine wpO_nil ?_
      go_wp2
      go_roundw
      case rel =>
        refine ⟨k + 1, .slice A9 (k + 1) k9, by omega, by go_num, ?_⟩
        rw [List.take_succ_eq_append_getElem (by simp; omega), List.getElem_map]
        exact PU.out
      case measure => simp [intOf]; omega
    · have hkn : k = x.mems.length := by omega
      subst hkn
      have I : Hid (Stg tB.slice 83 59 W0 wr B 0 #[.slice none 0 0, .slice none 0 0, .slice none 0 0, .slice none 0 0, .slice none 0 0, .slice none 0 0] (x.mems.map (·.b)) v) := by
        have := I.out
        rwa [List.take_of_length_le (by simp)] at this
      obtain ⟨A0, c0, e, m1, m2, m3⟩ := I.out.els
      rw [List.length_map] at e
      subst e
      have M0 := hid (And.intro m1 m2)
      have E0 := hid (ShE.of SB.out m3)
      have SB : Hid (ShB 83 w wr D B #[.slice none 0 0, .slice none 0 0, .slice none 0 0, .slice none 0 0, .slice none 0 0, .slice none 0 0] #[.slice A0 x.mems.length c0, .slice none 0 0, .slice none 0 0, .slice none 0 0, .slice none 0 0, .slice none 0 0]) := SB.out.step I.out
      clear m1 m2 m3 I hlt hk
      obtain ⟨W1, hW⟩ : ∃ W, W = wr := ⟨_, rfl⟩
      subst hW
      have y4 : W1.cell? ⟨V.P, 4, none⟩ = some (.slice B1 x.tabs.length d1) := ((SB.out.fr.cell (p := ⟨V.P, 4, none⟩) H.out.blk.lt (fun x => x)).trans (H.out.blk.cell 4)).trans (congrArg some SL1.out)
      have ST := hid (Stg.start (t := tU.slice) (el := 58) (i := 1) SB.out.hB rfl)
      go_wp2_with fail
      clear y4
      go_loopw [41] (fun i wr => ∃ (k : Nat) (v : Value), k ≤ x.tabs.length ∧ i = .int .i64 k ∧ Hid (Stg tU.slice 83 58 W1 wr B 1 #[.slice A0 x.mems.length c0, .slice none 0 0, .slice none 0 0, .slice none 0 0, .slice none 0 0, .slice none 0 0] ((x.tabs.map (·.l)).take k) v)) (fun i _ => x.tabs.length - (intOf i).toNat)
      case atStart => exact ⟨0, _, by omega, rfl, ST.out⟩
      case round =>
        clear ST
        obtain ⟨k, v, hk, rfl, I⟩ := hrel
        by_cases hlt : k < x.tabs.length
        · have F := hid (SB.out.step I.out).fr
          obtain ⟨z, hz⟩ := get_pair H.out.tl (List.getElem?_eq_getElem hlt)
          have HZ := hid ((H.out.tat k z x.tabs[k] hz (List.getElem?_eq_getElem hlt)).fr F.out (fun x => x) (fun x => x))
          have hlv : k < (V.tp.map (·.1)).length := by rw [List.length_map, H.out.tl]; exact hlt
          have hzz : (V.tp.map (·.1))[k]'hlv = z.1 := by simp [(List.getElem?_eq_some_iff.1 hz).2]
          have HLEN := hid (hok.out.tw _ (List.getElem_mem hlt))
          obtain ⟨b, o, hA, hbS, hcp⟩ := pt_at EL1.out k hlv
          subst hA
          rw [hzz] at hcp
          clear hz hzz
          have hcp : wr.cell? ⟨b, o + k, none⟩ = some (.pointer (some ⟨z.1, 0, none⟩)) := (F.out.cell (p := ⟨b, o + k, none⟩) hbS (fun x => x)).trans hcp
          have i0 : (0 : Int) ≤ k := by omega
          have i1 : (k : Int) < x.tabs.length := by omega
          have HX : Hid (∀ X, Fr No wr X → X.cell? ⟨B, 1, none⟩ = some v) := fun X f => (I.out.hB.fr f (fun x => x)).cell 1
          go_wp2_with fail
          clear hcp
          refine wp_region_ord (fun X => X.cell? ⟨B, 1, none⟩ = some v) [7] [(0, true), (1, true), (2, true), (3, false), (4, false), (5, false), (6, true), (7, false)] (by kernel_rfl) (by kernel_rfl) (by kernel_rfl) rfl (HX.out _ (Fr.refl _ _).drew) ?_
          repeat (first
            | (refine wpO_skip rfl rfl ?_; simp only [List.getElem_toArray, List.getElem_cons_succ, List.getElem_cons_zero, Act.put, List.setIfInBounds_toArray, List.set_cons_zero, List.set_cons_succ])
            | (refine wpO_call rfl rfl ?_; simp only [List.getElem_toArray, List.getElem_cons_succ, List.getElem_cons_zero]; apply Exists.intro; refine ⟨fun X hX => ?_, ?_⟩
               · (have s0 := hX; go_simp; exact stillUpon_value)
               simp only [Act.put, List.setIfInBounds_toArray, List.set_cons_zero, List.set_cons_succ]))
          refine wpO_eff rfl rfl (fun K hK => ?_)
          simp only [List.getElem_toArray, List.getElem_cons_succ, List.getElem_cons_zero]
          go_simp
          refine (tall_any (HZ.out.fr (Fr.refl No wr).drew (fun x => x) (fun x => x))).mono ?_
          rintro e w2 ⟨q8, c8, rfl, ho8, hq8, f2⟩
          have F2 : Hid (Fr No wr w2) := (Fr.refl No wr).drew.trans f2 (fun _ _ h => h)
          obtain ⟨A8, hA8⟩ : ∃ A8 : Option Addr, A8 = some ⟨q8, 0, none⟩ := ⟨_, rfl⟩
          have RX : Hid (tU.slice.rd w2 (Nw wr w2) [.slice A8 x.tabs[k].l.length c8] x.tabs[k].l) := by
            obtain ⟨h1, h2, h3⟩ := own_us ho8 HLEN.out (S := Nw wr w2) (fun h => ⟨hq8, h⟩)
            rw [hA8]
            exact ⟨_, c8, rfl, h1, h2, h3⟩
          rw [← hA8]
          clear ho8 hq8 f2 hA8
          refine hK _ _ (fun _ => HX.out _ F2.out) ?_
          clear hK K
          repeat (first
            | (refine wpO_skip rfl rfl ?_; simp only [List.getElem_toArray, List.getElem_cons_succ, List.getElem_cons_zero, Act.put, List.setIfInBounds_toArray, List.set_cons_zero, List.set_cons_succ])
            | (refine wpO_call rfl rfl ?_; simp only [List.getElem_toArray, List.getElem_cons_succ, List.getElem_cons_zero]; apply Exists.intro; refine ⟨fun X hX => ?_, ?_⟩
               · (have s0 := hX; go_simp; exact stillUpon_value)
               simp only [Act.put, List.setIfInBounds_toArray, List.set_cons_zero, List.set_cons_succ]))
          refine wpO_eff rfl rfl (fun K hK => ?_)
          simp only [List.getElem_toArray, List.getElem_cons_succ, List.getElem_cons_zero]
          go_simp
          have F3 := hid ((Fr.refl No w2).alloc (.cells #[.slice A8 x.tabs[k].l.length c8] 58))
          have G3 := hid (Blk.new w2 58 #[.slice A8 x.tabs[k].l.length c8])
          refine hK _ _ (fun _ => HX.out _ (F2.out.trans F3.out (fun _ _ h => h))) ?_
          clear hK K
          generalize w2.alloc (.cells #[.slice A8 x.tabs[k].l.length c8] 58) = w3 at *
          have I3 := hid (I.out.frNo (F2.out.trans F3.out (fun _ _ h => h)))
          have RX3 : Hid (tU.slice.rd w3 (fun b => Nw W1 w3 b ∧ v.ownBlock ≠ some b) [.slice A8 x.tabs[k].l.length c8] x.tabs[k].l) :=
            TyMore.more _ _ _ _ _ (TyOk.keep _ w3 _ _ _ RX.out (fun p hp => F3.out.cell hp.2 (fun x => x))) (fun b hb => by
              have h1 := hb.1
              have h2 := hb.2
              have h3 := I.out.fr.size
              have h4 := F3.out.size
              exact ⟨⟨by omega, by omega⟩, fun e => by have := (I.out.own e).2; omega⟩)
          repeat (first
            | (refine wpO_skip rfl rfl ?_; simp only [List.getElem_toArray, List.getElem_cons_succ, List.getElem_cons_zero, Act.put, List.setIfInBounds_toArray, List.set_cons_zero, List.set_cons_succ])
            | (refine wpO_call rfl rfl ?_; simp only [List.getElem_toArray, List.getElem_cons_succ, List.getElem_cons_zero]; apply Exists.intro; refine ⟨fun X hX => ?_, ?_⟩
               · (have s0 := hX; go_simp; exact stillUpon_value)
               simp only [Act.put, List.setIfInBounds_toArray, List.set_cons_zero, List.set_cons_succ]))
          refine wpO_eff rfl rfl (fun K hK => ?_)
          simp only [List.getElem_toArray, List.getElem_cons_succ, List.getElem_cons_zero]
          have hlk : ((x.tabs.map (·.l)).take k).length = k := by simp; omega
          have hlm := hok.out.lta
          refine opwp_appC (t := tU.slice) (P := Tryz.prog) (base := W1.heap.size) (S := fun b => Nw W1 w3 b ∧ v.ownBlock ≠ some b) (v := v) (xs := (x.tabs.map (·.l)).take k) (ys := [x.tabs[k].l]) (dss := [[.slice A8 x.tabs[k].l.length c8]]) (B2 := w3.heap.size) elUss rfl rfl rfl I3.out.row (Css.one RX3.out) (Rd.blk G3.out G3.out.lt 0 (fun k u hu => by rw [Nat.zero_add]; simpa using hu)) rfl (by rw [hlk]; omega) (by rw [hlk]; omega) (fun b hb => ⟨hb.1.2, fun e => hb.2 e.symm⟩) I3.out.fr.size ?_
          intro v1 w4 hr4 f4 hv4
          have PU := hid (I3.out.push hr4 f4 hv4)
          have HR4 := hid hr4
          have hBo : ¬ some B = v.ownBlock := fun e => by have := (I3.out.own e.symm).1; have := I3.out.lt; omega
          have Z0 : Hid (w4.cell? ⟨B, 1, none⟩ = some v) := (I3.out.hB.fr f4 hBo).cell 1
          have Z1 : Hid (w4.frozen? ⟨B, 1, none⟩ = false) := (I3.out.hB.fr f4 hBo).frozen 1
          refine hK _ _ (fun _ => Z0.out) ?_
          clear hK K hr4 f4 hv4 hlk
          simp only [Act.put, List.setIfInBounds_toArray, List.set_cons_zero, List.set_cons_succ]
          repeat (first
            | (refine wpO_skip rfl rfl ?_; simp only [List.getElem_toArray, List.getElem_cons_succ, List.getElem_cons_zero, Act.put, List.setIfInBounds_toArray, List.set_cons_zero, List.set_cons_succ])
            | (refine wpO_call rfl rfl ?_; simp only [List.getElem_toArray, List.getElem_cons_succ, List.getElem_cons_zero]; apply Exists.intro; refine ⟨fun X hX => ?_, ?_⟩
               · (have s0 := hX; go_simp; exact stillUpon_value)
               simp only [Act.put, List.setIfInBounds_toArray, List.set_cons_zero, List.set_cons_succ]))
          obtain ⟨A9, k9, e9, _, _, _⟩ := HR4.out.els (S' := fun _ => True) (fun _ _ => trivial) (fun _ _ => trivial)
          rw [show (((x.tabs.map (·.l)).take k) ++ [x.tabs[k].l]).length = k + 1 by simp; omega] at e9
          subst e9
          have z0 := Z0.out
          have z1 := Z1.out
          refine wpO_eff rfl rfl (fun K hK => ?_)
          simp only [List.getElem_toArray, List.getElem_cons_succ, List.getElem_cons_zero]
          go_simp
          refine hK _ _ (fun h => by simp at h) ?_
          clear hK K
          refine wpO_nil ?_
          go_wp2
          go_roundw
          case rel =>
            refine ⟨k + 1, .slice A9 (k + 1) k9, by omega, by go_num, ?_⟩
            rw [List.take_succ_eq_append_getElem (by simp; omega), List.getElem_map]
            exact PU.out
          case measure => simp [intOf]; omega
        · have hkn : k = x.tabs.length := by omega
          subst hkn
          have I : Hid (Stg tU.slice 83 58 W1 wr B 1 #[.slice A0 x.mems.length c0, .slice none 0 0, .slice none 0 0, .slice none 0 0, .slice none 0 0, .slice none 0 0] (x.tabs.map (·.l)) v) := by
            have := I.out
            rwa [List.take_of_length_le (by simp)] at this
          obtain ⟨A1, c1, e, m1, m2, m3⟩ := I.out.els
          rw [List.length_map] at e
          subst e
          have M1 := hid (And.intro m1 m2)
          have E0 := hid (E0.out.one I.out.fr)
          have E1 := hid (ShE.of SB.out m3)
          have SB : Hid (ShB 83 w wr D B #[.slice none 0 0, .slice none 0 0, .slice none 0 0, .slice none 0 0, .slice none 0 0, .slice none 0 0] #[.slice A0 x.mems.length c0, .slice A1 x.tabs.length c1, .slice none 0 0, .slice none 0 0, .slice none 0 0, .slice none 0 0]) := SB.out.step I.out
          clear m1 m2 m3 I hlt hk
          obtain ⟨W2, hW⟩ : ∃ W, W = wr := ⟨_, rfl⟩
          subst hW
          have y6 : W2.cell? ⟨V.P, 6, none⟩ = some (.slice B2 x.globs.length d2) := ((SB.out.fr.cell (p := ⟨V.P, 6, none⟩) H.out.blk.lt (fun x => x)).trans (H.out.blk.cell 6)).trans (congrArg some SL2.out)
          have ST := hid (Stg.start (t := tVl) (el := 57) (i := 2) SB.out.hB rfl)
          go_wp2_with fail
          clear y6
          go_loopw [59] (fun i wr => ∃ (k : Nat) (v : Value), k ≤ x.globs.length ∧ i = .int .i64 k ∧ Hid (Stg tVl 83 57 W2 wr B 2 #[.slice A0 x.mems.length c0, .slice A1 x.tabs.length c1, .slice none 0 0, .slice none 0 0, .slice none 0 0, .slice none 0 0] ((x.globs.map (·.v)).take k) v)) (fun i _ => x.globs.length - (intOf i).toNat)
          case atStart => exact ⟨0, _, by omega, rfl, ST.out⟩
          case round =>
            clear ST
            obtain ⟨k, v, hk, rfl, I⟩ := hrel
            by_cases hlt : k < x.globs.length
            · have F := hid (SB.out.step I.out).fr
              obtain ⟨b, o, hA, hbS, y0, y1, y2, y3, q1, q2, q3⟩ := Rg_at EL2.out k hlt
              subst hA
              have y0 := (F.out.cell (p := ⟨b, o + k * 4, none⟩) hbS (fun x => x)).trans y0
              have y1 := (F.out.cell (p := ⟨b, o + k * 4 + 1, none⟩) hbS (fun x => x)).trans y1
              have y2 := (F.out.cell (p := ⟨b, o + k * 4 + 2, none⟩) hbS (fun x => x)).trans y2
              have y3 := (F.out.cell (p := ⟨b, o + k * 4 + 3, none⟩) hbS (fun x => x)).trans y3
              have RX : Hid (∀ (w : World) (S : Nat → Prop), tVl.rd w S [.int .i64 x.globs[k].v.t, .int .u64 x.globs[k].v.n] x.globs[k].v) := fun w S => Vl_mk q2 q3
              clear q1 q2 q3
              obtain ⟨a, ha⟩ : ∃ a, a = x.globs[k] := ⟨_, rfl⟩
              rw [← ha] at y0 y1 y2 y3 RX
              have HA := hid ha
              clear ha
              have i0 : (0 : Int) ≤ k := by omega
              have i1 : (k : Int) < x.globs.length := by omega
              have F3 := hid (((Fr.refl No wr).alloc (.cells #[.int .i64 a.t.val, .bool a.t.mut_, .int .i64 a.v.t, .int .u64 a.v.n] 180)).alloc (.cells #[.int .i64 a.v.t, .int .u64 a.v.n] 57))
              have G3 := hid (Blk.new1 wr (.cells #[.int .i64 a.t.val, .bool a.t.mut_, .int .i64 a.v.t, .int .u64 a.v.n] 180) 57 #[.int .i64 a.v.t, .int .u64 a.v.n])
              have I3 := hid (I.out.frNo F3.out)
              have yb : wr.cell? ⟨B, 2, none⟩ = some v := I.out.hB.cell 2
              have hBl : B < wr.heap.size := I.out.hB.lt
              have hbl : b < wr.heap.size := Nat.lt_of_lt_of_le hbS F.out.size
              have hlk : ((x.globs.map (·.v)).take k).length = k := by simp; omega
              have hlm := hok.out.lgl
              go_wp2_with (at_builtin; refine wpList_appC (t := tVl) (P := Tryz.prog) (base := W2.heap.size) (S := fun b => Nw W2 ((wr.alloc (.cells #[.int .i64 a.t.val, .bool a.t.mut_, .int .i64 a.v.t, .int .u64 a.v.n] 180)).alloc (.cells #[.int .i64 a.v.t, .int .u64 a.v.n] 57)) b ∧ v.ownBlock ≠ some b) (v := v) (xs := (x.globs.map (·.v)).take k) (ys := [a.v]) (dss := [[.int .i64 a.v.t, .int .u64 a.v.n]]) (B2 := ((wr.alloc (.cells #[.int .i64 a.t.val, .bool a.t.mut_, .int .i64 a.v.t, .int .u64 a.v.n] 180)).alloc (.cells #[.int .i64 a.v.t, .int .u64 a.v.n] 57)).heap.size) elVl rfl rfl rfl rfl I3.out.row (Css.one (RX.out _ _)) (Rd.blk G3.out G3.out.lt 0 (fun k u hu => by rw [Nat.zero_add]; simpa using hu)) rfl (by rw [hlk]; omega) (by rw [hlk]; omega) (fun b hb => ⟨hb.1.2, fun e => hb.2 e.symm⟩) I3.out.fr.size ?_; intro v1 w4 hr4 f4 hv4; have PU := hid (I3.out.push hr4 f4 hv4); have HR4 := hid hr4; have hBo : ¬ some B = v.ownBlock := (fun e => by have := (I3.out.own e.symm).1; have := I3.out.lt; omega); have z0 : w4.cell? ⟨B, 2, none⟩ = some v := (I3.out.hB.fr f4 hBo).cell 2; have z1 : w4.frozen? ⟨B, 2, none⟩ = false := (I3.out.hB.fr f4 hBo).frozen 2; clear hr4 f4 hv4 hlk hBo; obtain ⟨A9, k9, e9, _, _, _⟩ := HR4.out.els (S' := fun _ => True) (fun _ _ => trivial) (fun _ _ => trivial); rw [show (((x.globs.map (·.v)).take k) ++ [a.v]).length = k + 1 by simp; omega] at e9; subst e9)
              go_roundw
              case rel =>
                refine ⟨k + 1, .slice A9 (k + 1) k9, by omega, by go_num, ?_⟩
                rw [List.take_succ_eq_append_getElem (by simp; omega), List.getElem_map, ← HA.out]
                exact PU.out
              case measure => simp [intOf]; omega
            · have hkn : k = x.globs.length := by omega
              subst hkn
              have I : Hid (Stg tVl 83 57 W2 wr B 2 #[.slice A0 x.mems.length c0, .slice A1 x.tabs.length c1, .slice none 0 0, .slice none 0 0, .slice none 0 0, .slice none 0 0] (x.globs.map (·.v)) v) := by
                have := I.out
                rwa [List.take_of_length_le (by simp)] at this
              obtain ⟨A2, c2, e, m1, m2, m3⟩ := I.out.els
              rw [List.length_map] at e
              subst e
              have M2 := hid (And.intro m1 m2)
              have E0 := hid (E0.out.one I.out.fr)
              have E1 := hid (E1.out.one I.out.fr)
              have E2 := hid (ShE.of SB.out m3)
              have SB : Hid (ShB 83 w wr D B #[.slice none 0 0, .slice none 0 0, .slice none 0 0, .slice none 0 0, .slice none 0 0, .slice none 0 0] #[.slice A0 x.mems.length c0, .slice A1 x.tabs.length c1, .slice A2 x.globs.length c2, .slice none 0 0, .slice none 0 0, .slice none 0 0]) := SB.out.step I.out
              clear m1 m2 m3 I hlt hk
              obtain ⟨W3, hW⟩ : ∃ W, W = wr := ⟨_, rfl⟩
              subst hW
              have y7 : W3.cell? ⟨V.P, 7, none⟩ = some (.slice B3 x.elems.length d3) := ((SB.out.fr.cell (p := ⟨V.P, 7, none⟩) H.out.blk.lt (fun x => x)).trans (H.out.blk.cell 7)).trans (congrArg some SL3.out)
              have ST := hid (Stg.start (t := Ty.bool) (el := 4) (i := 3) SB.out.hB rfl)
              go_wp2_with fail
              clear y7
              go_loopw [77] (fun i wr => ∃ (k : Nat) (v : Value), k ≤ x.elems.length ∧ i = .int .i64 k ∧ Hid (Stg Ty.bool 83 4 W3 wr B 3 #[.slice A0 x.mems.length c0, .slice A1 x.tabs.length c1, .slice A2 x.globs.length c2, .slice none 0 0, .slice none 0 0, .slice none 0 0] ((x.elems.map (·.gone)).take k) v)) (fun i _ => x.elems.length - (intOf i).toNat)
              case atStart => exact ⟨0, _, by omega, rfl, ST.out⟩
              case round =>
                clear ST
                obtain ⟨k, v, hk, rfl, I⟩ := hrel
                by_cases hlt : k < x.elems.length
                · have F := hid (SB.out.step I.out).fr
                  obtain ⟨b, o, A7, c7, hA, hbS, y0, y1, _⟩ := Rs_at EL3.out k hlt
                  subst hA
                  have y0 := (F.out.cell (p := ⟨b, o + k * 2, none⟩) hbS (fun x => x)).trans y0
                  have y1 := (F.out.cell (p := ⟨b, o + k * 2 + 1, none⟩) hbS (fun x => x)).trans y1
                  have RX : Hid (∀ (w : World) (S : Nat → Prop), Ty.bool.rd w S [.bool x.elems[k].gone] x.elems[k].gone) := fun w S => rfl
                  obtain ⟨a, ha⟩ : ∃ a, a = x.elems[k] := ⟨_, rfl⟩
                  rw [← ha] at y0 y1 RX
                  have HA := hid ha
                  clear ha
                  have i0 : (0 : Int) ≤ k := by omega
                  have i1 : (k : Int) < x.elems.length := by omega
                  have F3 := hid (((Fr.refl No wr).alloc (.cells #[.slice A7 a.l.length c7, .bool a.gone] 182)).alloc (.cells #[.bool a.gone] 4))
                  have G3 := hid (Blk.new1 wr (.cells #[.slice A7 a.l.length c7, .bool a.gone] 182) 4 #[.bool a.gone])
                  have I3 := hid (I.out.frNo F3.out)
                  have yb : wr.cell? ⟨B, 3, none⟩ = some v := I.out.hB.cell 3
                  have hBl : B < wr.heap.size := I.out.hB.lt
                  have hbl : b < wr.heap.size := Nat.lt_of_lt_of_le hbS F.out.size
                  have hlk : ((x.elems.map (·.gone)).take k).length = k := by simp; omega
                  have hlm := hok.out.lel
                  go_wp2_with (at_builtin; refine wpList_appC (t := Ty.bool) (P := Tryz.prog) (base := W3.heap.size) (S := fun b => Nw W3 ((wr.alloc (.cells #[.slice A7 a.l.length c7, .bool a.gone] 182)).alloc (.cells #[.bool a.gone] 4)) b ∧ v.ownBlock ≠ some b) (v := v) (xs := (x.elems.map (·.gone)).take k) (ys := [a.gone]) (dss := [[.bool a.gone]]) (B2 := ((wr.alloc (.cells #[.slice A7 a.l.length c7, .bool a.gone] 182)).alloc (.cells #[.bool a.gone] 4)).heap.size) elBool rfl rfl rfl rfl I3.out.row (Css.one (RX.out _ _)) (Rd.blk G3.out G3.out.lt 0 (fun k u hu => by rw [Nat.zero_add]; simpa using hu)) rfl (by rw [hlk]; omega) (by rw [hlk]; omega) (fun b hb => ⟨hb.1.2, fun e => hb.2 e.symm⟩) I3.out.fr.size ?_; intro v1 w4 hr4 f4 hv4; have PU := hid (I3.out.push hr4 f4 hv4); have HR4 := hid hr4; have hBo : ¬ some B = v.ownBlock := (fun e => by have := (I3.out.own e.symm).1; have := I3.out.lt; omega); have z0 : w4.cell? ⟨B, 3, none⟩ = some v := (I3.out.hB.fr f4 hBo).cell 3; have z1 : w4.frozen? ⟨B, 3, none⟩ = false := (I3.out.hB.fr f4 hBo).frozen 3; clear hr4 f4 hv4 hlk hBo; obtain ⟨A9, k9, e9, _, _, _⟩ := HR4.out.els (S' := fun _ => True) (fun _ _ => trivial) (fun _ _ => trivial); rw [show (((x.elems.map (·.gone)).take k) ++ [a.gone]).length = k + 1 by simp; omega] at e9; subst e9)
                  go_roundw
                  case rel =>
                    refine ⟨k + 1, .slice A9 (k + 1) k9, by omega, by go_num, ?_⟩
                    rw [List.take_succ_eq_append_getElem (by simp; omega), List.getElem_map, ← HA.out]
                    exact PU.out
                  case measure => simp [intOf]; omega
                · have hkn : k = x.elems.length := by omega
                  subst hkn
                  have I : Hid (Stg Ty.bool 83 4 W3 wr B 3 #[.slice A0 x.mems.length c0, .slice A1 x.tabs.length c1, .slice A2 x.globs.length c2, .slice none 0 0, .slice none 0 0, .slice none 0 0] (x.elems.map (·.gone)) v) := by
                    have := I.out
                    rwa [List.take_of_length_le (by simp)] at this
                  obtain ⟨A3, c3, e, m1, m2, m3⟩ := I.out.els
                  rw [List.length_map] at e
                  subst e
                  have M3 := hid (And.intro m1 m2)
                  have E0 := hid (E0.out.one I.out.fr)
                  have E1 := hid (E1.out.one I.out.fr)
                  have E2 := hid (E2.out.one I.out.fr)
                  have E3 := hid (ShE.of SB.out m3)
                  have SB : Hid (ShB 83 w wr D B #[.slice none 0 0, .slice none 0 0, .slice none 0 0, .slice none 0 0, .slice none 0 0, .slice none 0 0] #[.slice A0 x.mems.length c0, .slice A1 x.tabs.length c1, .slice A2 x.globs.length c2, .slice A3 x.elems.length c3, .slice none 0 0, .slice none 0 0]) := SB.out.step I.out
                  clear m1 m2 m3 I hlt hk
                  obtain ⟨W4, hW⟩ : ∃ W, W = wr := ⟨_, rfl⟩
                  subst hW
                  have y8 : W4.cell? ⟨V.P, 8, none⟩ = some (.slice B4 x.datas.length d4) := ((SB.out.fr.cell (p := ⟨V.P, 8, none⟩) H.out.blk.lt (fun x => x)).trans (H.out.blk.cell 8)).trans (congrArg some SL4.out)
                  have ST := hid (Stg.start (t := Ty.bool) (el := 4) (i := 4) SB.out.hB rfl)
                  go_wp2_with fail
                  clear y8
                  go_loopw [95] (fun i wr => ∃ (k : Nat) (v : Value), k ≤ x.datas.length ∧ i = .int .i64 k ∧ Hid (Stg Ty.bool 83 4 W4 wr B 4 #[.slice A0 x.mems.length c0, .slice A1 x.tabs.length c1, .slice A2 x.globs.length c2, .slice A3 x.elems.length c3, .slice none 0 0, .slice none 0 0] ((x.datas.map (·.gone)).take k) v)) (fun i _ => x.datas.length - (intOf i).toNat)
                  case atStart => exact ⟨0, _, by omega, rfl, ST.out⟩
                  case round =>
                    clear ST
                    obtain ⟨k, v, hk, rfl, I⟩ := hrel
                    by_cases hlt : k < x.datas.length
                    · have F := hid (SB.out.step I.out).fr
                      obtain ⟨b, o, A7, c7, hA, hbS, y0, y1, _⟩ := Rb_at EL4.out k hlt
                      subst hA
                      have y0 := (F.out.cell (p := ⟨b, o + k * 2, none⟩) hbS (fun x => x)).trans y0
                      have y1 := (F.out.cell (p := ⟨b, o + k * 2 + 1, none⟩) hbS (fun x => x)).trans y1
                      have RX : Hid (∀ (w : World) (S : Nat → Prop), Ty.bool.rd w S [.bool x.datas[k].gone] x.datas[k].gone) := fun w S => rfl
                      obtain ⟨a, ha⟩ : ∃ a, a = x.datas[k] := ⟨_, rfl⟩
                      rw [← ha] at y0 y1 RX
                      have HA := hid ha
                      clear ha
                      have i0 : (0 : Int) ≤ k := by omega
                      have i1 : (k : Int) < x.datas.length := by omega
                      have F3 := hid (((Fr.refl No wr).alloc (.cells #[.slice A7 a.b.length c7, .bool a.gone] 184)).alloc (.cells #[.bool a.gone] 4))
                      have G3 := hid (Blk.new1 wr (.cells #[.slice A7 a.b.length c7, .bool a.gone] 184) 4 #[.bool a.gone])
                      have I3 := hid (I.out.frNo F3.out)
                      have yb : wr.cell? ⟨B, 4, none⟩ = some v := I.out.hB.cell 4
                      have hBl : B < wr.heap.size := I.out.hB.lt
                      have hbl : b < wr.heap.size := Nat.lt_of_lt_of_le hbS F.out.size
                      have hlk : ((x.datas.map (·.gone)).take k).length = k := by simp; omega
                      have hlm := hok.out.lda
                      go_wp2_with (at_builtin; refine wpList_appC (t := Ty.bool) (P := Tryz.prog) (base := W4.heap.size) (S := fun b => Nw W4 ((wr.alloc (.cells #[.slice A7 a.b.length c7, .bool a.gone] 184)).alloc (.cells #[.bool a.gone] 4)) b ∧ v.ownBlock ≠ some b) (v := v) (xs := (x.datas.map (·.gone)).take k) (ys := [a.gone]) (dss := [[.bool a.gone]]) (B2 := ((wr.alloc (.cells #[.slice A7 a.b.length c7, .bool a.gone] 184)).alloc (.cells #[.bool a.gone] 4)).heap.size) elBool rfl rfl rfl rfl I3.out.row (Css.one (RX.out _ _)) (Rd.blk G3.out G3.out.lt 0 (fun k u hu => by rw [Nat.zero_add]; simpa using hu)) rfl (by rw [hlk]; omega) (by rw [hlk]; omega) (fun b hb => ⟨hb.1.2, fun e => hb.2 e.symm⟩) I3.out.fr.size ?_; intro v1 w4 hr4 f4 hv4; have PU := hid (I3.out.push hr4 f4 hv4); have HR4 := hid hr4; have hBo : ¬ some B = v.ownBlock := (fun e => by have := (I3.out.own e.symm).1; have := I3.out.lt; omega); have z0 : w4.cell? ⟨B, 4, none⟩ = some v := (I3.out.hB.fr f4 hBo).cell 4; have z1 : w4.frozen? ⟨B, 4, none⟩ = false := (I3.out.hB.fr f4 hBo).frozen 4; clear hr4 f4 hv4 hlk hBo; obtain ⟨A9, k9, e9, _, _, _⟩ := HR4.out.els (S' := fun _ => True) (fun _ _ => trivial) (fun _ _ => trivial); rw [show (((x.datas.map (·.gone)).take k) ++ [a.gone]).length = k + 1 by simp; omega] at e9; subst e9)
                      go_roundw
                      case rel =>
                        refine ⟨k + 1, .slice A9 (k + 1) k9, by omega, by go_num, ?_⟩
                        rw [List.take_succ_eq_append_getElem (by simp; omega), List.getElem_map, ← HA.out]
                        exact PU.out
                      case measure => simp [intOf]; omega
                    · have hkn : k = x.datas.length := by omega
                      subst hkn
                      have I : Hid (Stg Ty.bool 83 4 W4 wr B 4 #[.slice A0 x.mems.length c0, .slice A1 x.tabs.length c1, .slice A2 x.globs.length c2, .slice A3 x.elems.length c3, .slice none 0 0, .slice none 0 0] (x.datas.map (·.gone)) v) := by
                        have := I.out
                        rwa [List.take_of_length_le (by simp)] at this
                      obtain ⟨A4, c4, e, m1, m2, m3⟩ := I.out.els
                      rw [List.length_map] at e
                      subst e
                      have M4 := hid (And.intro m1 m2)
                      have E0 := hid (E0.out.one I.out.fr)
                      have E1 := hid (E1.out.one I.out.fr)
                      have E2 := hid (E2.out.one I.out.fr)
                      have E3 := hid (E3.out.one I.out.fr)
                      have E4 := hid (ShE.of SB.out m3)
                      have SB : Hid (ShB 83 w wr D B #[.slice none 0 0, .slice none 0 0, .slice none 0 0, .slice none 0 0, .slice none 0 0, .slice none 0 0] #[.slice A0 x.mems.length c0, .slice A1 x.tabs.length c1, .slice A2 x.globs.length c2, .slice A3 x.elems.length c3, .slice A4 x.datas.length c4, .slice none 0 0]) := SB.out.step I.out
                      clear m1 m2 m3 I hlt hk
                      obtain ⟨W5, hW⟩ : ∃ W, W = wr := ⟨_, rfl⟩
                      subst hW
                      have y2 : W5.cell? ⟨V.P, 2, none⟩ = some (.slice B5 x.calls.length d5) := ((SB.out.fr.cell (p := ⟨V.P, 2, none⟩) H.out.blk.lt (fun x => x)).trans (H.out.blk.cell 2)).trans (congrArg some SL5.out)
                      go_wp2_with fail
                      clear y2
                      refine (copyCalls_any B5 d5 x.calls (· < w.heap.size) W5 (fr_els EL5.out SB.out.fr (fun _ h => h)) (fun k hk => Nat.lt_of_lt_of_le hk SB.out.fr.size) (by have := hok.out.lca; omega) hok.out.ca).mono ?_
                      rintro e w2 ⟨A5, c5, rfl, hr2, f2⟩
                      have F2 : Hid (Fr No W5 w2) := f2
                      have SC := hid (SB.out.frNo F2.out)
                      obtain ⟨_, _, e, m1, m2, m3⟩ := hr2.els (S' := Nw W5 w2) (fun b hb => hb.1) (fun b hb => by obtain ⟨h1, _, h2⟩ := hr2.own hb; exact ⟨h1, h2.lt⟩)
                      injection e with ea eb ec
                      subst ea ec
                      have M5 := hid (And.intro m1 m2)
                      have E5 : Hid (ShE tCa w w2 D B A5 x.calls) := ShE.of SB.out (m3.more (fun b hb => ⟨hb, fun e => by have := SB.out.hB.lt; have := hb.1; omega⟩))
                      clear hr2 m1 m2 m3 eb f2
                      have E0 := hid (E0.out.up (F2.out.mono (fun _ _ h => h.elim)))
                      have E1 := hid (E1.out.up (F2.out.mono (fun _ _ h => h.elim)))
                      have E2 := hid (E2.out.up (F2.out.mono (fun _ _ h => h.elim)))
                      have E3 := hid (E3.out.up (F2.out.mono (fun _ _ h => h.elim)))
                      have E4 := hid (E4.out.up (F2.out.mono (fun _ _ h => h.elim)))

                      have z5 := SC.out.hB.cell 5
                      have u5 := SC.out.hB.frozen 5
                      have GB := hid (SC.out.hB.set_ 5 (.slice A5 x.calls.length c5))
                      have GD := hid (SC.out.hD.far (p := ⟨B, 5, none⟩) SC.out.ne (.slice A5 x.calls.length c5))
                      have b0 := GB.out.cell 0
                      have q0 := GD.out.cell 0
                      have r0 := GD.out.frozen 0
                      have b1 := GB.out.cell 1
                      have q1 := GD.out.cell 1
                      have r1 := GD.out.frozen 1
                      have b2 := GB.out.cell 2
                      have q2 := GD.out.cell 2
                      have r2 := GD.out.frozen 2
                      have b3 := GB.out.cell 3
                      have q3 := GD.out.cell 3
                      have r3 := GD.out.frozen 3
                      have b4 := GB.out.cell 4
                      have q4 := GD.out.cell 4
                      have r4 := GD.out.frozen 4
                      have b5 := GB.out.cell 5
                      have q5 := GD.out.cell 5
                      have r5 := GD.out.frozen 5
                      have hDl := GD.out.lt
                      have hBl := GB.out.lt
                      have hBD : ¬ B = D := fun e => SC.out.ne e.symm
                      go_wp2
                      clear z5 u5
                      have GF := hid (((((((GD.out.set_ 0 (.slice A0 x.mems.length c0)).set_ 1 (.slice A1 x.tabs.length c1)).set_ 2 (.slice A2 x.globs.length c2)).set_ 3 (.slice A3 x.elems.length c3)).set_ 4 (.slice A4 x.datas.length c4)).set_ 5 (.slice A5 x.calls.length c5)))
                      have FF := hid ((((((((Fr.refl (fun k => k = B ∨ k = D) w2).setCell ⟨B, 5, none⟩ (.slice A5 x.calls.length c5) (fun _ => .inl rfl)).setCell ⟨D, 0, none⟩ (.slice A0 x.mems.length c0) (fun _ => .inr rfl)).setCell ⟨D, 1, none⟩ (.slice A1 x.tabs.length c1) (fun _ => .inr rfl)).setCell ⟨D, 2, none⟩ (.slice A2 x.globs.length c2) (fun _ => .inr rfl)).setCell ⟨D, 3, none⟩ (.slice A3 x.elems.length c3) (fun _ => .inr rfl)).setCell ⟨D, 4, none⟩ (.slice A4 x.datas.length c4) (fun _ => .inr rfl)).setCell ⟨D, 5, none⟩ (.slice A5 x.calls.length c5) (fun _ => .inr rfl))
                      clear b0 q0 r0 b1 q1 r1 b2 q2 r2 b3 q3 r3 b4 q4 r4 b5 q5 r5
                      generalize (((((((w2.setCell ⟨B, 5, none⟩ (.slice A5 x.calls.length c5)).setCell ⟨D, 0, none⟩ (.slice A0 x.mems.length c0)).setCell ⟨D, 1, none⟩ (.slice A1 x.tabs.length c1)).setCell ⟨D, 2, none⟩ (.slice A2 x.globs.length c2)).setCell ⟨D, 3, none⟩ (.slice A3 x.elems.length c3)).setCell ⟨D, 4, none⟩ (.slice A4 x.datas.length c4)).setCell ⟨D, 5, none⟩ (.slice A5 x.calls.length c5)) = wf at *
                      have p0 := GF.out.cell 0
                      have p1 := GF.out.cell 1
                      have p2 := GF.out.cell 2
                      have p3 := GF.out.cell 3
                      have p4 := GF.out.cell 4
                      have p5 := GF.out.cell 5
                      have E0 := hid (E0.out.up FF.out)
                      have E1 := hid (E1.out.up FF.out)
                      have E2 := hid (E2.out.up FF.out)
                      have E3 := hid (E3.out.up FF.out)
                      have E4 := hid (E4.out.up FF.out)
                      have E5 := hid (E5.out.up FF.out)
                      have FZ : Hid (Fr No w wf) := SC.out.fr.trans FF.out (fun i hi e => by have h1 := SC.out.lB; have h2 := SC.out.lD; rcases e with e | e <;> omega)
                      have RZ : tSh.rd wf (Nw w wf) [.slice A0 x.mems.length c0, .slice A1 x.tabs.length c1, .slice A2 x.globs.length c2, .slice A3 x.elems.length c3, .slice A4 x.datas.length c4, .slice A5 x.calls.length c5] (shotS x) := by
                        have := Sh_mk (a := shotS x) (w := wf) (S := Nw w wf) M0.out.1 M0.out.2 (E0.out.more (fun b hb => hb.1)) M1.out.1 M1.out.2 (E1.out.more (fun b hb => hb.1)) M2.out.1 M2.out.2 (E2.out.more (fun b hb => hb.1)) M3.out.1 M3.out.2 (E3.out.more (fun b hb => hb.1)) M4.out.1 M4.out.2 (E4.out.more (fun b hb => hb.1)) M5.out.1 M5.out.2 (E5.out.more (fun b hb => hb.1))
                        simpa only [shotS, List.length_map] using this
                      exact bodyPost_ret (v := .agg #[.slice A0 x.mems.length c0, .slice A1 x.tabs.length c1, .slice A2 x.globs.length c2, .slice A3 x.elems.length c3, .slice A4 x.datas.length c4, .slice A5 x.calls.length c5]) (by simp [results, Tryz.results15, go_sem, p0, p1, p2, p3, p4, p5]) rfl ⟨_, rfl, RZ, FZ.out⟩
end
end Go.Proofs.YtdckghiipijobaaGreat
