/- Chapter 46: the closure that splits one edge. -/
import Derived.Test.YtiafkakkbbclhaaSlP
namespace Go.Proofs.Ytiafkakkbbclhaa
open Go.RowKit

theorem stepB_len (bs : List Sb) (x : Int) (p : Nat × Nat) : (stepB bs x p).length = bs.length + 1 := by simp [stepB]
set_option maxRecDepth 100000 in
set_option maxHeartbeats 6400000 in
theorem part_any (Wc w : World) (x : Sf) (bs : List Sb) (qo : Nat) (AP : Option Addr) (cP : Nat) (AR : Option Addr) (cR : Nat) (AV : Option Addr) (cV : Nat) (AB : Option Addr) (cB : Nat) (rs : List Rw) (i k : Nat)
    (H : Fn_ Wc w x bs qo AP cP AR cR AV cV AB cB rs) (hi : i < bs.length) (hk : k < (toOf bs i).length) (hn : bs.length ≤ 200000) (hm : (toOf bs i).length ≤ 200000) :
    Calls Try.prog 27 #[.agg #[.int .i64 i, .int .i64 k], .pointer (some ⟨qo, 0, none⟩)] w fun e w' => e = .returned (.tuple #[]) ∧ (∃ (AB' : Option Addr) (cB' : Nat) (rs' : List Rw), Fn_ Wc w' x (stepB bs (bs.length : Int) (i, k)) qo AP cP AR cR AV cV AB' cB' rs') ∧ ∀ q cs, Blk w q 50 cs → Blk w' q 50 cs := by
  have FA := (Fr.refl No w).alloc (.cells #[.int .i64 i, .int .i64 k] 50)
  have G := hid (Blk.new w 50 #[.int .i64 i, .int .i64 k])
  have H1 := hid (H.frNo FA)
  have HK := hid (fun q cs (hb : Blk w q 50 cs) => hb.fr FA (fun x => x))
  obtain ⟨b, o, g, cE, Aa, ca, rfl, hbb, y5, hr, ⟨csg, hbg⟩, z0, z1, hrd⟩ := H1.out.edge hi hk
  clear H FA
  have hsn : Hid ((stepB bs (bs.length : Int) (i, k)) = bs.set i (withTo (bs.getD i bD) ((toOf bs i).set k ⟨(bs.length : Int), []⟩)) ++ [jmp (toOf bs i)[k]]) := hid (by unfold stepB; rw [getD_el _ hk])
  have htor := hid (H1.out.cb.tor i hi)
  have hdn : Hid ((rs.getD i rD).v = .slice (some ⟨g, 0, none⟩) (toOf bs i).length cE) := hid (by rw [hr]; rfl)
  rw [hdn.out] at htor
  obtain ⟨n, hnn⟩ : ∃ n, bs.length = n := ⟨_, rfl⟩
  have HN := hid hnn
  generalize hes : toOf bs i = es at *
  have HES := hid hes
  obtain ⟨m, hmm⟩ : ∃ m, es.length = m := ⟨_, rfl⟩
  have HM := hid hmm
  have HBG := hid hbg
  have HRD := hid hrd
  have hgl : Hid (Wc.heap.size ≤ g) := hid (by obtain ⟨h0, _⟩ := htor.out.own (g := g) rfl; exact h0)
  have HX : Hid (∀ X, Fr No (w.alloc (.cells #[.int .i64 i, .int .i64 k] 50)) X → X.cell? ⟨qo, 3, none⟩ = some (.slice (some ⟨b, o, none⟩) n cB) ∧ X.cell? ⟨w.heap.size, 0, none⟩ = some (.int .i64 i) ∧ X.cell? ⟨w.heap.size, 1, none⟩ = some (.int .i64 k) ∧ X.cell? ⟨b, o + i * 7 + 5, none⟩ = some (.slice (some ⟨g, 0, none⟩) m cE) ∧ X.cell? ⟨g, k * 2, none⟩ = some (.int .i64 es[k].to) ∧ X.cell? ⟨g, k * 2 + 1, none⟩ = some (.slice Aa es[k].args.length ca)) := hid fun X f => by
    have g1 := H1.out.co.o.fr f (fun x => x)
    have g2 := G.out.fr f (fun x => x)
    have g3 := g1.cell 3
    rw [hnn] at g3
    exact ⟨g3, g2.cell 0, g2.cell 1, (f.cell (p := ⟨b, o + i * 7 + 5, none⟩) hbb (fun x => x)).trans (by rw [y5, hmm]), (f.cell (p := ⟨g, k * 2, none⟩) HBG.out.lt (fun x => x)).trans z0, (f.cell (p := ⟨g, k * 2 + 1, none⟩) HBG.out.lt (fun x => x)).trans z1⟩
  have hi0 : (0 : Int) ≤ i := by omega
  have hi1 : (i : Int) < n := by omega
  have hk0 : (0 : Int) ≤ k := by omega
  have hk1 : (k : Int) < m := by omega
  clear y5 z0 z1 hbg hr hrd hnn hes hmm
  go_enter Try.func27, Try.ntmps27
  go_wp2_with fail
  generalize w.alloc (.cells #[.int .i64 i, .int .i64 k] 50) = W1 at *
  generalize w.heap.size = qa at *
  refine wp_region_ort (Fr No W1) (.rd 0 (.rd 1 (.rd 2 (.rd 3 (.rd 4 (.rd 5 (.rd 6 (.rd 7 (.rd 8 (.rd 9 (.rd 10 (.rd 11 .nil)))))))))))) (by kernel_rfl) (by kernel_rfl) (by kernel_rfl) rfl (Fr.refl _ W1).drew ?_
  repeat (first
    | (refine wpT_skip rfl rfl ?_; simp only [List.getElem_toArray, List.getElem_cons_succ, List.getElem_cons_zero, Act.put, List.setIfInBounds_toArray, List.set_cons_zero, List.set_cons_succ])
    | (refine wpT_call rfl rfl ?_; simp only [List.getElem_toArray, List.getElem_cons_succ, List.getElem_cons_zero]; apply Exists.intro; refine ⟨fun X hX => ?_, ?_⟩
       · (obtain ⟨s0, s1, s2, s3, s4, s5⟩ := HX.out X hX; go_simp; exact stillUpon_value)
       simp only [Act.put, List.setIfInBounds_toArray, List.set_cons_zero, List.set_cons_succ]))
  refine wpT_nil ?_
  have FD := (Fr.refl No W1).drew
  obtain ⟨x3, a0, a1, x5, e0, e1⟩ := HX.out _ FD
  have H2 := hid (H1.out.frNo FD)
  replace HK := hid (fun q cs (hb : Blk w q 50 cs) => (HK.out q cs hb).fr FD (fun x => x))
  have HT2 := hid (rowSi_frNo htor.out FD)
  have HRD2 := hid ((TyMore.more _ _ _ _ _ (TyOk.keep _ W1.drew _ _ _ HRD.out (fun p hp => FD.cell hp.lt (fun x => x))) (Sn.frNo FD)) : tEd.rd W1.drew (Sn Wc.heap.size W1.drew) [.int .i64 es[k].to, .slice Aa es[k].args.length ca] es[k])
  have HBG2 := hid (HBG.out.fr FD (fun x => x))
  clear H1 htor HX HRD HBG G a0 a1 x5 FD
  generalize W1.drew = W2 at *
  have ex := hid (rfl : es[k] = es[k])
  go_upto_region 3 with fail
  have F23 := ((Fr.refl No W2).alloc (.cells #[.int .i64 es[k].to, .slice Aa es[k].args.length ca] 44)).alloc (.cells #[.slice none 0 0, .slice none 0 0, .int .i64 0, .int .i64 0, .slice none 0 0, .slice (some ⟨W2.heap.size, 0, none⟩) 1 1, .int .i64 0] 42)
  have HBE := hid ((Blk.new W2 44 #[.int .i64 es[k].to, .slice Aa es[k].args.length ca]).alloc (.cells #[.slice none 0 0, .slice none 0 0, .int .i64 0, .int .i64 0, .slice none 0 0, .slice (some ⟨W2.heap.size, 0, none⟩) 1 1, .int .i64 0] 42))
  have HQB := hid (Blk.new1 W2 (.cells #[.int .i64 es[k].to, .slice Aa es[k].args.length ca] 44) 42 #[.slice none 0 0, .slice none 0 0, .int .i64 0, .int .i64 0, .slice none 0 0, .slice (some ⟨W2.heap.size, 0, none⟩) 1 1, .int .i64 0])
  have H3 := hid (H2.out.frNo F23)
  replace HK := hid (fun q cs (hb : Blk w q 50 cs) => (HK.out q cs hb).fr F23 (fun x => x))
  have HT3 := hid (rowSi_frNo HT2.out F23)
  have HRD3 := hid (TyMore.more _ _ _ _ _ (TyOk.keep _ _ _ _ _ HRD2.out (fun p hp => F23.cell hp.lt (fun x => x))) (Sn.frNo F23))
  have HBG3 := hid (HBG2.out.fr F23 (fun x => x))
  have hgq : Hid (g < W2.heap.size) := hid HBG2.out.lt
  have hwc : Hid (Wc.heap.size ≤ W2.heap.size) := hid H2.out.co.f.size
  have hrsl : Hid (∀ j, j < bs.length → ∀ u, (rs.getD j rD).v.ownBlock = some u → u < W2.heap.size) := hid fun j hj u hu => by
    obtain ⟨_, cs, hb⟩ := (H2.out.cb.tor j hj).own hu
    exact hb.lt
  have y3 := H3.out.co.o.cell 3
  have z0 := (F23.cell (p := ⟨g, k * 2, none⟩) hgq.out (fun x => x)).trans e0
  have z1 := (F23.cell (p := ⟨g, k * 2 + 1, none⟩) hgq.out (fun x => x)).trans e1
  have zq0 := HBG3.out.frozen (k * 2)
  have zq1 := HBG3.out.frozen (k * 2 + 1)
  rw [HN.out] at y3
  clear H2 HT2 HRD2 HBG2 F23 x3 e0 e1 ex
  generalize ((W2.alloc (.cells #[.int .i64 es[k].to, .slice Aa es[k].args.length ca] 44)).alloc (.cells #[.slice none 0 0, .slice none 0 0, .int .i64 0, .int .i64 0, .slice none 0 0, .slice (some ⟨W2.heap.size, 0, none⟩) 1 1, .int .i64 0] 42)) = W3 at *
  obtain ⟨qe, hqe⟩ : ∃ q, W2.heap.size = q := ⟨_, rfl⟩
  rw [hqe] at HBE HQB hgq hrsl hwc ⊢
  clear hqe
  have hke : k < es.length := by rw [HM.out]; omega
  have HJ := hid (Ty.row.lit (t := tEd) (w := W3) (base := Wc.heap.size) (q := qe) (S := Sn Wc.heap.size W3) (e := 44) (css := [[.int .i64 es[k].to, .slice Aa es[k].args.length ca]]) (xs := [es[k]]) (by simpa using HBE.out) hwc.out (Css.one HRD3.out) (show (1 : Nat) ≤ maxLen by decide))
  clear HBE HRD3
  go_upto_region 4 with fail
  clear y3 z0 z1 zq0 zq1
  have FS := hid (((Fr.refl (One g) W3).setCell ⟨g, k * 2, none⟩ (.int .i64 n) (fun _ => rfl)).setCell ⟨g, k * 2 + 1, none⟩ (.slice none 0 0) (fun _ => rfl))
  have hgt : ∀ (e : TypeId) (j : Nat) (cs : Array Value), Blk W3 j e cs → e ≠ 44 → ¬ One g j := fun e j cs hb hne h => by
    have h : j = g := h
    subst h
    exact Blk.ne_ HBG3.out hb (fun e => hne e.symm) rfl
  replace HK := hid (fun q cs (hb : Blk w q 50 cs) => (HK.out q cs hb).fr FS.out (hgt _ _ _ (HK.out q cs hb) (by decide)))
  have hnw : (Lit.int .i64 (n : Int)).wf = true := wf_bool64 (by rw [HN.out] at hn; omega)
  have hset := (Ty.row.set (x := (⟨(n : Int), []⟩ : Ed)) (ds := [.int .i64 n, .slice none 0 0]) (w' := (W3.setCell ⟨g, k * 2, none⟩ (.int .i64 n)).setCell ⟨g, k * 2 + 1, none⟩ (.slice none 0 0)) HT3.out k hke (Ed_mk (a := ⟨(n : Int), []⟩) hnw (Nat.le_refl _) (by decide) (.inl rfl)) (fun p hp => FS.out.cell hp.lt (by
    obtain ⟨_, cs, hb⟩ := hp
    exact hgt _ _ cs hb (by decide))) (fun cur hb => (hb.set_ (k * 2) (.int .i64 n)).set_ (k * 2 + 1) (.slice none 0 0))).more (Nat.le_refl _) (Sn.fr FS.out (fun j cs hm hb => hgt _ _ cs hb (by decide) hm))
  have HCB4 := hid (Cb.setTo H3.out.cb hi (by rw [hdn.out]; rfl) FS.out (es := es.set k ⟨(n : Int), []⟩) (by rw [HES.out, List.length_set]) (by rw [hdn.out]; exact hset))
  have HCO4 := hid (H3.out.co.fr FS.out (fun j hj => by
    have hj : j = g := hj
    subst hj
    exact ⟨hgl.out, fun e => by subst e; exact Blk.ne_ HBG3.out H3.out.co.o (by decide) rfl, fun cs hb => Blk.ne_ HBG3.out hb (by decide) rfl⟩))
  have HJ4 := hid (rowSi_fr HJ.out FS.out (fun j cs hm hb => hgt _ _ cs hb (by decide) hm) (fun j hj h => by
    have h : j = g := h
    have h2 : qe = j := by simpa [Value.ownBlock] using hj
    have := hgq.out
    omega))
  have HQB4 := hid (HQB.out.fr FS.out (hgt _ _ _ HQB.out (by decide)))
  rw [HN.out] at hsn
  clear hset hgt FS HT3 H3 HJ HQB HBG3
  generalize (W3.setCell ⟨g, k * 2, none⟩ (.int .i64 n)).setCell ⟨g, k * 2 + 1, none⟩ (.slice none 0 0) = W4 at *
  generalize hb1 : bs.set i (withTo (bs.getD i bD) (es.set k ⟨(n : Int), []⟩)) = bs1 at *
  have hb1l : Hid (bs1.length = n) := hid (by rw [← hb1, List.length_set]; exact HN.out)
  have hb1n : Hid (bs1.length = bs.length) := hid (by rw [← hb1, List.length_set])
  have FL := (Fr.refl No W4).alloc (.cells #[.slice none 0 0, .slice none 0 0, .int .i64 0, .int .i64 0, .slice none 0 0, .slice (some ⟨qe, 0, none⟩) 1 1, .int .i64 0] 42)
  have BL := hid (Blk.new W4 42 #[.slice none 0 0, .slice none 0 0, .int .i64 0, .int .i64 0, .slice none 0 0, .slice (some ⟨qe, 0, none⟩) 1 1, .int .i64 0])
  have TJ := hid (rowSi_frNo HJ4.out FL)
  replace HK := hid (fun q cs (hb : Blk w q 50 cs) => (HK.out q cs hb).fr FL (fun x => x))
  have TC := hid (HCO4.out.frNo FL)
  have TB := hid (HCB4.out.frNo FL)
  rw [HN.out] at TC TB
  have u0 := HQB4.out.cell 0
  have u1 := HQB4.out.cell 1
  have u2 := HQB4.out.cell 2
  have u3 := HQB4.out.cell 3
  have u4 := HQB4.out.cell 4
  have u5 := HQB4.out.cell 5
  have u6 := HQB4.out.cell 6
  have uo := HCO4.out.o.cell 3
  rw [HN.out] at uo
  have hcs : Hid (Css tSr (W4.alloc (.cells #[.slice none 0 0, .slice none 0 0, .int .i64 0, .int .i64 0, .slice none 0 0, .slice (some ⟨qe, 0, none⟩) 1 1, .int .i64 0] 42)) (Sg Wc.heap.size (W4.alloc (.cells #[.slice none 0 0, .slice none 0 0, .int .i64 0, .int .i64 0, .slice none 0 0, .slice (some ⟨qe, 0, none⟩) 1 1, .int .i64 0] 42))) [[.slice none 0 0, .slice none 0 0, .int .i64 0, .int .i64 0, .slice none 0 0, .slice (some ⟨qe, 0, none⟩) 1 1, .int .i64 0]] [srOf (jmp es[k]) ⟨some ⟨qe, 0, none⟩, 1, 1⟩]) := hid (Css.one (Sr_mk (a := srOf (jmp es[k]) ⟨some ⟨qe, 0, none⟩, 1, 1⟩) (Nat.le_refl _) (by decide) (.inl rfl) (Nat.le_refl _) (by decide) (.inl rfl) (show (Lit.int .i64 0).wf = true by decide) (show (Lit.int .i64 0).wf = true by decide) (Nat.le_refl _) (by decide) (.inl rfl) (show (Lit.int .i64 0).wf = true by decide)))
  have hab : Hid (∀ (k2 : Nat) (e : TypeId) (cs : Array Value), Blk (W4.alloc (.cells #[.slice none 0 0, .slice none 0 0, .int .i64 0, .int .i64 0, .slice none 0 0, .slice (some ⟨qe, 0, none⟩) 1 1, .int .i64 0] 42)) k2 e cs → e ≠ 42 → ¬ some k2 = (Value.slice (some ⟨b, o, none⟩) n cB).ownBlock) := hid fun k2 e cs hb hne h => by
    obtain ⟨_, cs', hb'⟩ := TB.out.row.own h.symm
    exact Blk.ne_ hb hb' hne rfl
  have hnt2 : Hid (∀ k2, Sg Wc.heap.size (W4.alloc (.cells #[.slice none 0 0, .slice none 0 0, .int .i64 0, .int .i64 0, .slice none 0 0, .slice (some ⟨qe, 0, none⟩) 1 1, .int .i64 0] 42)) k2 → k2 < (W4.alloc (.cells #[.slice none 0 0, .slice none 0 0, .int .i64 0, .int .i64 0, .slice none 0 0, .slice (some ⟨qe, 0, none⟩) 1 1, .int .i64 0] 42)).heap.size ∧ ¬ some k2 = (Value.slice (some ⟨b, o, none⟩) n cB).ownBlock) := hid fun k2 hk2 => ⟨hk2.lt, by
    obtain ⟨_, ⟨cs, hb⟩ | ⟨cs, hb⟩⟩ := hk2
    · exact hab.out _ _ _ hb (by decide)
    · exact hab.out _ _ _ hb (by decide)⟩
  have hsl : Hid ((srs bs1 rs).length = n) := hid (by rw [srs_len TB.out.len, hb1l.out])
  have hzs : Hid (Wc.heap.size ≤ (W4.alloc (.cells #[.slice none 0 0, .slice none 0 0, .int .i64 0, .int .i64 0, .slice none 0 0, .slice (some ⟨qe, 0, none⟩) 1 1, .int .i64 0] 42)).heap.size) := hid TC.out.f.size
  have hn2 : n ≤ 200000 := by rw [HN.out] at hn; exact hn
  have hfr : Hid (∀ u, (Rw.mk (some ⟨qe, 0, none⟩) 1 1).v.ownBlock = some u → ∀ j, j < bs1.length → (rs.getD j rD).v.ownBlock ≠ some u) := hid fun u hu j hj e => by
    have h2 : qe = u := by simpa [Value.ownBlock, Rw.v] using hu
    have := hrsl.out j (by rw [← hb1n.out]; exact hj) u e
    omega
  clear HJ4 HCO4 HCB4 FL
  go_wp2_with (at_builtin; refine wpList_appC (t := tSr) (base := Wc.heap.size) (S := Sg Wc.heap.size (W4.alloc (.cells #[.slice none 0 0, .slice none 0 0, .int .i64 0, .int .i64 0, .slice none 0 0, .slice (some ⟨qe, 0, none⟩) 1 1, .int .i64 0] 42))) (xs := srs bs1 rs) (ys := [srOf (jmp es[k]) ⟨some ⟨qe, 0, none⟩, 1, 1⟩]) (dss := [[.slice none 0 0, .slice none 0 0, .int .i64 0, .int .i64 0, .slice none 0 0, .slice (some ⟨qe, 0, none⟩) 1 1, .int .i64 0]]) (B2 := (W4.alloc (.cells #[.slice none 0 0, .slice none 0 0, .int .i64 0, .int .i64 0, .slice none 0 0, .slice (some ⟨qe, 0, none⟩) 1 1, .int .i64 0] 42)).heap.size) elBks rfl rfl rfl rfl TB.out.row hcs.out (by simpa using Rd.blk BL.out BL.out.lt 0 (xs := [.slice none 0 0, .slice none 0 0, .int .i64 0, .int .i64 0, .slice none 0 0, .slice (some ⟨qe, 0, none⟩) 1 1, .int .i64 0]) (fun i u h => by rw [Nat.zero_add]; simpa using h)) rfl (by rw [hsl.out]; omega) (by rw [hsl.out]; omega) hnt2.out hzs.out ?_; intro v8 wy hr fr1 hv; have TCy := hid (TC.out.fr fr1 (fun g hg => ⟨(TB.out.row.own hg.symm).1, fun e => hab.out _ _ _ (e ▸ TC.out.o) (by decide) hg, fun cs hb => hab.out _ _ _ hb (by decide) hg⟩)); have HKy := hid (fun q cs (hb : Blk w q 50 cs) => (HK.out q cs hb).fr fr1 (hab.out _ _ _ (HK.out q cs hb) (by decide))); have zc := TCy.out.o.cell 3; have zf := TCy.out.o.frozen 3; have hP := Cb.push TB.out (jmp es[k]) ⟨some ⟨qe, 0, none⟩, 1, 1⟩ rfl TJ.out hfr.out hr fr1; rw [← hsn.out] at hP; obtain ⟨A8, c8, e8, _, _, _⟩ := hP.row.els (S' := fun _ => True) (fun _ _ => trivial) (fun _ _ => trivial); rw [srs_len hP.len, stepB_len, HN.out] at e8; subst e8; have HPY := hid hP; clear hP hr fr1 hv)
  clear zc zf u0 u1 u2 u3 u4 u5 u6 uo
  have FSo := (Fr.refl (One qo) wy).setCell ⟨qo, 3, none⟩ (.slice A8 (n + 1) c8) (fun _ => rfl)
  have hqo : ∀ (e : TypeId) (k2 : Nat) (cs : Array Value), Blk wy k2 e cs → e ≠ 27 → ¬ One qo k2 := fun e k2 cs hb hne h => by
    have h : k2 = qo := h
    subst h
    exact Blk.ne_ TCy.out.o hb (fun e => hne e.symm) rfl
  have HCZ := TCy.out.set (.slice A8 (n + 1) c8)
  have HBZ := HPY.out.fr FSo (Ng.one TCy.out.o (by decide) (by decide)) (fun g hg => by
    obtain ⟨_, cs, hb⟩ := HPY.out.row.own hg
    exact hqo _ g cs hb (by decide)) (fun i hi g hg => by
    obtain ⟨_, cs, hb⟩ := (HPY.out.tor i hi).own hg
    exact hqo _ g cs hb (by decide))
  go_end0
  refine ⟨rfl, ⟨A8, c8, rs ++ [⟨some ⟨qe, 0, none⟩, 1, 1⟩], ?_, ?_⟩, fun q cs hb => (HKy.out q cs hb).fr FSo (hqo _ _ _ (HKy.out q cs hb) (by decide))⟩
  · rw [HN.out, stepB_len, HN.out]; exact HCZ
  · rw [HN.out, stepB_len, HN.out]; exact HBZ
end Go.Proofs.Ytiafkakkbbclhaa
