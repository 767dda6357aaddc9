/- Chapter 46: Func. -/
import Derived.Test.YtiafkakkbbclhaaSlQ
namespace Go.Proofs.Ytiafkakkbbclhaa
open Go.RowKit

/-- The split of a form's blocks. -/
def splitB (bs : List Sb) : List Sb := Sp bs (crit (tosOf bs)) (crit (tosOf bs)).length
theorem pr_at {w : World} {base : Nat} {S : Nat → Prop} {e : TypeId} {A : Option Addr} {n c : Nat} {l : List (Nat × Nat)} (h : tPr.row w base S e (.slice A n c) l) (j : Nat) (hj : j < l.length) :
    ∃ g cs, A = some ⟨g, 0, none⟩ ∧ Blk w g e cs ∧ cs[j * 2]? = some (.int .i64 (l[j].1 : Int)) ∧ cs[j * 2 + 1]? = some (.int .i64 (l[j].2 : Int)) := by
  obtain ⟨g, rfl, _⟩ := row_some h (by omega)
  obtain ⟨_, cs, hb⟩ := h.own (g := g) rfl
  obtain ⟨css, c1, c2⟩ := h.rd
  have hjc : j < css.length := by rw [c1.1]; exact hj
  have hrd := c1.2 j _ _ (List.getElem?_eq_getElem hjc) (List.getElem?_eq_getElem hj)
  have hg2 := fun (i : Nat) (u : Value) (hu : css[j][i]? = some u) => flat_get c1.lens (List.getElem?_eq_getElem hjc) hu
  obtain ⟨d1, d2, hc, ⟨rfl, _⟩, rfl, _⟩ := hrd
  rw [hc] at hg2
  have g0 := hg2 0 _ rfl
  have g1 := hg2 1 _ rfl
  rw [show tPr.size = 2 from rfl] at g0 g1
  rcases c2 with c2 | ⟨b', o', e', _, c2⟩
  · rw [c2] at g0; cases g0
  · injection e' with e'
    injection e' with e1 e2 _
    subst e1 e2
    have z0 := c2 _ _ g0
    have z1 := c2 _ _ g1
    rw [Nat.zero_add, hb.cell] at z0 z1
    exact ⟨g, cs, rfl, hb, z0, z1⟩
theorem Sp_row {bs : List Sb} {j : Nat} (hj : j ≤ (crit (tosOf bs)).length) {b : Nat} (hb : b < bs.length) : (toOf (Sp bs (crit (tosOf bs)) j) b).length = (toOf bs b).length := by
  have h := (tsOk (crOk_crit (tosOf bs)) j hj).row b (by rw [tosOf_len]; exact hb)
  rw [← tosOf_Sp, tosOf_getD, tosOf_getD, List.length_map, List.length_map] at h
  exact h
def FuncTo (x : Sf) (w : World) (e : Ending) (w' : World) : Prop :=
  ∃ (AP : Option Addr) (cP : Nat) (AR : Option Addr) (cR : Nat) (AV : Option Addr) (cV : Nat) (AB : Option Addr) (cB : Nat) (rs : List Rw), e = .returned (.agg #[.slice AP x.type.params.length cP, .slice AR x.type.results.length cR, .slice AV x.vals.length cV, .slice AB (splitB x.blocks).length cB]) ∧
    tI.row w' w.heap.size Emp 63 (.slice AP x.type.params.length cP) x.type.params ∧ tI.row w' w.heap.size Emp 63 (.slice AR x.type.results.length cR) x.type.results ∧ tI.row w' w.heap.size Emp 63 (.slice AV x.vals.length cV) x.vals ∧
    Cb w.heap.size w' (.slice AB (splitB x.blocks).length cB) (splitB x.blocks) rs ∧ Fr No w w'
set_option maxRecDepth 100000 in
set_option maxHeartbeats 6400000 in
theorem func_any (P R V B : Option Addr) (np nr nv nb pc rc vc bc : Nat) (x : Sf) (S : Nat → Prop) (w : World) (hp : tI.els w S P x.type.params) (hr : tI.els w S R x.type.results) (hv : tI.els w S V x.vals) (h : tSb.els w S B x.blocks) (hS : ∀ k, S k → k < w.heap.size)
    (ep : Hid (x.type.params.length = np)) (er : Hid (x.type.results.length = nr)) (ev : Hid (x.vals.length = nv)) (eb : Hid (x.blocks.length = nb)) (hl : Hid (FL x)) :
    Calls Try.prog 12 #[.agg #[.slice P np pc, .slice R nr rc, .slice V nv vc, .slice B nb bc]] w (FuncTo x w) := by
  have F0 := hid (((Fr.refl No w).alloc (.cells #[.slice P np pc, .slice R nr rc, .slice V nv vc, .slice B nb bc] 27)).alloc (.cells #[.slice none 0 0, .slice none 0 0, .slice none 0 0, .slice none 0 0] 27))
  have G := hid ((Blk.new w 27 #[.slice P np pc, .slice R nr rc, .slice V nv vc, .slice B nb bc]).alloc (.cells #[.slice none 0 0, .slice none 0 0, .slice none 0 0, .slice none 0 0] 27))
  have GR := hid (Blk.new1 w (.cells #[.slice P np pc, .slice R nr rc, .slice V nv vc, .slice B nb bc] 27) 27 #[.slice none 0 0, .slice none 0 0, .slice none 0 0, .slice none 0 0])
  have hSW := hid (fun k (hk : S k) => Nat.lt_of_lt_of_le (hS k hk) F0.out.size)
  have HP := hid (hp.fr F0.out (fun k hk => ⟨hS k hk, fun x => x⟩))
  have HR := hid (hr.fr F0.out (fun k hk => ⟨hS k hk, fun x => x⟩))
  have HV := hid (hv.fr F0.out (fun k hk => ⟨hS k hk, fun x => x⟩))
  have HB := hid (h.fr F0.out (fun k hk => ⟨hS k hk, fun x => x⟩))
  have hnb : nb ≤ 100000 := by have := hl.out.nb; rw [eb.out] at this; exact this
  clear hp hr hv h hS
  have y0 := G.out.cell 0
  have y1 := G.out.cell 1
  have y2 := G.out.cell 2
  have y3 := G.out.cell 3
  go_enter Try.func12, Try.ntmps12
  go_wp2_with fail
  generalize (w.alloc (.cells #[.slice P np pc, .slice R nr rc, .slice V nv vc, .slice B nb bc] 27)).alloc (.cells #[.slice none 0 0, .slice none 0 0, .slice none 0 0, .slice none 0 0] 27) = W at *
  refine (copied_any P R V B np nr nv nb pc rc vc bc x S W HP.out HR.out HV.out HB.out hSW.out ep er ev eb hl).mono ?_
  clear y0 y1 y2 y3
  rintro e w1 ⟨AP, cP, AR, cR, AV, cV, AB, cB, rs, rfl, hrp, hrr, hrv, hcb, f⟩
  have FB := (Fr.refl No w1).alloc (.cells #[.slice AP x.type.params.length cP, .slice AR x.type.results.length cR, .slice AV x.vals.length cV, .slice AB x.blocks.length cB] 27)
  have F2 := hid (f.trans FB (fun _ _ h => h))
  have HFN : Hid (Fn_ W (w1.alloc (.cells #[.slice AP x.type.params.length cP, .slice AR x.type.results.length cR, .slice AV x.vals.length cV, .slice AB x.blocks.length cB] 27)) x x.blocks w1.heap.size AP cP AR cR AV cV AB cB rs) := hid ⟨⟨hrp.fr FB (fun _ h => h.elim) (fun _ _ h => h), hrr.fr FB (fun _ h => h.elim) (fun _ _ h => h), hrv.fr FB (fun _ h => h.elim) (fun _ _ h => h), Blk.new w1 _ _, f.size, F2.out⟩, hcb.frNo FB⟩
  have G2 := G.out.fr F2.out (fun x => x)
  have y0 := G2.cell 0
  have y1 := G2.cell 1
  have y2 := G2.cell 2
  have y3 := G2.cell 3
  clear hrp hrr hrv hcb f FB G2
  go_wp2_with fail
  generalize w1.alloc (.cells #[.slice AP x.type.params.length cP, .slice AR x.type.results.length cR, .slice AV x.vals.length cV, .slice AB x.blocks.length cB] 27) = w2 at *
  generalize w1.heap.size = qo at *
  refine (crit_any P R V B np nr nv nb pc rc vc bc x.blocks S w2 (HB.out.fr F2.out (fun k hk => ⟨hSW.out k hk, fun x => x⟩)) (fun k hk => Nat.lt_of_lt_of_le (hSW.out k hk) F2.out.size) eb hnb hl.out.t).mono ?_
  clear y0 y1 y2 y3
  rintro e w3 ⟨AC, cC, rfl, hrow, f⟩
  have HF3 := hid (HFN.out.frNo f)
  have HROW := hid hrow
  have hcl : (crit (tosOf x.blocks)).length ≤ 100000 := Nat.le_trans (critR_tot _ _) hl.out.t
  have HSR := hid (fun j (hj : j ≤ (crit (tosOf x.blocks)).length) b (hb : b < x.blocks.length) => Sp_row hj hb)
  have HOK := hid (crOk_crit (tosOf x.blocks)).b
  have HSP : Hid (Sp x.blocks (crit (tosOf x.blocks)) (crit (tosOf x.blocks)).length = splitB x.blocks) := hid rfl
  clear hrow f HFN
  generalize hcr : crit (tosOf x.blocks) = cr at *
  obtain ⟨nc, hnc⟩ : ∃ n, cr.length = n := ⟨_, rfl⟩
  have HNC := hid hnc
  rw [hnc] at hcl HROW HSR HSP
  clear hcr
  rw [hnc]
  clear hnc
  go_wp2_with fail
  go_loopw [13] (fun i13 wr => ∃ (j : Nat) (AB : Option Addr) (cB : Nat) (rs : List Rw), j ≤ nc ∧ i13 = .int .i64 j ∧ Hid (Fn_ W wr x (Sp x.blocks cr j) qo AP cP AR cR AV cV AB cB rs) ∧ Hid (∀ q cs, Blk w3 q 50 cs → Blk wr q 50 cs)) (fun i13 _ => nc - (intOf i13).toNat)
  case atStart => exact ⟨0, AB, cB, rs, by omega, rfl, HF3, hid (fun _ _ h => h)⟩
  case round =>
    clear HF3
    obtain ⟨j, AB, cB, rs, hj, rfl, HF, HK⟩ := hrel
    by_cases hgo : j < nc
    · have hlj : j < cr.length := by have := HNC.out; omega
      obtain ⟨g, cs, rfl, hb, z0, z1⟩ := pr_at HROW.out j hlj
      have hb2 := HK.out g cs hb
      have u0 := (hb2.cell (j * 2)).trans z0
      have u1 := (hb2.cell (j * 2 + 1)).trans z1
      obtain ⟨h1, h2⟩ := HOK.out.at_ _ (List.getElem_mem hlj)
      have hrw := HSR.out j hj _ h1
      have hlen := Sp_len x.blocks cr j
      have hnx : Hid (Sp x.blocks cr (j + 1) = stepB (Sp x.blocks cr j) ((Sp x.blocks cr j).length : Int) (cr[j].1, cr[j].2)) := hid (by rw [Sp, getD_el _ hlj, hlen])
      have hnb2 := hl.out.nb
      have htl := to_le hl.out.t cr[j].1
      have HPA := hid (part_any W (wr.alloc (.cells #[.int .i64 (cr[j].1 : Int), .int .i64 (cr[j].2 : Int)] 50)) x (Sp x.blocks cr j) qo AP cP AR cR AV cV AB cB rs cr[j].1 cr[j].2 (HF.out.frNo ((Fr.refl No wr).alloc _)) (by rw [hlen]; omega) (by rw [hrw]; exact h2) (by rw [hlen]; omega) (by rw [hrw]; omega))
      rw [← hnx.out] at HPA
      have HKA := hid (fun q cs (h : Blk w3 q 50 cs) => (HK.out q cs h).fr ((Fr.refl No wr).alloc (.cells #[.int .i64 (cr[j].1 : Int), .int .i64 (cr[j].2 : Int)] 50)) (fun x => x))
      generalize cr[j].1 = p1 at *
      generalize cr[j].2 = p2 at *
      have j0 : (0 : Int) ≤ j := by omega
      have j1 : (j : Int) < nc := by omega
      clear hb hb2 z0 z1 h1 h2 hrw hlen hnx htl
      go_wp2_with fail
      refine HPA.out.mono ?_
      clear HPA u0 u1
      rintro e w5 ⟨rfl, ⟨AB', cB', rs', hfn⟩, hk⟩
      have HF5 := hid hfn
      have HK5 := hid (fun q cs (h : Blk w3 q 50 cs) => hk q cs (HKA.out q cs h))
      clear hfn hk HKA
      go_wp2
      go_round
      case rel => exact ⟨j + 1, AB', cB', rs', by omega, by go_num, HF5, HK5⟩
      case measure => simp [intOf]; omega
    · have hkn : nc = j := by omega
      subst hkn
      clear hgo
      rw [HSP.out] at HF
      have o0 := HF.out.co.o.cell 0
      have o1 := HF.out.co.o.cell 1
      have o2 := HF.out.co.o.cell 2
      have o3 := HF.out.co.o.cell 3
      have HG := hid (GR.out.fr HF.out.co.f (fun x => x))
      have z0 := HG.out.cell 0
      have z1 := HG.out.cell 1
      have z2 := HG.out.cell 2
      have z3 := HG.out.cell 3
      have zq0 := HG.out.frozen 0
      have zq1 := HG.out.frozen 1
      have zq2 := HG.out.frozen 2
      have zq3 := HG.out.frozen 3
      have hlt := HG.out.lt
      go_wp2_with fail
      clear o0 o1 o2 o3 z0 z1 z2 z3 zq0 zq1 zq2 zq3
      have FS := hid (((((Fr.refl (One (w.heap.size + 1)) wr).setCell ⟨w.heap.size + 1, 0, none⟩ (.slice AP x.type.params.length cP) (fun _ => rfl)).setCell ⟨w.heap.size + 1, 1, none⟩ (.slice AR x.type.results.length cR) (fun _ => rfl)).setCell ⟨w.heap.size + 1, 2, none⟩ (.slice AV x.vals.length cV) (fun _ => rfl)).setCell ⟨w.heap.size + 1, 3, none⟩ (.slice AB (splitB x.blocks).length cB) (fun _ => rfl))
      have HGZ : Hid (Blk _ (w.heap.size + 1) 27 #[.slice AP x.type.params.length cP, .slice AR x.type.results.length cR, .slice AV x.vals.length cV, .slice AB (splitB x.blocks).length cB]) := hid (by simpa using (((HG.out.set_ 0 (.slice AP x.type.params.length cP)).set_ 1 (.slice AR x.type.results.length cR)).set_ 2 (.slice AV x.vals.length cV)).set_ 3 (.slice AB (splitB x.blocks).length cB))
      have g0 := HGZ.out.cell 0
      have g1 := HGZ.out.cell 1
      have g2 := HGZ.out.cell 2
      have g3 := HGZ.out.cell 3
      have hne : ∀ (e : TypeId) (k2 : Nat) (cs : Array Value), Blk wr k2 e cs → e ≠ 27 → ¬ One (w.heap.size + 1) k2 := fun e k2 cs hb hne h => by
        have h : k2 = w.heap.size + 1 := h
        subst h
        exact Blk.ne_ HG.out hb (fun e => hne e.symm) rfl
      have hv1 : ∀ (u : Value) (l : List Int), tI.row wr W.heap.size Emp 63 u l → ∀ k2, u.ownBlock = some k2 → ¬ One (w.heap.size + 1) k2 := fun u l hr k2 hk => by
        obtain ⟨_, cs, hb⟩ := hr.own hk
        exact hne _ k2 cs hb (by decide)
      have hWw : w.heap.size ≤ W.heap.size := F0.out.size
      have hFin : FuncTo x w (.returned (.agg #[.slice AP x.type.params.length cP, .slice AR x.type.results.length cR, .slice AV x.vals.length cV, .slice AB (splitB x.blocks).length cB])) ((((wr.setCell ⟨w.heap.size + 1, 0, none⟩ (.slice AP x.type.params.length cP)).setCell ⟨w.heap.size + 1, 1, none⟩ (.slice AR x.type.results.length cR)).setCell ⟨w.heap.size + 1, 2, none⟩ (.slice AV x.vals.length cV)).setCell ⟨w.heap.size + 1, 3, none⟩ (.slice AB (splitB x.blocks).length cB)) := by
        refine ⟨AP, cP, AR, cR, AV, cV, AB, cB, rs, rfl, ?_, ?_, ?_, ?_, ?_⟩
        · exact (HF.out.co.p.fr FS.out (fun _ h => h.elim) (hv1 _ _ HF.out.co.p)).more hWw (fun _ h => h)
        · exact (HF.out.co.r.fr FS.out (fun _ h => h.elim) (hv1 _ _ HF.out.co.r)).more hWw (fun _ h => h)
        · exact (HF.out.co.vv.fr FS.out (fun _ h => h.elim) (hv1 _ _ HF.out.co.vv)).more hWw (fun _ h => h)
        · refine (HF.out.cb.fr FS.out (Ng.one HG.out (by decide) (by decide)) (fun g hg => ?_) (fun i hi g hg => ?_)).base hWw
          · obtain ⟨_, cs, hb⟩ := HF.out.cb.row.own hg
            exact hne _ g cs hb (by decide)
          · obtain ⟨_, cs, hb⟩ := (HF.out.cb.tor i hi).own hg
            exact hne _ g cs hb (by decide)
        · exact (F0.out.trans HF.out.co.f (fun _ _ h => h)).trans FS.out (fun i hi h => by
            have h : i = w.heap.size + 1 := h
            omega)
      generalize (((wr.setCell ⟨w.heap.size + 1, 0, none⟩ (.slice AP x.type.params.length cP)).setCell ⟨w.heap.size + 1, 1, none⟩ (.slice AR x.type.results.length cR)).setCell ⟨w.heap.size + 1, 2, none⟩ (.slice AV x.vals.length cV)).setCell ⟨w.heap.size + 1, 3, none⟩ (.slice AB (splitB x.blocks).length cB) = Zf at *
      exact bodyPost_ret (v := .agg #[.slice AP x.type.params.length cP, .slice AR x.type.results.length cR, .slice AV x.vals.length cV, .slice AB (splitB x.blocks).length cB]) (by simp [results, Try.results12, go_sem, g0, g1, g2, g3]) rfl hFin
end Go.Proofs.Ytiafkakkbbclhaa
