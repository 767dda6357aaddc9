/- For every input SplitRight returns true, part 13: what the proof rests on. Condition: the arguments are of bulk at most 1048576. -/
import Derived.Test.YtiafkakkbbclhaaGreatR12
import Derived.Test.YtiafkakkbbclhaaGreatR2
import Derived.BigQuiet
set_option maxRecDepth 100000
set_option maxHeartbeats 12800000
set_option linter.unusedVariables false
set_option linter.unusedSimpArgs false
set_option linter.unusedSectionVars false
namespace Go.Proofs.YtiafkakkbbclhaaGreat
open Go.RowKit
def Is (w : World) (q : Nat) (l : List Int) : Prop := Blk w q 3 (l.map (Value.int .i64)).toArray
theorem Is.cell {w : World} {q : Nat} {l : List Int} (h : Is w q l) {k : Nat} (hk : k < l.length) : w.cell? ⟨q, k, none⟩ = some (.int .i64 l[k]) := by
  rw [Blk.cell (t := 3) (cs := (l.map (Value.int .i64)).toArray) h k]
  simp [hk]
theorem Is.frozen {w : World} {q : Nat} {l : List Int} (h : Is w q l) (k : Nat) : w.frozen? ⟨q, k, none⟩ = false := Blk.frozen (t := 3) (cs := (l.map (Value.int .i64)).toArray) h k
theorem Is.lt {w : World} {q : Nat} {l : List Int} (h : Is w q l) : q < w.heap.size := Blk.lt (t := 3) (cs := (l.map (Value.int .i64)).toArray) h
theorem Is.fr {w w' : World} {M : Nat → Prop} {q : Nat} {l : List Int} (h : Is w q l) (f : Fr M w w') (hq : ¬ M q) : Is w' q l := Blk.fr (t := 3) (cs := (l.map (Value.int .i64)).toArray) h f hq
theorem Is.set {w : World} {q : Nat} {l : List Int} (h : Is w q l) (k : Nat) (b : Int) : Is (w.setCell ⟨q, k, none⟩ (.int .i64 b)) q (l.set k b) := by
  have := Blk.set_ (t := 3) (cs := (l.map (Value.int .i64)).toArray) h k (.int .i64 b)
  unfold Is
  rw [List.setIfInBounds_toArray, ← List.map_set] at this
  exact this
theorem Is.new (w : World) (n : Nat) : Is (w.alloc (.cells (Array.replicate n (.int .i64 0)) 3)) w.heap.size (List.replicate n 0) := by
  have := Blk.new w 3 (Array.replicate n (.int .i64 0))
  unfold Is
  rw [List.map_replicate, List.toArray_replicate]
  exact this
theorem Is.elsS {w : World} {q : Nat} {l : List Int} {S : Nat → Prop} (h : Is w q l) (hS : S q) (hw : ∀ x ∈ l, (Lit.int .i64 x).wf = true) : tI.els w S (some ⟨q, 0, none⟩) l := by
  refine blk_els (t := tI) (css := l.map fun b => [Value.int .i64 b]) (e := 3) ?_ hS (css_map fun x hx => ⟨rfl, hw x hx⟩)
  have e : ∀ l : List Int, (l.map fun b => [Value.int .i64 b]).flatten = l.map (Value.int .i64) := fun l => by induction l with
    | nil => rfl
    | cons a l ih => simp [ih]
  rw [e]; exact h
theorem Sb_atR {w : World} {S : Nat → Prop} {A : Option Addr} {l : List Sb} (h : tSb.els w S A l) (k : Nat) (hk : k < l.length) : ∃ (b o : Nat) (Ap : Option Addr) (cp : Nat) (Ai : Option Addr) (ci : Nat) (Aa : Option Addr) (ca : Nat) (At : Option Addr) (ct : Nat), A = some ⟨b, o, none⟩ ∧ S b ∧ w.cell? ⟨b, o + k * 7, none⟩ = some (.slice Ap l[k].params.length cp) ∧ w.cell? ⟨b, o + k * 7 + 1, none⟩ = some (.slice Ai l[k].ins.length ci) ∧ w.cell? ⟨b, o + k * 7 + 2, none⟩ = some (.int .i64 l[k].end_.kind) ∧ w.cell? ⟨b, o + k * 7 + 3, none⟩ = some (.int .i64 l[k].end_.cond) ∧ w.cell? ⟨b, o + k * 7 + 4, none⟩ = some (.slice Aa l[k].end_.args.length ca) ∧ w.cell? ⟨b, o + k * 7 + 5, none⟩ = some (.slice At l[k].end_.to.length ct) ∧ w.cell? ⟨b, o + k * 7 + 6, none⟩ = some (.int .i64 l[k].end_.trap) ∧ tSb.rd w S [.slice Ap l[k].params.length cp, .slice Ai l[k].ins.length ci, .int .i64 l[k].end_.kind, .int .i64 l[k].end_.cond, .slice Aa l[k].end_.args.length ca, .slice At l[k].end_.to.length ct, .int .i64 l[k].end_.trap] l[k] := by
  obtain ⟨b, o, ds, rfl, hb, hc, hr⟩ := h.at_ k hk
  have hr2 := hr
  obtain ⟨Ap, cp, Ai, ci, Aa, ca, At, ct, rfl, -⟩ := Sb_cells hr
  have e : tSb.size = 7 := rfl
  rw [e] at hc
  exact ⟨b, o, Ap, cp, Ai, ci, Aa, ca, At, ct, rfl, hb, hc 0 _ rfl, (by have := hc 1 _ rfl; rwa [← Nat.add_assoc] at this), (by have := hc 2 _ rfl; rwa [← Nat.add_assoc] at this), (by have := hc 3 _ rfl; rwa [← Nat.add_assoc] at this), (by have := hc 4 _ rfl; rwa [← Nat.add_assoc] at this), (by have := hc 5 _ rfl; rwa [← Nat.add_assoc] at this), (by have := hc 6 _ rfl; rwa [← Nat.add_assoc] at this), hr2⟩
def dlD (T : List (List Int)) (n : Nat) : Nat → List Int
  | 0 => dl T n 0 (T.getD 0 []).length
  | d + 1 => dl T n d 0
theorem dlD_step {T : List (List Int)} {n d : Nat} (h : d < T.length) : dl T n d (T.getD d []).length = dlD T n d := by
  cases d with
  | zero => rfl
  | succ d => exact dl_row h
noncomputable def defL (bs : List Sb) (n : Nat) : List Int := (List.range n).map fun (v : Nat) => dfn bs v
theorem dlD_end {bs : List Sb} {n : Nat} (h : bs ≠ []) : dlD (bs.map outsB) n 0 = defL bs n := by
  unfold dlD defL
  rw [dl_all (by simpa using h)]
  refine List.map_congr_left fun v _ => ?_
  rw [dfA_dfn]
theorem dfn_range (bs : List Sb) (v : Int) : -1 ≤ dfn bs v ∧ dfn bs v < bs.length := by
  unfold dfn
  cases hf : bs.findIdx? (fun b => (outsB b).contains v) with
  | none => simp only; omega
  | some j =>
    have := List.findIdx?_eq_some_iff_getElem.1 hf
    obtain ⟨h1, -⟩ := this
    simp only
    omega
theorem defL_wf {bs : List Sb} {n : Nat} (h : bs.length ≤ 100000) : ∀ x ∈ defL bs n, (Lit.int .i64 x).wf = true := fun x hx => by
  unfold defL at hx
  obtain ⟨v, -, rfl⟩ := List.mem_map.1 hx
  have := dfn_range bs v
  exact wf_bool64 (by omega)
structure OB (x : Sf) : Prop where
  o : ∀ b ∈ x.blocks, (outsB b).length * 8 ≤ 140737488351232
  i : ∀ b ∈ x.blocks, b.ins.length ≤ 100000
theorem defs_any {w : World} {S : Nat → Prop} {fc : List Value} {x : Sf} (h : FW w S fc x) (hx : OB x) (hne : x.blocks ≠ []) (hn : x.blocks.length ≤ 100000) (hv : x.vals.length ≤ 100000) : Calls Tryz.prog 14 #[.agg fc.toArray] w (IntsTo (defL x.blocks x.vals.length) w) := by
  obtain ⟨AP, cP, AR, cR, AV, cV, AB, cB, rfl, -, -, -, -, -, -, -, -, -, -, -, hb⟩ := Sf_cells h.rd
  have HB := hid hb
  have HS := hid h.lt
  have HOB := hid hx
  have HNE := hid hne
  clear h hb hx hne
  generalize x.type.params.length = np at *
  generalize x.type.results.length = nr at *
  have hdl : (defL x.blocks x.vals.length).length = x.vals.length := by simp [defL]
  unfold IntsTo
  rw [hdl]
  clear hdl
  generalize x.vals.length = nv at *
  have HO := hid HOB.out.o
  have HI := hid HOB.out.i
  clear HOB
  generalize x.blocks = bs at *
  have HFIN := hid (dlD_end (n := nv) HNE.out)
  have HWF := hid (defL_wf (n := nv) hn)
  obtain ⟨nb, hnb⟩ : ∃ n, bs.length = n := ⟨_, rfl⟩
  have HN := hid hnb
  rw [hnb] at hn ⊢
  have hnp : 0 < nb := by have := List.length_pos_iff.2 HNE.out; omega
  clear hnb
  have F0 := hid ((Fr.refl No w).alloc (.cells #[.slice AP np cP, .slice AR nr cR, .slice AV nv cV, .slice AB nb cB] 39))
  have G0 := hid (Blk.new w 39 #[.slice AP np cP, .slice AR nr cR, .slice AV nv cV, .slice AB nb cB])
  go_enter Tryz.func14, Tryz.ntmps14
  go_upto_region 1 with fail
  generalize w.alloc (.cells #[.slice AP np cP, .slice AR nr cR, .slice AV nv cV, .slice AB nb cB] 39) = W0 at *
  have hqw := G0.out.lt
  obtain ⟨q0, hq0⟩ : ∃ q, w.heap.size = q := ⟨_, rfl⟩
  have HQ0 := hid hq0
  rw [hq0] at G0 hqw ⊢
  clear hq0
  have y2 := G0.out.cell 2
  have hmk := fun W => run_mk elInts rfl W .i64 .i64 nv (by omega) (by omega)
  have B2 := hid (Is.new W0 nv)
  have F2 := hid ((Fr.refl No W0).alloc (.cells (Array.replicate nv (.int .i64 0)) 3))
  go_upto_region 2 with fail
  clear hmk y2
  generalize W0.alloc (.cells (Array.replicate nv (.int .i64 0)) 3) = W2 at *
  obtain ⟨q, hq⟩ : ∃ q, W0.heap.size = q := ⟨_, rfl⟩
  have HQ := hid hq
  rw [hq] at B2 ⊢
  clear hq
  go_wp2_with fail
  go_loopw [4] (fun v4 wr => ∃ (k : Nat) (l : List Int), k ≤ nv ∧ v4 = .int .i64 k ∧ l.length = nv ∧ Hid (Is wr q l) ∧ Hid (∀ j, j < k → l[j]? = some (-1)) ∧ Hid (Fr No W0 wr)) (fun v4 _ => nv - (intOf v4).toNat)
  case atStart => exact ⟨0, _, by omega, rfl, by simp, B2, hid (fun j h => absurd h (Nat.not_lt_zero _)), F2⟩
  case round =>
    clear B2 F2
    obtain ⟨k, l, hk, rfl, hl, HIS, HP, HF⟩ := hrel
    by_cases hgo : k < nv
    · have i0 : (0 : Int) ≤ k := by omega
      have i1 : (k : Int) < nv := by omega
      have z1 := HIS.out.cell (k := k) (by omega)
      have z2 := HIS.out.frozen k
      have hql := HIS.out.lt
      have HPN : Hid (∀ j, j < k + 1 → (l.set k (-1))[j]? = some (-1)) := hid fun j hj => by
        rw [List.getElem?_set]
        by_cases hji : k = j
        · subst hji
          rw [if_pos rfl, if_pos (by omega)]
        · rw [if_neg hji]
          exact HP.out j (by omega)
      have HBN := hid (HIS.out.set k (-1))
      have HFN := hid (HF.out.setCell ⟨q, k, none⟩ (.int .i64 (-1)) (fun hlt => by simp only at hlt; rw [HQ.out] at hlt; omega))
      clear HIS HP HF
      go_wp2
      go_roundw
      case rel => exact ⟨k + 1, l.set k (-1), by omega, by go_num, by simp [hl], HBN, HPN, HFN⟩
      case measure => simp [intOf]; omega
    · have hkn : k = nv := by omega
      subst hkn
      have hrep : l = dlD (bs.map outsB) k nb := by
        obtain ⟨d, hd⟩ : ∃ d, nb = d + 1 := ⟨nb - 1, by omega⟩
        have h1 := dl_start (T := bs.map outsB) (n := k) (by simpa using HNE.out)
        rw [List.length_map, HN.out, hd, Nat.add_sub_cancel] at h1
        rw [hd]
        show l = dl (bs.map outsB) k d 0
        rw [h1]
        refine List.ext_getElem (by simp [hl]) fun j h2 h3 => ?_
        have h4 := HP.out j (by omega)
        rw [List.getElem?_eq_getElem h2] at h4
        rw [List.getElem_replicate]
        exact Option.some.inj h4
      subst hrep
      clear HP hl hgo
      have y3 := (G0.out.fr HF.out (fun x => x)).cell 3
      go_wp2_with fail
      clear y3
      go_loopw [5] (fun v5 wx => ∃ d : Nat, d ≤ nb ∧ v5 = .int .i64 ((d : Int) - 1) ∧ Hid (Is wx q (dlD (bs.map outsB) k d)) ∧ Hid (Fr No W0 wx)) (fun v5 _ => (intOf v5 + 1).toNat)
      case atStart => exact ⟨nb, by omega, rfl, HIS, HF⟩
      case round =>
        clear HIS HF
        obtain ⟨d, hd, rfl, HIS, HF⟩ := hrel
        cases d with
        | zero =>
          have e0 : ((0 : Nat) : Int) - 1 = -1 := rfl
          rw [e0]
          rw [HFIN.out] at HIS
          have FK := hid (F0.out.trans HF.out (fun _ _ h => h))
          have HSE := hid (HIS.out.elsS (S := fun j => w.heap.size ≤ j ∧ j < wr.heap.size) ⟨by have := HQ.out; have := F0.out.size; omega, HIS.out.lt⟩ HWF.out)
          clear HIS HF e0
          go_wp2
          go_ret
          exact ⟨some ⟨q, 0, none⟩, k, rfl, HSE.out, FK.out⟩
        | succ d =>
          have e0 : ((d + 1 : Nat) : Int) - 1 = d := by omega
          rw [e0]
          have hd2 : d < nb := by omega
          have k0 : (0 : Int) ≤ d := by omega
          have k1 : (d : Int) < nb := by omega
          have hdb : d < bs.length := by rw [HN.out]; exact hd2
          have y3 := (G0.out.fr HF.out (fun x => x)).cell 3
          have FK := hid (F0.out.trans HF.out (fun _ _ h => h))
          have HSW : Hid (∀ j, S j → j < wr.heap.size) := hid fun j hj => Nat.lt_of_lt_of_le (HS.out j hj) FK.out.size
          obtain ⟨b, o, Ap, cp, Ai, ci, Aa, ca, At, ct, hA, hb, z0, z1, z2, z3, z4, z5, z6, hrd⟩ := Sb_atR (HB.out.fr FK.out fun j hj => ⟨HS.out j hj, fun x => x⟩) d hdb
          subst hA
          have HCO := hid (outs_any (w := wr) (S := S) ⟨hrd, HSW.out⟩ (HO.out _ (List.getElem_mem hdb)) (HI.out _ (List.getElem_mem hdb)))
          have HTD : Hid ((bs.map outsB).getD d [] = outsB bs[d]) := hid (by rw [List.getD_eq_getElem?_getD]; simp [hdb])
          have HSTP := hid (dlD_step (T := bs.map outsB) (n := k) (d := d) (by rw [List.length_map]; exact hdb))
          have hrl : (outsB bs[d]).length * 8 ≤ 140737488351232 := HO.out _ (List.getElem_mem hdb)
          generalize outsB bs[d] = row at *
          generalize bs[d].params.length = n1 at *
          generalize bs[d].ins.length = n2 at *
          generalize bs[d].end_.kind = n3 at *
          generalize bs[d].end_.cond = n4 at *
          generalize bs[d].end_.args.length = n5 at *
          generalize bs[d].end_.to.length = n6 at *
          generalize bs[d].end_.trap = n7 at *
          unfold IntsTo at HCO
          clear hrd hdb e0 hd
          go_wp2_with fail
          refine HCO.out.mono ?_
          clear HCO z0 z1 z2 z3 z4 z5 z6 y3
          rintro e3 w3 ⟨A3, c3, rfl, hels3, f3⟩
          have HE3 := hid hels3
          have hwz := HSW.out
          have HF3 := hid (HF.out.trans f3 (fun _ _ h => h))
          have HI3 := hid (HIS.out.fr f3 (fun x => x))
          have hqz := HIS.out.lt
          obtain ⟨z, hz⟩ : ∃ z, wr.heap.size = z := ⟨_, rfl⟩
          rw [hz] at HE3 hqz
          clear hels3 f3 HIS HF HSW hwz hz
          obtain ⟨m, hm⟩ : ∃ m, row.length = m := ⟨_, rfl⟩
          have HM := hid hm
          rw [hm] at hrl
          rw [hm]
          clear hm
          have HI4 : Hid (Is w3 q (dl (bs.map outsB) k d 0)) := HI3
          clear HI3
          go_wp2_with fail
          go_loopw [7] (fun v7 wx => ∃ i : Nat, i ≤ m ∧ v7 = .int .i64 i ∧ Hid (Is wx q (dl (bs.map outsB) k d i)) ∧ Hid (Fr (fun j => j = q) w3 wx)) (fun v7 _ => m - (intOf v7).toNat)
          case atStart => exact ⟨0, by omega, rfl, HI4, hid (Fr.refl _ _)⟩
          case round =>
            clear HI4
            obtain ⟨i, hi, rfl, HI5, HF5⟩ := hrel
            by_cases hgi : i < m
            · have j0 : (0 : Int) ≤ i := by omega
              have j1 : (i : Int) < m := by omega
              have hil : i < row.length := by rw [HM.out]; exact hgi
              obtain ⟨b3, o3, hA3, hb3, y0, hwf⟩ := ints_at HE3.out i hil
              subst hA3
              have y1 := (HF5.out.cell (p := ⟨b3, o3 + i, none⟩) hb3.2 (fun h => by have h2 : b3 = q := h; omega)).trans y0
              have hgd : ((bs.map outsB).getD d []).getD i 0 = row[i] := by rw [HTD.out]; exact getD_el 0 hil
              have hlt2 : i < ((bs.map outsB).getD d []).length := by rw [HTD.out]; exact hil
              have HY := hid (fun (t : Nat) (h : row[i] = (t : Int)) => dl_yes (n := k) hlt2 (hgd.trans h))
              have HNO := hid (fun (h : row[i] < 0 ∨ (k : Int) ≤ row[i]) => dl_no (n := k) hlt2 (by rw [hgd]; exact h))
              generalize row[i] = t at *
              clear y0 hgd hlt2 hil hb3
              by_cases h0 : 0 ≤ t
              · obtain ⟨e, rfl⟩ : ∃ e : Nat, t = e := ⟨t.toNat, by omega⟩
                by_cases h1 : e < k
                · have k2 : (e : Int) < k := by omega
                  have z2 := HI5.out.cell (k := e) (by rw [dl_len]; exact h1)
                  have z3 := HI5.out.frozen e
                  have hql := HI5.out.lt
                  have HBN := hid (HI5.out.set e (d : Int))
                  rw [HY.out e rfl] at HBN
                  have HFN := hid (HF5.out.setCell ⟨q, e, none⟩ (.int .i64 (d : Int)) (fun _ => rfl))
                  clear HY HNO HI5 HF5
                  go_wp2
                  go_roundw
                  case rel => exact ⟨i + 1, by omega, by go_num, HBN, HFN⟩
                  case measure => simp [intOf]; omega
                · have k2 : ¬ (e : Int) < k := by omega
                  have k3 : decide ((e : Int) < k) = false := decide_eq_false k2
                  have HE := hid (HNO.out (.inr (by omega)))
                  clear HY HNO
                  go_wp2
                  go_roundw
                  case rel => exact ⟨i + 1, by omega, by go_num, by rw [HE.out]; exact HI5, HF5⟩
                  case measure => simp [intOf]; omega
              · have k3 : decide ((0 : Int) ≤ t) = false := decide_eq_false h0
                have HE := hid (HNO.out (.inl (by omega)))
                clear HY HNO
                go_wp2
                go_roundw
                case rel => exact ⟨i + 1, by omega, by go_num, by rw [HE.out]; exact HI5, HF5⟩
                case measure => simp [intOf]; omega
            · have him : i = m := by omega
              subst him
              clear hgi
              have HE : Hid (dl (bs.map outsB) k d i = dlD (bs.map outsB) k d) := hid (by have := HSTP.out; rw [HTD.out, HM.out] at this; exact this)
              have HFN := hid (HF3.out.trans HF5.out (fun j hj h => by have h2 : j = q := h; have := HQ.out; omega))
              rw [HE.out] at HI5
              go_wp2
              go_roundw
              case rel => exact ⟨d, by omega, by go_num, HI5, HFN⟩
              case measure => simp [intOf]
end Go.Proofs.YtiafkakkbbclhaaGreat
namespace Go.Proofs.YtiafkakkbbclhaaGreat
open Go.RowKit
def onceB (bs : List Sb) (n : Nat) : Bool := decide (∀ x ∈ cl (bs.map outsB) n bs.length 0, x ≤ 1)
def CntTo (r : Bool) (w : World) (e : Ending) (w' : World) : Prop := ∃ v, e = .returned (.tuple #[v, .bool r]) ∧ Fr No w w'
theorem wrap_ok {c : Nat} (h : c ≤ 9000000000000000000) : IntKind.i64.wrap ((c : Int) + 1) = (c : Int) + 1 := by rw [IntKind.wrap_i64]; omega
theorem wrap64_ok {c : Nat} (h : c ≤ 9000000000000000000) : wrap64 ((c : Int) + 1) = (c : Int) + 1 := by unfold wrap64; omega
theorem Is.drew {w : World} {q : Nat} {l : List Int} (h : Is w q l) : Is w.drew q l := h
theorem count_any {w : World} {S : Nat → Prop} {fc : List Value} {x : Sf} (h : FW w S fc x) (hx : OB x) (hc : ∀ k i t, cntP (x.blocks.map outsB) k i t ≤ 9000000000000000000) (hn : x.blocks.length ≤ 100000) (hv : x.vals.length ≤ 100000) : Calls Tryz.prog 23 #[.agg fc.toArray] w (CntTo (onceB x.blocks x.vals.length) w) := by
  obtain ⟨AP, cP, AR, cR, AV, cV, AB, cB, rfl, -, -, -, -, -, -, -, -, -, -, -, hb⟩ := Sf_cells h.rd
  have HB := hid hb
  have HS := hid h.lt
  have HOB := hid hx
  have HCB := hid hc
  clear h hb hx hc
  generalize x.type.params.length = np at *
  generalize x.type.results.length = nr at *
  unfold CntTo onceB
  generalize x.vals.length = nv at *
  have HO := hid HOB.out.o
  have HI := hid HOB.out.i
  clear HOB
  generalize x.blocks = bs at *
  obtain ⟨nb, hnb⟩ : ∃ n, bs.length = n := ⟨_, rfl⟩
  have HN := hid hnb
  rw [hnb] at hn ⊢
  clear hnb
  obtain ⟨R, hR⟩ : ∃ R, decide (∀ x ∈ cl (bs.map outsB) nv nb 0, x ≤ 1) = R := ⟨_, rfl⟩
  rw [hR]
  have HR := hid hR
  clear hR
  have F0 := hid ((Fr.refl No w).alloc (.cells #[.slice AP np cP, .slice AR nr cR, .slice AV nv cV, .slice AB nb cB] 39))
  have G0 := hid (Blk.new w 39 #[.slice AP np cP, .slice AR nr cR, .slice AV nv cV, .slice AB nb cB])
  go_enter Tryz.func23, Tryz.ntmps23
  go_upto_region 1 with fail
  generalize w.alloc (.cells #[.slice AP np cP, .slice AR nr cR, .slice AV nv cV, .slice AB nb cB] 39) = W0 at *
  have hqw := G0.out.lt
  obtain ⟨q0, hq0⟩ : ∃ q, w.heap.size = q := ⟨_, rfl⟩
  have HQ0 := hid hq0
  rw [hq0] at G0 hqw ⊢
  clear hq0
  have y2 := G0.out.cell 2
  have hmk := fun W => run_mk elInts rfl W .i64 .i64 nv (by omega) (by omega)
  have B2 := hid (Is.new W0 nv)
  have F2 := hid ((Fr.refl No W0).alloc (.cells (Array.replicate nv (.int .i64 0)) 3))
  go_upto_region 2 with fail
  clear hmk y2
  generalize W0.alloc (.cells (Array.replicate nv (.int .i64 0)) 3) = W2 at *
  obtain ⟨q, hq⟩ : ∃ q, W0.heap.size = q := ⟨_, rfl⟩
  have HQ := hid hq
  rw [hq] at B2 ⊢
  clear hq
  have HB0 : Hid (Is W2 q (cl (bs.map outsB) nv 0 0)) := hid (by rw [cl_zero]; exact B2.out)
  clear B2
  go_wp2_with fail
  go_loopw [5] (fun v5 wr => ∃ k : Nat, k ≤ nb ∧ v5 = .int .i64 k ∧ Hid (Is wr q (cl (bs.map outsB) nv k 0)) ∧ Hid (Fr No W0 wr)) (fun v5 _ => nb - (intOf v5).toNat)
  case atStart => exact ⟨0, by omega, rfl, HB0, F2⟩
  case round =>
    clear HB0 F2
    obtain ⟨d, hd, rfl, HIS, HF⟩ := hrel
    have y3 := (G0.out.fr HF.out (fun x => x)).cell 3
    by_cases hd2 : d < nb
    · have k0 : (0 : Int) ≤ d := by omega
      have k1 : (d : Int) < nb := by omega
      have hdb : d < bs.length := by rw [HN.out]; exact hd2
      have FK := hid (F0.out.trans HF.out (fun _ _ h => h))
      have HSW : Hid (∀ j, S j → j < wr.heap.size) := hid fun j hj => Nat.lt_of_lt_of_le (HS.out j hj) FK.out.size
      obtain ⟨b, o, Ap, cp, Ai, ci, Aa, ca, At, ct, hA, hb, z0, z1, z2, z3, z4, z5, z6, hrd⟩ := Sb_atR (HB.out.fr FK.out fun j hj => ⟨HS.out j hj, fun x => x⟩) d hdb
      subst hA
      have HCO := hid (outs_any (w := wr) (S := S) ⟨hrd, HSW.out⟩ (HO.out _ (List.getElem_mem hdb)) (HI.out _ (List.getElem_mem hdb)))
      have HTD : Hid ((bs.map outsB).getD d [] = outsB bs[d]) := hid (by rw [List.getD_eq_getElem?_getD]; simp [hdb])
      have HSTP := hid (cl_row (T := bs.map outsB) (n := nv) (i := d) (by rw [List.length_map]; exact hdb))
      have hrl : (outsB bs[d]).length * 8 ≤ 140737488351232 := HO.out _ (List.getElem_mem hdb)
      generalize outsB bs[d] = row at *
      generalize bs[d].params.length = n1 at *
      generalize bs[d].ins.length = n2 at *
      generalize bs[d].end_.kind = n3 at *
      generalize bs[d].end_.cond = n4 at *
      generalize bs[d].end_.args.length = n5 at *
      generalize bs[d].end_.to.length = n6 at *
      generalize bs[d].end_.trap = n7 at *
      unfold IntsTo at HCO
      clear hrd hdb
      go_wp2_with fail
      refine HCO.out.mono ?_
      clear HCO z0 z1 z2 z3 z4 z5 z6 y3
      rintro e3 w3 ⟨A3, c3, rfl, hels3, f3⟩
      have HE3 := hid hels3
      have HF3 := hid (HF.out.trans f3 (fun _ _ h => h))
      have HI4 := hid (HIS.out.fr f3 (fun x => x))
      have hqz := HIS.out.lt
      obtain ⟨z, hz⟩ : ∃ z, wr.heap.size = z := ⟨_, rfl⟩
      rw [hz] at HE3 hqz
      clear hels3 f3 HIS HF HSW hz
      obtain ⟨m, hm⟩ : ∃ m, row.length = m := ⟨_, rfl⟩
      have HM := hid hm
      rw [hm] at hrl
      rw [hm]
      clear hm
      go_wp2_with fail
      go_loopw [7] (fun v7 wx => ∃ i : Nat, i ≤ m ∧ v7 = .int .i64 i ∧ Hid (Is wx q (cl (bs.map outsB) nv d i)) ∧ Hid (Fr (fun j => j = q) w3 wx)) (fun v7 _ => m - (intOf v7).toNat)
      case atStart => exact ⟨0, by omega, rfl, HI4, hid (Fr.refl _ _)⟩
      case round =>
        clear HI4
        obtain ⟨i, hi, rfl, HI5, HF5⟩ := hrel
        by_cases hgi : i < m
        · have j0 : (0 : Int) ≤ i := by omega
          have j1 : (i : Int) < m := by omega
          have hil : i < row.length := by rw [HM.out]; exact hgi
          obtain ⟨b3, o3, hA3, hb3, y0, hwf⟩ := ints_at HE3.out i hil
          subst hA3
          have y1 := (HF5.out.cell (p := ⟨b3, o3 + i, none⟩) hb3.2 (fun h => by have h2 : b3 = q := h; omega)).trans y0
          have hgd : ((bs.map outsB).getD d []).getD i 0 = row[i] := by rw [HTD.out]; exact getD_el 0 hil
          have hlt2 : i < ((bs.map outsB).getD d []).length := by rw [HTD.out]; exact hil
          have HY := hid (fun (t : Nat) (h : row[i] = (t : Int)) (ht : t < nv) => cl_yes (n := nv) hlt2 (hgd.trans h) ht)
          have HNO := hid (fun (h : row[i] < 0 ∨ (nv : Int) ≤ row[i]) => cl_no (n := nv) hlt2 (by rw [hgd]; exact h))
          generalize row[i] = t at *
          clear y0 hgd hlt2 hil hb3
          by_cases h0 : 0 ≤ t
          · obtain ⟨e, rfl⟩ : ∃ e : Nat, t = e := ⟨t.toNat, by omega⟩
            by_cases h1 : e < nv
            · have k2 : (e : Int) < nv := by omega
              have z2 := HI5.out.cell (k := e) (by rw [cl_len]; exact h1)
              rw [cl_get _ _ _ _ _ h1] at z2
              have hcb := HCB.out d i (e : Int)
              have HYE := hid (HY.out e rfl h1)
              generalize cntP (bs.map outsB) d i (e : Int) = c at *
              have hw1 := wrap_ok hcb
              have hw2 := wrap64_ok hcb
              clear HY HNO
              go_upto_region 10 with fail
              have z3 := HI5.out.frozen e
              have hql := HI5.out.lt
              refine wp_region_ord (fun X => X.cell? ⟨b3, o3 + i, none⟩ = some (.int .i64 e) ∧ X.cell? ⟨q, e, none⟩ = some (.int .i64 c)) [14] [(0, true), (1, true), (2, true), (3, true), (4, true), (5, true), (6, true), (7, true), (8, true), (9, true), (10, true), (11, true), (12, true), (13, true), (14, false)] (by kernel_rfl) (by kernel_rfl) (by kernel_rfl) rfl ⟨y1, z2⟩ ?_
              repeat (first | refine oS ?_ | refine oC ?_)
              have z3d : wr.drew.frozen? ⟨q, e, none⟩ = false := z3
              have z2d : wr.drew.cell? ⟨q, e, none⟩ = some (.int .i64 c) := z2
              refine wpO_eff rfl rfl (fun K hK => ?_)
              simp only [zA]
              go_simp
              refine hK _ _ (fun h => by cases h) ?_
              clear hK K z3d z2d
              refine wpO_nil ?_
              have HBN := hid (HI5.out.drew.set e ((c : Int) + 1))
              rw [HYE.out] at HBN
              have HFN := hid (HF5.out.drew.setCell ⟨q, e, none⟩ (.int .i64 ((c : Int) + 1)) (fun _ => rfl))
              clear HYE HI5 HF5
              go_wp2
              go_roundw
              case rel => exact ⟨i + 1, by omega, by go_num, HBN, HFN⟩
              case measure => simp [intOf]; omega
            · have k3 : decide ((e : Int) < nv) = false := decide_eq_false (by omega)
              have HE := hid (HNO.out (.inr (by omega)))
              clear HY HNO
              go_wp2
              go_roundw
              case rel => exact ⟨i + 1, by omega, by go_num, by rw [HE.out]; exact HI5, HF5⟩
              case measure => simp [intOf]; omega
          · have k3 : decide ((0 : Int) ≤ t) = false := decide_eq_false h0
            have HE := hid (HNO.out (.inl (by omega)))
            clear HY HNO
            go_wp2
            go_roundw
            case rel => exact ⟨i + 1, by omega, by go_num, by rw [HE.out]; exact HI5, HF5⟩
            case measure => simp [intOf]; omega
        · have him : i = m := by omega
          subst him
          clear hgi
          have HE : Hid (cl (bs.map outsB) nv d i = cl (bs.map outsB) nv (d + 1) 0) := hid (by have := HSTP.out; rw [HTD.out, HM.out] at this; exact this)
          have HFN := hid (HF3.out.trans HF5.out (fun j hj h => by have h2 : j = q := h; have := HQ.out; omega))
          rw [HE.out] at HI5
          go_wp2
          go_roundw
          case rel => exact ⟨d + 1, by omega, by go_num, HI5, HFN⟩
          case measure => simp [intOf]; omega
    · have hdn : d = nb := by omega
      subst hdn
      clear hd2
      have FK := hid (F0.out.trans HF.out (fun _ _ h => h))
      have hll : (cl (bs.map outsB) nv d 0).length = nv := cl_len ..
      generalize cl (bs.map outsB) nv d 0 = L at *
      have HLL := hid hll
      clear HF hll HCB HO HI
      go_wp2_with fail
      go_loop [8] (fun v8 => ∃ i : Nat, i ≤ nv ∧ v8 = .int .i64 i ∧ Hid (∀ j (h : j < L.length), j < i → L[j] ≤ 1)) (fun v8 => nv - (intOf v8).toNat)
      case atStart => exact ⟨0, by omega, rfl, hid (fun j h h2 => absurd h2 (Nat.not_lt_zero _))⟩
      case round =>
        clear y3
        obtain ⟨i, hi, rfl, HP⟩ := hrel
        by_cases hgi : i < nv
        · have j0 : (0 : Int) ≤ i := by omega
          have j1 : (i : Int) < nv := by omega
          have hil : i < L.length := by rw [HLL.out]; exact hgi
          have z1 := HIS.out.cell hil
          by_cases h1 : 1 < L[i]
          · have hr := HR.out
            rw [decide_eq_false (fun h => by have := h L[i] (List.getElem_mem hil); omega)] at hr
            subst hr
            generalize L[i] = t at *
            have d1 : decide (1 < t) = true := decide_eq_true h1
            clear HR HP hil
            go_wp2
            go_ret2
            exact ⟨⟨_, rfl⟩, FK.out⟩
          · have HPN : Hid (∀ j (h : j < L.length), j < i + 1 → L[j] ≤ 1) := hid fun j h hj => by
              by_cases hji : j = i
              · subst hji; omega
              · exact HP.out j h (by omega)
            generalize L[i] = t at *
            have d1 : decide (1 < t) = false := decide_eq_false h1
            clear HP hil h1
            go_wp2
            go_round
            case rel => exact ⟨i + 1, by omega, by go_num, HPN⟩
            case measure => simp [intOf]; omega
        · have hin : i = nv := by omega
          subst hin
          have hr := HR.out
          rw [decide_eq_true (fun x hx => by
            obtain ⟨j, hj, he⟩ := List.mem_iff_getElem.1 hx
            rw [← he]
            exact HP.out j hj (by have := HLL.out; omega))] at hr
          subst hr
          clear HR HP hgi
          go_wp2
          go_ret2
          exact ⟨⟨_, rfl⟩, FK.out⟩
end Go.Proofs.YtiafkakkbbclhaaGreat
namespace Go.Proofs.YtiafkakkbbclhaaGreat
open Go.RowKit
def wholeB (x : Sf) : Bool := rightB x.type && !x.blocks.isEmpty && (x.blocks.getD 0 bD).params.isEmpty && x.vals.all isVal && onceB x.blocks x.vals.length
theorem whole_any {w : World} {S : Nat → Prop} {fc : List Value} {x : Sf} (h : FW w S fc x) (hx : OB x) (hc : ∀ k i t, cntP (x.blocks.map outsB) k i t ≤ 9000000000000000000) (hn : x.blocks.length ≤ 100000) (hv : x.vals.length ≤ 100000) (hp : x.type.params.length ≤ 140737488351232) (hr : x.type.results.length ≤ 140737488351232) : Calls Tryz.prog 11 #[.agg fc.toArray] w (OvTo (wholeB x) w) := by
  have HCN : Hid (∀ wr, Fr No w wr → Calls Tryz.prog 23 #[.agg fc.toArray] wr (CntTo (onceB x.blocks x.vals.length) wr)) := hid fun wr f => count_any (h.fr f) hx hc hn hv
  obtain ⟨AP, cP, AR, cR, AV, cV, AB, cB, rfl, -, -, e1, -, -, e2, -, -, e3, -, -, hb⟩ := Sf_cells h.rd
  have F0 := hid ((Fr.refl No w).alloc (.cells #[.slice AP x.type.params.length cP, .slice AR x.type.results.length cR, .slice AV x.vals.length cV, .slice AB x.blocks.length cB] 39))
  have hltw := h.lt
  have hlt0 : ∀ k, S k → k < (w.alloc (.cells #[.slice AP x.type.params.length cP, .slice AR x.type.results.length cR, .slice AV x.vals.length cV, .slice AB x.blocks.length cB] 39)).heap.size := fun k hk => Nat.lt_of_lt_of_le (hltw k hk) F0.out.size
  have HRI := hid (right_any AP AR cP cR x.type S _ (e1.fr F0.out fun k hk => ⟨hltw k hk, fun x => x⟩) (e2.fr F0.out fun k hk => ⟨hltw k hk, fun x => x⟩) hlt0 hp hr)
  have HV := hid e3
  have HB := hid hb
  have HS := hid hltw
  unfold OvTo
  generalize hR : wholeB x = R
  unfold wholeB at hR
  have HR := hid hR
  clear h hx hc e1 e2 e3 hb hp hr hR hltw hlt0
  unfold CntTo at HCN
  generalize onceB x.blocks x.vals.length = oc at *
  generalize rightB x.type = rt at *
  generalize x.type.params.length = np at *
  generalize x.type.results.length = nr at *
  generalize x.vals = vals at *
  generalize x.blocks = bs at *
  obtain ⟨nv, hnv⟩ : ∃ n, vals.length = n := ⟨_, rfl⟩
  obtain ⟨nb, hnb⟩ : ∃ n, bs.length = n := ⟨_, rfl⟩
  rw [hnv] at hv F0 HRI HCN
  rw [hnb] at hn F0 HRI HCN
  rw [hnv, hnb]
  have HNV := hid hnv
  have HNB := hid hnb
  have G0 := hid (Blk.new w 39 #[.slice AP np cP, .slice AR nr cR, .slice AV nv cV, .slice AB nb cB])
  clear hnv hnb
  go_enter Tryz.func11, Tryz.ntmps11
  go_upto_region 1 with fail
  generalize w.alloc (.cells #[.slice AP np cP, .slice AR nr cR, .slice AV nv cV, .slice AB nb cB] 39) = W0 at *
  obtain ⟨q, hq⟩ : ∃ q, w.heap.size = q := ⟨_, rfl⟩
  rw [hq] at G0 ⊢
  clear hq
  have y0 := G0.out.cell 0
  have y1 := G0.out.cell 1
  go_wp2_with fail
  refine HRI.out.mono ?_
  clear HRI y0 y1
  rintro e w1 ⟨rfl, f1⟩
  have F1 := hid (F0.out.trans f1 (fun _ _ h => h))
  have G1 := hid (G0.out.fr f1 (fun x => x))
  clear f1 G0 F0
  have y2 := G1.out.cell 2
  have y3 := G1.out.cell 3
  cases rt with
  | false =>
    have hR := HR.out
    simp only [Bool.false_and] at hR
    subst hR
    clear HR y2 y3
    go_wp2
    go_ret
    exact ⟨rfl, F1.out⟩
  | true =>
    by_cases h0 : nb = 0
    · subst h0
      have hbe : bs = [] := List.length_eq_zero_iff.1 HNB.out
      have hR := HR.out
      rw [hbe] at hR
      simp only [List.isEmpty_nil, Bool.not_true, Bool.and_false, Bool.false_and] at hR
      subst hR
      clear HR y2 hbe
      go_wp2
      go_ret
      exact ⟨rfl, F1.out⟩
    · have hb0 : 0 < bs.length := by rw [HNB.out]; omega
      obtain ⟨b, o, Ap, cp, Ai, ci, Aa, ca, At, ct, hA, hb, z0, -, -, -, -, -, -, -⟩ := Sb_atR (HB.out.fr F1.out fun j hj => ⟨HS.out j hj, fun x => x⟩) 0 hb0
      subst hA
      rw [Nat.zero_mul, Nat.add_zero] at z0
      have hg : bs.getD 0 bD = bs[0] := by rw [List.getD_eq_getElem?_getD, List.getElem?_eq_getElem hb0]; rfl
      have hne : bs.isEmpty = false := by
        cases bs with
        | nil => simp at hb0
        | cons a l => rfl
      have HRR := HR.out
      rw [hg, hne] at HRR
      have i0 : (0 : Int) < nb := by omega
      have i1 : ((nb : Int) == 0) = false := by simp; omega
      generalize bs[0].params = ps at *
      have hR2 : (ps.isEmpty && vals.all isVal && oc) = R := by rw [← HRR]; simp
      have HR2 := hid hR2
      clear HRR hR2 HR hg hne hb0 hb
      obtain ⟨m, hm⟩ : ∃ m, ps.length = m := ⟨_, rfl⟩
      have HM := hid hm
      rw [hm] at z0
      clear hm
      by_cases hm0 : m = 0
      · subst hm0
        have hpe : ps = [] := List.length_eq_zero_iff.1 HM.out
        have hR := HR2.out
        rw [hpe] at hR
        simp only [List.isEmpty_nil, Bool.true_and] at hR
        have HR3 := hid hR
        clear hR HR2 hpe
        go_wp2_with fail
        go_loop [3] (fun v3 => ∃ k : Nat, k ≤ nv ∧ v3 = .int .i64 k ∧ Hid (∀ j (h : j < vals.length), j < k → isVal vals[j] = true)) (fun v3 => nv - (intOf v3).toNat)
        case atStart => exact ⟨0, by omega, rfl, hid (fun j h h2 => absurd h2 (Nat.not_lt_zero _))⟩
        case round =>
          clear z0 y3
          obtain ⟨k, hk, rfl, HP⟩ := hrel
          by_cases hgk : k < nv
          · have k0 : (0 : Int) ≤ k := by omega
            have k1 : (k : Int) < nv := by omega
            have hkl : k < vals.length := by rw [HNV.out]; exact hgk
            obtain ⟨b2, o2, hA2, hb2, z1, -⟩ := ints_at (HV.out.fr F1.out fun j hj => ⟨HS.out j hj, fun x => x⟩) k hkl
            subst hA2
            have HVA := hid (fun w => val06_any vals[k] w)
            have HAL : Hid (isVal vals[k] = false → vals.all isVal = false) := hid fun h => by
              rw [List.all_eq_false]
              exact ⟨_, List.getElem_mem hkl, by rw [h]; simp⟩
            have HPN : Hid (isVal vals[k] = true → ∀ j (h : j < vals.length), j < k + 1 → isVal vals[j] = true) := hid fun hv j h hj => by
              by_cases hji : j = k
              · subst hji; exact hv
              · exact HP.out j h (by omega)
            generalize vals[k] = t at *
            generalize isVal t = bt at *
            clear HP hkl
            go_wp2_with fail
            refine (HVA.out _).mono ?_
            rintro e w2 ⟨rfl, rfl⟩
            clear HVA
            cases bt with
            | false =>
              have hR := HR3.out
              rw [HAL.out rfl, Bool.false_and] at hR
              subst hR
              clear HR3 HAL HPN
              go_wp2
              go_ret
              exact ⟨rfl, F1.out⟩
            | true =>
              have HPN2 := hid (HPN.out rfl)
              clear HPN HAL
              go_wp2
              go_round
              case rel => exact ⟨k + 1, by omega, by go_num, HPN2⟩
              case measure => simp [intOf]; omega
          · have hkn : k = nv := by omega
            subst hkn
            have hR := HR3.out
            have hall : vals.all isVal = true := by
              rw [List.all_eq_true]
              intro t ht
              obtain ⟨j, hj, he⟩ := List.mem_iff_getElem.1 ht
              rw [← he]
              exact HP.out j hj (by have := HNV.out; omega)
            rw [hall, Bool.true_and] at hR
            subst hR
            have HCC := hid (HCN.out _ F1.out)
            clear HR3 HP hall HCN hgk
            have y0 := G1.out.cell 0
            have y1 := G1.out.cell 1
            have y3 := G1.out.cell 3
            go_wp2_with fail
            refine HCC.out.mono ?_
            rintro e w3 ⟨v, rfl, f3⟩
            have F3 := hid (F1.out.trans f3 (fun _ _ h => h))
            clear f3 HCC y0 y1 y2 y3
            go_wp2
            go_ret
            exact ⟨rfl, F3.out⟩
      · have hpe : ps.isEmpty = false := by
          cases ps with
          | nil => exact absurd HM.out (fun h => hm0 h.symm)
          | cons a l => rfl
        have hR := HR2.out
        rw [hpe, Bool.false_and, Bool.false_and] at hR
        subst hR
        have j0 : (0 : Int) < m := by omega
        clear HR2 hpe hm0
        go_wp2
        go_ret
        exact ⟨rfl, F1.out⟩
end Go.Proofs.YtiafkakkbbclhaaGreat
namespace Go.Proofs.YtiafkakkbbclhaaGreat
open Go.RowKit
structure Lk where
  AP : Option Addr
  cP : Nat
  AR : Option Addr
  cR : Nat
  AV : Option Addr
  cV : Nat
  AB : Option Addr
  cB : Nat
  AI : Option Addr
  cI : Nat
  AD : Option Addr
  cD : Nat
  AE : Option Addr
  cE : Nat
structure LW (w : World) (S : Nat → Prop) (lc mc : List Value) (m : Md) (k : Lk) (x : Sf) (im ds : List Int) (rb : List Bool) : Prop where
  len : lc.length = 19
  mt : lc.take 12 = mc
  one : ∀ u ∈ lc, u.oneCell' = true
  c0 : lc[12]? = some (.slice k.AP x.type.params.length k.cP)
  c1 : lc[13]? = some (.slice k.AR x.type.results.length k.cR)
  c2 : lc[14]? = some (.slice k.AV x.vals.length k.cV)
  c3 : lc[15]? = some (.slice k.AB x.blocks.length k.cB)
  c4 : lc[16]? = some (.slice k.AI x.blocks.length k.cI)
  c5 : lc[17]? = some (.slice k.AD x.vals.length k.cD)
  c6 : lc[18]? = some (.slice k.AE x.blocks.length k.cE)
  md : MW w S mc m
  fr_ : tSf.rd w S [.slice k.AP x.type.params.length k.cP, .slice k.AR x.type.results.length k.cR, .slice k.AV x.vals.length k.cV, .slice k.AB x.blocks.length k.cB] x
  i : tI.els w S k.AI im
  d : tI.els w S k.AD ds
  e : Ty.bool.els w S k.AE rb
  il : im.length = x.blocks.length
  dl_ : ds.length = x.vals.length
  el : rb.length = x.blocks.length
theorem LW.fr {w w' : World} {S : Nat → Prop} {lc mc : List Value} {m : Md} {k : Lk} {x : Sf} {im ds : List Int} {rb : List Bool} (h : LW w S lc mc m k x im ds rb) (f : Fr No w w') : LW w' S lc mc m k x im ds rb :=
  ⟨h.len, h.mt, h.one, h.c0, h.c1, h.c2, h.c3, h.c4, h.c5, h.c6, h.md.fr f, (inferInstance : TyOk tSf).keep _ _ _ _ _ h.fr_ (fun _ hp => f.cell (h.md.lt _ hp) (fun x => x)), h.i.fr f (fun j hj => ⟨h.md.lt j hj, fun x => x⟩), h.d.fr f (fun j hj => ⟨h.md.lt j hj, fun x => x⟩), h.e.fr f (fun j hj => ⟨h.md.lt j hj, fun x => x⟩), h.il, h.dl_, h.el⟩
def stdB (ds im : List Int) (rb : List Bool) (b : Nat) (here : List Int) (v : Int) : Bool :=
  if v < 0 then false else match ds[v.toNat]? with
  | none => false
  | some d => if d < 0 then false else if rb.getD b false = false then true else if d = b then decide (v ∈ here) else overF im d b
theorem stands_any {w : World} {S : Nat → Prop} {lc mc : List Value} {m : Md} {k : Lk} {x : Sf} {im ds : List Int} {rb : List Bool} (h : LW w S lc mc m k x im ds rb) (hn : x.blocks.length ≤ 100000) (b : Nat) (hb : b < x.blocks.length) (AH : Option Addr) (cH : Nat) (here : List Int) (SH : Nat → Prop) (hh : tI.els w SH AH here) (hsh : ∀ j, SH j → j < w.heap.size) (hhl : here.length ≤ 9223372036854775807) (v : Int) :
    Calls Tryz.prog 39 #[.agg lc.toArray, .int .i64 b, .slice AH here.length cH, .int .i64 v] w (OvTo (stdB ds im rb b here v) w) := by
  have F0 := hid ((Fr.refl No w).alloc (.cells lc.toArray 73))
  have G0 := hid (Blk.new w 73 lc.toArray)
  have HHA := hid (fun W (f : Fr No w W) => has_any AH cH here v SH W (hh.fr f fun j hj => ⟨hsh j hj, fun x => x⟩) hhl)
  have HOV := hid (fun W (f : Fr No w W) (a : Int) => over_any k.AI k.cI im a b S W ((h.fr f).i) ((h.fr f).md.lt) (by rw [h.il]; exact hn))
  rw [h.il] at HOV
  have HSL := hid h.md.lt
  have C4 := hid h.c4
  have C5 := hid h.c5
  have C6 := hid h.c6
  generalize hR : stdB ds im rb b here v = R
  unfold stdB at hR
  have HR := hid hR
  have HD := hid h.d
  have HEE := hid h.e
  have hbr : b < rb.length := by rw [h.el]; exact hb
  have HDL := hid h.dl_
  clear h hR hh hsh hhl
  generalize x.vals.length = nv at *
  generalize x.blocks.length = nb at *
  obtain ⟨b8, o8, hA8, hb8, e8⟩ := bools_at HEE.out b hbr
  have HRB : Hid (rb.getD b false = rb[b]) := hid (by rw [List.getD_eq_getElem?_getD, List.getElem?_eq_getElem hbr]; rfl)
  generalize rb[b] = rv at *
  rw [hA8] at C6
  have i0 : (0 : Int) ≤ b := by omega
  have i1 : (b : Int) < nb := by omega
  have x8 := (F0.out.cell (p := ⟨b8, o8 + b, none⟩) (HSL.out b8 hb8) (fun x => x)).trans e8
  unfold OvTo at *
  clear hA8 hbr e8
  go_enter Tryz.func39, Tryz.ntmps39
  go_upto_region 1 with fail
  generalize w.alloc (.cells lc.toArray 73) = W0 at *
  obtain ⟨q, hq⟩ : ∃ q, w.heap.size = q := ⟨_, rfl⟩
  have HQ := hid hq
  have hsq : ∀ j, S j → j < q := fun j hj => by have := HSL.out j hj; omega
  have HSQ := hid hsq
  clear hsq
  rw [hq] at G0 ⊢
  clear hq
  have y4 := G0.out.at_ C4.out
  have y5 := G0.out.at_ C5.out
  have y6 := G0.out.at_ C6.out
  by_cases h0 : v < 0
  · have hR := HR.out
    rw [if_pos h0] at hR
    subst hR
    have d0 : decide (v < 0) = true := decide_eq_true h0
    clear HR h0 HHA HOV
    go_wp2
    go_ret
    exact ⟨rfl, F0.out⟩
  · have d0 : decide (v < 0) = false := decide_eq_false h0
    have HR1 := HR.out
    rw [if_neg h0] at HR1
    by_cases h1 : (nv : Int) ≤ v
    · have hnone : ds[v.toNat]? = none := List.getElem?_eq_none (by have := HDL.out; omega)
      rw [hnone] at HR1
      dsimp only at HR1
      subst HR1
      have d1 : decide ((nv : Int) ≤ v) = true := decide_eq_true h1
      clear HR h0 h1 HHA HOV hnone
      go_wp2
      go_ret
      exact ⟨rfl, F0.out⟩
    · have d1 : decide ((nv : Int) ≤ v) = false := decide_eq_false h1
      obtain ⟨u, rfl⟩ : ∃ u : Nat, v = u := ⟨v.toNat, by omega⟩
      have hul : u < ds.length := by have := HDL.out; omega
      obtain ⟨b9, o9, hA9, hb9, e9, -⟩ := ints_at HD.out u hul
      rw [hA9] at C5 y5
      rw [Int.toNat_natCast, List.getElem?_eq_getElem hul] at HR1
      dsimp only at HR1
      generalize ds[u] = d at *
      have x9 := (F0.out.cell (p := ⟨b9, o9 + u, none⟩) (HSL.out b9 hb9) (fun x => x)).trans e9
      have j0 : (0 : Int) ≤ u := by omega
      have j1 : (u : Int) < nv := by omega
      clear hA9 e9 HR h1 hul
      by_cases h2 : d < 0
      · rw [if_pos h2] at HR1
        subst HR1
        have d2 : decide (d < 0) = true := decide_eq_true h2
        clear h2 h0 HHA HOV
        go_wp2
        go_ret
        exact ⟨rfl, F0.out⟩
      · rw [if_neg h2, HRB.out] at HR1
        have d2 : decide (d < 0) = false := decide_eq_false h2
        cases rv with
        | false =>
          rw [if_pos rfl] at HR1
          subst HR1
          clear h2 h0 HHA HOV
          go_wp2
          go_ret
          exact ⟨rfl, F0.out⟩
        | true =>
          rw [if_neg (by simp)] at HR1
          by_cases h3 : d = b
          · rw [if_pos h3] at HR1
            have d3 : (d == (b : Int)) = true := by simp [h3]
            have HC := hid (HHA.out _ F0.out)
            have HR2 := hid HR1
            clear h2 h0 HHA HOV h3 HR1
            go_wp2_with fail
            refine HC.out.mono ?_
            rintro e w3 ⟨rfl, f3⟩
            have F3 := hid (F0.out.trans f3 (fun _ _ h => h))
            have hR := HR2.out
            clear HC f3 HR2
            go_wp2
            go_ret
            exact ⟨by first | exact rt_bool hR | rfl, F3.out⟩
          · rw [if_neg h3] at HR1
            have d3 : (d == (b : Int)) = false := by simpa using h3
            have HC := hid (fun W (f : Fr No W0 W) => HOV.out W (F0.out.trans f (fun _ _ h => h)) d)
            have HR2 := hid HR1
            have HX : Hid (∀ X, Fr No W0 X → X.cell? ⟨q, 16, none⟩ = some (.slice k.AI nb k.cI) ∧ X.cell? ⟨q, 17, none⟩ = some (.slice (some ⟨b9, o9, none⟩) nv k.cD) ∧ X.cell? ⟨b9, o9 + u, none⟩ = some (.int .i64 d)) := hid fun X f => ⟨(f.cell G0.out.lt (fun x => x)).trans y4, (f.cell G0.out.lt (fun x => x)).trans y5, (f.cell (p := ⟨b9, o9 + u, none⟩) (Nat.lt_of_lt_of_le (HSL.out b9 hb9) F0.out.size) (fun x => x)).trans x9⟩
            clear h2 h0 HHA HOV h3 HR1
            go_upto_region 7 with fail
            refine wp_region_ord (Fr No W0) [] [(0, true), (1, true), (2, true), (3, true), (4, true), (5, true), (6, true), (7, true), (8, false), (9, true)] (by kernel_rfl) (by kernel_rfl) (by kernel_rfl) rfl (Fr.refl _ W0).drew ?_
            repeat (first | refine oS ?_ | refine oX HX.out ?_)
            refine wpO_eff rfl rfl (fun K hK => ?_)
            simp only [zA]
            go_simp
            refine (HC.out _ (Fr.refl No W0).drew).mono ?_
            rintro e Y1 ⟨rfl, f⟩
            have F1 := hid ((Fr.refl No W0).drew.trans f (fun _ _ h => h))
            clear f
            refine hK _ _ (fun _ => F1.out) ?_
            clear hK K
            repeat (first | refine oS ?_ | refine oX HX.out ?_)
            refine wpO_nil ?_
            have F3 := hid (F0.out.trans F1.out (fun _ _ h => h))
            have hR := HR2.out
            clear HC HR2
            go_wp2
            go_ret
            exact ⟨rt_bool hR, F3.out⟩
end Go.Proofs.YtiafkakkbbclhaaGreat
namespace Go.Proofs.YtiafkakkbbclhaaGreat
open Go.RowKit
def standB (ds im : List Int) (rb : List Bool) (b : Nat) (here l : List Int) : Bool := l.all (stdB ds im rb b here)
theorem stand_any {w : World} {S : Nat → Prop} {lc mc : List Value} {m : Md} {k : Lk} {x : Sf} {im ds : List Int} {rb : List Bool} (h : LW w S lc mc m k x im ds rb) (hn : x.blocks.length ≤ 100000) (b : Nat) (hb : b < x.blocks.length) (AH : Option Addr) (cH : Nat) (here : List Int) (SH : Nat → Prop) (hh : tI.els w SH AH here) (hsh : ∀ j, SH j → j < w.heap.size) (hhl : here.length ≤ 9223372036854775807) (AL : Option Addr) (cL : Nat) (l : List Int) (SL : Nat → Prop) (hl : tI.els w SL AL l) (hsl : ∀ j, SL j → j < w.heap.size) (hll : l.length ≤ 9223372036854775807) :
    Calls Tryz.prog 28 #[.agg lc.toArray, .int .i64 b, .slice AH here.length cH, .slice AL l.length cL] w (OvTo (standB ds im rb b here l) w) := by
  have F0 := hid ((Fr.refl No w).alloc (.cells lc.toArray 73))
  have G0 := hid (Blk.new w 73 lc.toArray)
  have HST := hid (fun W (f : Fr No w W) (v : Int) => stands_any (h.fr f) hn b hb AH cH here SH (hh.fr f fun j hj => ⟨hsh j hj, fun x => x⟩) (fun j hj => Nat.lt_of_lt_of_le (hsh j hj) f.size) hhl v)
  have HI : Hid ((Tryz.prog.info? 73).map (·.size) = some 19) := by unfold Hid; kernel_rfl
  have HLEN := hid h.len
  have HL := hid hl
  have HSL := hid hsl
  generalize hR : standB ds im rb b here l = R
  unfold standB at hR
  have HR := hid hR
  clear h hR hh hsh hhl hl hsl hb hn
  generalize here.length = nh at *
  generalize stdB ds im rb b here = pb at *
  obtain ⟨n, hnl⟩ : ∃ n, l.length = n := ⟨_, rfl⟩
  have HN := hid hnl
  rw [hnl] at hll ⊢
  clear hnl
  unfold OvTo at *
  go_enter Tryz.func28, Tryz.ntmps28
  go_upto_region 1 with fail
  generalize w.alloc (.cells lc.toArray 73) = W0 at *
  obtain ⟨q, hq⟩ : ∃ q, w.heap.size = q := ⟨_, rfl⟩
  rw [hq] at G0 ⊢
  clear hq
  go_wp2_with fail
  go_loopw [9] (fun v9 wr => ∃ i : Nat, i ≤ n ∧ v9 = .int .i64 i ∧ Hid (∀ j (h : j < l.length), j < i → pb l[j] = true) ∧ Hid (Fr No W0 wr)) (fun v9 _ => n - (intOf v9).toNat)
  case atStart => exact ⟨0, by omega, rfl, hid (fun j h h2 => absurd h2 (Nat.not_lt_zero _)), hid (Fr.refl _ _)⟩
  case round =>
    obtain ⟨i, hi, rfl, HP, HF⟩ := hrel
    have FK := hid (F0.out.trans HF.out (fun _ _ h => h))
    by_cases hgi : i < n
    · have j0 : (0 : Int) ≤ i := by omega
      have j1 : (i : Int) < n := by omega
      have hil : i < l.length := by rw [HN.out]; exact hgi
      obtain ⟨b9, o9, hA9, hb9, e9, -⟩ := ints_at HL.out i hil
      subst hA9
      have HAL : Hid (pb l[i] = false → l.all pb = false) := hid fun h => by
        rw [List.all_eq_false]
        exact ⟨_, List.getElem_mem hil, by rw [h]; simp⟩
      have HPN : Hid (pb l[i] = true → ∀ j (h : j < l.length), j < i + 1 → pb l[j] = true) := hid fun hv j h hj => by
        by_cases hji : j = i
        · subst hji; exact hv
        · exact HP.out j h (by omega)
      have HC := hid (fun W (f : Fr No wr W) => HST.out W (FK.out.trans f (fun _ _ h => h)) l[i])
      generalize l[i] = t at *
      generalize pb t = bt at *
      have HX : Hid (∀ X, Fr No wr X → X.rangeAt q 0 lc ∧ X.cell? ⟨b9, o9 + i, none⟩ = some (.int .i64 t)) := hid fun X f => ⟨rangeL (G0.out.fr (HF.out.trans f (fun _ _ h => h)) (fun x => x)), ((FK.out.trans f (fun _ _ h => h)).cell (p := ⟨b9, o9 + i, none⟩) (HSL.out b9 hb9) (fun x => x)).trans e9⟩
      have HX1 : Hid (∀ X, Fr No wr X → X.rangeAt q 0 lc) := hid fun X f => (HX.out X f).1
      have HX2 : Hid (∀ X, Fr No wr X → X.cell? ⟨b9, o9 + i, none⟩ = some (.int .i64 t)) := hid fun X f => (HX.out X f).2
      clear HP hil e9 hb9 HX
      go_upto_region 4 with fail
      refine wp_region_ord (Fr No wr) [] [(0, true), (1, true), (2, true), (3, true), (4, true), (5, true), (6, true), (7, false), (8, true)] (by kernel_rfl) (by kernel_rfl) (by kernel_rfl) rfl (Fr.refl _ wr).drew ?_
      refine wpO_load rfl rfl 73 _ rfl q 0 rfl lc _ HX1.out Tryz.underlying73 rfl (by rw [HLEN.out]; exact HI.out) ?_
      repeat (first | refine oS ?_ | refine oX HX2.out ?_)
      refine wpO_eff rfl rfl (fun K hK => ?_)
      simp only [zA]
      go_simp
      refine (HC.out _ (Fr.refl No wr).drew).mono ?_
      rintro e Y1 ⟨rfl, f⟩
      have F1 := hid ((Fr.refl No wr).drew.trans f (fun _ _ h => h))
      clear f
      refine hK _ _ (fun _ => F1.out) ?_
      clear hK K
      repeat (first | refine oS ?_ | refine oX HX2.out ?_)
      refine wpO_nil ?_
      have F3 := hid (HF.out.trans F1.out (fun _ _ h => h))
      cases bt with
      | false =>
        have hR := HR.out
        rw [HAL.out rfl] at hR
        subst hR
        clear HC HAL HPN HR
        go_wp2
        go_ret
        exact ⟨rfl, F0.out.trans F3.out (fun _ _ h => h)⟩
      | true =>
        have HPN2 := hid (HPN.out rfl)
        clear HC HAL HPN
        go_wp2
        go_roundw
        case rel => exact ⟨i + 1, by omega, by go_num, HPN2, F3⟩
        case measure => simp [intOf]; omega
    · have hin : i = n := by omega
      subst hin
      have hR := HR.out
      have hall : l.all pb = true := by
        rw [List.all_eq_true]
        intro t ht
        obtain ⟨j, hj, he⟩ := List.mem_iff_getElem.1 ht
        rw [← he]
        exact HP.out j hj (by have := HN.out; omega)
      rw [hall] at hR
      subst hR
      clear HR HP hall hgi
      go_wp2
      go_ret
      exact ⟨rfl, FK.out⟩
end Go.Proofs.YtiafkakkbbclhaaGreat
namespace Go.Proofs.YtiafkakkbbclhaaGreat
open Go.RowKit
theorem LW.vals {w : World} {S : Nat → Prop} {lc mc : List Value} {m : Md} {k : Lk} {x : Sf} {im ds : List Int} {rb : List Bool} (h : LW w S lc mc m k x im ds rb) : tI.els w S k.AV x.vals := by
  obtain ⟨_, _, _, _, AV, cV, _, _, hcs, -, -, -, -, -, -, -, -, hve, -⟩ := Sf_cells h.fr_
  injection hcs with _ hcs
  injection hcs with _ hcs
  injection hcs with hcv _
  injection hcv with e1 _ _
  rw [e1]; exact hve
theorem typed_any {w : World} {S : Nat → Prop} {lc mc : List Value} {m : Md} {k : Lk} {x : Sf} {im ds : List Int} {rb : List Bool} (h : LW w S lc mc m k x im ds rb) (hv : x.vals.length ≤ 140737488351232) (AL : Option Addr) (cL : Nat) (l : List Int) (SL : Nat → Prop) (hl : tI.els w SL AL l) (hsl : ∀ j, SL j → j < w.heap.size) (hll : l.length * 8 ≤ 140737488351232) (AT : Option Addr) (cT : Nat) (ts : List Int) (ST : Nat → Prop) (ht : tI.els w ST AT ts) (hst : ∀ j, ST j → j < w.heap.size) (htl : ts.length ≤ 140737488351232) :
    Calls Tryz.prog 38 #[.agg lc.toArray, .slice AL l.length cL, .slice AT ts.length cT] w (OvTo (typedB x.vals l ts) w) := by
  have F0 := hid ((Fr.refl No w).alloc (.cells lc.toArray 73))
  have G0 := hid (Blk.new w 73 lc.toArray)
  have hve := LW.vals h
  have HLT := h.md.lt
  have HA := hid (all_any AL cL l k.AV k.cV x.vals (fun j => j < w.heap.size) _ ((hl.more hsl).fr F0.out fun j hj => ⟨hj, fun x => x⟩) ((hve.more HLT).fr F0.out fun j hj => ⟨hj, fun x => x⟩) (fun j hj => Nat.lt_of_lt_of_le hj F0.out.size) hll hv)
  have HSV := hid (fun W (f : Fr No w W) (A : Option Addr) (c : Nat) (t : List Int) (Sx : Nat → Prop) (hs : ∀ j, Sx j → j < W.heap.size) (he : tI.els W Sx A t) (htl1 : t.length ≤ 140737488355328) => sameVals_any A AT t ts c cT Sx ST W hs (fun j hj => Nat.lt_of_lt_of_le (hst j hj) f.size) he (ht.fr f fun j hj => ⟨hst j hj, fun x => x⟩) htl1 (by omega))
  have C2 := hid h.c2
  have HLN : Hid (∀ t, allT x.vals l = some t → t.length = l.length) := hid fun t ht => by
    unfold allT at ht
    split at ht
    · rw [← Option.some.inj ht, List.length_map]
    · cases ht
  generalize hR : typedB x.vals l ts = R
  unfold typedB at hR
  have HR := hid hR
  unfold AllTo at HA
  unfold OvTo
  clear h hR hl hsl ht hst hve HLT
  generalize allT x.vals l = o at *
  generalize x.vals.length = nv at *
  generalize hnl : l.length = nl at *
  clear hnl
  generalize ts.length = nt at *
  go_enter Tryz.func38, Tryz.ntmps38
  go_upto_region 1 with fail
  generalize w.alloc (.cells lc.toArray 73) = W0 at *
  obtain ⟨q, hq⟩ : ∃ q, w.heap.size = q := ⟨_, rfl⟩
  rw [hq] at G0 ⊢
  clear hq
  have y2 := G0.out.at_ C2.out
  go_wp2_with fail
  refine HA.out.mono ?_
  clear HA y2
  rintro e w1 ⟨A1, c1, rfl, hels, f1⟩
  have F1 := hid (F0.out.trans f1 (fun _ _ h => h))
  have HE := hid hels
  clear f1 hels
  cases o with
  | none =>
    have hR := HR.out
    simp only [Option.isSome_none] at *
    have hR2 : R = false := by rw [← hR]; rfl
    subst hR2
    clear HR hR HSV HLN
    go_wp2
    go_ret
    exact ⟨rfl, F1.out⟩
  | some t =>
    have hlt := HLN.out t rfl
    simp only [Option.isSome_some, Option.getD_some] at *
    have HC := hid (HSV.out w1 F1.out A1 c1 t _ (fun j hj => hj.2) HE.out (by omega))
    rw [hlt] at HC
    have HLT3 := hid hlt
    have hR : decide (t = ts) = R := by
      rw [← HR.out]
      by_cases hts : t = ts
      · simp [hts]
      · simp [hts]
    rw [hR] at HC
    rw [hlt]
    clear HR hR HSV HLN hlt
    go_wp2_with fail
    refine HC.out.mono ?_
    rintro e w2 ⟨rfl, f2⟩
    have F2 := hid (F1.out.trans f2 (fun _ _ h => h))
    clear HC f2
    go_wp2
    go_ret
    exact ⟨rfl, F2.out⟩
end Go.Proofs.YtiafkakkbbclhaaGreat
namespace Go.Proofs.YtiafkakkbbclhaaGreat
theorem defL_get (bs : List Sb) (n u : Nat) : (defL bs n)[u]? = if u < n then some (dfn bs (u : Int)) else none := by
  unfold defL
  by_cases h : u < n
  · rw [if_pos h]; simp [h]
  · rw [if_neg h, List.getElem?_eq_none (by simp; omega)]
theorem overF_in {im : List Int} {n : Nat} (hl : im.length = n) {d : Int} {b : Nat} (h0 : 0 ≤ d) (h1 : d < n) (hb : b < n) : overF im d b = walkF im d (n + 1) b := by
  unfold overF
  rw [hl, if_neg (by omega)]
theorem stdB_iff {vals : List Int} {bs : List Sb} {rb : List Bool} (hr : ∀ k : Nat, rb[k]? = some true ↔ Rch (nextOf bs) (fun _ => False) k) {b : Nat} (hb : b < bs.length) (here : List Int) (v : Int) :
    stdB (defL bs vals.length) (idomF (nextOf bs)) rb b here v = true ↔ Stnd vals bs b here v := by
  have him : (idomF (nextOf bs)).length = bs.length := by rw [idomF_len, next_len]
  unfold stdB Stnd inR
  by_cases h0 : v < 0
  · rw [if_pos h0]
    exact ⟨fun h => by simp at h, fun h => by have := h.1.1; omega⟩
  · rw [if_neg h0]
    obtain ⟨u, rfl⟩ : ∃ u : Nat, v = u := ⟨v.toNat, by omega⟩
    rw [Int.toNat_natCast, defL_get]
    by_cases h1 : u < vals.length
    · rw [if_pos h1]
      dsimp only
      have hd := dfn_range bs (u : Int)
      by_cases h2 : dfn bs (u : Int) < 0
      · rw [if_pos h2]
        exact ⟨fun h => by simp at h, fun h => by have := h.2.1; omega⟩
      · rw [if_neg h2]
        have hrb : rb.getD b false = true ↔ Rch (nextOf bs) (fun _ => False) b := by
          rw [← hr b, List.getD_eq_getElem?_getD]
          cases rb[b]? with
          | none => simp
          | some t => simp
        by_cases h3 : rb.getD b false = false
        · rw [if_pos h3]
          refine ⟨fun _ => ⟨⟨by omega, by omega⟩, by omega, .inl fun hh => ?_⟩, fun _ => rfl⟩
          rw [hrb.2 hh] at h3
          cases h3
        · rw [if_neg h3]
          have hR := hrb.1 (by simpa using h3)
          by_cases h4 : dfn bs (u : Int) = b
          · rw [if_pos h4, decide_eq_true_eq]
            refine ⟨fun h => ⟨⟨by omega, by omega⟩, by omega, .inr (.inl ⟨h4, h⟩)⟩, fun h => ?_⟩
            rcases h.2.2 with h5 | h5 | h5
            · exact absurd hR h5
            · exact h5.2
            · exact absurd h4 h5.1
          · rw [if_neg h4, overF_in him (by omega) (by omega) hb]
            refine ⟨fun h => ⟨⟨by omega, by omega⟩, by omega, .inr (.inr ⟨h4, h⟩)⟩, fun h => ?_⟩
            rcases h.2.2 with h5 | h5 | h5
            · exact absurd hR h5
            · exact absurd h5.1 h4
            · exact h5.2
    · rw [if_neg h1]
      exact ⟨fun h => by simp at h, fun h => by have := h.1.2; omega⟩
theorem standB_iff {vals : List Int} {bs : List Sb} {rb : List Bool} (hr : ∀ k : Nat, rb[k]? = some true ↔ Rch (nextOf bs) (fun _ => False) k) {b : Nat} (hb : b < bs.length) (here l : List Int) :
    standB (defL bs vals.length) (idomF (nextOf bs)) rb b here l = true ↔ ∀ v ∈ l, Stnd vals bs b here v := by
  unfold standB
  rw [List.all_eq_true]
  exact ⟨fun h v hv => (stdB_iff hr hb here v).1 (h v hv), fun h v hv => (stdB_iff hr hb here v).2 (h v hv)⟩
theorem onceB_iff (vals : List Int) (bs : List Sb) : onceB bs vals.length = true ↔ ∀ v, inR vals v → (bs.flatMap outsB).count v ≤ 1 := by
  have hc : ∀ t : Int, cntP (bs.map outsB) bs.length 0 t = (bs.flatMap outsB).count t := fun t => by
    unfold cntP cntT
    rw [List.take_of_length_le (by simp), List.take_zero, List.count_nil, Nat.add_zero, List.count_flatMap, List.map_map]
  unfold onceB
  rw [decide_eq_true_eq]
  unfold cl
  constructor
  · intro h v hv
    obtain ⟨u, rfl⟩ : ∃ u : Nat, v = u := ⟨v.toNat, by have := hv.1; omega⟩
    have := h _ (List.mem_map.2 ⟨u, List.mem_range.2 (by have := hv.2; omega), rfl⟩)
    rw [hc] at this
    omega
  · intro h x hx
    obtain ⟨u, hu, rfl⟩ := List.mem_map.1 hx
    have := h (u : Int) ⟨by omega, by have := List.mem_range.1 hu; omega⟩
    rw [hc]
    omega
theorem isEmpty_iff' {l : List Int} : l.isEmpty = true ↔ l = [] := by cases l <;> simp
theorem wholeB_iff (x : Sf) : wholeB x = true ↔ rightB x.type = true ∧ x.vals.all isVal = true ∧ x.blocks ≠ [] ∧ (x.blocks.getD 0 bD).params = [] ∧ ∀ v, inR x.vals v → (x.blocks.flatMap outsB).count v ≤ 1 := by
  unfold wholeB
  rw [Bool.and_eq_true, Bool.and_eq_true, Bool.and_eq_true, Bool.and_eq_true, onceB_iff, isEmpty_iff']
  have e : (!x.blocks.isEmpty) = true ↔ x.blocks ≠ [] := by cases x.blocks <;> simp
  rw [e]
  exact ⟨fun ⟨⟨⟨⟨a, b⟩, c⟩, d⟩, f⟩ => ⟨a, d, b, c, f⟩, fun ⟨a, d, b, c, f⟩ => ⟨⟨⟨⟨a, b⟩, c⟩, d⟩, f⟩⟩
end Go.Proofs.YtiafkakkbbclhaaGreat
namespace Go.Proofs.YtiafkakkbbclhaaGreat
open Go.RowKit
def endB (vals rs : List Int) (kind cond : Int) (args : List Int) (nt : Nat) (trap : Int) : Bool :=
  if kind = 0 then (cond == 0) && (trap == 0) && ((nt : Int) == 1) && ((args.length : Int) == 0)
  else if kind = 1 then (trap == 0) && typedB vals [cond] [1] && ((nt : Int) == 2) && ((args.length : Int) == 0)
  else if kind = 2 then (trap == 0) && typedB vals [cond] [1] && decide ((1 : Int) ≤ nt) && ((args.length : Int) == 0)
  else if kind = 3 then (cond == 0) && (trap == 0) && ((nt : Int) == 0) && typedB vals args rs
  else (kind == 4) && (cond == 0) && ((nt : Int) + (args.length : Int) == 0) && decide (1 ≤ trap) && decide (trap ≤ 12)
theorem bxE (w : World) (lc : List Value) (D : Array Value) (U : TypeId) : Hid (Fr No w ((w.alloc (.cells lc.toArray 73)).alloc (.cells D U))) ∧ Hid (Blk ((w.alloc (.cells lc.toArray 73)).alloc (.cells D U)) w.heap.size 73 lc.toArray) ∧ Hid (Blk ((w.alloc (.cells lc.toArray 73)).alloc (.cells D U)) (w.heap.size + 1) U D) :=
  ⟨((Fr.refl No w).alloc _).alloc _, (Blk.new w _ _).alloc _, Blk.new1 w _ _ _⟩
theorem one_els {w : World} {z : Nat} {e : TypeId} {v : Int} (h : Blk w z e #[.int .i64 v]) (hw : (Lit.int .i64 v).wf = true) : tI.els w (fun j => j < w.heap.size) (some ⟨z, 0, none⟩) [v] :=
  blk_els (t := tI) (css := [[.int .i64 v]]) (e := e) (by simpa using h) h.lt (Css.one (int_mk hw))
theorem end1_any {w : World} {S : Nat → Prop} {lc mc : List Value} {m : Md} {k : Lk} {x : Sf} {im ds : List Int} {rb : List Bool} (h : LW w S lc mc m k x im ds rb) (hv : x.vals.length ≤ 140737488351232) (cd tr : Int) (Aa : Option Addr) (ca na : Nat) (At : Option Addr) (ct nt : Nat) (hnt : nt ≤ 100000) (hcw : (Lit.int .i64 cd).wf = true) :
    Calls Tryz.prog 29 #[.agg lc.toArray, .agg #[.int .i64 1, .int .i64 cd, .slice Aa na ca, .slice At nt ct, .int .i64 tr]] w (OvTo ((tr == 0) && typedB x.vals [cd] [1] && ((nt : Int) == 2) && ((na : Int) == 0)) w) := by
  obtain ⟨F0, G0, E0⟩ := bxE w lc #[.int .i64 1, .int .i64 cd, .slice Aa na ca, .slice At nt ct, .int .i64 tr] 55
  have HI : Hid ((Tryz.prog.info? 73).map (·.size) = some 19) := by unfold Hid; kernel_rfl
  have HLEN := hid h.len
  have HTY := hid (fun W (f : Fr No w W) (z : Nat) (b1 : Blk W z 3 #[.int .i64 cd]) (b2 : Blk W (z + 1) 59 #[.int .i64 1]) => typed_any (h.fr f) hv (some ⟨z, 0, none⟩) 1 [cd] _ (one_els b1 hcw) (fun j hj => hj) (by simp) (some ⟨z + 1, 0, none⟩) 1 [1] _ (one_els b2 (by decide)) (fun j hj => hj) (by simp))
  unfold OvTo at *
  clear h
  generalize typedB x.vals [cd] [1] = ty at *
  generalize hR : ((tr == 0) && ty && ((nt : Int) == 2) && ((na : Int) == 0)) = R
  have HR := hid hR
  clear hR
  go_enter Tryz.func29, Tryz.ntmps29
  go_upto_region 1 with fail
  generalize (w.alloc (.cells lc.toArray 73)).alloc (.cells #[.int .i64 1, .int .i64 cd, .slice Aa na ca, .slice At nt ct, .int .i64 tr] 55) = W0 at *
  have hq1 := E0.out.lt
  have y0 := E0.out.cell 0
  have y1 := E0.out.cell 1
  have y4 := E0.out.cell 4
  have y2 := E0.out.cell 2
  have y3 := E0.out.cell 3
  cases hc0 : (cd == 0) <;> cases ht : (tr == 0)
  case false.false | true.false =>
    have hR := HR.out
    rw [ht, Bool.false_and, Bool.false_and, Bool.false_and] at hR
    subst hR
    clear HTY HR
    go_wp2
    go_ret
    exact ⟨rfl, F0.out⟩
  case false.true | true.true =>
    have FA := (Fr.refl No W0).alloc (.cells #[.int .i64 cd] 3)
    have FB := FA.alloc (.cells #[.int .i64 1] 59)
    have B1 := (Blk.new W0 3 #[.int .i64 cd]).alloc (.cells #[.int .i64 1] 59)
    have B2 := Blk.new1 W0 (.cells #[.int .i64 cd] 3) 59 #[.int .i64 1]
    have HC := hid (HTY.out _ (F0.out.trans FB (fun _ _ h => h)) _ B1 B2)
    have FBH := hid FB
    clear HTY FA FB B1 B2
    go_wp2_with (first | refine ldW Tryz.underlying73 HI.out (rangeL G0.out) HLEN.out ?_ | fail)
    refine HC.out.mono ?_
    rintro e w3 ⟨rfl, f3⟩
    have F3 := hid (F0.out.trans (FBH.out.trans f3 (fun _ _ h => h)) (fun _ _ h => h))
    have E3 := hid ((E0.out.fr FBH.out (fun x => x)).fr f3 (fun x => x))
    clear HC f3 y0 y1 y2 y3 y4 FBH
    have y2 := E3.out.cell 2
    have y3 := E3.out.cell 3
    cases ty <;> cases hn : ((nt : Int) == 2) <;> cases hg : ((na : Int) == 0)
    all_goals
      have hR := HR.out
      rw [ht, hn, hg] at hR
      simp only [Bool.and_true, Bool.and_false, Bool.true_and, Bool.false_and] at hR
      subst hR
      clear HR
      go_wp2
      go_ret
      exact ⟨rfl, F3.out⟩
theorem end2_any {w : World} {S : Nat → Prop} {lc mc : List Value} {m : Md} {k : Lk} {x : Sf} {im ds : List Int} {rb : List Bool} (h : LW w S lc mc m k x im ds rb) (hv : x.vals.length ≤ 140737488351232) (cd tr : Int) (Aa : Option Addr) (ca na : Nat) (At : Option Addr) (ct nt : Nat) (hnt : nt ≤ 100000) (hcw : (Lit.int .i64 cd).wf = true) :
    Calls Tryz.prog 29 #[.agg lc.toArray, .agg #[.int .i64 2, .int .i64 cd, .slice Aa na ca, .slice At nt ct, .int .i64 tr]] w (OvTo ((tr == 0) && typedB x.vals [cd] [1] && decide ((1 : Int) ≤ nt) && ((na : Int) == 0)) w) := by
  obtain ⟨F0, G0, E0⟩ := bxE w lc #[.int .i64 2, .int .i64 cd, .slice Aa na ca, .slice At nt ct, .int .i64 tr] 55
  have HI : Hid ((Tryz.prog.info? 73).map (·.size) = some 19) := by unfold Hid; kernel_rfl
  have HLEN := hid h.len
  have HTY := hid (fun W (f : Fr No w W) (z : Nat) (b1 : Blk W z 3 #[.int .i64 cd]) (b2 : Blk W (z + 1) 59 #[.int .i64 1]) => typed_any (h.fr f) hv (some ⟨z, 0, none⟩) 1 [cd] _ (one_els b1 hcw) (fun j hj => hj) (by simp) (some ⟨z + 1, 0, none⟩) 1 [1] _ (one_els b2 (by decide)) (fun j hj => hj) (by simp))
  unfold OvTo at *
  clear h
  generalize typedB x.vals [cd] [1] = ty at *
  generalize hR : ((tr == 0) && ty && decide ((1 : Int) ≤ nt) && ((na : Int) == 0)) = R
  have HR := hid hR
  clear hR
  go_enter Tryz.func29, Tryz.ntmps29
  go_upto_region 1 with fail
  generalize (w.alloc (.cells lc.toArray 73)).alloc (.cells #[.int .i64 2, .int .i64 cd, .slice Aa na ca, .slice At nt ct, .int .i64 tr] 55) = W0 at *
  have hq1 := E0.out.lt
  have y0 := E0.out.cell 0
  have y1 := E0.out.cell 1
  have y4 := E0.out.cell 4
  have y2 := E0.out.cell 2
  have y3 := E0.out.cell 3
  cases hc0 : (cd == 0) <;> cases ht : (tr == 0)
  case false.false | true.false =>
    have hR := HR.out
    rw [ht, Bool.false_and, Bool.false_and, Bool.false_and] at hR
    subst hR
    clear HTY HR
    go_wp2
    go_ret
    exact ⟨rfl, F0.out⟩
  case false.true | true.true =>
    have FA := (Fr.refl No W0).alloc (.cells #[.int .i64 cd] 3)
    have FB := FA.alloc (.cells #[.int .i64 1] 59)
    have B1 := (Blk.new W0 3 #[.int .i64 cd]).alloc (.cells #[.int .i64 1] 59)
    have B2 := Blk.new1 W0 (.cells #[.int .i64 cd] 3) 59 #[.int .i64 1]
    have HC := hid (HTY.out _ (F0.out.trans FB (fun _ _ h => h)) _ B1 B2)
    have FBH := hid FB
    clear HTY FA FB B1 B2
    go_wp2_with (first | refine ldW Tryz.underlying73 HI.out (rangeL G0.out) HLEN.out ?_ | fail)
    refine HC.out.mono ?_
    rintro e w3 ⟨rfl, f3⟩
    have F3 := hid (F0.out.trans (FBH.out.trans f3 (fun _ _ h => h)) (fun _ _ h => h))
    have E3 := hid ((E0.out.fr FBH.out (fun x => x)).fr f3 (fun x => x))
    clear HC f3 y0 y1 y2 y3 y4 FBH
    have y2 := E3.out.cell 2
    have y3 := E3.out.cell 3
    cases ty <;> cases hn : decide ((1 : Int) ≤ nt) <;> cases hg : ((na : Int) == 0)
    all_goals
      have hR := HR.out
      rw [ht, hn, hg] at hR
      simp only [Bool.and_true, Bool.and_false, Bool.true_and, Bool.false_and] at hR
      subst hR
      clear HR
      go_wp2
      go_ret
      exact ⟨rfl, F3.out⟩
theorem LW.results {w : World} {S : Nat → Prop} {lc mc : List Value} {m : Md} {k : Lk} {x : Sf} {im ds : List Int} {rb : List Bool} (h : LW w S lc mc m k x im ds rb) : tI.els w S k.AR x.type.results := by
  obtain ⟨_, _, AR, cR, _, _, _, _, hcs, -, -, -, -, -, hre, -⟩ := Sf_cells h.fr_
  injection hcs with _ hcs
  injection hcs with hcv _
  injection hcv with e1 _ _
  rw [e1]; exact hre
theorem end_any {w : World} {S : Nat → Prop} {lc mc : List Value} {m : Md} {k : Lk} {x : Sf} {im ds : List Int} {rb : List Bool} (h : LW w S lc mc m k x im ds rb) (hv : x.vals.length ≤ 140737488351232) (hrs : x.type.results.length ≤ 140737488351232) (kd cd tr : Int) (Aa : Option Addr) (ca : Nat) (args : List Int) (ha : tI.els w S Aa args) (hal : args.length * 8 ≤ 140737488351232) (At : Option Addr) (ct nt : Nat) (hnt : nt ≤ 100000) (hcw : (Lit.int .i64 cd).wf = true) :
    Calls Tryz.prog 29 #[.agg lc.toArray, .agg #[.int .i64 kd, .int .i64 cd, .slice Aa args.length ca, .slice At nt ct, .int .i64 tr]] w (OvTo (endB x.vals x.type.results kd cd args nt tr) w) := by
  obtain ⟨F0, G0, E0⟩ := bxE w lc #[.int .i64 kd, .int .i64 cd, .slice Aa args.length ca, .slice At nt ct, .int .i64 tr] 55
  generalize hR : endB x.vals x.type.results kd cd args nt tr = R
  unfold endB at hR
  unfold OvTo
  obtain ⟨na, hna⟩ : ∃ n, args.length = n := ⟨_, rfl⟩
  have HNA := hid hna
  rw [hna] at hR F0 G0 E0 hal ⊢
  clear hna
  have y0 := E0.out.cell 0
  have y1 := E0.out.cell 1
  have y2 := E0.out.cell 2
  have y3 := E0.out.cell 3
  have y4 := E0.out.cell 4
  by_cases h0 : kd = 0
  · rw [if_pos h0] at hR
    subst h0
    have HR := hid hR
    clear hR h ha
    cases hc : (cd == 0) <;> cases ht : (tr == 0) <;> cases hn : ((nt : Int) == 1) <;> cases hg : ((na : Int) == 0)
    all_goals
      have hR := HR.out
      rw [hc, ht, hn, hg] at hR
      simp only [Bool.and_true, Bool.and_false, Bool.true_and, Bool.false_and] at hR
      subst hR
      clear HR
      go_enter Tryz.func29, Tryz.ntmps29
      go_wp2
      go_ret
      exact ⟨rfl, F0.out⟩
  have k0 : (kd == 0) = false := by simpa using h0
  rw [if_neg h0] at hR
  clear h0
  by_cases h1 : kd = 1
  · subst h1
    rw [if_pos rfl] at hR
    rw [← hR]
    exact end1_any h hv cd tr Aa ca na At ct nt hnt hcw
  have k1 : (kd == 1) = false := by simpa using h1
  rw [if_neg h1] at hR
  clear h1
  by_cases h2 : kd = 2
  · subst h2
    rw [if_pos rfl] at hR
    rw [← hR]
    exact end2_any h hv cd tr Aa ca na At ct nt hnt hcw
  have k2 : (kd == 2) = false := by simpa using h2
  rw [if_neg h2] at hR
  clear h2
  by_cases h3 : kd = 3
  · rw [if_pos h3] at hR
    subst h3
    have HI : Hid ((Tryz.prog.info? 73).map (·.size) = some 19) := by unfold Hid; kernel_rfl
    have HLEN := hid h.len
    have C1 := hid h.c1
    have HLW := hid h
    have HTY := hid (fun W (f : Fr No w W) => typed_any (h.fr f) hv Aa ca args S (ha.fr f fun j hj => ⟨h.md.lt j hj, fun x => x⟩) (fun j hj => Nat.lt_of_lt_of_le (h.md.lt j hj) f.size) (by rw [HNA.out]; exact hal) k.AR k.cR x.type.results S (LW.results (h.fr f)) (fun j hj => Nat.lt_of_lt_of_le (h.md.lt j hj) f.size) hrs)
    rw [HNA.out] at HTY
    unfold OvTo at HTY
    have y13 := G0.out.at_ C1.out
    generalize typedB x.vals args x.type.results = ty at *
    have HR := hid hR
    have hqq := G0.out.lt
    clear hR h ha HLW
    cases hc : (cd == 0) <;> cases ht : (tr == 0) <;> cases hn : ((nt : Int) == 0)
    case true.true.true =>
      have HC := hid (HTY.out _ F0.out)
      have hR := HR.out
      rw [hc, ht, hn] at hR
      simp only [Bool.true_and] at hR
      subst hR
      clear HR HTY
      go_enter Tryz.func29, Tryz.ntmps29
      go_wp2_with (first | refine ldW Tryz.underlying73 HI.out (rangeL G0.out) HLEN.out ?_ | fail)
      refine HC.out.mono ?_
      rintro e w3 ⟨rfl, f3⟩
      have F3 := hid (F0.out.trans f3 (fun _ _ h => h))
      clear HC f3
      go_wp2
      go_ret
      exact ⟨rfl, F3.out⟩
    all_goals
      have hR := HR.out
      rw [hc, ht, hn] at hR
      simp only [Bool.and_true, Bool.and_false, Bool.true_and, Bool.false_and] at hR
      subst hR
      clear HR HTY
      go_enter Tryz.func29, Tryz.ntmps29
      go_wp2
      go_ret
      exact ⟨rfl, F0.out⟩
  have k3 : (kd == 3) = false := by simpa using h3
  rw [if_neg h3] at hR
  clear h3
  have HR := hid hR
  clear hR h ha
  have d1 : (decide (1 ≤ tr) = true) ∨ (decide (1 ≤ tr) = false) := by cases decide (1 ≤ tr) <;> simp
  have d2 : (decide (tr ≤ 12) = true) ∨ (decide (tr ≤ 12) = false) := by cases decide (tr ≤ 12) <;> simp
  rcases d1 with d1 | d1 <;> rcases d2 with d2 | d2 <;> cases hk : (kd == 4) <;> cases hc : (cd == 0) <;> cases hn : ((nt : Int) + (na : Int) == 0)
  all_goals
    have hR := HR.out
    rw [hk, hc, hn, d1, d2] at hR
    simp only [Bool.and_true, Bool.and_false, Bool.true_and, Bool.false_and] at hR
    subst hR
    clear HR
    go_enter Tryz.func29, Tryz.ntmps29
    go_wp2
    go_ret
    exact ⟨rfl, F0.out⟩
end Go.Proofs.YtiafkakkbbclhaaGreat
namespace Go.Proofs.YtiafkakkbbclhaaGreat
def edgeB (vals : List Int) (bs : List Sb) (e : Ed) : Bool := isReal bs.length e.to && match allT vals (bs.getD e.to.toNat bD).params with
  | some ts => typedB vals e.args ts
  | none => false
def edgesB (vals : List Int) (bs : List Sb) (es : List Ed) : Bool := es.all (edgeB vals bs)
theorem edgesB_iff (vals : List Int) (bs : List Sb) (es : List Ed) : edgesB vals bs es = true ↔ ∀ e ∈ es, isReal bs.length e.to = true ∧ ∃ ts, allT vals (bs.getD e.to.toNat bD).params = some ts ∧ typedB vals e.args ts = true := by
  unfold edgesB
  rw [List.all_eq_true]
  refine forall_congr' fun e => forall_congr' fun _ => ?_
  unfold edgeB
  rw [Bool.and_eq_true]
  refine and_congr_right fun _ => ?_
  cases allT vals (bs.getD e.to.toNat bD).params with
  | none => simp
  | some ts => simp
end Go.Proofs.YtiafkakkbbclhaaGreat
namespace Go.Proofs.YtiafkakkbbclhaaGreat
open Go.RowKit
theorem LW.blocks {w : World} {S : Nat → Prop} {lc mc : List Value} {m : Md} {k : Lk} {x : Sf} {im ds : List Int} {rb : List Bool} (h : LW w S lc mc m k x im ds rb) : tSb.els w S k.AB x.blocks := by
  obtain ⟨_, _, _, _, _, _, AB, cB, hcs, -, -, -, -, -, -, -, -, -, -, -, hbe⟩ := Sf_cells h.fr_
  injection hcs with _ hcs
  injection hcs with _ hcs
  injection hcs with _ hcs
  injection hcs with hcv _
  injection hcv with e1 _ _
  rw [e1]; exact hbe
theorem edges39_any {w : World} {S : Nat → Prop} {lc mc : List Value} {m : Md} {k : Lk} {x : Sf} {im ds : List Int} {rb : List Bool} (h : LW w S lc mc m k x im ds rb) (hv : x.vals.length ≤ 140737488351232) (hn : x.blocks.length ≤ 100000) (hp : ∀ b ∈ x.blocks, b.params.length * 8 ≤ 140737488351232) (kd cd tr : Int) (Aa : Option Addr) (ca na : Nat) (At : Option Addr) (ct : Nat) (es : List Ed) (hes : tEd.els w S At es) (hel : es.length ≤ 100000) (hea : ∀ e ∈ es, e.args.length * 8 ≤ 140737488351232) :
    Calls Tryz.prog 30 #[.agg lc.toArray, .agg #[.int .i64 kd, .int .i64 cd, .slice Aa na ca, .slice At es.length ct, .int .i64 tr]] w (OvTo (edgesB x.vals x.blocks es) w) := by
  obtain ⟨F0, G0, E0⟩ := bxE w lc #[.int .i64 kd, .int .i64 cd, .slice Aa na ca, .slice At es.length ct, .int .i64 tr] 55
  have HI : Hid ((Tryz.prog.info? 73).map (·.size) = some 19) := by unfold Hid; kernel_rfl
  have HLEN := hid h.len
  have HLT := hid h.md.lt
  have C2 := hid h.c2
  have C3 := hid h.c3
  have HB : Hid (tSb.els w S k.AB x.blocks) := hid (LW.blocks h)
  have HAL := hid (fun (b : Sb) (hb : b ∈ x.blocks) (W : World) (f : Fr No w W) (A : Option Addr) (c : Nat) (hl : tI.els w S A b.params) => all_any A c b.params k.AV k.cV x.vals S W (hl.fr f fun j hj => ⟨h.md.lt j hj, fun x => x⟩) (LW.vals (h.fr f)) (fun j hj => Nat.lt_of_lt_of_le (h.md.lt j hj) f.size) (hp b hb) hv)
  have HTY := hid (fun (W : World) (f : Fr No w W) (A : Option Addr) (c : Nat) (l : List Int) (hl : tI.els w S A l) (hll : l.length * 8 ≤ 140737488351232) (A2 : Option Addr) (c2 : Nat) (ts : List Int) (S2 : Nat → Prop) (ht : tI.els W S2 A2 ts) (hs2 : ∀ j, S2 j → j < W.heap.size) (htl : ts.length ≤ 140737488351232) => typed_any (h.fr f) hv A c l S (hl.fr f fun j hj => ⟨h.md.lt j hj, fun x => x⟩) (fun j hj => Nat.lt_of_lt_of_le (h.md.lt j hj) f.size) hll A2 c2 ts S2 ht hs2 htl)
  have HES := hid hes
  have HEA := hid hea
  have HP := hid hp
  generalize hR : edgesB x.vals x.blocks es = R
  unfold edgesB at hR
  have HR := hid hR
  have HED : Hid (∀ e, edgeB x.vals x.blocks e = (isReal x.blocks.length e.to && match allT x.vals (x.blocks.getD e.to.toNat bD).params with
    | some ts => typedB x.vals e.args ts
    | none => false)) := hid fun e => rfl
  clear h hR hes hea hp
  generalize x.vals = vals at *
  generalize x.blocks = bs at *
  generalize edgeB vals bs = pb at *
  obtain ⟨n, hnl⟩ : ∃ n, es.length = n := ⟨_, rfl⟩
  have HN := hid hnl
  rw [hnl] at hel E0 F0 G0 ⊢
  clear hnl
  obtain ⟨nb, hnb⟩ : ∃ n, bs.length = n := ⟨_, rfl⟩
  have HNB := hid hnb
  rw [hnb] at hn C3 HED
  clear hnb
  unfold OvTo AllTo at *
  go_enter Tryz.func30, Tryz.ntmps30
  go_upto_region 1 with fail
  generalize (w.alloc (.cells lc.toArray 73)).alloc (.cells #[.int .i64 kd, .int .i64 cd, .slice Aa na ca, .slice At n ct, .int .i64 tr] 55) = W0 at *
  obtain ⟨q, hq⟩ : ∃ q, w.heap.size = q := ⟨_, rfl⟩
  rw [hq] at G0 E0 ⊢
  clear hq
  go_wp2_with fail
  go_loopw [5] (fun v5 wr => ∃ i : Nat, i ≤ n ∧ v5 = .int .i64 i ∧ Hid (∀ j (h : j < es.length), j < i → pb es[j] = true) ∧ Hid (Fr No W0 wr)) (fun v5 _ => n - (intOf v5).toNat)
  case atStart => exact ⟨0, by omega, rfl, hid (fun j h h2 => absurd h2 (Nat.not_lt_zero _)), hid (Fr.refl _ _)⟩
  case round =>
    obtain ⟨i, hi, rfl, HPR, HF⟩ := hrel
    have FK := hid (F0.out.trans HF.out (fun _ _ h => h))
    have GK := hid (G0.out.fr HF.out (fun x => x))
    have EK := hid (E0.out.fr HF.out (fun x => x))
    have y3 := EK.out.cell 3
    by_cases hgi : i < n
    · have j0 : (0 : Int) ≤ i := by omega
      have j1 : (i : Int) < n := by omega
      have hil : i < es.length := by rw [HN.out]; exact hgi
      obtain ⟨b9, o9, A9, c9, hA9, hb9, z0, z1, -, hc1, hc2, hels⟩ := Ed_at HES.out i hil
      subst hA9
      have x0 := (FK.out.cell (p := ⟨b9, o9 + i * 2, none⟩) (HLT.out b9 hb9) (fun x => x)).trans z0
      have x1 := (FK.out.cell (p := ⟨b9, o9 + i * 2 + 1, none⟩) (HLT.out b9 hb9) (fun x => x)).trans z1
      have HLE := hid (HEA.out _ (List.getElem_mem hil))
      have HELS := hid hels
      have HNO : Hid (pb es[i] = false → es.all pb = false) := hid fun h => by
        rw [List.all_eq_false]
        exact ⟨_, List.getElem_mem hil, by rw [h]; simp⟩
      have HPN : Hid (pb es[i] = true → ∀ j (h : j < es.length), j < i + 1 → pb es[j] = true) := hid fun hv j h hj => by
        by_cases hji : j = i
        · subst hji; exact hv
        · exact HPR.out j h (by omega)
      have HD := hid (HED.out es[i])
      clear z0 z1 hc1 hc2 hels HED HEA HPR
      generalize es[i] = e at *
      clear hil
      obtain ⟨na9, hna9⟩ : ∃ n, e.args.length = n := ⟨_, rfl⟩
      have HNA := hid hna9
      rw [hna9] at x1
      generalize pb e = pe at *
      have hD := HD.out
      have FA := (Fr.refl No wr).alloc (.cells #[.int .i64 e.to, .slice A9 na9 c9] 65)
      have F1 := hid (HF.out.trans FA (fun _ _ h => h))
      have FK1 := hid (FK.out.trans FA (fun _ _ h => h))
      have G1 := hid (GK.out.fr FA (fun x => x))
      have E1 := hid (EK.out.fr FA (fun x => x))
      have B1 := hid (Blk.new wr 65 #[.int .i64 e.to, .slice A9 na9 c9])
      clear FA HD hna9
      go_upto_region 5 with fail
      generalize wr.alloc (.cells #[.int .i64 e.to, .slice A9 na9 c9] 65) = W1 at *
      obtain ⟨q2, hq2⟩ : ∃ q, wr.heap.size = q := ⟨_, rfl⟩
      rw [hq2] at B1 ⊢
      clear hq2 x0 x1 y3 GK EK
      have x0 := B1.out.cell 0
      have x1 := B1.out.cell 1
      have y15 := G1.out.at_ C3.out
      have y14 := G1.out.at_ C2.out
      by_cases h0 : e.to < 0
      · have d0 : decide (e.to < 0) = true := decide_eq_true h0
        have hr : isReal nb e.to = false := by
          rw [Bool.eq_false_iff]
          intro h
          have := (isReal_iff.1 h).1
          omega
        rw [hr, Bool.false_and] at hD
        have hR := HR.out
        rw [HNO.out hD] at hR
        subst hR
        clear HR h0 hr hD HNO HPN HAL HTY
        go_wp2
        go_ret
        exact ⟨rfl, FK1.out⟩
      · have d0 : decide (e.to < 0) = false := decide_eq_false h0
        obtain ⟨t, ht⟩ : ∃ t : Nat, e.to = t := ⟨e.to.toNat, by omega⟩
        rw [ht] at hD x0 d0
        by_cases h1 : t < nb
        · have d1 : decide ((nb : Int) ≤ t) = false := decide_eq_false (by omega)
          have d2 : decide (nb ≤ t) = false := decide_eq_false (by omega)
          have htl : t < bs.length := by rw [HNB.out]; exact h1
          have hr : isReal nb (t : Int) = true := isReal_iff.2 ⟨by omega, by omega⟩
          rw [hr, Bool.true_and, Int.toNat_natCast, getD_el _ htl] at hD
          obtain ⟨b7, o7, A7, c7, _, _, _, _, _, _, hA7, hb7, z0, -, -, -, -, -, -, -, -, hpe, -⟩ := Sb_at HB.out t htl
          have HMEM := hid (List.getElem_mem htl)
          have HPE := hid hpe
          have HPL := hid (HP.out _ HMEM.out)
          have HC0 := hid (fun (W : World) (f : Fr No w W) => HAL.out _ HMEM.out W f A7 c7 hpe)
          have HLN : Hid (∀ ts, allT vals bs[t].params = some ts → ts.length = bs[t].params.length) := hid fun ts ht => by
            unfold allT at ht
            split at ht
            · rw [← Option.some.inj ht, List.length_map]
            · cases ht
          have C3' := C3.out
          rw [hA7] at C3'
          replace z0 := (FK1.out.cell (p := ⟨b7, o7 + t * 7, none⟩) (HLT.out b7 hb7) (fun x => x)).trans z0
          have HX : Hid (∀ X, Fr No W1 X → X.cell? ⟨q, 15, none⟩ = some (.slice (some ⟨b7, o7, none⟩) nb k.cB) ∧ X.cell? ⟨q2, 0, none⟩ = some (.int .i64 t) ∧ X.cell? ⟨b7, o7 + t * 7, none⟩ = some (.slice A7 bs[t].params.length c7) ∧ X.cell? ⟨q, 14, none⟩ = some (.slice k.AV vals.length k.cV)) := hid fun X f => by
            have g := G1.out.fr f (fun x => x)
            have b := B1.out.fr f (fun x => x)
            have hb : b7 < W1.heap.size := Nat.lt_of_lt_of_le (HLT.out b7 hb7) FK1.out.size
            have b0 := b.cell 0
            rw [ht] at b0
            exact ⟨g.at_ C3', b0, (f.cell (p := ⟨b7, o7 + t * 7, none⟩) hb (fun x => x)).trans z0, g.at_ C2.out⟩
          replace HD := hid hD
          clear hD hpe HAL hA7 hb7 C3' z0 hr HP HMEM h0 x1 HPE
          generalize bs[t].params = ps at *
          clear htl
          generalize allT vals ps = o at *
          obtain ⟨np, hnp⟩ : ∃ n, ps.length = n := ⟨_, rfl⟩
          rw [hnp] at HX HC0 HPL HLN
          clear hnp
          go_upto_region 7 with fail
          clear x0 y14 y15
          refine wp_region_ord (Fr No W1) [] [(0, true), (1, true), (2, true), (3, true), (4, true), (5, true), (6, true), (7, true), (8, true), (9, true), (10, true), (11, false), (12, true), (13, true), (14, true), (15, true), (16, true)] (by kernel_rfl) (by kernel_rfl) (by kernel_rfl) rfl (Fr.refl _ W1).drew ?_
          repeat (first | refine oS ?_ | refine oX HX.out ?_)
          refine wpO_eff rfl rfl (fun K hK => ?_)
          simp only [zA]
          go_simp
          refine (HC0.out _ (FK1.out.drew)).mono ?_
          rintro ee Y1 ⟨A2, c2, rfl, hels2, f⟩
          have F2 := hid ((Fr.refl No W1).drew.trans f (fun _ _ h => h))
          have HE2 := hid hels2
          clear f hels2 HC0
          refine hK _ _ (fun _ => F2.out) ?_
          clear hK K
          repeat (first | refine oS ?_ | refine oX HX.out ?_)
          refine wpO_nil ?_
          have FK2 := hid (FK1.out.trans F2.out (fun _ _ h => h))
          have FL2 := hid (F1.out.trans F2.out (fun _ _ h => h))
          have G2 := hid (G1.out.fr F2.out (fun x => x))
          have B2 := hid (B1.out.fr F2.out (fun x => x))
          have hD := HD.out
          clear HX F2 G1 B1 HD F1 FK1
          cases o with
          | none =>
            dsimp only at hD
            have hR := HR.out
            rw [HNO.out hD] at hR
            subst hR
            simp only [Option.isSome_none]
            clear HR HNO HPN HTY hD HLN HE2
            go_wp2
            go_ret
            exact ⟨rfl, FK2.out⟩
          | some ts =>
            have hlt := HLN.out ts rfl
            simp only [Option.isSome_some, Option.getD_some] at *
            have HC := hid (HTY.out Y1 FK2.out A9 c9 e.args HELS.out HLE.out A2 c2 ts _ HE2.out (fun j hj => hj.2) (by have := HPL.out; omega))
            rw [HNA.out] at HC
            rw [← hD] at HC
            have yb1 := B2.out.cell 1
            clear HTY hD HLN HELS HE2
            generalize ts.length = nts at *
            clear hlt
            go_wp2_with (first | refine ldW Tryz.underlying73 HI.out (rangeL G2.out) HLEN.out ?_ | fail)
            refine HC.out.mono ?_
            rintro ee Y2 ⟨rfl, f⟩
            have FK3 := hid (FK2.out.trans f (fun _ _ h => h))
            have FL3 := hid (FL2.out.trans f (fun _ _ h => h))
            clear HC f yb1 G2 B2 FL2 FK2
            cases pe with
            | false =>
              have hR := HR.out
              rw [HNO.out rfl] at hR
              subst hR
              clear HR HNO HPN
              go_wp2
              go_ret
              exact ⟨rfl, FK3.out⟩
            | true =>
              have HPN2 := hid (HPN.out rfl)
              clear HNO HPN
              go_wp2
              go_roundw
              case rel => exact ⟨i + 1, by omega, by go_num, HPN2, FL3⟩
              case measure => simp [intOf]; omega
        · have d1 : decide ((nb : Int) ≤ t) = true := decide_eq_true (by omega)
          have d2 : decide (nb ≤ t) = true := decide_eq_true (by omega)
          have hr : isReal nb (t : Int) = false := by
            rw [Bool.eq_false_iff]
            intro h
            have := (isReal_iff.1 h).2
            omega
          rw [hr, Bool.false_and] at hD
          have hR := HR.out
          rw [HNO.out hD] at hR
          subst hR
          clear HR h0 hr hD HNO HPN HAL HTY
          go_wp2
          go_ret
          exact ⟨rfl, FK1.out⟩
    · have hin : i = n := by omega
      subst hin
      have hR := HR.out
      have hall : es.all pb = true := by
        rw [List.all_eq_true]
        intro t ht
        obtain ⟨j, hj, he⟩ := List.mem_iff_getElem.1 ht
        rw [← he]
        exact HPR.out j hj (by have := HN.out; omega)
      rw [hall] at hR
      subst hR
      clear HR HPR hall hgi
      go_wp2
      go_ret
      exact ⟨rfl, FK.out⟩
end Go.Proofs.YtiafkakkbbclhaaGreat
namespace Go.Proofs.YtiafkakkbbclhaaGreat
def FB (f : Fn) : Prop := f.params.length ≤ 20000000000000 ∧ f.results.length ≤ 20000000000000
def OFB (o : Option Fn) : Prop := ∀ f, o = some f → FB f
theorem FB.z : FB zFn := ⟨by decide, by decide⟩
theorem plainR_fb (op : Int) : OFB (plainR op) := by
  intro f h
  unfold plainR at h
  repeat' split at h
  all_goals first
    | (injection h with h; rw [← h]; exact ⟨by simp, by simp⟩)
    | cases h
theorem regR_fb (op k t : Int) (b1 b2 : Bool) : OFB (regR op k t b1 b2) := by
  intro f h
  unfold regR at h
  repeat' split at h
  all_goals first
    | (injection h with h; rw [← h]; exact ⟨by simp, by simp⟩)
    | cases h
theorem sigR_fb (op : Int) : OFB (sigR op) := by
  intro f h
  unfold sigR at h
  cases hp : plainR op with
  | none => rw [hp, Option.none_or] at h; exact regR_fb _ _ _ _ _ f h
  | some g => rw [hp, Option.some_or] at h; exact plainR_fb op f (hp.trans h)
theorem sigW_fb (op : Int) : FB (sigW op).1 := by
  unfold sigW
  cases h : sigR op with
  | none => exact FB.z
  | some f => exact sigR_fb op f h
section
variable {m : Md} (B : MdB m)
include B
theorem types_fb {f : Fn} (h : f ∈ m.types) : FB f := by
  have := B.lp f h
  exact ⟨by omega, by omega⟩
theorem atT_fb (i : Int) : FB (atD zFn m.types i).1 := by
  unfold atD
  split
  · exact types_fb B (List.getElem_mem _)
  · exact FB.z
theorem funcO_fb (i : Int) : OFB (funcO m i) := by
  intro f h
  unfold funcO optD at h
  split at h
  · injection h with h
    rw [← h]
    unfold funcD
    split
    · exact atT_fb B _
    · exact FB.z
  · cases h
theorem indW_fb (a b : Int) : FB (indW m a b).1 := by
  unfold indW
  cases h : typeO m a with
  | none => exact FB.z
  | some f =>
    have := h
    unfold typeO optD at this
    have hf : f.params.length * 8 ≤ 140737488351232 ∧ f.results.length * 8 ≤ 140737488351232 := by
      split at this
      · injection this with this
        rw [← this]
        unfold atD
        split
        · exact B.lp _ (List.getElem_mem _)
        · exact ⟨by decide, by decide⟩
      · cases this
    dsimp only
    repeat' split
    · exact FB.z
    · exact ⟨by simp only [List.length_append, List.length_singleton]; omega, by dsimp only; omega⟩
    · exact FB.z
theorem wantsW_fb (op a b : Int) : FB (wantsW m op a b).1 := by
  have hz : FB (badW 11).1 := FB.z
  have hS := sigW_fb op
  unfold wantsW
  split
  · unfold callW
    cases h : funcO m a with
    | none => exact FB.z
    | some f => exact funcO_fb B a f h
  split
  · exact indW_fb B a b
  split
  · unfold globW
    repeat' split
    all_goals first | exact FB.z | exact ⟨by simp, by simp⟩
  split
  · unfold tableW
    repeat' split
    all_goals first | exact FB.z | exact ⟨by simp, by simp⟩
  split
  · unfold twoW
    repeat' split
    all_goals first | exact hS | exact FB.z
  split
  · unfold edropW
    split
    · exact FB.z
    · exact hS
  split
  · unfold ddropW
    split
    · exact FB.z
    · exact hS
  unfold memW
  repeat' split
  all_goals first | exact hS | exact FB.z
theorem wantsO_fb (op a b n : Int) : OFB (wantsO m op a b n) := by
  intro f h
  unfold wantsO at h
  repeat' split at h
  · injection h with h; rw [← h]; exact wantsW_fb B op a b
  all_goals cases h
theorem typeT_fb (vals : List Int) (x : Si) : OFB (typeT m vals x) := by
  have hW := wantsO_fb B
  intro f h
  unfold typeT at h
  split at h
  · unfold plainO at h
    repeat' split at h
    all_goals first
      | (injection h with h; rw [← h]; exact ⟨by simp, by simp⟩)
      | cases h
  split at h
  · unfold numO at h
    cases hs : sigR x.op with
    | none => rw [hs] at h; cases h
    | some g =>
      rw [hs] at h
      dsimp only at h
      repeat' split at h
      all_goals first
        | (injection h with h; rw [← h]; exact sigR_fb _ _ hs)
        | cases h
  split at h
  · unfold numO at h
    cases hs : sigR x.op with
    | none => rw [hs] at h; cases h
    | some g =>
      rw [hs] at h
      dsimp only at h
      repeat' split at h
      all_goals first
        | (injection h with h; rw [← h]; exact sigR_fb _ _ hs)
        | cases h
  split at h
  · unfold mem39O at h
    repeat' split at h
    all_goals first
      | (injection h with h; rw [← h]; exact ⟨by simp, by simp⟩)
      | cases h
      | exact hW _ _ _ _ f h
  split at h
  · unfold named39O at h
    repeat' split at h
    all_goals first
      | (injection h with h; rw [← h]; exact ⟨by simp, by simp⟩)
      | cases h
      | exact hW _ _ _ _ f h
  split at h
  · unfold bulk39O at h
    repeat' split at h
    all_goals first
      | (injection h with h; rw [← h]; exact ⟨by simp, by simp⟩)
      | cases h
      | exact hW _ _ _ _ f h
  split at h
  · unfold fuelO at h
    repeat' split at h
    all_goals first
      | (injection h with h; rw [← h]; exact ⟨by simp, by simp⟩)
      | cases h
  · cases h
end
theorem typeT_param {m : Md} {vals : List Int} {x : Si} {f : Fn} (hk : x.kind = 0) (h : typeT m vals x = some f) : f.results.length = 1 ∧ 0 ≤ x.a := by
  unfold typeT at h
  rw [if_pos (.inl hk)] at h
  unfold plainO at h
  rw [if_pos hk] at h
  cases ho : ownO vals x with
  | none => rw [ho] at h; cases h
  | some t =>
    rw [ho] at h
    dsimp only at h
    split at h
    · cases h
    split at h
    · next h0 => injection h with h; rw [← h]; exact ⟨rfl, h0⟩
    · cases h
def insP (ps : List Int) (x : Si) (f : Fn) : Bool := x.kind != 0 || (decide (x.a < ps.length) && (ps.getD x.a.toNat 0 == f.results.getD 0 0))
def insB (m : Md) (vals ps : List Int) (x : Si) : Bool := match typeT m vals x with
  | none => false
  | some f => typedB vals x.args f.params && typedB vals x.outs f.results && insP ps x f
end Go.Proofs.YtiafkakkbbclhaaGreat
namespace Go.Proofs.YtiafkakkbbclhaaGreat
open Go.RowKit
theorem bxI (w : World) (lc : List Value) (D : Array Value) (U : TypeId) : Hid (Fr No w ((w.alloc (.cells lc.toArray 73)).alloc (.cells D U))) ∧ Hid (Blk ((w.alloc (.cells lc.toArray 73)).alloc (.cells D U)) w.heap.size 73 lc.toArray) ∧ Hid (Blk ((w.alloc (.cells lc.toArray 73)).alloc (.cells D U)) (w.heap.size + 1) U D) :=
  ⟨((Fr.refl No w).alloc _).alloc _, (Blk.new w _ _).alloc _, Blk.new1 w _ _ _⟩
theorem LW.params {w : World} {S : Nat → Prop} {lc mc : List Value} {m : Md} {k : Lk} {x : Sf} {im ds : List Int} {rb : List Bool} (h : LW w S lc mc m k x im ds rb) : tI.els w S k.AP x.type.params := by
  obtain ⟨AP, cP, _, _, _, _, _, _, hcs, -, -, hpe, -⟩ := Sf_cells h.fr_
  injection hcs with hcv _
  injection hcv with e1 _ _
  rw [e1]; exact hpe
theorem XW.lists {w : World} {S : Nat → Prop} {xc : List Value} {x : Si} (h : XW w S xc x) : ∃ (Aa : Option Addr) (ca : Nat) (Ao : Option Addr) (co : Nat), xc[5]? = some (.slice Aa x.args.length ca) ∧ xc[6]? = some (.slice Ao x.outs.length co) ∧ tI.els w S Aa x.args ∧ tI.els w S Ao x.outs := by
  obtain ⟨Aa, ca, Ao, co, rfl, _, _, _, _, _, _, _, h1, _, _, h2⟩ := Si_cells h.rd
  exact ⟨Aa, ca, Ao, co, rfl, rfl, h1, h2⟩
theorem range_take {w : World} {q : Nat} {lc mc : List Value} {n : Nat} (h : w.rangeAt q 0 lc) (e : lc.take n = mc) : w.rangeAt q 0 mc := by
  intro j v hj
  rw [← e, List.getElem?_take] at hj
  split at hj
  · exact h j v hj
  · cases hj
theorem ex_fn2 (f : Fn) : ∃ n m, f.params.length = n ∧ f.results.length = m := ⟨_, _, rfl, rfl⟩
theorem ins39_any {w : World} {S : Nat → Prop} {lc mc : List Value} {m : Md} {k : Lk} {x : Sf} {im ds : List Int} {rb : List Bool} (h : LW w S lc mc m k x im ds rb) (B : MdB m) (hd : m.datas ≤ 1000000000000) (hv : x.vals.length ≤ 140737488351232) (hp : x.type.params.length ≤ 140737488351232) {xc : List Value} {y : Si} (hy : XW w S xc y) (hyb : XB y) :
    Calls Tryz.prog 27 #[.agg lc.toArray, .agg xc.toArray] w (OvTo (insB m x.vals x.type.params y) w) := by
  obtain ⟨F0, G0, E0⟩ := bxI w lc xc.toArray 82
  obtain ⟨Aa, ca, Ao, co, e5, e6, ha, ho⟩ := hy.lists
  obtain ⟨e0, -, e2, -, -⟩ := hy.ints
  have hrng := hy.rng
  have HT := hid (fun (W : World) (f : Fr No w W) => type39_any (hy.fr f) (h.md.fr f) B hd ⟨LW.vals (h.fr f), fun j hj => Nat.lt_of_lt_of_le (h.md.lt j hj) f.size, hv⟩ hyb k.cV)
  have HTA := hid (fun (W : World) (f : Fr No w W) (A2 : Option Addr) (c2 : Nat) (ts : List Int) (S2 : Nat → Prop) (ht : tI.els W S2 A2 ts) (hs2 : ∀ j, S2 j → j < W.heap.size) (htl : ts.length ≤ 140737488351232) => typed_any (h.fr f) hv Aa ca y.args S (ha.fr f fun j hj => ⟨h.md.lt j hj, fun x => x⟩) (fun j hj => Nat.lt_of_lt_of_le (h.md.lt j hj) f.size) hyb.args A2 c2 ts S2 ht hs2 htl)
  have HTO := hid (fun (W : World) (f : Fr No w W) (A2 : Option Addr) (c2 : Nat) (ts : List Int) (S2 : Nat → Prop) (ht : tI.els W S2 A2 ts) (hs2 : ∀ j, S2 j → j < W.heap.size) (htl : ts.length ≤ 140737488351232) => typed_any (h.fr f) hv Ao co y.outs S (ho.fr f fun j hj => ⟨h.md.lt j hj, fun x => x⟩) (fun j hj => Nat.lt_of_lt_of_le (h.md.lt j hj) f.size) hyb.outs A2 c2 ts S2 ht hs2 htl)
  have HI : Hid ((Tryz.prog.info? 73).map (·.size) = some 19) := by unfold Hid; kernel_rfl
  have HLEN := hid h.len
  have HIX : Hid ((Tryz.prog.info? 82).map (·.size) = some 7) := by unfold Hid; kernel_rfl
  have HLX := hid hy.len
  have HIM : Hid ((Tryz.prog.info? 33).map (·.size) = some 12) := by unfold Hid; kernel_rfl
  have HLM := hid h.md.len
  have HMT := hid h.mt
  have HLT := hid h.md.lt
  have C0 := hid h.c0
  have C2 := hid h.c2
  have HPS := hid (LW.params h)
  generalize hR : insB m x.vals x.type.params y = R
  unfold insB at hR
  have HR := hid hR
  have HFB := hid (typeT_fb B x.vals y)
  have HPK := hid (fun (hk : y.kind = 0) (f : Fn) => typeT_param (m := m) (vals := x.vals) (f := f) hk)
  unfold OvTo SigTo at *
  clear h hR B hd hy hyb ha ho
  generalize typeT m x.vals y = o at *
  generalize x.vals = vals at *
  generalize x.type.params = ps at *
  obtain ⟨nv, hnv⟩ : ∃ n, vals.length = n := ⟨_, rfl⟩
  have HNV := hid hnv
  rw [hnv] at hv C2 HT
  clear hnv
  obtain ⟨np, hnp⟩ : ∃ n, ps.length = n := ⟨_, rfl⟩
  have HNP := hid hnp
  rw [hnp] at hp C0
  clear hnp
  have E0' := hid e0
  have E2' := hid e2
  have E5' := hid e5
  have E6' := hid e6
  clear e0 e2 e5 e6
  go_enter Tryz.func27, Tryz.ntmps27
  go_upto_region 1 with fail
  generalize (w.alloc (.cells lc.toArray 73)).alloc (.cells xc.toArray 82) = W0 at *
  obtain ⟨q, hq⟩ : ∃ q, w.heap.size = q := ⟨_, rfl⟩
  have HQ := hid hq
  rw [hq] at G0 E0 ⊢
  clear hq
  have y14 := G0.out.at_ C2.out
  have HC := hid (HT.out _ F0.out)
  clear HT
  go_wp2_with (first | refine ldG Tryz.underlying82 HIX.out (rangeL E0.out) HLX.out ?_ | refine ldG Tryz.underlying33 HIM.out (range_take (rangeL G0.out) HMT.out) HLM.out ?_ | fail)
  refine HC.out.mono ?_
  rintro e W1 ⟨A1, c1, A2, c2, rfl, ft, f⟩
  have F1 := hid (F0.out.trans f (fun _ _ h => h))
  have G1 := hid (G0.out.fr f (fun x => x))
  have E1 := hid (E0.out.fr f (fun x => x))
  have FT := hid ft
  have HSZ := hid f.size
  clear HC f ft y14 F0 G0 E0
  cases o with
  | none =>
    have hR := HR.out
    dsimp only at hR
    subst hR
    have e1 : (fnD none).params.length = 0 := rfl
    have e2 : (fnD none).results.length = 0 := rfl
    rw [e1, e2]
    simp only [Option.isSome_none]
    clear HTA HTO HR HPK HFB e1 e2
    have F2 := hid (F1.out.alloc (.cells #[.slice A1 0 c1, .slice A2 0 c2] 36))
    go_wp2
    go_ret
    exact ⟨rfl, F2.out⟩
  | some g =>
    have e1 : fnD (some g) = g := rfl
    rw [e1] at FT ⊢
    clear e1
    have hR := HR.out
    dsimp only at hR
    replace HR := hid hR
    have HB2 := hid (HFB.out g rfl)
    replace HPK := hid (fun hk => HPK.out hk g rfl)
    obtain ⟨n1, n2, hn1, hn2⟩ := ex_fn2 g
    have HN1 := hid hn1
    have HN2 := hid hn2
    have hb1 : n1 ≤ 20000000000000 := by have := HB2.out.1; omega
    have hb2 : n2 ≤ 20000000000000 := by have := HB2.out.2; omega
    rw [hn1, hn2]
    simp only [Option.isSome_some]
    clear hR HFB HB2 hn1 hn2
    have F2 := hid (F1.out.alloc (.cells #[.slice A1 n1 c1, .slice A2 n2 c2] 36))
    have FA := (Fr.refl No W1).alloc (.cells #[.slice A1 n1 c1, .slice A2 n2 c2] 36)
    have G2 := hid (G1.out.fr FA (fun x => x))
    have E2 := hid (E1.out.fr FA (fun x => x))
    have B2 := hid (Blk.new W1 36 #[.slice A1 n1 c1, .slice A2 n2 c2])
    have HQ2 := hid (fun k (hk : S k ∨ (W0.heap.size ≤ k ∧ k < W1.heap.size)) => (show k < W1.heap.size from hk.elim (fun h => Nat.lt_of_lt_of_le (HLT.out k h) F1.out.size) (fun h => h.2)))
    have HP2 := hid (FT.out.1.fr FA (fun k hk => ⟨HQ2.out k hk, fun x => x⟩))
    have HR2 := hid (FT.out.2.fr FA (fun k hk => ⟨HQ2.out k hk, fun x => x⟩))
    have HS2 := hid (fun k hk => Nat.lt_of_lt_of_le (HQ2.out k hk) FA.size)
    clear FA FT G1 E1
    have y5 := E2.out.at_ E5'.out
    have y6 := E2.out.at_ E6'.out
    have yb0 := B2.out.cell 0
    have yb1 := B2.out.cell 1
    have HC1 := hid (HTA.out _ F2.out A1 c1 g.params _ HP2.out HS2.out (by rw [HN1.out]; omega))
    rw [HN1.out] at HC1
    generalize typedB vals y.args g.params = t1 at *
    obtain ⟨q2, hq2⟩ : ∃ q, W1.heap.size = q := ⟨_, rfl⟩
    rw [hq2] at B2 yb0 yb1
    go_wp2_with (first | refine ldW Tryz.underlying73 HI.out (rangeL G2.out) HLEN.out ?_ | fail)
    clear hq2
    generalize W1.alloc (.cells #[.slice A1 n1 c1, .slice A2 n2 c2] 36) = W2 at *
    refine HC1.out.mono ?_
    rintro e W3 ⟨rfl, f⟩
    have F3 := hid (F2.out.trans f (fun _ _ h => h))
    have G3 := hid (G2.out.fr f (fun x => x))
    have E3 := hid (E2.out.fr f (fun x => x))
    have B3 := hid (B2.out.fr f (fun x => x))
    have HR3 := hid (HR2.out.fr f (fun k hk => ⟨HS2.out k hk, fun x => x⟩))
    have HS3 := hid (fun k hk => Nat.lt_of_lt_of_le (HS2.out k hk) f.size)
    clear HC1 f y5 y6 yb0 yb1 F2 G2 E2 B2 HR2 HP2 HS2 HTA
    cases t1 with
    | false =>
      have hR := HR.out
      simp only [Bool.false_and] at hR
      subst hR
      clear HR HTO HPK
      go_wp2
      go_ret
      exact ⟨rfl, F3.out⟩
    | true =>
      have hR := HR.out
      simp only [Bool.true_and] at hR
      replace HR := hid hR
      clear hR
      have y6 := E3.out.at_ E6'.out
      have yb1 := B3.out.cell 1
      have HC2 := hid (HTO.out _ F3.out A2 c2 g.results _ HR3.out HS3.out (by rw [HN2.out]; omega))
      rw [HN2.out] at HC2
      generalize typedB vals y.outs g.results = t2 at *
      go_wp2_with (first | refine ldW Tryz.underlying73 HI.out (rangeL G3.out) HLEN.out ?_ | fail)
      refine HC2.out.mono ?_
      rintro e W4 ⟨rfl, f⟩
      have F4 := hid (F3.out.trans f (fun _ _ h => h))
      have G4 := hid (G3.out.fr f (fun x => x))
      have E4 := hid (E3.out.fr f (fun x => x))
      have B4 := hid (B3.out.fr f (fun x => x))
      have HR4 := hid (HR3.out.fr f (fun k hk => ⟨HS3.out k hk, fun x => x⟩))
      clear HC2 f y6 yb1 F3 G3 E3 B3 HR3 HTO HS3
      cases t2 with
      | false =>
        have hR := HR.out
        simp only [Bool.false_and] at hR
        subst hR
        clear HR HPK
        go_wp2
        go_ret
        exact ⟨rfl, F4.out⟩
      | true =>
        have hR := HR.out
        simp only [Bool.true_and] at hR
        unfold insP at hR
        have y0 := E4.out.at_ E0'.out
        have y2 := E4.out.at_ E2'.out
        have yb1 := B4.out.cell 1
        by_cases hk : y.kind = 0
        · obtain ⟨hn1, ha0⟩ := HPK.out hk
          rw [HN2.out] at hn1
          subst hn1
          rw [hk] at hR y0
          obtain ⟨b2, o2, hA2, -, z2, -⟩ := ints_at HR4.out 0 (by rw [HN2.out]; decide)
          rw [hA2] at yb1
          rw [Nat.add_zero] at z2
          have hr0 : g.results.getD 0 0 = g.results[0]'(by rw [HN2.out]; decide) := getD_el _ _
          rw [hr0] at hR
          generalize g.results[0]'(by rw [HN2.out]; decide) = r0 at *
          obtain ⟨u, hu⟩ : ∃ u : Nat, y.a = u := ⟨y.a.toNat, by omega⟩
          rw [hu] at hR y2
          by_cases hlt : u < np
          · have d1 : decide ((u : Int) < np) = true := decide_eq_true (by omega)
            have hul : u < ps.length := by rw [HNP.out]; exact hlt
            rw [HNP.out, d1, Int.toNat_natCast, getD_el _ hul] at hR
            obtain ⟨b3, o3, hA3, hb3, z3, -⟩ := ints_at HPS.out u hul
            have C0' := C0.out
            rw [hA3] at C0'
            have y12 := G4.out.at_ C0'
            replace z3 := (F4.out.cell (p := ⟨b3, o3 + u, none⟩) (HLT.out b3 hb3) (fun x => x)).trans z3
            generalize ps[u] = pu at *
            simp only [bne_self_eq_false, Bool.false_or, Bool.true_and] at hR
            subst hR
            have j0 : (0 : Int) ≤ u := by omega
            have j1 : (u : Int) < np := by omega
            clear HR HPK hr0 hA2 hA3 ha0 hu hk hlt hul C0' HPS HR4 hb3
            go_wp2
            go_quiet (fail)
            go_wp2
            go_ret
            exact ⟨rfl, F4.out.drewN _⟩
          · have d1 : decide ((u : Int) < np) = false := decide_eq_false (by omega)
            rw [HNP.out, d1] at hR
            simp only [bne_self_eq_false, Bool.false_or, Bool.false_and] at hR
            subst hR
            have y12 := G4.out.at_ C0.out
            have j0 : (0 : Int) ≤ u := by omega
            have d2 : decide (u < np) = false := decide_eq_false hlt
            have k2 : ¬ (u : Int) < np := by omega
            clear HR HPK hr0 hA2 ha0 hu hk hlt HPS HR4
            go_wp2
            go_quiet (fail)
            go_wp2
            go_ret
            exact ⟨rfl, F4.out.drewN _⟩
        · have d0 : (y.kind == 0) = false := beq_eq_false_iff_ne.2 hk
          have d1 : (y.kind != 0) = true := by simp [bne, d0]
          rw [d1, Bool.true_or] at hR
          subst hR
          clear HR HPK
          go_wp2
          go_quiet (fail)
          go_wp2
          go_ret
          exact ⟨rfl, F4.out.drewN _⟩
end Go.Proofs.YtiafkakkbbclhaaGreat
namespace Go.Proofs.YtiafkakkbbclhaaGreat
def insAt (m : Md) (vals ps ds im : List Int) (rb : List Bool) (b : Nat) (x : Sb) (i : Nat) : Bool := match x.ins[i]? with
  | some y => insB m vals ps y && standB ds im rb b (outsP x i) y.args
  | none => true
def blockB (m : Md) (f : Sf) (ds im : List Int) (rb : List Bool) (b : Nat) (x : Sb) : Bool :=
  (allT f.vals x.params).isSome && (List.range x.ins.length).all (insAt m f.vals f.type.params ds im rb b x) && endB f.vals f.type.results x.end_.kind x.end_.cond x.end_.args x.end_.to.length x.end_.trap && edgesB f.vals f.blocks x.end_.to && standB ds im rb b (outsB x) (usedE x.end_)
def insPr (m : Md) (vals ps : List Int) (y : Si) : Prop := ∀ f, typeT m vals y = some f → insP ps y f = true
def endPr (vals rs : List Int) (kd cd : Int) (args : List Int) (nt : Nat) (tr : Int) : Prop := endB vals rs kd cd args nt tr = true
theorem insB_iff (m : Md) (vals ps : List Int) (y : Si) : insB m vals ps y = true ↔ (∃ f, typeT m vals y = some f ∧ typedB vals y.args f.params = true ∧ typedB vals y.outs f.results = true) ∧ insPr m vals ps y := by
  unfold insB insPr
  cases h : typeT m vals y with
  | none => simp
  | some f =>
    dsimp only
    rw [Bool.and_eq_true, Bool.and_eq_true]
    constructor
    · rintro ⟨⟨a, b⟩, c⟩
      exact ⟨⟨f, rfl, a, b⟩, fun g hg => by injection hg with hg; rw [← hg]; exact c⟩
    · rintro ⟨⟨g, hg, a, b⟩, c⟩
      injection hg with hg
      subst hg
      exact ⟨⟨a, b⟩, c f rfl⟩
theorem insV_iff {T : Si → Option Fn} {vals : List Int} {P : Si → Prop} {bs : List Sb} {b : Nat} : ∀ {l : List Si} {here : List Int}, InsV T vals P bs b here l ↔ ∀ i (h : i < l.length), (∃ f, T l[i] = some f ∧ typedB vals l[i].args f.params = true ∧ typedB vals l[i].outs f.results = true) ∧ P l[i] ∧ ∀ v ∈ l[i].args, Stnd vals bs b (here ++ (l.take i).flatMap (·.outs)) v
  | [], here => by simp [InsV]
  | y :: r, here => by
    unfold InsV
    rw [insV_iff (l := r)]
    constructor
    · rintro ⟨a, p, s, k⟩ i hi
      cases i with
      | zero => exact ⟨a, p, by simpa using s⟩
      | succ i =>
        have := k i (by simpa using hi)
        simpa [List.append_assoc] using this
    · intro k
      have h0 := k 0 (by simp)
      refine ⟨h0.1, h0.2.1, by simpa using h0.2.2, fun i hi => ?_⟩
      have := k (i + 1) (by simpa using hi)
      simpa [List.append_assoc] using this
theorem allT_isSome {vals l : List Int} : (allT vals l).isSome = true ↔ ∀ v ∈ l, inR vals v := by
  unfold allT
  split
  · next h => exact ⟨fun _ => h, fun _ => rfl⟩
  · next h => exact ⟨fun h' => by simp at h', fun h' => absurd h' h⟩
theorem blockB_iff {m : Md} {f : Sf} {rb : List Bool} (hr : ∀ k : Nat, rb[k]? = some true ↔ Rch (nextOf f.blocks) (fun _ => False) k) {b : Nat} (hb : b < f.blocks.length) (x : Sb) :
    blockB m f (defL f.blocks f.vals.length) (idomF (nextOf f.blocks)) rb b x = true ↔ BlkV (typeT m f.vals) f.vals (insPr m f.vals f.type.params) (endPr f.vals f.type.results) f.blocks b x := by
  have hI : (List.range x.ins.length).all (insAt m f.vals f.type.params (defL f.blocks f.vals.length) (idomF (nextOf f.blocks)) rb b x) = true ↔ InsV (typeT m f.vals) f.vals (insPr m f.vals f.type.params) f.blocks b x.params x.ins := by
    rw [insV_iff, List.all_eq_true]
    have e : ∀ i (hi : i < x.ins.length), insAt m f.vals f.type.params (defL f.blocks f.vals.length) (idomF (nextOf f.blocks)) rb b x i = true ↔ ((∃ g, typeT m f.vals x.ins[i] = some g ∧ typedB f.vals x.ins[i].args g.params = true ∧ typedB f.vals x.ins[i].outs g.results = true) ∧ insPr m f.vals f.type.params x.ins[i] ∧ ∀ v ∈ x.ins[i].args, Stnd f.vals f.blocks b (x.params ++ (x.ins.take i).flatMap (·.outs)) v) := fun i hi => by
      unfold insAt
      rw [List.getElem?_eq_getElem hi]
      dsimp only
      rw [Bool.and_eq_true, insB_iff, standB_iff hr hb, and_assoc]
      rfl
    exact ⟨fun h i hi => (e i hi).1 (h i (List.mem_range.2 hi)), fun h i hi => (e i (List.mem_range.1 hi)).2 (h i (List.mem_range.1 hi))⟩
  unfold blockB
  rw [Bool.and_eq_true, Bool.and_eq_true, Bool.and_eq_true, Bool.and_eq_true, hI, allT_isSome, edgesB_iff, standB_iff hr hb]
  exact ⟨fun ⟨⟨⟨⟨a, b⟩, c⟩, d⟩, e⟩ => ⟨a, b, c, d, e⟩, fun ⟨a, b, c, d, e⟩ => ⟨⟨⟨⟨a, b⟩, c⟩, d⟩, e⟩⟩
def checkB (m : Md) (f : Sf) : Prop := wholeB f = true ∧ FormV (typeT m f.vals) f.vals (insPr m f.vals f.type.params) (endPr f.vals f.type.results) f.blocks
end Go.Proofs.YtiafkakkbbclhaaGreat
