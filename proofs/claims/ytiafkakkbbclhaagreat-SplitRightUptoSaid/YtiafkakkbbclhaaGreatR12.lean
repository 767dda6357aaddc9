/- For every input SplitRight returns true, part 12: what the proof rests on. Condition: the arguments are of bulk at most 1048576. -/
import Derived.Test.YtiafkakkbbclhaaGreatR11
import Derived.BigQuiet
set_option maxRecDepth 100000
set_option maxHeartbeats 12800000
set_option linter.unusedVariables false
set_option linter.unusedSimpArgs false
set_option linter.unusedSectionVars false
namespace Go.Proofs.YtiafkakkbbclhaaGreat
open Go.RowKit
theorem elBools : ElemOk Tryz.prog 70 4 1 1 (.bool false) := ElemOk.mk' Tryz.underlying70 (by kernel_rfl) rfl (by decide)
def Bs (w : World) (q : Nat) (l : List Bool) : Prop := Blk w q 4 (l.map Value.bool).toArray
theorem Bs.cell {w : World} {q : Nat} {l : List Bool} (h : Bs w q l) {k : Nat} (hk : k < l.length) : w.cell? ⟨q, k, none⟩ = some (.bool l[k]) := by
  rw [Blk.cell (t := 4) (cs := (l.map Value.bool).toArray) h k]
  simp [hk]
theorem Bs.frozen {w : World} {q : Nat} {l : List Bool} (h : Bs w q l) (k : Nat) : w.frozen? ⟨q, k, none⟩ = false := Blk.frozen (t := 4) (cs := (l.map Value.bool).toArray) h k
theorem Bs.lt {w : World} {q : Nat} {l : List Bool} (h : Bs w q l) : q < w.heap.size := Blk.lt (t := 4) (cs := (l.map Value.bool).toArray) h
theorem Bs.fr {w w' : World} {M : Nat → Prop} {q : Nat} {l : List Bool} (h : Bs w q l) (f : Fr M w w') (hq : ¬ M q) : Bs w' q l := Blk.fr (t := 4) (cs := (l.map Value.bool).toArray) h f hq
theorem Bs.set {w : World} {q : Nat} {l : List Bool} (h : Bs w q l) (k : Nat) (b : Bool) : Bs (w.setCell ⟨q, k, none⟩ (.bool b)) q (l.set k b) := by
  have := Blk.set_ (t := 4) (cs := (l.map Value.bool).toArray) h k (.bool b)
  unfold Bs
  rw [List.setIfInBounds_toArray, ← List.map_set] at this
  exact this
theorem Bs.new (w : World) (n : Nat) : Bs (w.alloc (.cells (Array.replicate n (.bool false)) 4)) w.heap.size (List.replicate n false) := by
  have := Blk.new w 4 (Array.replicate n (.bool false))
  unfold Bs
  rw [List.map_replicate, List.toArray_replicate]
  exact this
theorem Bs.els {w : World} {q B : Nat} {l : List Bool} (h : Bs w q l) (hB : B ≤ q) : Ty.bool.els w (fun k => B ≤ k ∧ k < w.heap.size) (some ⟨q, 0, none⟩) l := by
  refine blk_els (t := Ty.bool) (css := l.map fun b => [Value.bool b]) (e := 4) ?_ ⟨hB, h.lt⟩ (css_map fun x hx => rfl)
  have e : ∀ l : List Bool, (l.map fun b => [Value.bool b]).flatten = l.map Value.bool := fun l => by induction l with
    | nil => rfl
    | cons a l ih => simp [ih]
  rw [e]; exact h
def isF : Value → Bool
  | .bool false => true
  | _ => false
def mWv (q : Nat) (v : Value) (w : World) : Nat := 2 * (match w.heap[q]? with | some (.cells cs _ _) => cs.toList.countP isF | _ => 0) + (match v with | .slice _ n _ => n | _ => 0)
theorem mWv_eq {w : World} {q : Nat} {l : List Bool} {td : List Nat} {A : Option Addr} {c : Nat} (h : Bs w q l) : mWv q (.slice A td.length c) w = mW l td := by
  unfold Bs Blk at h
  unfold mWv mW
  rw [h]
  dsimp only
  congr 2
  rw [List.countP_map, List.count]
  congr 1
  funext b
  cases b <;> rfl
theorem WkI.todo_le {nx : List (List Int)} {W : Nat → Prop} {seen : List Bool} {todo : List Nat} {cur : Option (Nat × Nat)} (H : WkI nx W seen todo cur) : todo.length ≤ nx.length := by
  have h1 : todo ⊆ List.range nx.length := fun k hk => List.mem_range.2 ((H.sound k (H.tds k hk)).lt)
  have := List.Nodup.length_le_of_subset H.nd h1
  simpa using this
def ntI (l : List Nat) : List Int := l.map fun (k : Nat) => (k : Int)
theorem ntI_len (l : List Nat) : (ntI l).length = l.length := by simp [ntI]
theorem row_pop {w : World} {base : Nat} {e : TypeId} {A : Option Addr} {n c : Nat} {l : List Int} {x : Int} (h : tI.row w base Emp e (.slice A (n + 1) c) (l ++ [x])) (hn : l.length = n) : tI.row w base Emp e (.slice A n c) l := by
  obtain ⟨css, h1, h2⟩ := h
  subst hn
  have hl := h1.1
  rw [List.length_append, List.length_singleton] at hl
  have hcl : css.flatten.length = (l.length + 1) * 1 := by rw [h1.len]; simp [Ty.int]
  have hd : css.dropLast.flatten = css.flatten.take l.length := by
    have h3 : css.dropLast.flatten.length = l.length := by
      have : Css tI w Emp css.dropLast l := ⟨by rw [List.length_dropLast]; omega, fun i c x e1 e2 => by
        have hi := (List.getElem?_eq_some_iff.1 e2).1
        rw [List.getElem?_dropLast, if_pos (by omega)] at e1
        exact h1.2 i c x e1 (by rw [List.getElem?_append_left hi]; exact e2)⟩
      rw [this.len]; simp [Ty.int]
    have h4 : css.flatten = css.dropLast.flatten ++ (css.getLast (by intro hz; rw [hz] at hl; simp at hl)) := by
      conv => lhs; rw [← List.dropLast_concat_getLast (l := css) (by intro hz; rw [hz] at hl; simp at hl)]
      simp
    rw [h4, List.take_append_of_le_length (by omega), List.take_of_length_le (by omega)]
  refine ⟨css.dropLast, ⟨by rw [List.length_dropLast]; omega, fun i c x e1 e2 => ?_⟩, ?_⟩
  · have hi := (List.getElem?_eq_some_iff.1 e2).1
    rw [List.getElem?_dropLast, if_pos (by omega)] at e1
    exact h1.2 i c x e1 (by rw [List.getElem?_append_left hi]; exact e2)
  · rw [hd]
    rcases h2.2 with ⟨hv, h0⟩ | ⟨g, cap, cur, hv, hb, hg, k1, k2, k3, k4⟩
    · injection hv with _ h5 _
      omega
    · injection hv with e1 e2 e3
      subst e1 e3
      refine ⟨by rw [List.length_take, hcl]; simp [Ty.int], .inr ⟨g, c, cur, rfl, hb, hg, ?_, k2, k3, ?_⟩⟩
      · rw [List.length_append] at k1; simp at k1; omega
      · rw [← k4, List.take_take, List.length_append]
        congr 1
        simp [Ty.int]
structure Rea (w : World) (q : Nat) (nx : List (List Int)) (W : Nat → Prop) (cur : Option (Nat × Nat)) (M : Nat) (v : Value) (wr : World) (sn : List Bool) (td : List Nat) (A : Option Addr) (c : Nat) : Prop where
  v : v = .slice A td.length c
  b : Bs wr q sn
  r : tI.row wr (q + 1) Emp 3 (.slice A td.length c) (ntI td)
  f : Fr No w wr
  h : WkI nx W sn td cur
  m : mW sn td ≤ M
def ReaTo (nx : List (List Int)) (W : Nat → Prop) (w : World) (e : Ending) (w' : World) : Prop :=
  ∃ (A : Option Addr) (c : Nat) (l : List Bool), e = .returned (.slice A l.length c) ∧ l.length = nx.length ∧ (∀ k, l[k]? = some true ↔ Rch nx W k) ∧ Ty.bool.els w' (fun k => w.heap.size ≤ k ∧ k < w'.heap.size) A l ∧ Fr No w w'
theorem rows_at {w : World} {S : Nat → Prop} {A : Option Addr} {ls : List (List Int)} (h : tI.slice.els w S A ls) (k : Nat) (hk : k < ls.length) : ∃ (b o : Nat) (A' : Option Addr) (c' : Nat), A = some ⟨b, o, none⟩ ∧ S b ∧ w.cell? ⟨b, o + k, none⟩ = some (.slice A' ls[k].length c') ∧ tI.els w S A' ls[k] ∧ ls[k].length ≤ 9223372036854775807 := by
  obtain ⟨b, o, ds, rfl, hb, hc, A', c', rfl, h1, h2, he⟩ := h.at_ k hk
  have := hc 0 _ rfl
  have e : (Ty.slice tI).size = 1 := rfl
  rw [e, Nat.mul_one, Nat.add_zero] at this
  simp only [maxLen] at h2
  exact ⟨b, o, A', c', rfl, hb, this, he, by omega⟩
theorem reached_any (A0 : Option Addr) (c0 : Nat) (nx : List (List Int)) (u : Int) (S : Nat → Prop) (w : World) (h : tI.slice.els w S A0 nx) (hS : ∀ k, S k → k < w.heap.size) (hn : nx.length ≤ 100000) :
    Calls Tryz.prog 36 #[.slice A0 nx.length c0, .int .i64 u] w (ReaTo nx (fun k => (k : Int) = u) w) := by
  have HE := hid h
  have hbl := hid hS
  clear h hS
  unfold ReaTo
  have HLEN : Hid (∀ (seen : List Bool) (todo : List Nat) cur, WkI nx (fun k => (k : Int) = u) seen todo cur → seen.length = nx.length) := hid fun _ _ _ H => H.len
  have HTL : Hid (∀ (seen : List Bool) (todo : List Nat) cur, WkI nx (fun k => (k : Int) = u) seen todo cur → todo.length ≤ nx.length) := hid fun _ _ _ H => H.todo_le
  have H00 := hid (fun hh => WkI.start0 (nx := nx) (W := fun k : Nat => (k : Int) = u) hh)
  have H01 := hid (fun h1 h2 => WkI.start1 (nx := nx) (W := fun k : Nat => (k : Int) = u) h1 h2)
  obtain ⟨n, hnn⟩ : ∃ n, nx.length = n := ⟨_, rfl⟩
  have HN := hid hnn
  rw [hnn] at hn HLEN HTL H00 H01 ⊢
  clear hnn
  have F0 := hid ((Fr.refl No w).alloc (.cells (Array.replicate n (.bool false)) 4))
  have B0 := hid (Bs.new w n)
  have hmk := fun W => run_mk elBools rfl W .i64 .i64 n (by omega) (by omega)
  go_enter Tryz.func36, Tryz.ntmps36
  go_upto_region 3 with fail
  clear hmk
  generalize w.alloc (.cells (Array.replicate n (.bool false)) 4) = W0 at *
  have hqlt := B0.out.lt
  obtain ⟨q, hq⟩ : ∃ q, w.heap.size = q := ⟨_, rfl⟩
  have HQ := hid hq
  rw [hq] at B0 hqlt ⊢
  clear hq
  obtain ⟨cb, hcb⟩ : ∃ cb : Bool, cb = (decide (0 < n) && !(u == 0)) := ⟨_, rfl⟩
  go_cut [19] (fun v wx => v = .bool cb ∧ W0 = wx)
  case first =>
    by_cases h1 : 0 < n
    · have i1 : (0 : Int) < n := by omega
      cases h2 : (u == 0) with
      | true =>
        rw [h2] at hcb
        simp [h1] at hcb
        subst hcb
        go_wp2_with fail
        go_meet
        case rel => exact ⟨by simp [bne, h2], rfl⟩
      | false =>
        rw [h2] at hcb
        simp [h1] at hcb
        subst hcb
        go_wp2_with fail
        go_meet
        case rel => exact ⟨by simp [bne, h2], rfl⟩
    · simp [h1] at hcb
      subst hcb
      go_wp2_with fail
      go_meet
      case rel => exact ⟨rfl, rfl⟩
  case rest =>
    obtain ⟨rfl, rfl⟩ := hcut
    go_upto_if 19 with fail
    go_cut [6] (fun v6 wx => ∃ sn td A c, Rea w q nx (fun k => (k : Int) = u) none (2 * n + 1) v6 wx sn td A c)
    case first =>
      cases cb with
      | true =>
        have hcb1 : 0 < n ∧ ¬ u = 0 := by
          have := hcb.symm
          simpa using this
        obtain ⟨h1, h2⟩ := hcb1
        have HK := hid (H01.out h1 (fun h => h2 (by simpa using h.symm)))
        have B1 := hid (B0.out.set 0 true)
        have z1 : W0.cell? ⟨q, 0, none⟩ = some (.bool false) := by rw [B0.out.cell (k := 0) (by simpa using h1)]; simp
        have z2 := B0.out.frozen 0
        have i1 : (0 : Int) < n := by omega
        have FZ := hid (F0.out.setCell ⟨q, 0, none⟩ (.bool true) (fun hlt => by simp only at hlt; rw [HQ.out] at hlt; omega))
        have hsz : (W0.setCell ⟨q, 0, none⟩ (.bool true)).heap.size = W0.heap.size := by simp [World.setCell]
        have FL := (Fr.refl No (W0.setCell ⟨q, 0, none⟩ (.bool true))).alloc (.cells #[.int .i64 0] 3)
        have BL := hid (Blk.new (W0.setCell ⟨q, 0, none⟩ (.bool true)) 3 #[.int .i64 0])
        have B2 := hid (B1.out.fr FL (fun x => x))
        have FZL := hid (FZ.out.trans FL (fun _ _ h => h))
        have hsz2 : q + 1 ≤ ((W0.setCell ⟨q, 0, none⟩ (.bool true)).alloc (.cells #[.int .i64 0] 3)).heap.size := by have := B2.out.lt; omega
        rw [hsz] at BL
        clear h2 hcb H00 H01 FL
        go_wp2_with (at_builtin; refine wpList_appC (t := tI) (base := q + 1) (S := Emp) (xs := []) (ys := [0]) (dss := [[.int .i64 0]]) (B2 := ((W0.setCell ⟨q, 0, none⟩ (.bool true)).alloc (.cells #[.int .i64 0] 3)).heap.size) elInts rfl rfl rfl rfl (Ty.row.nil _ _ _ _) (Css.one (int_mk (by decide))) (by simpa using Rd.blk BL.out BL.out.lt 0 (xs := [.int .i64 0]) (fun i u h => by rw [Nat.zero_add]; simpa using h)) rfl (by simp) (by simp) (fun _ h => h.elim) hsz2 ?_; intro v8 wy hr8 fr1 hv8; have RY := hid hr8; have FY := hid fr1; clear hr8 fr1 hv8)
        have F2 := FZL.out.trans FY.out (fun i hi h => by cases h)
        have B3 := B2.out.fr FY.out (fun h => by cases h)
        obtain ⟨A8, c8, e8, _, _, _⟩ := RY.out.els (S' := fun _ => True) (fun _ _ => trivial) (fun _ _ => trivial)
        subst e8
        go_meet
        case rel => exact ⟨_, [0], A8, c8, rfl, B3, RY.out, F2, HK.out, by unfold mW; have := List.count_le_length (a := false) (l := (List.replicate n false).set 0 true); simp at this ⊢; omega⟩
      | false =>
        have HK := hid (H00.out (fun ⟨h1, h2⟩ => by
          have h3 : ¬ u = 0 := fun h => h2 (by simp [h])
          have := hcb.symm
          simp [h1, h3] at this))
        clear hcb H00 H01
        go_wp2_with fail
        go_meet
        case rel => exact ⟨_, [], none, 0, rfl, B0.out, Ty.row.nil _ _ _ _, F0.out, HK.out, by unfold mW; have := List.count_le_length (a := false) (l := List.replicate n false); simp at this ⊢⟩
    case rest =>
      clear B0 F0 hqlt H00 H01 hcb
      have HHC := hid hcut
      clear hcut
      go_wp2_with fail
      go_loopw [6] (fun v6 wr => ∃ sn td A c, Hid (Rea w q nx (fun k => (k : Int) = u) none (2 * n + 1) v6 wr sn td A c)) (fun v6 wr => mWv q v6 wr)
      case atStart => exact HHC.out
      case round =>
        clear HHC
        obtain ⟨sn, td, A, c, HR⟩ := hrel
        have hv := HR.out.v
        subst hv
        have HBW := hid (mWv_eq (A := A) (c := c) (td := td) HR.out.b)
        have htl := HTL.out _ _ _ HR.out.h
        have hsl := HLEN.out _ _ _ HR.out.h
        by_cases hemp : td = []
        · subst hemp
          have HAL := hid (fun k => HR.out.h.all k)
          have HBE := hid (HR.out.b.els (B := w.heap.size) (by have := HQ.out; omega))
          have FR := hid HR.out.f
          clear HBW htl HR
          go_wp2
          go_ret
          exact ⟨some ⟨q, 0, none⟩, n, sn, by rw [hsl]; rfl, hsl, HAL.out, HBE.out, FR.out⟩
        · obtain ⟨td0, a, rfl⟩ : ∃ td0 a, td = td0 ++ [a] := ⟨td.dropLast, td.getLast hemp, (List.dropLast_concat_getLast hemp).symm⟩
          obtain ⟨k, hk⟩ : ∃ k, td0.length = k := ⟨_, rfl⟩
          have HK := hid hk
          have hlen : (td0 ++ [a]).length = k + 1 := by simp [hk]
          rw [hlen] at htl ⊢
          have HWP := hid (mW_pop (seen := sn) (todo := td0) (a := a))
          have HP := hid HR.out.h.pop
          have FR := hid HR.out.f
          have HB := hid HR.out.b
          have HRow := HR.out.r
          rw [hlen] at HRow
          have hni : ntI (td0 ++ [a]) = ntI td0 ++ [(a : Int)] := by simp [ntI]
          rw [hni] at HRow
          have hM := HR.out.m
          have HRow2 := hid (row_pop HRow (by rw [ntI_len, hk]))
          have hkc : k ≤ c := by
            obtain ⟨A9, c9, e9, h9, -, -⟩ := HRow.els (S' := fun _ => True) (fun _ _ => trivial) (fun _ _ => trivial)
            injection e9 with _ _ e9
            rw [List.length_append, ntI_len, List.length_singleton, hk] at h9
            omega
          obtain ⟨b, o, hA, -, z0, -⟩ := ints_at (HRow.els' (S' := fun _ => True) (fun _ _ => trivial) (fun _ _ => trivial)) k (by rw [List.length_append, ntI_len, hk]; simp)
          have hget : (ntI td0 ++ [(a : Int)])[k]'(by rw [List.length_append, ntI_len, hk]; simp) = (a : Int) := by
            rw [List.getElem_append_right (by rw [ntI_len]; omega)]; simp
          rw [hget] at z0
          subst hA
          rw [hlen] at HBW
          have ha : a < nx.length := ((HR.out.h.sound a (HR.out.h.tds a (by simp))).lt)
          obtain ⟨b2, o2, Aa, ca, hA2, hb2, y0, hrow, hml⟩ := rows_at HE.out a ha
          subst hA2
          have hbb2 := hbl.out b2 hb2
          have HROW := hid hrow
          have hya : Hid (∀ X, Fr No wr X ∨ True → True) := hid (fun _ _ => trivial)
          have HLA : Hid (nx[a]? = some nx[a]) := hid (List.getElem?_eq_getElem ha)
          generalize nx[a] = l at *
          obtain ⟨m, hm⟩ : ∃ m, l.length = m := ⟨_, rfl⟩
          have HM := hid hm
          rw [hm] at y0 hml
          have ha2 : a < n := by have := HN.out; omega
          have i0 : (0 : Int) ≤ a := by omega
          have i1 : (a : Int) < n := by omega
          clear hemp hk hlen hni hget HRow hm hrow hya HR
          have HAQ : Hid (mW sn td0 + 1 ≤ 2 * n + 1) := hid (by have := HWP.out; omega)
          have HPR : Hid (Rea w q nx (fun k => (k : Int) = u) (some (a, 0)) (mW sn td0) (.slice (some ⟨b, o, none⟩) k c) wr sn td0 (some ⟨b, o, none⟩) c) := hid ⟨by rw [HK.out], HB.out, by rw [HK.out]; exact HRow2.out, FR.out, HP.out, Nat.le_refl _⟩
          obtain ⟨M0, hM0⟩ : ∃ M0, mW sn td0 = M0 := ⟨_, rfl⟩
          rw [hM0] at HPR HAQ HWP
          have HM0 := hid hM0
          have y1 := (FR.out.cell (p := ⟨b2, o2 + a, none⟩) hbb2 (fun x => x)).trans y0
          clear HB HP HRow2 hM hM0
          go_upto_region 8 with fail
          go_upto_region 9 with fail
          clear z0 y1
          clear FR
          go_wp2_with fail
          go_loopw [6, 8] (fun v6 v8 wr2 => ∃ i sn td A c, v8 = .int .i64 (i : Nat) ∧ i ≤ m ∧ Hid (Rea w q nx (fun k => (k : Int) = u) (some (a, i)) M0 v6 wr2 sn td A c)) (fun _ v8 _ => m - (intOf v8).toNat)
          case atStart => exact ⟨0, _, _, _, _, rfl, by omega, HPR⟩
          case round =>
            clear HPR htl
            obtain ⟨i, sn2, td2, A2, c2, rfl, hi, HR2⟩ := hrel
            have hv2 := HR2.out.v
            subst hv2
            have FR2 := hid HR2.out.f
            have y1 := (FR2.out.cell (p := ⟨b2, o2 + a, none⟩) hbb2 (fun x => x)).trans y0
            have hsl2 := HLEN.out _ _ _ HR2.out.h
            by_cases hgo : i < m
            · have hil : i < l.length := by have := HM.out; omega
              obtain ⟨b3, o3, hA3, hb3, z2, hwf⟩ := ints_at HROW.out i hil
              subst hA3
              have z3 := (FR2.out.cell (p := ⟨b3, o3 + i, none⟩) (hbl.out b3 hb3) (fun x => x)).trans z2
              have HT : Hid (l[i]? = some l[i]) := hid (List.getElem?_eq_getElem hil)
              clear z2
              generalize l[i] = t at *
              have j0 : (0 : Int) ≤ i := by omega
              have j1 : (i : Int) < m := by omega
              have HLR := hid HROW.out
              clear hil
              by_cases h0 : 0 ≤ t
              · obtain ⟨e, rfl⟩ : ∃ e : Nat, t = e := ⟨t.toNat, by omega⟩
                by_cases h1 : e < n
                · have k1 : (e : Int) < n := by omega
                  by_cases h2 : (e : Int) = u
                  · have HS := hid (HR2.out.h.skip HLA.out HT.out (fun b hb _ hw => absurd (by rw [← hb]; exact h2) hw))
                    have HX := hid (HR2.out.b)
                    have HY := hid (HR2.out.r)
                    have HZ := hid (HR2.out.m)
                    have d2 : ((e : Int) != u) = false := by simp [h2]
                    clear HR2 h2
                    go_wp2
                    go_roundw
                    case rel => exact ⟨i + 1, sn2, td2, A2, c2, by go_num, by omega, hid ⟨rfl, HX.out, HY.out, FR2.out, HS.out, HZ.out⟩⟩
                    case measure => simp [intOf]; omega
                  · have d2 : ((e : Int) != u) = true := by simpa using h2
                    have hel : e < sn2.length := by rw [hsl2]; exact h1
                    have z5 := HR2.out.b.cell hel
                    have z6 := HR2.out.b.frozen e
                    have HQS : Hid (sn2[e]? = some sn2[e]) := hid (List.getElem?_eq_getElem hel)
                    cases hse : sn2[e] with
                    | true =>
                      rw [hse] at z5 HQS
                      have HS := hid (HR2.out.h.skip HLA.out HT.out (fun b hb _ _ => by have hh : e = b := (by omega); subst hh; exact HQS.out))
                      have HX := hid (HR2.out.b)
                      have HY := hid (HR2.out.r)
                      have HZ := hid (HR2.out.m)
                      clear HR2 hse h2 z6 hel
                      go_wp2
                      go_roundw
                      case rel => exact ⟨i + 1, sn2, td2, A2, c2, by go_num, by omega, hid ⟨rfl, HX.out, HY.out, FR2.out, HS.out, HZ.out⟩⟩
                      case measure => simp [intOf]; omega
                    | false =>
                      rw [hse] at z5 HQS
                      have HS := hid (HR2.out.h.push HLA.out HT.out (by have := HN.out; omega) h2 HQS.out)
                      have HX := hid (HR2.out.b)
                      have HY := hid (HR2.out.r)
                      have HZ := hid (HR2.out.m)
                      have htl2 := HTL.out _ _ _ HR2.out.h
                      clear HR2 hse h2 hel
                      have HMP := hid (mW_push (todo := td2) HQS.out)
                      have B1 := hid (HX.out.set e true)
                      have FZ := hid (FR2.out.setCell ⟨q, e, none⟩ (.bool true) (fun hlt => by simp only at hlt; rw [HQ.out] at hlt; omega))
                      have hsz : (wr.setCell ⟨q, e, none⟩ (.bool true)).heap.size = wr.heap.size := by simp [World.setCell]
                      have FM := (Fr.refl (fun k => k = q) wr).setCell ⟨q, e, none⟩ (.bool true) (fun _ => rfl)
                      have FL := (Fr.refl No (wr.setCell ⟨q, e, none⟩ (.bool true))).alloc (.cells #[.int .i64 e] 3)
                      have BL := hid (Blk.new (wr.setCell ⟨q, e, none⟩ (.bool true)) 3 #[.int .i64 e])
                      have B2 := hid (B1.out.fr FL (fun x => x))
                      have FZL := hid (FZ.out.trans FL (fun _ _ h => h))
                      have RL := hid ((HY.out.fr FM (fun _ h => h.elim) (fun g hg hgq => by
                        have h1 := (HY.out.own hg).1
                        have h2 : g = q := hgq
                        omega)).fr FL (fun _ h => h.elim) (fun _ _ x => x))
                      have hqw := HX.out.lt
                      have hsz2 : q + 1 ≤ ((wr.setCell ⟨q, e, none⟩ (.bool true)).alloc (.cells #[.int .i64 e] 3)).heap.size := by have := B2.out.lt; omega
                      rw [hsz] at BL
                      clear FL FM HX HY
                      have HNL := hid (ntI_len td2)
                      have hni : ntI (td2 ++ [e]) = ntI td2 ++ [(e : Int)] := by simp [ntI]
                      have HNI := hid hni
                      clear hni
                      go_wp2_with (at_builtin; refine wpList_appC (t := tI) (base := q + 1) (S := Emp) (xs := ntI td2) (ys := [(e : Int)]) (dss := [[.int .i64 e]]) (B2 := ((wr.setCell ⟨q, e, none⟩ (.bool true)).alloc (.cells #[.int .i64 e] 3)).heap.size) elInts rfl rfl rfl rfl RL.out (Css.one (int_mk hwf)) (by simpa using Rd.blk BL.out BL.out.lt 0 (xs := [.int .i64 e]) (fun i u h => by rw [Nat.zero_add]; simpa using h)) rfl (by rw [HNL.out]; omega) (by rw [HNL.out]; omega) (fun _ h => h.elim) hsz2 ?_; intro v8 wy hr8 fr1 hv8; have FY := hid (own_frame RL.out FZL.out fr1 (by have := HQ.out; omega)); have BY := hid (B2.out.fr fr1 (fun h => by have h1 := (RL.out.own h.symm).1; omega)); have RY := hid hr8; clear hr8 fr1 hv8)
                      rw [← HNI.out] at RY
                      obtain ⟨A8, c8, e8, _, _, _⟩ := RY.out.els (S' := fun _ => True) (fun _ _ => trivial) (fun _ _ => trivial)
                      rw [ntI_len] at e8
                      subst e8
                      go_roundw
                      case rel => exact ⟨i + 1, sn2.set e true, td2 ++ [e], A8, c8, by go_num, by omega, hid ⟨rfl, BY.out, RY.out, FY.out, HS.out, by have h1 := HMP.out; have h2 := HZ.out; omega⟩⟩
                      case measure => simp [intOf]; omega
                · have k1 : ¬ (e : Int) < n := by omega
                  have HS := hid (HR2.out.h.skip HLA.out HT.out (fun b hb hlt _ => absurd hlt (by have := HN.out; omega)))
                  have HX := hid (HR2.out.b)
                  have HY := hid (HR2.out.r)
                  have HZ := hid (HR2.out.m)
                  clear HR2
                  go_wp2
                  go_roundw
                  case rel => exact ⟨i + 1, sn2, td2, A2, c2, by go_num, by omega, hid ⟨rfl, HX.out, HY.out, FR2.out, HS.out, HZ.out⟩⟩
                  case measure => simp [intOf]; omega
              · have HS := hid (HR2.out.h.skip HLA.out HT.out (fun b hb _ _ => absurd (show (0 : Int) ≤ t by omega) h0))
                have HX := hid (HR2.out.b)
                have HY := hid (HR2.out.r)
                have HZ := hid (HR2.out.m)
                clear HR2
                go_wp2
                go_roundw
                case rel => exact ⟨i + 1, sn2, td2, A2, c2, by go_num, by omega, hid ⟨rfl, HX.out, HY.out, FR2.out, HS.out, HZ.out⟩⟩
                case measure => simp [intOf]; omega
            · have him : i = m := by omega
              subst him
              clear hgo
              go_wp2_with fail
              refine ⟨⟨sn2, td2, A2, c2, hid ⟨rfl, HR2.out.b, HR2.out.r, FR2.out, HR2.out.h.fin HLA.out (by have := HM.out; omega), ?_⟩⟩, ?_⟩
              · have h1 := HR2.out.m
                have h2 := HAQ.out
                omega
              · have h1 := mWv_eq (A := A2) (c := c2) (td := td2) HR2.out.b
                have h2 := HBW.out
                have h3 := HWP.out
                have h4 := HR2.out.m
                rw [h1, h2, h3]
                omega
end Go.Proofs.YtiafkakkbbclhaaGreat
namespace Go.Proofs.YtiafkakkbbclhaaGreat
open Go.RowKit
theorem upF_lo {l : List Int} {a : Int} (h : a < 0 ∨ (l.length : Int) ≤ a) : upF l a = -1 := by unfold upF; rw [if_pos h]
theorem upF_in {l : List Int} {k : Nat} (h : k < l.length) : upF l (k : Int) = if l[k] < 0 ∨ (l.length : Int) ≤ l[k] then -1 else l[k] := by
  unfold upF
  rw [if_neg (by omega), Int.toNat_natCast, List.getElem?_eq_getElem h]
def UpTo (r : Int) (w : World) (e : Ending) (w' : World) : Prop := e = .returned (.int .i64 r) ∧ Fr No w w'
theorem up_any (A : Option Addr) (c : Nat) (l : List Int) (a : Int) (S : Nat → Prop) (w : World) (h : tI.els w S A l) : Calls Tryz.prog 61 #[.slice A l.length c, .int .i64 a] w (UpTo (upF l a) w) := by
  have HE := hid h
  clear h
  obtain ⟨n, hn⟩ : ∃ n, l.length = n := ⟨_, rfl⟩
  have HN := hid hn
  unfold UpTo
  by_cases h0 : a < 0
  · have HU := hid (upF_lo (l := l) (.inl h0))
    have d1 : decide (a < 0) = true := decide_eq_true h0
    rw [HU.out, hn]
    clear hn h0 HU
    go_enter Tryz.func61, Tryz.ntmps61
    go_wp2
    go_ret
    exact ⟨rfl, Fr.refl _ _⟩
  · by_cases h1 : (n : Int) ≤ a
    · have HU := hid (upF_lo (l := l) (a := a) (.inr (by omega)))
      have d1 : decide (a < 0) = false := decide_eq_false h0
      have d2 : decide ((n : Int) ≤ a) = true := decide_eq_true h1
      rw [HU.out, hn]
      clear hn h0 h1 HU
      go_enter Tryz.func61, Tryz.ntmps61
      go_wp2
      go_ret
      exact ⟨rfl, Fr.refl _ _⟩
    · obtain ⟨k, rfl⟩ : ∃ k : Nat, a = k := ⟨a.toNat, by omega⟩
      have hk : k < l.length := by omega
      have HU := hid (upF_in hk)
      obtain ⟨b, o, hA, -, z0, -⟩ := ints_at HE.out k hk
      subst hA
      generalize l[k] = d at *
      rw [hn] at HU ⊢
      have i0 : (0 : Int) ≤ k := by omega
      have i1 : (k : Int) < n := by omega
      by_cases h2 : d < 0
      · have e1 := HU.out
        rw [if_pos (.inl h2)] at e1
        have d1 : decide (d < 0) = true := decide_eq_true h2
        rw [e1]
        clear hn h0 h1 HU e1 hk h2
        go_enter Tryz.func61, Tryz.ntmps61
        go_wp2
        go_ret
        exact ⟨rfl, Fr.refl _ _⟩
      · have d1 : decide (d < 0) = false := decide_eq_false h2
        by_cases h3 : (n : Int) ≤ d
        · have e1 := HU.out
          rw [if_pos (.inr h3)] at e1
          have d2 : decide ((n : Int) ≤ d) = true := decide_eq_true h3
          rw [e1]
          clear hn h0 h1 HU e1 hk h2 h3
          go_enter Tryz.func61, Tryz.ntmps61
          go_wp2
          go_ret
          exact ⟨rfl, Fr.refl _ _⟩
        · have e1 := HU.out
          rw [if_neg (fun h => h.elim h2 h3)] at e1
          have d2 : decide ((n : Int) ≤ d) = false := decide_eq_false h3
          rw [e1]
          clear hn h0 h1 HU e1 hk h2 h3
          go_enter Tryz.func61, Tryz.ntmps61
          go_wp2
          go_ret
          exact ⟨rfl, Fr.refl _ _⟩
def overF (l : List Int) (a b : Int) : Bool := if a < 0 ∨ (l.length : Int) ≤ a ∨ b < 0 ∨ (l.length : Int) ≤ b then false else walkF l a (l.length + 1) b
theorem walkF_lo (l : List Int) (a : Int) (k : Nat) {b : Int} (h : b < 0) : walkF l a k b = false := by
  cases k with
  | zero => rfl
  | succ k => unfold walkF; rw [if_pos h]
theorem walkF_eq (l : List Int) {a : Int} {k : Nat} {b : Int} (h0 : ¬ b < 0) (h : a = b) : walkF l a (k + 1) b = true := by
  unfold walkF; rw [if_neg h0, if_pos h]
theorem walkF_ne (l : List Int) {a : Int} {k : Nat} {b : Int} (h0 : ¬ b < 0) (h : ¬ a = b) : walkF l a (k + 1) b = walkF l a k (upF l b) := by
  conv => lhs; unfold walkF
  rw [if_neg h0, if_neg h]
def OvTo (r : Bool) (w : World) (e : Ending) (w' : World) : Prop := e = .returned (.bool r) ∧ Fr No w w'
theorem over_any (A : Option Addr) (c : Nat) (l : List Int) (a b : Int) (S : Nat → Prop) (w : World) (h : tI.els w S A l) (hS : ∀ k, S k → k < w.heap.size) (hl : l.length ≤ 100000) : Calls Tryz.prog 50 #[.slice A l.length c, .int .i64 a, .int .i64 b] w (OvTo (overF l a b) w) := by
  have HE := hid h
  have HS := hid hS
  clear h hS
  have HU : Hid (∀ (b : Int) (wr : World), Fr No w wr → Calls Tryz.prog 61 #[.slice A l.length c, .int .i64 b] wr (UpTo (upF l b) wr)) := hid fun b wr f => up_any A c l b S wr (HE.out.fr f fun k hk => ⟨HS.out k hk, fun x => x⟩)
  have HW1 := hid (fun k (b : Int) (h : b < 0) => walkF_lo l a k h)
  have HW2 := hid (fun k (b : Int) (h0 : ¬ b < 0) (h : a = b) => walkF_eq (k := k) l h0 h)
  have HW3 := hid (fun k (b : Int) (h0 : ¬ b < 0) (h : ¬ a = b) => walkF_ne (k := k) l h0 h)
  unfold OvTo overF
  obtain ⟨n, hn⟩ : ∃ n, l.length = n := ⟨_, rfl⟩
  rw [hn] at hl HU ⊢
  clear hn HE
  have h0 : (decide (a < 0) = true ∧ a < 0) ∨ (decide (a < 0) = false ∧ ¬ a < 0) := by by_cases h : a < 0 <;> simp [h]
  have h1 : (decide ((n : Int) ≤ a) = true ∧ (n : Int) ≤ a) ∨ (decide ((n : Int) ≤ a) = false ∧ ¬ (n : Int) ≤ a) := by by_cases h : (n : Int) ≤ a <;> simp [h]
  have h2 : (decide (b < 0) = true ∧ b < 0) ∨ (decide (b < 0) = false ∧ ¬ b < 0) := by by_cases h : b < 0 <;> simp [h]
  have h3 : (decide ((n : Int) ≤ b) = true ∧ (n : Int) ≤ b) ∨ (decide ((n : Int) ≤ b) = false ∧ ¬ (n : Int) ≤ b) := by by_cases h : (n : Int) ≤ b <;> simp [h]
  rcases h0 with ⟨d0, p0⟩ | ⟨d0, p0⟩
  · rw [if_pos (.inl p0)]
    clear h1 h2 h3 p0 HU HW1 HW2 HW3
    go_enter Tryz.func50, Tryz.ntmps50
    go_wp2
    go_ret
    exact ⟨rfl, Fr.refl _ _⟩
  rcases h1 with ⟨d1, p1⟩ | ⟨d1, p1⟩
  · rw [if_pos (.inr (.inl p1))]
    clear h2 h3 p0 p1 HU HW1 HW2 HW3
    go_enter Tryz.func50, Tryz.ntmps50
    go_wp2
    go_ret
    exact ⟨rfl, Fr.refl _ _⟩
  rcases h2 with ⟨d2, p2⟩ | ⟨d2, p2⟩
  · rw [if_pos (.inr (.inr (.inl p2)))]
    clear h3 p0 p1 p2 HU HW1 HW2 HW3
    go_enter Tryz.func50, Tryz.ntmps50
    go_wp2
    go_ret
    exact ⟨rfl, Fr.refl _ _⟩
  rcases h3 with ⟨d3, p3⟩ | ⟨d3, p3⟩
  · rw [if_pos (.inr (.inr (.inr p3)))]
    clear p0 p1 p2 p3 HU HW1 HW2 HW3
    go_enter Tryz.func50, Tryz.ntmps50
    go_wp2
    go_ret
    exact ⟨rfl, Fr.refl _ _⟩
  rw [if_neg (fun h => h.elim p0 fun h => h.elim p1 fun h => h.elim p2 p3)]
  clear p0 p1 p2 p3
  obtain ⟨R, hR⟩ : ∃ R, walkF l a (n + 1) b = R := ⟨_, rfl⟩
  rw [hR]
  have HR := hid hR
  clear hR
  go_enter Tryz.func50, Tryz.ntmps50
  go_wp2_with fail
  go_loopw [2, 7] (fun v2 v7 wr => ∃ (k : Nat) (e : Int), k ≤ n + 1 ∧ v7 = .int .i64 k ∧ v2 = .int .i64 e ∧ Hid (walkF l a (n + 1 - k) e = R) ∧ Hid (Fr No w wr)) (fun _ v7 _ => n + 1 - (intOf v7).toNat)
  case atStart => exact ⟨0, b, by omega, rfl, rfl, HR, hid (Fr.refl _ _)⟩
  case round =>
    clear HR d0 d1 d2 d3
    obtain ⟨k, e, hk, rfl, rfl, HR, HF⟩ := hrel
    by_cases hgo : k ≤ n
    · have i1 : (k : Int) ≤ n := by omega
      by_cases h0 : e < 0
      · have d0 : ¬ (0 : Int) ≤ e := by omega
        have hR := HR.out
        rw [HW1.out _ _ h0] at hR
        subst hR
        clear HR h0
        go_wp2
        go_ret
        exact ⟨rfl, HF.out⟩
      · have d0 : (0 : Int) ≤ e := by omega
        have hR := HR.out
        have hs : n + 1 - k = n - k + 1 := by omega
        rw [hs] at hR
        by_cases h1 : a = e
        · rw [HW2.out _ _ (by omega) h1] at hR
          subst hR
          have d1 : (a == e) = true := by simp [h1]
          clear HR h0 h1 hs
          go_wp2
          go_ret
          exact ⟨rfl, HF.out⟩
        · rw [HW3.out _ _ (by omega) h1] at hR
          have HR2 : Hid (walkF l a (n + 1 - (k + 1)) (upF l e) = R) := hid (by rw [show n + 1 - (k + 1) = n - k by omega]; exact hR)
          have d1 : (a == e) = false := by simpa using h1
          have HC := HU.out e _ HF.out
          unfold UpTo at HC
          clear HR h0 h1 hs hR
          generalize upF l e = e2 at *
          go_wp2_with fail
          refine HC.mono ?_
          clear HC
          rintro e9 w9 ⟨rfl, f9⟩
          have HF9 := hid (HF.out.trans f9 (fun _ _ h => h))
          clear f9
          go_wp2
          go_round
          case rel => exact ⟨k + 1, e2, by omega, by go_num, rfl, HR2, HF9⟩
          case measure => simp [intOf]; omega
    · have hkn : k = n + 1 := by omega
      subst hkn
      have hR := HR.out
      rw [Nat.sub_self] at hR
      have hR2 : R = false := hR.symm
      subst hR2
      clear HR hR hgo
      have i1 : ¬ ((n + 1 : Nat) : Int) ≤ n := by omega
      go_wp2
      go_ret
      exact ⟨rfl, HF.out⟩
end Go.Proofs.YtiafkakkbbclhaaGreat
namespace Go.Proofs.YtiafkakkbbclhaaGreat
open Go.RowKit
abbrev tBl := Ty.slice Ty.bool
theorem elBls : ElemOk Tryz.prog 87 70 1 24 (.slice none 0 0) := ElemOk.mk' Tryz.underlying87 (by kernel_rfl) rfl (by decide)
open Classical in
noncomputable def domB (nx : List (List Int)) (a b : Nat) : Bool := decide (Dom nx a b)
noncomputable def domR (nx : List (List Int)) (a : Nat) : List Bool := (List.range nx.length).map (domB nx a)
noncomputable def domL (nx : List (List Int)) : List (List Bool) := (List.range nx.length).map (domR nx)
theorem domR_len (nx : List (List Int)) (a : Nat) : (domR nx a).length = nx.length := by simp [domR]
theorem domL_len (nx : List (List Int)) : (domL nx).length = nx.length := by simp [domL]
theorem domL_take {nx : List (List Int)} {k : Nat} (h : k < nx.length) : (domL nx).take (k + 1) = (domL nx).take k ++ [domR nx k] := by
  rw [List.take_add_one]
  simp [domL, h]
theorem domR_of {nx : List (List Int)} {a : Nat} {l : List Bool} (hl : l.length = nx.length) (h : ∀ j, j < nx.length → l[j]? = some (domB nx a j)) : l = domR nx a := by
  apply List.ext_getElem?
  intro j
  by_cases hj : j < nx.length
  · rw [h j hj]; simp [domR, hj]
  · rw [List.getElem?_eq_none (by omega), List.getElem?_eq_none (by rw [domR_len]; omega)]
theorem domB_of {nx : List (List Int)} {a b : Nat} {all less : List Bool} (h1 : ∀ k : Nat, all[k]? = some true ↔ Rch nx (fun k => (k : Int) = -1) k) (h2 : ∀ k : Nat, less[k]? = some true ↔ Rch nx (fun k => (k : Int) = (a : Nat)) k) {x y : Bool} (hx : all[b]? = some x) (hy : less[b]? = some y) : domB nx a b = (x && !y) := by
  have e1 : x = true ↔ Rch nx (fun _ => False) b := by
    have := h1 b
    rw [hx] at this
    simp only [Option.some.injEq] at this
    rw [this]
    exact ⟨fun r => r.mono (fun _ h => h.elim), fun r => r.mono (fun k h => by omega)⟩
  have e2 : y = true ↔ Rch nx (· = a) b := by
    have := h2 b
    rw [hy] at this
    simp only [Option.some.injEq] at this
    rw [this]
    exact ⟨fun r => r.mono (fun k h => by omega), fun r => r.mono (fun k h => by omega)⟩
  unfold domB Dom
  rw [← e1, ← e2]
  cases x <;> cases y <;> simp
theorem Bs.elsS {w : World} {q : Nat} {l : List Bool} {S : Nat → Prop} (h : Bs w q l) (hS : S q) : Ty.bool.els w S (some ⟨q, 0, none⟩) l := by
  refine blk_els (t := Ty.bool) (css := l.map fun b => [Value.bool b]) (e := 4) ?_ hS (css_map fun x hx => rfl)
  have e : ∀ l : List Bool, (l.map fun b => [Value.bool b]).flatten = l.map Value.bool := fun l => by induction l with
    | nil => rfl
    | cons a l ih => simp [ih]
  rw [e]; exact h
theorem bools_at {w : World} {S : Nat → Prop} {A : Option Addr} {l : List Bool} (h : Ty.bool.els w S A l) (i : Nat) (hi : i < l.length) : ∃ (b o : Nat), A = some ⟨b, o, none⟩ ∧ S b ∧ w.cell? ⟨b, o + i, none⟩ = some (.bool l[i]) := by
  obtain ⟨b, o, ds, rfl, hb, hc, hd⟩ := h.at_ i hi
  have hd2 : ds = [.bool l[i]] := hd
  subst hd2
  have := hc 0 _ rfl
  have e : Ty.bool.size = 1 := rfl
  rw [e, Nat.mul_one, Nat.add_zero] at this
  exact ⟨b, o, rfl, hb, this⟩
def StTo (nx : List (List Int)) (w : World) (e : Ending) (w' : World) : Prop :=
  ∃ (A : Option Addr) (c : Nat), e = .returned (.slice A nx.length c) ∧ tBl.els w' (fun k => w.heap.size ≤ k ∧ k < w'.heap.size) A (domL nx) ∧ Fr No w w'
structure Gr {α : Type} (t : Ty α) (w0 wr : World) (e : TypeId) (v : Value) (l : List α) (S : Nat → Prop) : Prop where
  r : t.row wr w0.heap.size S e v l
  s : ∀ j, S j → w0.heap.size ≤ j ∧ j < wr.heap.size ∧ ¬ some j = v.ownBlock
  f : Fr No w0 wr
theorem stands37_any (A0 : Option Addr) (c0 : Nat) (nx : List (List Int)) (S : Nat → Prop) (w : World) (h : tI.slice.els w S A0 nx) (hS : ∀ k, S k → k < w.heap.size) (hn : nx.length ≤ 100000) :
    Calls Tryz.prog 24 #[.slice A0 nx.length c0] w (StTo nx w) := by
  have HE := hid h
  have HS := hid hS
  have HRE : Hid (∀ (u : Int) (wr : World), Fr No w wr → Calls Tryz.prog 36 #[.slice A0 nx.length c0, .int .i64 u] wr (ReaTo nx (fun k => (k : Int) = u) wr)) := hid fun u wr f => reached_any A0 c0 nx u S wr (HE.out.fr f fun k hk => ⟨HS.out k hk, fun x => x⟩) (fun k hk => Nat.lt_of_lt_of_le (HS.out k hk) f.size) hn
  clear h hS HE HS
  unfold StTo
  obtain ⟨n, hnn⟩ : ∃ n, nx.length = n := ⟨_, rfl⟩
  have HN := hid hnn
  rw [hnn] at hn HRE ⊢
  clear hnn
  have HC := HRE.out (-1) w (Fr.refl _ _)
  unfold ReaTo at HC
  go_enter Tryz.func24, Tryz.ntmps24
  go_wp2_with fail
  refine HC.mono ?_
  clear HC
  rintro e0 w0 ⟨AA, cA, all, rfl, hal, hall, hels, f0⟩
  have HF0 := hid f0
  have HALL := hid hall
  have HAE := hid hels
  have HAL := hid (hal.trans HN.out)
  rw [hal, HN.out]
  clear f0 hall hels hal
  go_wp2_with fail
  go_loopw [4, 5] (fun v4 v5 wo => ∃ (k : Nat) (S' : Nat → Prop), k ≤ n ∧ v5 = .int .i64 k ∧ Hid (Gr tBl w0 wo 70 v4 ((domL nx).take k) S')) (fun _ v5 _ => n - (intOf v5).toNat)
  case atStart => exact ⟨0, fun _ => False, by omega, rfl, hid ⟨Ty.row.nil _ _ _ _, fun _ h => h.elim, Fr.refl _ _⟩⟩
  case round =>
    obtain ⟨k, S', hk, rfl, HG⟩ := hrel
    by_cases hgo : k < n
    · have i0 : (0 : Int) ≤ k := by omega
      have i1 : (k : Int) < n := by omega
      have HC := HRE.out k _ (HF0.out.trans HG.out.f (fun _ _ h => h))
      unfold ReaTo at HC
      go_wp2_with fail
      refine HC.mono ?_
      clear HC
      rintro e1 w1 ⟨AL, cL, less, rfl, hll, hless, hlels, f1⟩
      have HF1 := hid f1
      have HLESS := hid hless
      have HLE := hid hlels
      have HLL := hid (hll.trans HN.out)
      rw [hll, HN.out]
      clear f1 hless hlels hll
      have F2 := hid ((Fr.refl No w1).alloc (.cells (Array.replicate n (.bool false)) 4))
      have B2 := hid (Bs.new w1 n)
      have hmk := fun W => run_mk elBools rfl W .i64 .i64 n (by omega) (by omega)
      go_upto_region 8 with fail
      clear hmk
      generalize w1.alloc (.cells (Array.replicate n (.bool false)) 4) = W2 at *
      obtain ⟨q, hq⟩ : ∃ q, w1.heap.size = q := ⟨_, rfl⟩
      have HQ := hid hq
      rw [hq] at B2 ⊢
      clear hq
      go_wp2_with fail
      go_loopw [8] (fun v8 wx => ∃ (i : Nat) (l : List Bool), i ≤ n ∧ v8 = .int .i64 i ∧ l.length = n ∧ Hid (Bs wx q l) ∧ Hid (∀ j, j < i → l[j]? = some (domB nx k j)) ∧ Hid (Fr No w1 wx)) (fun v8 _ => n - (intOf v8).toNat)
      case atStart => exact ⟨0, _, by omega, rfl, by simp, B2, hid (fun j h => absurd h (Nat.not_lt_zero _)), F2⟩
      case round =>
        clear F2 B2
        obtain ⟨i, l, hi, rfl, hl, HB, HP, HF⟩ := hrel
        by_cases hgi : i < n
        · have j0 : (0 : Int) ≤ i := by omega
          have j1 : (i : Int) < n := by omega
          have z1 := HB.out.cell (k := i) (by omega)
          have z2 := HB.out.frozen i
          have hql := HB.out.lt
          have hsn : ∀ v : Bool, domB nx k i = v → ∀ j, j < i + 1 → (l.set i v)[j]? = some (domB nx k j) := fun v hv j hj => by
            rw [List.getElem?_set]
            by_cases hji : i = j
            · subst hji
              rw [if_pos rfl, if_pos (by omega), hv]
            · rw [if_neg hji]
              exact HP.out j (by omega)
          have HSN := hid hsn
          have FM := hid (fun v : Value => HF.out.setCell ⟨q, i, none⟩ v (fun hlt => by simp only at hlt; rw [HQ.out] at hlt; omega))
          have BM := hid (fun v : Bool => HB.out.set i v)
          obtain ⟨b3, o3, hA3, hb3, y3⟩ := bools_at HAE.out i (by rw [HAL.out]; exact hgi)
          obtain ⟨b4, o4, hA4, hb4, y4⟩ := bools_at HLE.out i (by rw [HLL.out]; exact hgi)
          have e3 : all[i]? = some _ := List.getElem?_eq_getElem (by rw [HAL.out]; exact hgi)
          have e4 : less[i]? = some _ := List.getElem?_eq_getElem (by rw [HLL.out]; exact hgi)
          have HD := hid (domB_of HALL.out HLESS.out e3 e4)
          subst hA3 hA4
          generalize all[i]'_ = x at *
          generalize less[i]'_ = y at *
          have fw := HG.out.f.trans HF1.out (fun _ _ h => h)
          have fx := fw.trans HF.out (fun _ _ h => h)
          have x3 := (fx.cell (p := ⟨b3, o3 + i, none⟩) hb3.2 (fun h => h)).trans y3
          have x4 := (HF.out.cell (p := ⟨b4, o4 + i, none⟩) hb4.2 (fun h => h)).trans y4
          clear hb3 hb4 y3 y4 e3 e4 fw fx hsn
          cases x with
          | false =>
            have HS1 := hid (HSN.out _ HD.out)
            clear HD HSN HP
            go_wp2
            go_roundw
            case rel => exact ⟨i + 1, l.set i false, by omega, by go_num, by simp [hl], hid (BM.out false), HS1, hid (FM.out _)⟩
            case measure => simp [intOf]; omega
          | true =>
            cases y with
            | false =>
              have HS1 := hid (HSN.out _ HD.out)
              clear HD HSN HP
              go_wp2
              go_roundw
              case rel => exact ⟨i + 1, l.set i true, by omega, by go_num, by simp [hl], hid (BM.out true), HS1, hid (FM.out _)⟩
              case measure => simp [intOf]; omega
            | true =>
              have HS1 := hid (HSN.out _ HD.out)
              clear HD HSN HP
              go_wp2
              go_roundw
              case rel => exact ⟨i + 1, l.set i false, by omega, by go_num, by simp [hl], hid (BM.out false), HS1, hid (FM.out _)⟩
              case measure => simp [intOf]; omega
        · have hin : i = n := by omega
          subst hin
          clear hgi
          have hrow := domR_of (hl.trans HN.out.symm) (fun j hj => HP.out j (by have := HN.out; omega))
          subst hrow
          obtain ⟨W, hW⟩ : ∃ W, wr.alloc (.cells #[.slice (some ⟨q, 0, none⟩) i i] 70) = W := ⟨_, rfl⟩
          have FA := (Fr.refl No wr).alloc (.cells #[.slice (some ⟨q, 0, none⟩) i i] 70)
          have FW := HF1.out.trans HF.out (fun _ _ h => h)
          have FWA := FW.trans FA (fun _ _ h => h)
          have FRL := hid (HG.out.f.trans FWA (fun _ _ h => h))
          have BL := hid (Blk.new wr 70 #[.slice (some ⟨q, 0, none⟩) i i])
          have hqo : ∀ g, u4.ownBlock = some g → g < q := fun g hg => by
            obtain ⟨_, cs, hb⟩ := HG.out.r.own hg
            have h1 := hb.lt
            have h2 := HF1.out.size
            have h3 := HQ.out
            omega
          have hqW : q < (wr.alloc (.cells #[.slice (some ⟨q, 0, none⟩) i i] 70)).heap.size := Nat.lt_of_lt_of_le HB.out.lt FA.size
          have h0q : w0.heap.size ≤ q := by have h1 := HG.out.f.size; have h2 := HF1.out.size; have h3 := HQ.out; omega
          have RL := hid ((HG.out.r.fr FWA (fun j hj => ⟨(HG.out.s j hj).2.1, fun x => x⟩) (fun _ _ x => x)).more (S' := fun j => S' j ∨ j = q) (Nat.le_refl _) (fun _ h => .inl h))
          have HSS : Hid (∀ j, S' j ∨ j = q → w0.heap.size ≤ j ∧ j < (wr.alloc (.cells #[.slice (some ⟨q, 0, none⟩) i i] 70)).heap.size ∧ ¬ some j = u4.ownBlock) := fun j hj => by
            rcases hj with hj | rfl
            · obtain ⟨h1, h2, h3⟩ := HG.out.s j hj
              exact ⟨h1, Nat.lt_of_lt_of_le h2 FWA.size, h3⟩
            · exact ⟨h0q, hqW, fun h => absurd (hqo _ h.symm) (Nat.lt_irrefl _)⟩
          have HRD : Hid (tBl.rd (wr.alloc (.cells #[.slice (some ⟨q, 0, none⟩) i i] 70)) (fun j => S' j ∨ j = q) [.slice (some ⟨q, 0, none⟩) i i] (domR nx k)) := hid ⟨some ⟨q, 0, none⟩, i, by rw [hl], by omega, by simp only [maxLen]; omega, (HB.out.fr FA (fun x => x)).elsS (.inr rfl)⟩
          have HTL : Hid (((domL nx).take k).length ≤ 100000) := hid (by rw [List.length_take, domL_len]; omega)
          have HTK := hid (domL_take (nx := nx) (k := k) (by have := HN.out; omega))
          clear FA FW FWA hqo hqW h0q HB HP hW W hl
          go_wp2_with (at_builtin; refine wpList_appC (t := tBl) (base := w0.heap.size) (S := fun j => S' j ∨ j = q) (xs := (domL nx).take k) (ys := [domR nx k]) (dss := [[.slice (some ⟨q, 0, none⟩) i i]]) (B2 := (wr.alloc (.cells #[.slice (some ⟨q, 0, none⟩) i i] 70)).heap.size) elBls rfl rfl rfl rfl RL.out (Css.one HRD.out) (by simpa using Rd.blk BL.out BL.out.lt 0 (xs := [.slice (some ⟨q, 0, none⟩) i i]) (fun i u h => by rw [Nat.zero_add]; simpa using h)) rfl (by have := HTL.out; omega) (by have := HTL.out; omega) (fun j h => (HSS.out j h).2) FRL.out.size ?_; intro v9 wy hr9 fr1 hv9; have FY := hid (own_frame RL.out FRL.out fr1 (Nat.le_refl _)); have RY := hid hr9; have HSY := hid (fun j hj => Nat.lt_of_lt_of_le (HSS.out j hj).2.1 fr1.size); have HV9 := hid hv9; clear hr9 fr1 hv9)
          rw [← HTK.out] at RY
          go_round
          case rel => exact ⟨k + 1, fun j => S' j ∨ j = q, by omega, by go_num, hid ⟨RY.out, fun j hj => ⟨(HSS.out j hj).1, HSY.out j hj, fun h => by
            rcases HV9.out with e | e
            · rw [e] at h; exact (HSS.out j hj).2.2 h
            · rw [e] at h
              have h1 := (HSS.out j hj).2.1
              injection h with h
              omega⟩, FY.out⟩⟩
          case measure => simp [intOf]; omega
    · have hkn : k = n := by omega
      subst hkn
      have htk : (domL nx).take k = domL nx := List.take_of_length_le (by rw [domL_len, HN.out]; exact Nat.le_refl _)
      rw [htk] at HG
      have FF := hid (HF0.out.trans HG.out.f (fun _ _ h => h))
      have hlen : (domL nx).length = k := (domL_len nx).trans HN.out
      obtain ⟨A8, c8, e8, h1, h2, hs⟩ := HG.out.r.els (S' := fun j => w.heap.size ≤ j ∧ j < wr.heap.size) (fun j hj => by have h1 := (HG.out.s j hj).1; have h2 := HF0.out.size; exact ⟨by omega, (HG.out.s j hj).2.1⟩) (fun g hg => by obtain ⟨h0, _, hb⟩ := HG.out.r.own hg; have h2 := HF0.out.size; exact ⟨by omega, hb.lt⟩)
      have HSE := hid hs
      rw [hlen] at e8
      subst e8
      clear hgo htk HG hs h1 h2 hlen
      go_wp2
      go_ret
      exact ⟨A8, c8, rfl, HSE.out, FF.out⟩
end Go.Proofs.YtiafkakkbbclhaaGreat
namespace Go.Proofs.YtiafkakkbbclhaaGreat
open Go.RowKit
theorem best_no {nx : List (List Int)} {b k : Nat} (h : ¬ (k ≠ b ∧ domB nx k b = true ∧ (bestF nx b k < 0 ∨ domB nx (bestF nx b k).toNat k = true))) : bestF nx b (k + 1) = bestF nx b k := by
  rw [bestF, if_neg]
  intro hh
  apply h
  unfold domB
  simpa using hh
theorem best_yes {nx : List (List Int)} {b k : Nat} (h : k ≠ b ∧ domB nx k b = true ∧ (bestF nx b k < 0 ∨ domB nx (bestF nx b k).toNat k = true)) : bestF nx b (k + 1) = k := by
  rw [bestF, if_pos]
  unfold domB at h
  simpa using h
theorem best_or (nx : List (List Int)) (b k : Nat) : bestF nx b k = -1 ∨ ∃ d : Nat, d < k ∧ bestF nx b k = (d : Int) := by
  rcases bestF_spec nx b k with ⟨e, -⟩ | ⟨d, e, hd, -⟩
  · exact .inl e
  · exact .inr ⟨d, hd, e⟩
theorem idomF_len (nx : List (List Int)) : (idomF nx).length = nx.length := by simp [idomF]
theorem idomF_take {nx : List (List Int)} {k : Nat} (h : k < nx.length) : (idomF nx).take (k + 1) = (idomF nx).take k ++ [bestF nx k nx.length] := by
  rw [List.take_add_one]
  simp [idomF, h]
theorem lists_atE {α : Type} {t : Ty α} {w : World} {S : Nat → Prop} {A : Option Addr} {ls : List (List α)} (h : t.slice.els w S A ls) (k : Nat) {l : List α} (hk : ls[k]? = some l) : ∃ (b o : Nat) (A' : Option Addr) (c' : Nat), A = some ⟨b, o, none⟩ ∧ w.cell? ⟨b, o + k, none⟩ = some (.slice A' l.length c') ∧ t.els w S A' l := by
  obtain ⟨hk1, hk2⟩ := List.getElem?_eq_some_iff.1 hk
  obtain ⟨b, o, A', c', e, -, hc, he⟩ := lists_at h k hk1
  rw [hk2] at hc he
  exact ⟨b, o, A', c', e, hc, he⟩
theorem dom_at {nx : List (List Int)} {n : Nat} {w : World} {S : Nat → Prop} {A : Option Addr} (h : tBl.els w S A (domL nx)) (hn : nx.length = n) (i j : Nat) (hi : i < n) (hj : j < n) : ∃ (b o b' o' c' : Nat), A = some ⟨b, o, none⟩ ∧ w.cell? ⟨b, o + i, none⟩ = some (.slice (some ⟨b', o', none⟩) n c') ∧ w.cell? ⟨b', o' + j, none⟩ = some (.bool (domB nx i j)) := by
  subst hn
  obtain ⟨b, o, A', c', e, hc, he⟩ := lists_atE h i (l := domR nx i) (by simp [domL, hi])
  obtain ⟨b', o', e', -, hc'⟩ := bools_at he j (by rw [domR_len]; exact hj)
  subst e'
  rw [domR_len] at hc
  refine ⟨b, o, b', o', c', e, hc, ?_⟩
  rw [hc']
  simp [domR]
def OfTo (nx : List (List Int)) (w : World) (e : Ending) (w' : World) : Prop :=
  ∃ (A : Option Addr) (c : Nat), e = .returned (.slice A nx.length c) ∧ tI.els w' (fun k => w.heap.size ≤ k ∧ k < w'.heap.size) A (idomF nx) ∧ Fr No w w'
theorem of37_any (A0 : Option Addr) (c0 : Nat) (nx : List (List Int)) (S : Nat → Prop) (w : World) (h : tI.slice.els w S A0 nx) (hS : ∀ k, S k → k < w.heap.size) (hn : nx.length ≤ 100000) :
    Calls Tryz.prog 12 #[.slice A0 nx.length c0] w (OfTo nx w) := by
  have HC := stands37_any A0 c0 nx S w h hS hn
  clear h hS
  unfold OfTo
  unfold StTo at HC
  obtain ⟨n, hnn⟩ : ∃ n, nx.length = n := ⟨_, rfl⟩
  have HN := hid hnn
  rw [hnn] at hn HC ⊢
  clear hnn
  go_enter Tryz.func12, Tryz.ntmps12
  go_wp2_with fail
  refine HC.mono ?_
  clear HC
  rintro e0 w0 ⟨AA, cA, rfl, hels, f0⟩
  have HF0 := hid f0
  have HAE := hid hels
  clear f0 hels
  go_wp2_with fail
  go_loopw [4, 5] (fun v4 v5 wo => ∃ (k : Nat) (A : Option Addr) (c : Nat), k ≤ n ∧ v5 = .int .i64 k ∧ v4 = .slice A k c ∧ Hid (tI.row wo w0.heap.size Emp 3 (.slice A k c) ((idomF nx).take k)) ∧ Hid (Fr No w0 wo)) (fun _ v5 _ => n - (intOf v5).toNat)
  case atStart => exact ⟨0, none, 0, by omega, rfl, rfl, hid (Ty.row.nil _ _ _ _), hid (Fr.refl _ _)⟩
  case round =>
    obtain ⟨k, A, c, hk, rfl, rfl, HR, HF⟩ := hrel
    by_cases hgo : k < n
    · have i0 : (0 : Int) ≤ k := by omega
      have i1 : (k : Int) < n := by omega
      have HAR := hid (HAE.out.fr HF.out fun j hj => ⟨hj.2, fun x => x⟩)
      obtain ⟨b, o, -, -, -, hA, -, -⟩ := dom_at HAR.out HN.out k k hgo hgo
      subst hA
      go_wp2_with fail
      go_loop [6, 7] (fun v6 v7 => ∃ i : Nat, i ≤ n ∧ v7 = .int .i64 i ∧ v6 = .int .i64 (bestF nx k i)) (fun _ v7 => n - (intOf v7).toNat)
      case atStart => exact ⟨0, by omega, rfl, rfl⟩
      case round =>
        obtain ⟨i, hi, rfl, rfl⟩ := hrel
        by_cases hgi : i < n
        · have j0 : (0 : Int) ≤ i := by omega
          have j1 : (i : Int) < n := by omega
          have HNO := hid (best_no (nx := nx) (b := k) (k := i))
          have HYES := hid (best_yes (nx := nx) (b := k) (k := i))
          obtain ⟨b2, o2, b3, o3, c3, hA2, x1, x2⟩ := dom_at HAR.out HN.out i k hgi hgo
          injection hA2 with hA2
          injection hA2 with e1 e2 _
          subst e1 e2
          by_cases hik : i = k
          · have HB := hid (HNO.out fun h => h.1 hik)
            have d1 : ((i : Int) != (k : Int)) = false := by simp [hik]
            clear HNO HYES hik x1 x2
            go_wp2
            go_round
            case rel => exact ⟨i + 1, by omega, by go_num, by rw [HB.out]⟩
            case measure => simp [intOf]; omega
          · have d1 : ((i : Int) != (k : Int)) = true := by simp; omega
            cases hd : domB nx i k with
            | false =>
              rw [hd] at x2
              have HB := hid (HNO.out fun h => by simp [hd] at h)
              clear HNO HYES hik hd
              go_wp2
              go_round
              case rel => exact ⟨i + 1, by omega, by go_num, by rw [HB.out]⟩
              case measure => simp [intOf]; omega
            | true =>
              rw [hd] at x2
              rcases best_or nx k i with e | ⟨d, hdk, e⟩
              · have HB := hid (HYES.out ⟨hik, hd, .inl (by omega)⟩)
                rw [e]
                clear HNO HYES hik hd e
                go_wp2
                go_round
                case rel => exact ⟨i + 1, by omega, by go_num, by rw [HB.out]⟩
                case measure => simp [intOf]; omega
              · obtain ⟨b4, o4, b5, o5, c5, hA3, x3, x4⟩ := dom_at HAR.out HN.out d i (by omega) hgi
                injection hA3 with hA3
                injection hA3 with e1 e2 _
                subst e1 e2
                have l0 : (0 : Int) ≤ d := by omega
                have l1 : (d : Int) < n := by omega
                rw [e] at HNO HYES ⊢
                rw [Int.toNat_natCast] at HNO HYES
                cases hd2 : domB nx d i with
                | false =>
                  rw [hd2] at x4
                  have HB := hid (HNO.out fun h => by rcases h.2.2 with h | h; · omega
                                                      · simp [hd2] at h)
                  clear HNO HYES hik hd hd2 e hdk
                  go_wp2
                  go_round
                  case rel => exact ⟨i + 1, by omega, by go_num, by rw [HB.out]⟩
                  case measure => simp [intOf]; omega
                | true =>
                  rw [hd2] at x4
                  have HB := hid (HYES.out ⟨hik, hd, .inr hd2⟩)
                  clear HNO HYES hik hd hd2 e hdk
                  go_wp2
                  go_round
                  case rel => exact ⟨i + 1, by omega, by go_num, by rw [HB.out]⟩
                  case measure => simp [intOf]; omega
        · have hin : i = n := by omega
          subst hin
          clear hgi
          have hwf : (Lit.int .i64 (bestF nx k i)).wf = true := wf_bool64 (by rcases best_or nx k i with e | ⟨d, hdk, e⟩ <;> rw [e] <;> omega)
          have HTK := hid (idomF_take (nx := nx) (k := k) (by have := HN.out; omega))
          rw [HN.out] at HTK
          generalize bestF nx k i = u at *
          have FA := (Fr.refl No wr).alloc (.cells #[.int .i64 u] 3)
          have FRL := hid (HF.out.trans FA (fun _ _ h => h))
          have BL := hid (Blk.new wr 3 #[.int .i64 u])
          have RL := hid (HR.out.fr FA (fun _ h => h.elim) (fun _ _ x => x))
          have HTL : Hid (((idomF nx).take k).length = k) := hid (by rw [List.length_take, idomF_len, HN.out]; omega)
          clear FA
          go_wp2_with (at_builtin; refine wpList_appC (t := tI) (base := w0.heap.size) (S := Emp) (xs := (idomF nx).take k) (ys := [u]) (dss := [[.int .i64 u]]) (B2 := (wr.alloc (.cells #[.int .i64 u] 3)).heap.size) elInts rfl rfl rfl rfl RL.out (Css.one (int_mk hwf)) (by simpa using Rd.blk BL.out BL.out.lt 0 (xs := [.int .i64 u]) (fun i u h => by rw [Nat.zero_add]; simpa using h)) rfl (by rw [HTL.out]; omega) (by rw [HTL.out]; omega) (fun _ h => h.elim) FRL.out.size ?_; intro v9 wy hr9 fr1 hv9; have FY := hid (own_frame RL.out FRL.out fr1 (Nat.le_refl _)); have RY := hid hr9; clear hr9 fr1 hv9)
          obtain ⟨A8, c8, e8, _, _, _⟩ := RY.out.els (S' := fun _ => True) (fun _ _ => trivial) (fun _ _ => trivial)
          rw [← HTK.out] at RY e8
          rw [show ((idomF nx).take (k + 1)).length = k + 1 by rw [List.length_take, idomF_len, HN.out]; omega] at e8
          subst e8
          go_round
          case rel => exact ⟨k + 1, A8, c8, by omega, by go_num, rfl, RY, FY⟩
          case measure => simp [intOf]; omega
    · have hkn : k = n := by omega
      subst hkn
      have htk : (idomF nx).take k = idomF nx := List.take_of_length_le (by rw [idomF_len, HN.out]; exact Nat.le_refl _)
      rw [htk] at HR
      have FF := hid (HF0.out.trans HF.out (fun _ _ h => h))
      obtain ⟨A8, c8, e8, h1, h2, hs⟩ := HR.out.els (S' := fun j => w.heap.size ≤ j ∧ j < wr.heap.size) (fun j hj => hj.elim) (fun g hg => by obtain ⟨h0, _, hb⟩ := HR.out.own hg; have h2 := HF0.out.size; exact ⟨by omega, hb.lt⟩)
      have HSE := hid hs
      injection e8 with e8 _ e9
      subst e8 e9
      clear hgo htk HR hs h1 h2
      go_wp2
      go_ret
      exact ⟨A, c, rfl, HSE.out, FF.out⟩
end Go.Proofs.YtiafkakkbbclhaaGreat
namespace Go.Proofs.YtiafkakkbbclhaaGreat
open Go.RowKit
theorem has_any (A : Option Addr) (c : Nat) (l : List Int) (v : Int) (S : Nat → Prop) (w : World) (h : tI.els w S A l) (hl : l.length ≤ 9223372036854775807) : Calls Tryz.prog 49 #[.slice A l.length c, .int .i64 v] w (OvTo (decide (v ∈ l)) w) := by
  have HE := hid h
  clear h
  unfold OvTo
  obtain ⟨n, hn⟩ : ∃ n, l.length = n := ⟨_, rfl⟩
  have HN := hid hn
  rw [hn] at hl ⊢
  clear hn
  obtain ⟨R, hR⟩ : ∃ R, decide (v ∈ l) = R := ⟨_, rfl⟩
  rw [hR]
  have HR := hid hR
  clear hR
  go_enter Tryz.func49, Tryz.ntmps49
  go_wp2_with fail
  go_loop [5] (fun v5 => ∃ k : Nat, k ≤ n ∧ v5 = .int .i64 k ∧ Hid (∀ j, j < k → l[j]? ≠ some v)) (fun v5 => n - (intOf v5).toNat)
  case atStart => exact ⟨0, by omega, rfl, hid (fun j h => absurd h (Nat.not_lt_zero _))⟩
  case round =>
    obtain ⟨k, hk, rfl, HP⟩ := hrel
    by_cases hgo : k < n
    · have i0 : (0 : Int) ≤ k := by omega
      have i1 : (k : Int) < n := by omega
      have hkl : k < l.length := by rw [HN.out]; exact hgo
      obtain ⟨b, o, hA, -, z0, -⟩ := ints_at HE.out k hkl
      subst hA
      have HT := hid (List.getElem?_eq_getElem hkl)
      generalize l[k]'_ = t at *
      cases hq : (t == v) with
      | true =>
        have htv : t = v := by simpa using hq
        have hR2 := HR.out
        rw [decide_eq_true (List.mem_of_getElem? (htv ▸ HT.out))] at hR2
        subst hR2
        clear HT htv hkl HP
        go_wp2
        go_ret
        exact ⟨rfl, Fr.refl _ _⟩
      | false =>
        have htv : ¬ t = v := by simpa using hq
        have HP2 : Hid (∀ j, j < k + 1 → l[j]? ≠ some v) := hid fun j hj => by
          by_cases hjk : j = k
          · subst hjk; rw [HT.out]; exact fun h => htv (Option.some.inj h)
          · exact HP.out j (by omega)
        clear HT htv hkl HP
        go_wp2
        go_round
        case rel => exact ⟨k + 1, by omega, by go_num, HP2⟩
        case measure => simp [intOf]; omega
    · have hkn : k = n := by omega
      subst hkn
      have hR2 := HR.out
      rw [decide_eq_false (fun hm => by
        obtain ⟨j, hj⟩ := List.getElem?_of_mem hm
        have h1 := (List.getElem?_eq_some_iff.1 hj).1
        exact HP.out j (by have := HN.out; omega) hj)] at hR2
      subst hR2
      clear HR HP hgo
      go_wp2
      go_ret
      exact ⟨rfl, Fr.refl _ _⟩
structure BW (w : World) (S : Nat → Prop) (bc : List Value) (x : Sb) : Prop where
  rd : tSb.rd w S bc x
  lt : ∀ k, S k → k < w.heap.size
theorem BW.fr {w w' : World} {S : Nat → Prop} {bc : List Value} {x : Sb} (h : BW w S bc x) (f : Fr No w w') : BW w' S bc x :=
  ⟨(inferInstance : TyOk tSb).keep _ _ _ _ _ h.rd (fun _ hp => f.cell (h.lt _ hp) (fun x => x)), fun k hk => Nat.lt_of_lt_of_le (h.lt k hk) f.size⟩
def outsP (x : Sb) (k : Nat) : List Int := x.params ++ (x.ins.take k).flatMap (·.outs)
theorem outsP_step {x : Sb} {k : Nat} (h : k < x.ins.length) : outsP x (k + 1) = outsP x k ++ x.ins[k].outs := by
  unfold outsP
  rw [List.take_succ_eq_append_getElem h, List.flatMap_append, ← List.append_assoc]
  simp
theorem outsP_all {x : Sb} {k : Nat} (h : x.ins.length ≤ k) : outsP x k = outsB x := by
  unfold outsP outsB
  rw [List.take_of_length_le h]
theorem outsP_le (x : Sb) (k : Nat) : (outsP x k).length ≤ (outsB x).length := by
  unfold outsP outsB
  rw [List.length_append, List.length_append]
  refine Nat.add_le_add_left ?_ _
  conv => rhs; rw [← List.take_append_drop k x.ins, List.flatMap_append, List.length_append]
  omega
def IntsTo (l : List Int) (w : World) (e : Ending) (w' : World) : Prop :=
  ∃ (A : Option Addr) (c : Nat), e = .returned (.slice A l.length c) ∧ tI.els w' (fun k => w.heap.size ≤ k ∧ k < w'.heap.size) A l ∧ Fr No w w'
theorem outs_any {w : World} {S : Nat → Prop} {bc : List Value} {x : Sb} (h : BW w S bc x) (hx : (outsB x).length * 8 ≤ 140737488351232) (hi : x.ins.length ≤ 100000) : Calls Tryz.prog 25 #[.agg bc.toArray] w (IntsTo (outsB x) w) := by
  obtain ⟨Ap, cp, Ai, ci, Aa, ca, At, ct, rfl, -, -, hp, -, -, hins, -, -, -, -, -, -, -, -, -⟩ := Sb_cells h.rd
  have HP := hid hp
  have HI := hid hins
  have HS := hid h.lt
  have hpl : x.params.length ≤ (outsB x).length := by unfold outsB; rw [List.length_append]; omega
  obtain ⟨np, hnp⟩ : ∃ n, x.params.length = n := ⟨_, rfl⟩
  have HNP := hid hnp
  rw [hnp] at hpl ⊢
  clear h hp hins hnp
  obtain ⟨ni, hni⟩ : ∃ n, x.ins.length = n := ⟨_, rfl⟩
  have HNI := hid hni
  rw [hni] at hi ⊢
  clear hni
  unfold IntsTo
  generalize x.end_.args.length = na
  generalize x.end_.to.length = nt
  have F0 := hid ((Fr.refl No w).alloc (.cells #[.slice Ap np cp, .slice Ai ni ci, .int .i64 x.end_.kind, .int .i64 x.end_.cond, .slice Aa na ca, .slice At nt ct, .int .i64 x.end_.trap] 57))
  have G0 := hid (Blk.new w 57 #[.slice Ap np cp, .slice Ai ni ci, .int .i64 x.end_.kind, .int .i64 x.end_.cond, .slice Aa na ca, .slice At nt ct, .int .i64 x.end_.trap])
  go_enter Tryz.func25, Tryz.ntmps25
  go_upto_region 1 with fail
  generalize w.alloc (.cells #[.slice Ap np cp, .slice Ai ni ci, .int .i64 x.end_.kind, .int .i64 x.end_.cond, .slice Aa na ca, .slice At nt ct, .int .i64 x.end_.trap] 57) = W0 at *
  have hqw := G0.out.lt
  obtain ⟨q, hq⟩ : ∃ q, w.heap.size = q := ⟨_, rfl⟩
  have HQ := hid hq
  rw [hq] at G0 hqw ⊢
  clear hq
  have F1 := hid (F0.out.alloc (.cells #[] 3))
  have FE := (Fr.refl No W0).alloc (.cells #[] 3)
  have FEH := hid FE
  have G1 := hid (G0.out.fr FE (fun x => x))
  have R0 := hid (Ty.row.lit (t := tI) (S := Emp) (base := W0.heap.size) (css := []) (xs := []) (Blk.new W0 3 #[]) (Nat.le_refl _) Css.nil (by decide))
  obtain ⟨css, hcs, hrd⟩ := els_flat HP.out HS.out
  have HC := hid hcs
  have HRD := hid (hrd.fr F1.out (fun _ _ x => x))
  have y0 := G1.out.cell 0
  have FES := hid FE.size
  clear hcs hrd FE
  go_wp2_with (at_builtin; refine wpList_appC (t := tI) (base := W0.heap.size) (S := Emp) (xs := []) (ys := x.params) (dss := css) (B2 := w.heap.size) elInts rfl rfl rfl rfl R0.out (HC.out _ _) HRD.out HNP.out (by simp; omega) (by simp; omega) (fun _ h => h.elim) FES.out ?_; intro v1 w2 hr1 fr1 hv1; have F2 := hid (own_frame R0.out FEH.out fr1 (Nat.le_refl _)); have R1 := hid hr1; clear hr1 fr1 hv1)
  rw [List.nil_append] at R1
  obtain ⟨A1, c1, e1, _, _, _⟩ := R1.out.els (S' := fun _ => True) (fun _ _ => trivial) (fun _ _ => trivial)
  have ho0 : outsP x 0 = x.params := by simp [outsP]
  rw [← ho0] at R1 e1
  subst e1
  clear ho0 y0 R0 HC HRD F1 G1 FES FEH
  go_wp2_with fail
  go_loopw [3, 4] (fun v3 v4 wr => ∃ (k : Nat) (A : Option Addr) (c : Nat), k ≤ ni ∧ v4 = .int .i64 k ∧ v3 = .slice A (outsP x k).length c ∧ Hid (tI.row wr W0.heap.size Emp 3 (.slice A (outsP x k).length c) (outsP x k)) ∧ Hid (Fr No W0 wr)) (fun _ v4 _ => ni - (intOf v4).toNat)
  case atStart => exact ⟨0, A1, c1, by omega, rfl, rfl, R1, F2⟩
  case round =>
    clear R1
    obtain ⟨k, A, c, hk, rfl, rfl, HR, HF⟩ := hrel
    have HG := hid (G0.out.fr HF.out (fun x => x))
    have y1 := HG.out.cell 1
    have FK := hid (F0.out.trans HF.out (fun _ _ h => h))
    by_cases hgo : k < ni
    · have i0 : (0 : Int) ≤ k := by omega
      have i1 : (k : Int) < ni := by omega
      have hkl : k < x.ins.length := by rw [HNI.out]; exact hgo
      obtain ⟨b, o, Aa2, ca2, Ao2, co2, hA, hb, -, -, -, -, -, -, z6, -, -, -, -, -, -, -, -, -, -, hol⟩ := Si_at (HI.out.fr FK.out fun j hj => ⟨HS.out j hj, fun x => x⟩) k hkl
      subst hA
      obtain ⟨css, hcs, hrd⟩ := els_flat hol (fun j hj => Nat.lt_of_lt_of_le (HS.out j hj) FK.out.size)
      have HC := hid hcs
      have HRD := hid hrd
      have HST := hid (outsP_step hkl)
      have hle := outsP_le x (k + 1)
      rw [HST.out, List.length_append] at hle
      generalize x.ins[k].outs = l at *
      obtain ⟨m, hm⟩ : ∃ m, l.length = m := ⟨_, rfl⟩
      have HM := hid hm
      rw [hm] at hle z6
      clear hcs hrd hol hkl hm
      have HSZ := hid HF.out.size
      go_wp2_with (at_builtin; refine wpList_appC (t := tI) (base := W0.heap.size) (S := Emp) (xs := outsP x k) (ys := l) (dss := css) (B2 := wr.heap.size) elInts rfl rfl rfl rfl HR.out (HC.out _ _) HRD.out HM.out (by omega) (by omega) (fun _ h => h.elim) HSZ.out ?_; intro v9 wy hr9 fr1 hv9; have FY := hid (own_frame HR.out HF.out fr1 (Nat.le_refl _)); have RY := hid hr9; clear hr9 fr1 hv9)
      rw [← HST.out] at RY
      obtain ⟨A8, c8, e8, _, _, _⟩ := RY.out.els (S' := fun _ => True) (fun _ _ => trivial) (fun _ _ => trivial)
      subst e8
      go_round
      case rel => exact ⟨k + 1, A8, c8, by omega, by go_num, rfl, RY, FY⟩
      case measure => simp [intOf]; omega
    · have hkn : k = ni := by omega
      subst hkn
      have hall : outsP x k = outsB x := outsP_all (by rw [HNI.out]; exact Nat.le_refl _)
      rw [hall] at HR ⊢
      obtain ⟨A8, c8, e8, h1, h2, hs⟩ := HR.out.els (S' := fun j => w.heap.size ≤ j ∧ j < wr.heap.size) (fun j hj => hj.elim) (fun g hg => by obtain ⟨h0, _, hb⟩ := HR.out.own hg; have h2 := F0.out.size; exact ⟨by omega, hb.lt⟩)
      have HSE := hid hs
      injection e8 with e8 _ e9
      subst e8 e9
      clear hgo hall HR hs h1 h2
      go_wp2
      go_ret
      exact ⟨A, ⟨c, rfl⟩, HSE.out, FK.out⟩
end Go.Proofs.YtiafkakkbbclhaaGreat
namespace Go.Proofs.YtiafkakkbbclhaaGreat
open Go.RowKit
def usedC (e : En) : List Int := if e.kind = 1 ∨ e.kind = 2 then [e.cond] else []
def usedP (e : En) (k : Nat) : List Int := (usedC e ++ e.args) ++ (e.to.take k).flatMap (·.args)
theorem usedP_step {e : En} {k : Nat} (h : k < e.to.length) : usedP e (k + 1) = usedP e k ++ e.to[k].args := by
  unfold usedP
  rw [List.take_succ_eq_append_getElem h, List.flatMap_append, ← List.append_assoc]
  simp
theorem usedP_all {e : En} {k : Nat} (h : e.to.length ≤ k) : usedP e k = usedE e := by
  unfold usedP usedE usedC
  rw [List.take_of_length_le h]
theorem usedP_le (e : En) (k : Nat) : (usedP e k).length ≤ (usedE e).length := by
  unfold usedP usedE usedC
  rw [List.length_append, List.length_append (bs := e.to.flatMap _)]
  refine Nat.add_le_add_left ?_ _
  conv => rhs; rw [← List.take_append_drop k e.to, List.flatMap_append, List.length_append]
  omega
theorem used_any {w : World} {S : Nat → Prop} {bc : List Value} {x : Sb} (h : BW w S bc x) (hn : x.ins = []) (hx : (usedE x.end_).length * 8 ≤ 140737488351232) (ht : x.end_.to.length ≤ 100000) : Calls Tryz.prog 31 #[.agg bc.toArray] w (IntsTo (usedE x.end_) w) := by
  obtain ⟨Ap, cp, Ai, ci, Aa, ca, At, ct, rfl, -, -, -, -, -, -, -, wc, -, -, ha, -, -, hto, -⟩ := Sb_cells h.rd
  have HA := hid ha
  have HT := hid hto
  have HS := hid h.lt
  have hlen0 : x.ins.length = 0 := by rw [hn]; rfl
  rw [hlen0]
  generalize x.params.length = np
  generalize x.end_ = e at *
  clear h ha hto hn hlen0
  have hal : (usedC e).length + e.args.length ≤ (usedE e).length := by
    have := usedP_le e 0
    unfold usedP at this
    simpa using this
  obtain ⟨na, hna⟩ : ∃ n, e.args.length = n := ⟨_, rfl⟩
  have HNA := hid hna
  rw [hna] at hal ⊢
  clear hna
  obtain ⟨nt, hnt⟩ : ∃ n, e.to.length = n := ⟨_, rfl⟩
  have HNT := hid hnt
  rw [hnt] at ht ⊢
  clear hnt
  unfold IntsTo
  obtain ⟨kd, hkd⟩ : ∃ n, e.kind = n := ⟨_, rfl⟩
  obtain ⟨cd, hcd⟩ : ∃ n, e.cond = n := ⟨_, rfl⟩
  have HUC : Hid (usedC e = if kd = 1 ∨ kd = 2 then [cd] else []) := hid (by rw [← hkd, ← hcd]; rfl)
  rw [hcd] at wc
  rw [hkd, hcd]
  clear hkd hcd
  generalize e.trap = tr
  have F0 := hid ((Fr.refl No w).alloc (.cells #[.slice Ap np cp, .slice Ai 0 ci, .int .i64 kd, .int .i64 cd, .slice Aa na ca, .slice At nt ct, .int .i64 tr] 57))
  have G0 := hid (Blk.new w 57 #[.slice Ap np cp, .slice Ai 0 ci, .int .i64 kd, .int .i64 cd, .slice Aa na ca, .slice At nt ct, .int .i64 tr])
  go_enter Tryz.func31, Tryz.ntmps31
  go_upto_region 1 with fail
  generalize w.alloc (.cells #[.slice Ap np cp, .slice Ai 0 ci, .int .i64 kd, .int .i64 cd, .slice Aa na ca, .slice At nt ct, .int .i64 tr] 57) = W0 at *
  have hqw := G0.out.lt
  obtain ⟨q, hq⟩ : ∃ q, w.heap.size = q := ⟨_, rfl⟩
  have HQ := hid hq
  rw [hq] at G0 hqw ⊢
  clear hq
  have y1 := G0.out.cell 1
  have y2 := G0.out.cell 2
  go_wp2_with fail
  go_loop [3, 4] (fun v3 v4 => v3 = .slice none 0 0 ∧ v4 = .int .i64 0) (fun _ _ => 0)
  case atStart => exact ⟨rfl, rfl⟩
  case round =>
    obtain ⟨rfl, rfl⟩ := hrel
    go_upto_region 6 with fail
    clear y1
    obtain ⟨cb, hcb⟩ : ∃ cb : Bool, cb = decide (kd = 1 ∨ kd = 2) := ⟨_, rfl⟩
    go_cut [30] (fun v wx => v = .bool cb ∧ W0 = wx)
    case first =>
      by_cases h1 : kd = 1
      · subst h1
        have hcb2 : cb = true := by rw [hcb]; rfl
        subst hcb2
        clear hcb
        go_wp2_with fail
        go_meet
        case rel => exact ⟨rfl, rfl⟩
      · by_cases h2 : kd = 2
        · subst h2
          have hcb2 : cb = true := by rw [hcb]; rfl
          subst hcb2
          clear hcb h1
          go_wp2_with fail
          go_meet
          case rel => exact ⟨rfl, rfl⟩
        · have hcb2 : cb = false := by rw [hcb]; simp [h1, h2]
          subst hcb2
          have d1 : (kd == 1) = false := by simpa using h1
          have d2 : (kd == 2) = false := by simpa using h2
          clear hcb h1 h2
          go_wp2_with fail
          go_meet
          case rel => exact ⟨rfl, rfl⟩
    case rest =>
      obtain ⟨rfl, rfl⟩ := hcut
      clear y2
      have y3 := G0.out.cell 3
      go_upto_if 30 with fail
      go_cut [3] (fun v3 wx => ∃ A c, v3 = .slice A (usedC e).length c ∧ Hid (tI.row wx W0.heap.size Emp 3 (.slice A (usedC e).length c) (usedC e)) ∧ Hid (Fr No W0 wx))
      case first =>
        cases cb with
        | true =>
          have hu := HUC.out
          rw [if_pos (by simpa using hcb.symm)] at hu
          have HU := hid hu
          have FL := (Fr.refl No W0).alloc (.cells #[.int .i64 cd] 3)
          have BL := hid (Blk.new W0 3 #[.int .i64 cd])
          have FZL := hid FL
          clear FL hcb hu HUC
          go_wp2_with (at_builtin; refine wpList_appC (t := tI) (base := W0.heap.size) (S := Emp) (xs := []) (ys := [cd]) (dss := [[.int .i64 cd]]) (B2 := (W0.alloc (.cells #[.int .i64 cd] 3)).heap.size) elInts rfl rfl rfl rfl (Ty.row.nil _ _ _ _) (Css.one (int_mk wc)) (by simpa using Rd.blk BL.out BL.out.lt 0 (xs := [.int .i64 cd]) (fun i u h => by rw [Nat.zero_add]; simpa using h)) rfl (by simp) (by simp) (fun _ h => h.elim) FZL.out.size ?_; intro v8 wy hr8 fr1 hv8; have RY := hid hr8; have FY := hid (FZL.out.trans fr1 (fun i hi h => by cases h)); clear hr8 fr1 hv8)
          obtain ⟨A8, c8, e8, _, _, _⟩ := RY.out.els (S' := fun _ => True) (fun _ _ => trivial) (fun _ _ => trivial)
          subst e8
          go_meet
          case rel => exact ⟨A8, c8, by rw [HU.out]; rfl, by rw [HU.out]; exact RY, FY⟩
        | false =>
          have hu := HUC.out
          rw [if_neg (fun h => by simp [h] at hcb)] at hu
          have HU := hid hu
          clear hcb hu HUC
          go_wp2_with fail
          go_meet
          case rel => exact ⟨none, 0, by rw [HU.out]; rfl, by rw [HU.out]; exact hid (Ty.row.nil _ _ _ _), hid (Fr.refl _ _)⟩
      case rest =>
        clear hcb y3
        obtain ⟨A, c, rfl, HR, HF⟩ := hcut
        have HG := hid (G0.out.fr HF.out (fun x => x))
        have y4 := HG.out.cell 4
        have FK := hid (F0.out.trans HF.out (fun _ _ h => h))
        obtain ⟨css, hcs, hrd⟩ := els_flat (HA.out.fr FK.out fun j hj => ⟨HS.out j hj, fun x => x⟩) (fun j hj => Nat.lt_of_lt_of_le (HS.out j hj) FK.out.size)
        have HC := hid hcs
        have HRD := hid hrd
        have HSZ := hid HF.out.size
        clear hcs hrd
        go_wp2_with (at_builtin; refine wpList_appC (t := tI) (base := W0.heap.size) (S := Emp) (xs := usedC e) (ys := e.args) (dss := css) (B2 := wc.heap.size) elInts rfl rfl rfl rfl HR.out (HC.out _ _) HRD.out HNA.out (by omega) (by omega) (fun _ h => h.elim) HSZ.out ?_; intro v9 wy hr9 fr1 hv9; have FY := hid (own_frame HR.out HF.out fr1 (Nat.le_refl _)); have RY := hid hr9; clear hr9 fr1 hv9)
        have hu0 : usedC e ++ e.args = usedP e 0 := by simp [usedP]
        rw [hu0] at RY
        obtain ⟨A1, c1, e1, _, _, _⟩ := RY.out.els (S' := fun _ => True) (fun _ _ => trivial) (fun _ _ => trivial)
        subst e1
        clear HR HF HG y4 FK HC HRD HSZ hu0
        go_loopw [3, 5] (fun v3 v5 wr => ∃ (k : Nat) (A : Option Addr) (c : Nat), k ≤ nt ∧ v5 = .int .i64 k ∧ v3 = .slice A (usedP e k).length c ∧ Hid (tI.row wr W0.heap.size Emp 3 (.slice A (usedP e k).length c) (usedP e k)) ∧ Hid (Fr No W0 wr)) (fun _ v5 _ => nt - (intOf v5).toNat)
        case atStart => exact ⟨0, A1, c1, by omega, rfl, rfl, RY, FY⟩
        case round =>
          clear RY FY
          obtain ⟨k, A, c, hk, rfl, rfl, HR, HF⟩ := hrel
          have HG := hid (G0.out.fr HF.out (fun x => x))
          have y5 := HG.out.cell 5
          have FK := hid (F0.out.trans HF.out (fun _ _ h => h))
          by_cases hgo : k < nt
          · have i0 : (0 : Int) ≤ k := by omega
            have i1 : (k : Int) < nt := by omega
            have hkl : k < e.to.length := by rw [HNT.out]; exact hgo
            obtain ⟨b, o, Aa2, ca2, hA, hb, -, z1, -, -, -, hol⟩ := Ed_at (HT.out.fr FK.out fun j hj => ⟨HS.out j hj, fun x => x⟩) k hkl
            subst hA
            obtain ⟨css, hcs, hrd⟩ := els_flat hol (fun j hj => Nat.lt_of_lt_of_le (HS.out j hj) FK.out.size)
            have HC := hid hcs
            have HRD := hid hrd
            have HST := hid (usedP_step hkl)
            have hle := usedP_le e (k + 1)
            rw [HST.out, List.length_append] at hle
            generalize e.to[k].args = l at *
            obtain ⟨m, hm⟩ : ∃ m, l.length = m := ⟨_, rfl⟩
            have HM := hid hm
            rw [hm] at hle z1
            clear hcs hrd hol hkl hm
            have HSZ := hid HF.out.size
            go_wp2_with (at_builtin; refine wpList_appC (t := tI) (base := W0.heap.size) (S := Emp) (xs := usedP e k) (ys := l) (dss := css) (B2 := wr.heap.size) elInts rfl rfl rfl rfl HR.out (HC.out _ _) HRD.out HM.out (by omega) (by omega) (fun _ h => h.elim) HSZ.out ?_; intro v9 wy hr9 fr1 hv9; have FY := hid (own_frame HR.out HF.out fr1 (Nat.le_refl _)); have RY := hid hr9; clear hr9 fr1 hv9)
            rw [← HST.out] at RY
            obtain ⟨A8, c8, e8, _, _, _⟩ := RY.out.els (S' := fun _ => True) (fun _ _ => trivial) (fun _ _ => trivial)
            subst e8
            go_round
            case rel => exact ⟨k + 1, A8, c8, by omega, by go_num, rfl, RY, FY⟩
            case measure => simp [intOf]; omega
          · have hkn : k = nt := by omega
            subst hkn
            have hall : usedP e k = usedE e := usedP_all (by rw [HNT.out]; exact Nat.le_refl _)
            rw [hall] at HR ⊢
            obtain ⟨A8, c8, e8, h1, h2, hs⟩ := HR.out.els (S' := fun j => w.heap.size ≤ j ∧ j < wr.heap.size) (fun j hj => hj.elim) (fun g hg => by obtain ⟨h0, _, hb⟩ := HR.out.own hg; have h2 := F0.out.size; exact ⟨by omega, hb.lt⟩)
            have HSE := hid hs
            injection e8 with e8 _ e9
            subst e8 e9
            clear hgo hall HR hs h1 h2
            go_wp2
            go_ret
            exact ⟨A, ⟨c, rfl⟩, HSE.out, FK.out⟩
end Go.Proofs.YtiafkakkbbclhaaGreat
namespace Go.Proofs.YtiafkakkbbclhaaGreat
open Go.RowKit
theorem elLsI : ElemOk Tryz.prog 67 50 1 24 (.slice none 0 0) := ElemOk.mk' Tryz.underlying67 (by kernel_rfl) rfl (by decide)
structure FW (w : World) (S : Nat → Prop) (fc : List Value) (x : Sf) : Prop where
  rd : tSf.rd w S fc x
  lt : ∀ k, S k → k < w.heap.size
theorem FW.fr {w w' : World} {S : Nat → Prop} {fc : List Value} {x : Sf} (h : FW w S fc x) (f : Fr No w w') : FW w' S fc x :=
  ⟨(inferInstance : TyOk tSf).keep _ _ _ _ _ h.rd (fun _ hp => f.cell (h.lt _ hp) (fun x => x)), fun k hk => Nat.lt_of_lt_of_le (h.lt k hk) f.size⟩
def nxP (n : Nat) (es : List Ed) (i : Nat) : List Int := ((es.take i).map (·.to)).filter (isReal n)
theorem nxP_step {n : Nat} {es : List Ed} {i : Nat} (h : i < es.length) : nxP n es (i + 1) = nxP n es i ++ if isReal n es[i].to = true then [es[i].to] else [] := by
  unfold nxP
  rw [List.take_succ_eq_append_getElem h, List.map_append, List.filter_append]
  congr 1
  by_cases h1 : isReal n es[i].to = true <;> simp [h1]
theorem nxP_all {n : Nat} {es : List Ed} {i : Nat} (h : es.length ≤ i) : nxP n es i = (es.map (·.to)).filter (isReal n) := by
  unfold nxP
  rw [List.take_of_length_le h]
theorem nxP_le (n : Nat) (es : List Ed) (i : Nat) : (nxP n es i).length ≤ i := by
  unfold nxP
  have := List.length_filter_le (isReal n) ((es.take i).map (·.to))
  rw [List.length_map, List.length_take] at this
  omega
theorem nextOf_take {bs : List Sb} {k : Nat} (h : k < bs.length) : (nextOf bs).take (k + 1) = (nextOf bs).take k ++ [(bs[k].end_.to.map (·.to)).filter (isReal bs.length)] := by
  rw [List.take_add_one]
  simp [nextOf, h]
def NxTo (T : List (List Int)) (w : World) (e : Ending) (w' : World) : Prop :=
  ∃ (A : Option Addr) (c : Nat), e = .returned (.slice A T.length c) ∧ tI.slice.els w' (fun k => w.heap.size ≤ k ∧ k < w'.heap.size) A T ∧ Fr No w w'
theorem next_any {w : World} {S : Nat → Prop} {fc : List Value} {x : Sf} (h : FW w S fc x) (hn : x.blocks.length ≤ 100000) (ht : ∀ b ∈ x.blocks, b.end_.to.length ≤ 100000) : Calls Tryz.prog 13 #[.agg fc.toArray] w (NxTo (nextOf x.blocks) w) := by
  obtain ⟨AP, cP, AR, cR, AV, cV, AB, cB, rfl, -, -, -, -, -, -, -, -, -, -, -, hb⟩ := Sf_cells h.rd
  have HB := hid hb
  have HS := hid h.lt
  have HT := hid ht
  clear h hb ht
  generalize x.type.params.length = np
  generalize x.type.results.length = nr
  generalize x.vals.length = nv
  generalize x.blocks = bs at *
  have hln := next_len bs
  unfold NxTo
  rw [hln]
  clear hln
  obtain ⟨nb, hnb⟩ : ∃ n, bs.length = n := ⟨_, rfl⟩
  have HN := hid hnb
  rw [hnb] at hn ⊢
  clear hnb
  have F0 := hid ((Fr.refl No w).alloc (.cells #[.slice AP np cP, .slice AR nr cR, .slice AV nv cV, .slice AB nb cB] 39))
  have G0 := hid (Blk.new w 39 #[.slice AP np cP, .slice AR nr cR, .slice AV nv cV, .slice AB nb cB])
  go_enter Tryz.func13, Tryz.ntmps13
  go_upto_region 1 with fail
  generalize w.alloc (.cells #[.slice AP np cP, .slice AR nr cR, .slice AV nv cV, .slice AB nb cB] 39) = W0 at *
  have hqw := G0.out.lt
  obtain ⟨q, hq⟩ : ∃ q, w.heap.size = q := ⟨_, rfl⟩
  have HQ := hid hq
  rw [hq] at G0 hqw ⊢
  clear hq
  go_wp2_with fail
  go_loopw [3, 4] (fun v3 v4 wr => ∃ (k : Nat) (S' : Nat → Prop), k ≤ nb ∧ v4 = .int .i64 k ∧ Hid (Gr tI.slice W0 wr 50 v3 ((nextOf bs).take k) S')) (fun _ v4 _ => nb - (intOf v4).toNat)
  case atStart => exact ⟨0, fun _ => False, by omega, rfl, hid ⟨Ty.row.nil _ _ _ _, fun _ h => h.elim, Fr.refl _ _⟩⟩
  case round =>
    obtain ⟨k, S', hk, rfl, HG⟩ := hrel
    have HGB := hid (G0.out.fr HG.out.f (fun x => x))
    have y3 := HGB.out.cell 3
    have FK := hid (F0.out.trans HG.out.f (fun _ _ h => h))
    by_cases hgo : k < nb
    · have i0 : (0 : Int) ≤ k := by omega
      have i1 : (k : Int) < nb := by omega
      have hkl : k < bs.length := by rw [HN.out]; exact hgo
      obtain ⟨b, o, _, _, _, _, _, _, At, ct, hA, hb, -, -, -, -, -, z5, -, -, -, -, -, -, -, -, -, -, -, -, -, -, hto, -⟩ := Sb_at (HB.out.fr FK.out fun j hj => ⟨HS.out j hj, fun x => x⟩) k hkl
      have HM8 := HT.out _ (List.getElem_mem hkl)
      have HTK := hid (nextOf_take hkl)
      rw [HN.out] at HTK
      subst hA
      generalize bs[k].end_.to = es at *
      have HTO := hid hto
      obtain ⟨m, hm⟩ : ∃ m, es.length = m := ⟨_, rfl⟩
      have HM := hid hm
      rw [hm] at HM8 z5
      clear hto hm hkl
      obtain ⟨z1, hz1⟩ : ∃ n, wr.heap.size = n := ⟨_, rfl⟩
      have HZ1 := hid hz1
      have hown : ∀ g, u3.ownBlock = some g → g < z1 := fun g hg => by
        obtain ⟨_, cs, hb⟩ := HG.out.r.own hg
        have h1 := hb.lt
        omega
      have HOWN := hid hown
      clear hown
      clear hz1
      go_wp2_with fail
      go_loopw [5, 7] (fun v5 v7 wx => ∃ (i : Nat) (A : Option Addr) (c : Nat), i ≤ m ∧ v7 = .int .i64 i ∧ v5 = .slice A (nxP nb es i).length c ∧ Hid (tI.row wx z1 Emp 3 (.slice A (nxP nb es i).length c) (nxP nb es i)) ∧ Hid (Fr No wr wx)) (fun _ v7 _ => m - (intOf v7).toNat)
      case atStart => exact ⟨0, none, 0, by omega, rfl, rfl, hid (Ty.row.nil _ _ _ _), hid (Fr.refl _ _)⟩
      case round =>
        clear z5 y3
        obtain ⟨i, A, c, hi, rfl, rfl, HR, HF⟩ := hrel
        have HGX := hid (HGB.out.fr HF.out (fun x => x))
        have y3 := HGX.out.cell 3
        have FX := hid (FK.out.trans HF.out (fun _ _ h => h))
        have HLE := nxP_le nb es i
        by_cases hgi : i < m
        · have j0 : (0 : Int) ≤ i := by omega
          have j1 : (i : Int) < m := by omega
          have hil : i < es.length := by rw [HM.out]; exact hgi
          obtain ⟨b2, o2, _, _, hA2, hb2, z0, -, hwf, -, -, -⟩ := Ed_at (HTO.out.fr HF.out fun j hj => ⟨Nat.lt_of_lt_of_le (HS.out j hj) FK.out.size, fun x => x⟩) i hil
          subst hA2
          have HST := hid (nxP_step (n := nb) hil)
          generalize es[i].to = t at *
          clear hil
          by_cases h0 : 0 ≤ t
          · obtain ⟨e, rfl⟩ : ∃ e : Nat, t = e := ⟨t.toNat, by omega⟩
            by_cases h1 : e < nb
            · have k1 : (e : Int) < nb := by omega
              have k0 : (0 : Int) ≤ e := h0
              have hr : isReal nb (e : Int) = true := isReal_iff.2 ⟨h0, by omega⟩
              rw [if_pos hr] at HST
              clear hr h0 h1
              go_wp2
              go_quiet (fail)
              have FD := (Fr.refl No wr).drewN nq
              have HRD := hid (HR.out.fr FD (fun _ h => h.elim) (fun _ _ x => x))
              have HFD := hid (HF.out.trans FD (fun _ _ h => h))
              have zD := (FD.cell (p := ⟨b2, o2 + i * 2, none⟩) (Nat.lt_of_lt_of_le (HS.out b2 hb2) FX.out.size) (fun h => h)).trans z0
              clear FD z0 y3 HR HF
              generalize wr.drewN nq = wd at *
              have FL := (Fr.refl No wd).alloc (.cells #[.int .i64 e] 3)
              have BL := hid (Blk.new wd 3 #[.int .i64 e])
              have FRL := hid (HFD.out.trans FL (fun _ _ h => h))
              have RL := hid (HRD.out.fr FL (fun _ h => h.elim) (fun _ _ x => x))
              clear FL
              go_wp2_with (at_builtin; refine wpList_appC (t := tI) (base := _) (S := Emp) (xs := nxP nb es i) (ys := [(e : Int)]) (dss := [[.int .i64 e]]) (B2 := (wd.alloc (.cells #[.int .i64 e] 3)).heap.size) elInts rfl rfl rfl rfl RL.out (Css.one (int_mk hwf)) (by simpa using Rd.blk BL.out BL.out.lt 0 (xs := [.int .i64 e]) (fun i u h => by rw [Nat.zero_add]; simpa using h)) rfl (by omega) (by omega) (fun _ h => h.elim) (by have h1 := FRL.out.size; have h2 := HZ1.out; omega) ?_; intro v9 wy hr9 fr1 hv9; have FY := hid (own_frame RL.out FRL.out fr1 (by have := HZ1.out; omega)); have RY := hid hr9; clear hr9 fr1 hv9)
              rw [← HST.out] at RY
              obtain ⟨A8, c8, e8, _, _, _⟩ := RY.out.els (S' := fun _ => True) (fun _ _ => trivial) (fun _ _ => trivial)
              subst e8
              go_roundw
              case rel => exact ⟨i + 1, A8, c8, by omega, by go_num, rfl, RY, FY⟩
              case measure => simp [intOf]; omega
            · have d1 : decide ((e : Int) < nb) = false := decide_eq_false (by omega)
              have k0 : (0 : Int) ≤ e := h0
              have d2 : decide (e < nb) = false := decide_eq_false h1
              have k2 : ¬ (e : Int) < nb := by omega
              have hr : ¬ isReal nb (e : Int) = true := fun h => h1 (by have := (isReal_iff.1 h).2; omega)
              rw [if_neg hr, List.append_nil] at HST
              clear hr h0 h1
              go_wp2
              go_quiet (fail)
              go_wp2
              go_roundw
              case rel => exact ⟨i + 1, A, c, by omega, by go_num, by rw [HST.out], by rw [HST.out]; exact hid (HR.out.fr ((Fr.refl No _).drewN _) (fun _ h => h.elim) (fun _ _ x => x)), hid (HF.out.drewN _)⟩
              case measure => simp [intOf]; omega
          · have d0 : decide ((0 : Int) ≤ t) = false := decide_eq_false h0
            have hr : ¬ isReal nb t = true := fun h => h0 (isReal_iff.1 h).1
            rw [if_neg hr, List.append_nil] at HST
            clear hr h0
            go_wp2
            go_quiet (fail)
            go_wp2
            go_roundw
            case rel => exact ⟨i + 1, A, c, by omega, by go_num, by rw [HST.out], by rw [HST.out]; exact hid (HR.out.fr ((Fr.refl No _).drewN _) (fun _ h => h.elim) (fun _ _ x => x)), hid (HF.out.drewN _)⟩
            case measure => simp [intOf]; omega
        · have him : i = m := by omega
          subst him
          clear hgi
          have HALL := hid (nxP_all (n := nb) (es := es) (i := i) (by rw [HM.out]; exact Nat.le_refl _))
          rw [← HALL.out] at HTK
          clear HALL y3
          obtain ⟨A9, c9, e9, hc1, hc2, hs⟩ := HR.out.els (S' := fun j => S' j ∨ (z1 ≤ j ∧ j < wr.heap.size)) (fun j hj => hj.elim) (fun g hg => by obtain ⟨h0, _, hb⟩ := HR.out.own hg; exact .inr ⟨h0, hb.lt⟩)
          injection e9 with e9 _ e10
          subst e9 e10
          obtain ⟨l, hl⟩ : ∃ l, nxP nb es i = l := ⟨_, rfl⟩
          rw [hl] at hs hc1 HR HLE HTK ⊢
          clear hl
          obtain ⟨m, hm⟩ : ∃ m, l.length = m := ⟨_, rfl⟩
          have HLM := hid hm
          rw [hm] at HR hc1 HLE ⊢
          clear hm
          have HSE := hid hs
          have HC1 := hid hc1
          have HC2 := hid hc2
          have FA := (Fr.refl No wr).alloc (.cells #[.slice A m c] 50)
          have FW := HF.out
          have FWA := FW.trans FA (fun _ _ h => h)
          have FRL := hid (HG.out.f.trans FWA (fun _ _ h => h))
          have BL := hid (Blk.new wr 50 #[.slice A m c])
          have hsz := FA.size
          have h0z : W0.heap.size ≤ z1 := by have h1 := HG.out.f.size; have h3 := HZ1.out; omega
          have RL := hid ((HG.out.r.fr FWA (fun j hj => ⟨(HG.out.s j hj).2.1, fun x => x⟩) (fun _ _ x => x)).more (S' := fun j => S' j ∨ (z1 ≤ j ∧ j < wr.heap.size)) (Nat.le_refl _) (fun _ h => .inl h))
          have HSS : Hid (∀ j, S' j ∨ (z1 ≤ j ∧ j < wr.heap.size) → W0.heap.size ≤ j ∧ j < (wr.alloc (.cells #[.slice A m c] 50)).heap.size ∧ ¬ some j = u3.ownBlock) := fun j hj => by
            rcases hj with hj | ⟨hj1, hj2⟩
            · obtain ⟨h1, h2, h3⟩ := HG.out.s j hj
              exact ⟨h1, Nat.lt_of_lt_of_le h2 FWA.size, h3⟩
            · exact ⟨by omega, by omega, fun h => by have := HOWN.out _ h.symm; omega⟩
          have HRD : Hid (tI.slice.rd (wr.alloc (.cells #[.slice A m c] 50)) (fun j => S' j ∨ (z1 ≤ j ∧ j < wr.heap.size)) [.slice A m c] l) := hid ⟨A, c, by rw [HLM.out], by rw [HLM.out]; exact hc1, hc2, hs.fr FA (fun j hj => ⟨by
            rcases hj with hj | ⟨hj1, hj2⟩
            · exact Nat.lt_of_lt_of_le (HG.out.s j hj).2.1 FW.size
            · exact hj2, fun x => x⟩)⟩
          have HTL : Hid (((nextOf bs).take k).length ≤ 100000) := hid (by rw [List.length_take, next_len]; omega)
          clear FA FW FWA h0z hs hc1 hc2 HR hsz
          go_wp2_with (at_builtin; refine wpList_appC (t := tI.slice) (base := W0.heap.size) (S := fun j => S' j ∨ (z1 ≤ j ∧ j < wr.heap.size)) (xs := (nextOf bs).take k) (ys := [l]) (dss := [[.slice A m c]]) (B2 := (wr.alloc (.cells #[.slice A m c] 50)).heap.size) elLsI rfl rfl rfl rfl RL.out (Css.one HRD.out) (by simpa using Rd.blk BL.out BL.out.lt 0 (xs := [.slice A m c]) (fun i u h => by rw [Nat.zero_add]; simpa using h)) rfl (by have := HTL.out; omega) (by have := HTL.out; omega) (fun j h => (HSS.out j h).2) FRL.out.size ?_; intro v9 wy hr9 fr1 hv9; have FY := hid (own_frame RL.out FRL.out fr1 (Nat.le_refl _)); have RY := hid hr9; have HSY := hid (fun j hj => Nat.lt_of_lt_of_le (HSS.out j hj).2.1 fr1.size); have HV9 := hid hv9; clear hr9 fr1 hv9)
          rw [← HTK.out] at RY
          go_round
          case rel => exact ⟨k + 1, fun j => S' j ∨ (z1 ≤ j ∧ j < wr.heap.size), by omega, by go_num, hid ⟨RY.out, fun j hj => ⟨(HSS.out j hj).1, HSY.out j hj, fun h => by
            rcases HV9.out with e | e
            · rw [e] at h; exact (HSS.out j hj).2.2 h
            · rw [e] at h
              have h1 := (HSS.out j hj).2.1
              injection h with h
              omega⟩, FY.out⟩⟩
          case measure => simp [intOf]; omega
    · have hkn : k = nb := by omega
      subst hkn
      have htk : (nextOf bs).take k = nextOf bs := List.take_of_length_le (by rw [next_len, HN.out]; exact Nat.le_refl _)
      rw [htk] at HG
      have hlen : (nextOf bs).length = k := (next_len bs).trans HN.out
      obtain ⟨A8, c8, e8, h1, h2, hs⟩ := HG.out.r.els (S' := fun j => w.heap.size ≤ j ∧ j < wr.heap.size) (fun j hj => by have h1 := (HG.out.s j hj).1; have h2 := F0.out.size; exact ⟨by omega, (HG.out.s j hj).2.1⟩) (fun g hg => by obtain ⟨h0, _, hb⟩ := HG.out.r.own hg; have h2 := F0.out.size; exact ⟨by omega, hb.lt⟩)
      have HSE := hid hs
      rw [hlen] at e8
      subst e8
      clear hgo htk HG hs h1 h2 hlen
      go_wp2
      go_ret
      exact ⟨A8, c8, rfl, HSE.out, FK.out⟩
end Go.Proofs.YtiafkakkbbclhaaGreat
namespace Go.Proofs.YtiafkakkbbclhaaGreat
open Go.RowKit
def rWv (q : Nat) (v : Value) (w : World) : Nat := 2 * (match w.heap[q]? with | some (.cells cs _ _) => cs.toList.countP isF | _ => 0) + (match v with | .bool true => 1 | _ => 0)
theorem rWv_eq {w : World} {q : Nat} {l : List Bool} {a : Bool} (h : Bs w q l) : rWv q (.bool a) w = 2 * l.count false + a.toNat := by
  unfold Bs Blk at h
  unfold rWv
  rw [h]
  dsimp only
  have e : (l.map Value.bool).countP isF = l.count false := by
    rw [List.countP_map, List.count]
    congr 1
    funext b
    cases b <;> rfl
  rw [e]
  cases a <;> rfl
theorem next_real {bs : List Sb} {l : List Int} (hl : l ∈ nextOf bs) {t : Int} (ht : t ∈ l) : 0 ≤ t ∧ t < bs.length := by
  unfold nextOf at hl
  obtain ⟨b, -, rfl⟩ := List.mem_map.1 hl
  exact isReal_iff.1 (List.mem_filter.1 ht).2
structure Rd3 (w : World) (nx : List (List Int)) (q : Nat) (wr : World) (l : List Bool) (C : Nat) (a : Bool) : Prop where
  b : Bs wr q l
  r : RdI nx l
  c : l.count false + a.toNat ≤ C
  f : Fr No w wr
def RdTo (nx : List (List Int)) (w : World) (e : Ending) (w' : World) : Prop :=
  ∃ (A : Option Addr) (c : Nat) (l : List Bool), e = .returned (.slice A l.length c) ∧ l.length = nx.length ∧ (∀ k, l[k]? = some true ↔ Rch nx (fun _ => False) k) ∧ Ty.bool.els w' (fun k => w.heap.size ≤ k ∧ k < w'.heap.size) A l ∧ Fr No w w'
theorem reached39_any {w : World} {S : Nat → Prop} {fc : List Value} {x : Sf} (h : FW w S fc x) (hn : x.blocks.length ≤ 100000) (ht : ∀ b ∈ x.blocks, b.end_.to.length ≤ 100000) : Calls Tryz.prog 15 #[.agg fc.toArray] w (RdTo (nextOf x.blocks) w) := by
  obtain ⟨AP, cP, AR, cR, AV, cV, AB, cB, rfl, -⟩ := Sf_cells h.rd
  have F0 := hid ((Fr.refl No w).alloc (.cells #[.slice AP x.type.params.length cP, .slice AR x.type.results.length cR, .slice AV x.vals.length cV, .slice AB x.blocks.length cB] 39))
  have HC := next_any (h.fr F0.out) hn ht
  clear h ht
  generalize x.type.params.length = np at *
  generalize x.type.results.length = nr at *
  generalize x.vals.length = nv at *
  have HRE : Hid (∀ l ∈ nextOf x.blocks, ∀ t ∈ l, 0 ≤ t ∧ t < x.blocks.length) := hid fun l hl t ht => next_real hl ht
  have hln := next_len x.blocks
  unfold NxTo at HC
  unfold RdTo
  generalize nextOf x.blocks = nx at *
  rw [hln] at HC ⊢
  obtain ⟨n, hnn⟩ : ∃ n, x.blocks.length = n := ⟨_, rfl⟩
  rw [hnn] at hn hln HC HRE F0 ⊢
  have HN := hid hln
  clear hln hnn
  have G0 := hid (Blk.new w 39 #[.slice AP np cP, .slice AR nr cR, .slice AV nv cV, .slice AB n cB])
  have HC2 := hid HC
  clear HC
  go_enter Tryz.func15, Tryz.ntmps15
  go_upto_region 1 with fail
  generalize w.alloc (.cells #[.slice AP np cP, .slice AR nr cR, .slice AV nv cV, .slice AB n cB] 39) = W0 at *
  have y0 := G0.out.cell 0
  have y1 := G0.out.cell 1
  have y2 := G0.out.cell 2
  have y3 := G0.out.cell 3
  have hqw := G0.out.lt
  go_wp2_with fail
  refine HC2.out.mono ?_
  clear HC2
  rintro e w1 ⟨AN, cN, rfl, hels, f1⟩
  have F1 := hid (F0.out.trans f1 (fun _ _ h => h))
  have HE := hid hels
  clear y0 y1 y2 y3 f1 hels hqw
  have hmk := fun W => run_mk elBools rfl W .i64 .i64 n (by omega) (by omega)
  have B2 := hid (Bs.new w1 n)
  have F2 := hid ((Fr.refl No w1).alloc (.cells (Array.replicate n (.bool false)) 4))
  go_upto_region 3 with fail
  clear hmk
  generalize w1.alloc (.cells (Array.replicate n (.bool false)) 4) = W2 at *
  have hqlt := B2.out.lt
  obtain ⟨q, hq⟩ : ∃ q, w1.heap.size = q := ⟨_, rfl⟩
  have HQ := hid hq
  rw [hq] at B2 hqlt ⊢
  clear hq
  obtain ⟨l0, hl0⟩ : ∃ l0, (if 0 < n then (List.replicate n false).set 0 true else List.replicate n false) = l0 := ⟨_, rfl⟩
  have HR0 : Hid (RdI nx l0) := hid (by rw [← hl0]; have := RdI.start (nx := nx); rw [HN.out] at this; exact this)
  have HC0 : Hid (l0.count false ≤ n) := hid (by have h1 := List.count_le_length (a := false) (l := l0); have h2 := HR0.out.len; rw [HN.out] at h2; omega)
  obtain ⟨cb, hcb⟩ : ∃ cb : Bool, cb = decide (0 < n) := ⟨_, rfl⟩
  go_cut [15] (fun v wx => v = .bool cb ∧ W2 = wx)
  case first =>
    by_cases h1 : 0 < n
    · have i1 : (0 : Int) < n := by omega
      have hcb2 : cb = true := by rw [hcb]; exact decide_eq_true h1
      subst hcb2
      clear hl0 hcb
      go_wp2_with fail
      go_meet
      case rel => exact ⟨rfl, rfl⟩
    · have hcb2 : cb = false := by rw [hcb]; exact decide_eq_false h1
      have h0 : n = 0 := by omega
      subst hcb2
      clear hl0 hcb
      subst h0
      go_wp2_with fail
      go_meet
      case rel => exact ⟨rfl, rfl⟩
  case rest =>
    obtain ⟨rfl, rfl⟩ := hcut
    go_upto_if 15 with fail
    go_cut [4] (fun v4 wx => v4 = .slice (some ⟨q, 0, none⟩) n n ∧ Hid (Bs wx q l0) ∧ Hid (Fr No w1 wx))
    case first =>
      by_cases h1 : 0 < n
      · have i1 : (0 : Int) < n := by omega
        have hcb2 : cb = true := by rw [hcb]; exact decide_eq_true h1
        subst hcb2
        rw [if_pos h1] at hl0
        have z1 : W2.cell? ⟨q, 0, none⟩ = some (.bool false) := by rw [B2.out.cell (k := 0) (by simpa using h1)]; simp
        have z2 := B2.out.frozen 0
        have BS := hid (B2.out.set 0 true)
        rw [hl0] at BS
        have FS := hid (F2.out.setCell ⟨q, 0, none⟩ (.bool true) (fun hlt => by simp only at hlt; rw [HQ.out] at hlt; omega))
        clear hl0 hcb
        go_wp2_with fail
        go_meet
        case rel => exact ⟨rfl, BS, FS⟩
      · have hcb2 : cb = false := by rw [hcb]; exact decide_eq_false h1
        subst hcb2
        rw [if_neg h1] at hl0
        subst hl0
        clear hcb
        go_wp2_with fail
        go_meet
        case rel => exact ⟨rfl, B2, F2⟩
    case rest =>
      obtain ⟨rfl, HB, HF⟩ := hcut
      clear B2 F2 hqlt hl0 hcb
      go_wp2_with fail
      go_loopw [5] (fun v5 wr => ∃ (a : Bool) (l : List Bool), v5 = .bool a ∧ Hid (Bs wr q l) ∧ Hid (RdI nx l) ∧ Hid (a = false → Clo nx l n 0) ∧ Hid (Fr No w1 wr)) (fun v5 wr => rWv q v5 wr)
      case atStart => exact ⟨true, l0, rfl, HB, HR0, hid (fun h => by cases h), HF⟩
      case round =>
        clear HB HR0 HC0 HF
        obtain ⟨a, l, rfl, HB, HR, HCL, HF⟩ := hrel
        have HWV := hid (rWv_eq (a := a) HB.out)
        cases a with
        | false =>
          have HALL := hid (fun k => HR.out.all (by rw [HN.out]; exact HCL.out rfl) k)
          have hll := HR.out.len.trans HN.out
          have HBE := hid (HB.out.els (B := w.heap.size) (by have := HQ.out; have := F1.out.size; omega))
          have FR := hid (F1.out.trans HF.out (fun _ _ h => h))
          clear HB HR HCL HF HWV
          go_wp2
          go_ret
          exact ⟨some ⟨q, 0, none⟩, n, l, by rw [hll]; rfl, hll, HALL.out, HBE.out, FR.out⟩
        | true =>
          go_wp2_with fail
          obtain ⟨C0, hC0⟩ : ∃ C, l.count false = C := ⟨_, rfl⟩
          have HST : Hid (Rd3 w1 nx q wr l C0 false) := hid ⟨HB.out, HR.out, by rw [hC0]; exact Nat.le_refl _, HF.out⟩
          rw [hC0] at HWV
          clear HB HR HCL HF hC0
          go_loopw [5, 6] (fun v5 v6 wx => ∃ (b : Nat) (a : Bool) (l' : List Bool), b ≤ n ∧ v6 = .int .i64 b ∧ v5 = .bool a ∧ Hid (Rd3 w1 nx q wx l' C0 a) ∧ Hid (a = false → Clo nx l' b 0)) (fun _ v6 _ => n - (intOf v6).toNat)
          case atStart => exact ⟨0, false, l, by omega, rfl, rfl, HST, hid (fun _ => Clo.zero)⟩
          case round =>
            clear HST
            obtain ⟨b, a, l1, hb, rfl, rfl, HR3, HCL⟩ := hrel
            by_cases hgb : b < n
            · have i0 : (0 : Int) ≤ b := by omega
              have i1 : (b : Int) < n := by omega
              have hbx : b < nx.length := by rw [HN.out]; exact hgb
              obtain ⟨b2, o2, Aa, ca, hA2, hb2, y0, hrow, hml⟩ := rows_at HE.out b hbx
              subst hA2
              have HLA : Hid (nx[b]? = some nx[b]) := hid (List.getElem?_eq_getElem hbx)
              have HREL := hid (HRE.out nx[b] (List.getElem_mem hbx))
              have HROW := hid hrow
              generalize nx[b] = row at *
              obtain ⟨m, hm⟩ : ∃ m, row.length = m := ⟨_, rfl⟩
              have HM := hid hm
              rw [hm] at y0 hml
              have hb22 := hb2.2
              clear hm hrow hbx hb2
              go_wp2_with fail
              go_loopw [5, 7] (fun v5 v7 wx => ∃ (i : Nat) (a : Bool) (l' : List Bool), i ≤ m ∧ v7 = .int .i64 i ∧ v5 = .bool a ∧ Hid (Rd3 w1 nx q wx l' C0 a) ∧ Hid (a = false → Clo nx l' b i)) (fun _ v7 _ => m - (intOf v7).toNat)
              case atStart => exact ⟨0, a, l1, by omega, rfl, rfl, HR3, HCL⟩
              case round =>
                clear HR3 HCL
                obtain ⟨i, a2, l2, hi, rfl, rfl, HR4, HCL4⟩ := hrel
                have y1 := (HR4.out.f.cell (p := ⟨b2, o2 + b, none⟩) hb22 (fun x => x)).trans y0
                have hl2 : l2.length = n := HR4.out.r.len.trans HN.out
                by_cases hgi : i < m
                · have j0 : (0 : Int) ≤ i := by omega
                  have j1 : (i : Int) < m := by omega
                  have z1 := HR4.out.b.cell (k := b) (by omega)
                  have HLB : Hid (l2[b]? = some l2[b]) := hid (List.getElem?_eq_getElem (by omega))
                  cases hlb : l2[b]'(by omega) with
                  | false =>
                    rw [hlb] at z1 HLB
                    have HCN : Hid (a2 = false → Clo nx l2 (b + 1) 0) := hid fun h => Clo.no (fun k l hk hl j c hj hc hkj => HCL4.out h k l hk hl j c hj hc (by omega)) (by rw [HLB.out]; simp)
                    clear HCL4 hlb HLB
                    go_wp2
                    go_roundw
                    case rel => exact ⟨b + 1, a2, l2, by omega, by go_num, rfl, HR4, HCN⟩
                    case measure => simp [intOf]; omega
                  | true =>
                    rw [hlb] at z1 HLB
                    have hil : i < row.length := by rw [HM.out]; exact hgi
                    obtain ⟨b3, o3, hA3, hb3, z2, hwf⟩ := ints_at HROW.out i hil
                    subst hA3
                    have z3 := (HR4.out.f.cell (p := ⟨b3, o3 + i, none⟩) hb3.2 (fun x => x)).trans z2
                    have HT : Hid (row[i]? = some row[i]) := hid (List.getElem?_eq_getElem hil)
                    obtain ⟨ht0, ht1⟩ := HREL.out _ (List.getElem_mem hil)
                    generalize row[i] = t at *
                    obtain ⟨e, rfl⟩ : ∃ e : Nat, t = e := ⟨t.toNat, by omega⟩
                    have z4 := HR4.out.b.cell (k := e) (by omega)
                    have z5 := HR4.out.b.frozen e
                    have HLE : Hid (l2[e]? = some l2[e]) := hid (List.getElem?_eq_getElem (by omega))
                    clear z2 hb3 hil hlb
                    cases hle : l2[e]'(by omega) with
                    | true =>
                      rw [hle] at z4 HLE
                      have HCN : Hid (a2 = false → Clo nx l2 b (i + 1)) := hid fun h => (HCL4.out h).step HLA.out HT.out (fun c hc => by have hce : c = e := (by omega); subst hce; exact HLE.out)
                      clear HCL4 hle z5
                      go_wp2
                      go_roundw
                      case rel => exact ⟨i + 1, a2, l2, by omega, by go_num, rfl, HR4, HCN⟩
                      case measure => simp [intOf]; omega
                    | false =>
                      rw [hle] at z4 HLE
                      have hct := count_setT HLE.out
                      have HCC : Hid ((l2.set e true).count false + true.toNat ≤ C0) := hid (by have h1 := HR4.out.c; have h2 : true.toNat = 1 := rfl; omega)
                      have HRN := hid (HR4.out.r.put HLB.out HLA.out HT.out (by rw [HN.out]; omega))
                      have HBN := hid (HR4.out.b.set e true)
                      have HFN := hid (HR4.out.f.setCell ⟨q, e, none⟩ (.bool true) (fun hlt => by simp only at hlt; rw [HQ.out] at hlt; omega))
                      have hql := HR4.out.b.lt
                      clear HCL4 hle HR4 hct
                      go_wp2
                      go_roundw
                      case rel => exact ⟨i + 1, true, l2.set e true, by omega, by go_num, rfl, hid ⟨HBN.out, HRN.out, HCC.out, HFN.out⟩, hid (fun h => by cases h)⟩
                      case measure => simp [intOf]; omega
                · have him : i = m := by omega
                  subst him
                  clear hgi
                  have HCN : Hid (a2 = false → Clo nx l2 (b + 1) 0) := hid fun h => (HCL4.out h).row HLA.out (by rw [HM.out]; exact Nat.le_refl _)
                  clear HCL4
                  go_wp2
                  go_roundw
                  case rel => exact ⟨b + 1, a2, l2, by omega, by go_num, rfl, HR4, HCN⟩
                  case measure => simp [intOf]; omega
            · have hbn : b = n := by omega
              subst hbn
              clear hgb
              have HW2 := hid (rWv_eq (a := a) HR3.out.b)
              go_wp2
              refine ⟨⟨a, l1, rfl, hid HR3.out.b, hid HR3.out.r, HCL, hid HR3.out.f⟩, ?_⟩
              have h1 := HW2.out
              have h2 := HWV.out
              have h3 := HR3.out.c
              rw [h1, h2]
              have h4 : true.toNat = 1 := rfl
              cases a
              · have h5 : false.toNat = 0 := rfl
                omega
              · omega
end Go.Proofs.YtiafkakkbbclhaaGreat
