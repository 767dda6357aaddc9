/- Merged: TaA TaB TaC TaD. -/
import Derived.Test.YtdckghiipijobaaGreatStXY

namespace Go.Proofs.YtdckghiipijobaaGreat
open Go.RowKit

theorem strU_beq {xs ys : List Int} (b1 : ∀ b ∈ xs, 0 ≤ b ∧ b ≤ 255) (b2 : ∀ b ∈ ys, 0 ≤ b ∧ b ≤ 255) : ((strU xs).toList == (strU ys).toList) = decide (xs = ys) := by
  by_cases h : xs = ys
  · subst h; simp
  · rw [decide_eq_false h, beq_eq_false_iff_ne]
    intro e
    refine h (strU_inj b1 b2 ?_)
    rw [strU, strU, ByteArray.toList_mk, ByteArray.toList_mk] at e
    rw [strU, strU, e]
set_option maxHeartbeats 800000 in
theorem beq_any (A B : Option Addr) (xs ys : List Int) (c d : Nat) (S T : Nat → Prop) (w : World) (ha : tB.els w S A xs) (hb : tB.els w T B ys) :
    Calls Tryz.prog 106 #[.slice A xs.length c, .slice B ys.length d] w fun e w' => e = .returned (.bool (decide (xs = ys))) ∧ ∃ n, w' = w.drewN n := by
  obtain ⟨hc1, b1⟩ := conv_els c ha
  obtain ⟨hc2, b2⟩ := conv_els d hb
  have hE := strU_beq b1 b2
  have HE := hid hE
  clear hE ha hb b1 b2
  go_enter Tryz.func106, Tryz.ntmps106
  go_wp2
  go_ret
  exact ⟨rt_bool HE.out, 0, rfl⟩

set_option maxHeartbeats 800000 in
theorem sequ_any (A B : Option Addr) (xs ys : List Int) (c d : Nat) (S T : Nat → Prop) (w : World) (ha : tU.els w S A xs) (hb : tU.els w T B ys) (h1 : xs.length ≤ 140737488351232) (h2 : ys.length ≤ 140737488351232) :
    Calls Tryz.prog 108 #[.slice A xs.length c, .slice B ys.length d] w fun e w' => e = .returned (.bool (decide (xs = ys))) ∧ ∃ n, w' = w.drewN n := by
  by_cases hl : xs.length = ys.length
  · have e1 : (((xs.length : Nat) : Int) != ((ys.length : Nat) : Int)) = false := by simp [hl]
    have hL := hid hl
    have hl1 : xs.length ≤ ys.length := by omega
    clear hl
    go_enter Tryz.func108, Tryz.ntmps108
    go_wp2
    go_loopw [13] (fun i wr => ∃ k m : Nat, k ≤ xs.length ∧ i = .int .i64 k ∧ wr = w.drewN m ∧ xs.take k = ys.take k) (fun i _ => xs.length - (intOf i).toNat)
    case atStart => exact ⟨0, 0, by omega, rfl, rfl, by simp⟩
    case round =>
      obtain ⟨k, m, hk, rfl, rfl, hq⟩ := hrel
      have HQ := hid hq
      clear hq e1
      by_cases hlt : k < xs.length
      · obtain ⟨b, o, rfl, _, c1, _⟩ := u_at ha k hlt
        obtain ⟨b', o', rfl, _, c2, _⟩ := u_at hb k (by omega)
        have i0 : (0 : Int) ≤ k := by omega
        have i1 : (k : Int) < xs.length := by omega
        have i2 : (k : Int) < ys.length := by omega
        generalize hx : xs[k] = x at c1
        generalize hy : ys[k] = y at c2
        have HX := hid hx
        have HY := hid hy
        clear hx hy ha hb
        by_cases hxy : x = y
        · have hn : (x != y) = false := by simp [hxy]
          have HXY := hid hxy
          clear hxy
          go_wp2
          go_quiet (fail)
          go_wp2
          go_roundw
          case rel =>
            refine ⟨k + 1, _, by omega, by go_num, rfl, ?_⟩
            rw [List.take_succ_eq_append_getElem hlt, List.take_succ_eq_append_getElem (by omega), HQ.out, HX.out, HY.out, HXY.out]
          case measure => simp [intOf]; omega
        · have hn : (x != y) = true := by simp [hxy]
          have HXY := hid hxy
          clear hxy
          go_wp2
          go_quiet (fail)
          go_wp2
          go_ret
          refine ⟨ret_bool ?_, m + nq, World.drewN_drewN _ _ _⟩
          symm
          rw [decide_eq_false_iff_not]
          rintro rfl
          exact HXY.out (HX.out.symm.trans HY.out)
      · go_wp2
        go_ret
        refine ⟨ret_bool ?_, _, rfl⟩
        symm
        rw [decide_eq_true_eq]
        have h := HQ.out
        have h' := hL.out
        rwa [List.take_of_length_le (by omega), List.take_of_length_le (by omega)] at h
  · have e1 : (((xs.length : Nat) : Int) != ((ys.length : Nat) : Int)) = true := by simp; omega
    have hL := hid hl
    clear hl
    go_enter Tryz.func108, Tryz.ntmps108
    go_wp2
    go_ret
    refine ⟨ret_bool ?_, 0, rfl⟩
    symm
    rw [decide_eq_false_iff_not]
    rintro rfl
    exact hL.out rfl

set_option maxHeartbeats 800000 in
theorem seqb_any (A B : Option Addr) (xs ys : List Bool) (c d : Nat) (S T : Nat → Prop) (w : World) (ha : Ty.bool.els w S A xs) (hb : Ty.bool.els w T B ys) (h1 : xs.length ≤ 140737488351232) (h2 : ys.length ≤ 140737488351232) :
    Calls Tryz.prog 110 #[.slice A xs.length c, .slice B ys.length d] w fun e w' => e = .returned (.bool (decide (xs = ys))) ∧ ∃ n, w' = w.drewN n := by
  by_cases hl : xs.length = ys.length
  · have e1 : (((xs.length : Nat) : Int) != ((ys.length : Nat) : Int)) = false := by simp [hl]
    have hL := hid hl
    have hl1 : xs.length ≤ ys.length := by omega
    clear hl
    go_enter Tryz.func110, Tryz.ntmps110
    go_wp2
    go_loopw [13] (fun i wr => ∃ k m : Nat, k ≤ xs.length ∧ i = .int .i64 k ∧ wr = w.drewN m ∧ xs.take k = ys.take k) (fun i _ => xs.length - (intOf i).toNat)
    case atStart => exact ⟨0, 0, by omega, rfl, rfl, by simp⟩
    case round =>
      obtain ⟨k, m, hk, rfl, rfl, hq⟩ := hrel
      have HQ := hid hq
      clear hq e1
      by_cases hlt : k < xs.length
      · obtain ⟨b, o, rfl, _, c1⟩ := bl_at ha k hlt
        obtain ⟨b', o', rfl, _, c2⟩ := bl_at hb k (by omega)
        have i0 : (0 : Int) ≤ k := by omega
        have i1 : (k : Int) < xs.length := by omega
        have i2 : (k : Int) < ys.length := by omega
        generalize hx : xs[k] = x at c1
        generalize hy : ys[k] = y at c2
        have HX := hid hx
        have HY := hid hy
        clear hx hy ha hb
        cases x with
        | true =>
          cases y with
          | true =>
            go_wp2
            go_quiet (fail)
            go_wp2
            go_roundw
            case rel =>
              refine ⟨k + 1, _, by omega, by go_num, rfl, ?_⟩
              rw [List.take_succ_eq_append_getElem hlt, List.take_succ_eq_append_getElem (by omega), HQ.out, HX.out, HY.out]
            case measure => simp [intOf]; omega
          | false =>
            go_wp2
            go_quiet (fail)
            go_wp2
            go_ret
            refine ⟨ret_bool ?_, m + nq, World.drewN_drewN _ _ _⟩
            symm
            rw [decide_eq_false_iff_not]
            rintro rfl
            cases HX.out.symm.trans HY.out
        | false =>
          cases y with
          | true =>
            go_wp2
            go_quiet (fail)
            go_wp2
            go_ret
            refine ⟨ret_bool ?_, m + nq, World.drewN_drewN _ _ _⟩
            symm
            rw [decide_eq_false_iff_not]
            rintro rfl
            cases HX.out.symm.trans HY.out
          | false =>
            go_wp2
            go_quiet (fail)
            go_wp2
            go_roundw
            case rel =>
              refine ⟨k + 1, _, by omega, by go_num, rfl, ?_⟩
              rw [List.take_succ_eq_append_getElem hlt, List.take_succ_eq_append_getElem (by omega), HQ.out, HX.out, HY.out]
            case measure => simp [intOf]; omega
      · go_wp2
        go_ret
        refine ⟨ret_bool ?_, _, rfl⟩
        symm
        rw [decide_eq_true_eq]
        have h := HQ.out
        have h' := hL.out
        rwa [List.take_of_length_le (by omega), List.take_of_length_le (by omega)] at h
  · have e1 : (((xs.length : Nat) : Int) != ((ys.length : Nat) : Int)) = true := by simp; omega
    have hL := hid hl
    clear hl
    go_enter Tryz.func110, Tryz.ntmps110
    go_wp2
    go_ret
    refine ⟨ret_bool ?_, 0, rfl⟩
    symm
    rw [decide_eq_false_iff_not]
    rintro rfl
    exact hL.out rfl

def tPv : Ty (Vl × Vl) := tVl.pair tVl
instance : TyOk tPv := by unfold tPv; infer_instance
instance : TyMore tPv := by unfold tPv; infer_instance
instance : TyOne tPv := by unfold tPv; infer_instance
instance : TyFlat tPv := by unfold tPv; infer_instance
theorem elPv : ElemOk Tryz.prog 327 328 4 32 (.agg #[.int .i64 0, .int .u64 0, .int .i64 0, .int .u64 0]) := ElemOk.mk' Tryz.underlying327 (by kernel_rfl) rfl (by decide)
end Go.Proofs.YtdckghiipijobaaGreat

namespace Go.Proofs.YtdckghiipijobaaGreat
open Go.RowKit

theorem Pv_cells {w : World} {S : Nat → Prop} {cs : List Value} {p : Vl × Vl} (h : tPv.rd w S cs p) : cs = [.int .i64 p.1.t, .int .u64 p.1.n, .int .i64 p.2.t, .int .u64 p.2.n] := by
  obtain ⟨c1, c2, rfl, h1, h2⟩ := h
  obtain ⟨rfl, _⟩ := Vl_cells h1
  obtain ⟨rfl, _⟩ := Vl_cells h2
  rfl
def PrTo (l : List (Vl × Vl)) (w : World) (e : Ending) (w' : World) : Prop :=
  ∃ (A : Option Addr) (c : Nat), e = .returned (.slice A l.length c) ∧ tPv.els w' (· < w'.heap.size) A l ∧ Fr No w w'
set_option maxRecDepth 100000 in
set_option maxHeartbeats 1600000 in
theorem vpairs_any (A B : Option Addr) (xs ys : List Vl) (n c d : Nat) (S T : Nat → Prop) (w : World) (ha : tVl.els w S A xs) (hb : tVl.els w T B ys) (hS : ∀ k, S k → k < w.heap.size) (hT : ∀ k, T k → k < w.heap.size) (hx : Hid (xs.length = n)) (hy : Hid (ys.length = n)) (hn : n ≤ 1048576) :
    Calls Tryz.prog 185 #[.slice A n c, .slice B n d] w (PrTo (xs.zip ys) w) := by
  have HA := hid ha
  have HB := hid hb
  clear ha hb
  go_enter Tryz.func185, Tryz.ntmps185
  go_wp2_with fail
  go_loopw [5, 12] (fun v i wr => ∃ (k : Nat), k ≤ n ∧ i = .int .i64 k ∧ Hid (tPv.row wr w.heap.size Emp 328 v ((xs.zip ys).take k)) ∧ Hid (Fr No w wr)) (fun _ i _ => n - (intOf i).toNat)
  case atStart => exact ⟨0, by omega, rfl, Ty.row.nil _ _ _ _, Fr.refl _ _⟩
  case round =>
    obtain ⟨k, hk, rfl, I, F⟩ := hrel
    by_cases hlt : k < n
    · have hkx : k < xs.length := by rw [hx.out]; exact hlt
      have hky : k < ys.length := by rw [hy.out]; exact hlt
      have hkz : k < (xs.zip ys).length := by rw [List.length_zip]; omega
      obtain ⟨b, o, rfl, hbS, c1, c2, w1, w2⟩ := Vl_at HA.out k hkx
      obtain ⟨b', o', rfl, hbT, c3, c4, w3, w4⟩ := Vl_at HB.out k hky
      have HX : Hid (∀ X, Fr No w X → X.cell? ⟨b, o + k * 2, none⟩ = some (.int .i64 xs[k].t) ∧ X.cell? ⟨b, o + k * 2 + 1, none⟩ = some (.int .u64 xs[k].n) ∧ X.cell? ⟨b', o' + k * 2, none⟩ = some (.int .i64 ys[k].t) ∧ X.cell? ⟨b', o' + k * 2 + 1, none⟩ = some (.int .u64 ys[k].n)) := fun X f =>
        ⟨(f.cell (p := ⟨b, o + k * 2, none⟩) (hS b hbS) (fun x => x)).trans c1, (f.cell (p := ⟨b, o + k * 2 + 1, none⟩) (hS b hbS) (fun x => x)).trans c2, (f.cell (p := ⟨b', o' + k * 2, none⟩) (hT b' hbT) (fun x => x)).trans c3, (f.cell (p := ⟨b', o' + k * 2 + 1, none⟩) (hT b' hbT) (fun x => x)).trans c4⟩
      have RX : Hid (∀ (X : World) (S' : Nat → Prop), tPv.rd X S' [.int .i64 xs[k].t, .int .u64 xs[k].n, .int .i64 ys[k].t, .int .u64 ys[k].n] (xs[k], ys[k])) := fun X S' => ⟨_, _, rfl, Vl_mk w1 w2, Vl_mk w3 w4⟩
      have HZ : Hid ((xs.zip ys)[k] = (xs[k], ys[k])) := List.getElem_zip
      obtain ⟨x, hxx⟩ : ∃ x, x = xs[k] := ⟨_, rfl⟩
      obtain ⟨y, hyy⟩ : ∃ y, y = ys[k] := ⟨_, rfl⟩
      rw [← hxx, ← hyy] at HX RX HZ
      have i0 : (0 : Int) ≤ k := by omega
      have i1 : (k : Int) < n := by omega
      clear c1 c2 c3 c4 w1 w2 w3 w4 hxx hyy
      go_wp2_with fail
      refine wp_region_ord (fun X => X.cell? ⟨b, o + k * 2, none⟩ = some (.int .i64 x.t) ∧ X.cell? ⟨b, o + k * 2 + 1, none⟩ = some (.int .u64 x.n) ∧ X.cell? ⟨b', o' + k * 2, none⟩ = some (.int .i64 y.t) ∧ X.cell? ⟨b', o' + k * 2 + 1, none⟩ = some (.int .u64 y.n)) [] [(0, true), (1, true), (2, true), (3, true), (4, true), (5, true), (6, true), (7, true), (8, true), (9, true), (10, false), (11, false), (12, true)] (by kernel_rfl) (by kernel_rfl) (by kernel_rfl) rfl (HX.out _ F.out.drew) ?_
      repeat (first
        | (refine wpO_skip rfl rfl ?_; simp only [List.getElem_toArray, List.getElem_cons_succ, List.getElem_cons_zero, Act.put, List.setIfInBounds_toArray, List.set_cons_zero, List.set_cons_succ])
        | (refine wpO_call rfl rfl ?_; simp only [List.getElem_toArray, List.getElem_cons_succ, List.getElem_cons_zero]; apply Exists.intro; refine ⟨fun X hX => ?_, ?_⟩
           · (have s0 := hX.1; have s1 := hX.2.1; have s2 := hX.2.2.1; have s3 := hX.2.2.2; go_simp; exact stillUpon_value)
           simp only [Act.put, List.setIfInBounds_toArray, List.set_cons_zero, List.set_cons_succ]))
      refine wpO_eff rfl rfl (fun K hK => ?_)
      simp only [List.getElem_toArray, List.getElem_cons_succ, List.getElem_cons_zero]
      go_simp
      have F3 := hid (((Fr.refl No wr).alloc (.cells #[.int .i64 x.t, .int .u64 x.n, .int .i64 y.t, .int .u64 y.n] 328)).drew)
      have G3 := hid (Blk.drew (Blk.new wr 328 #[.int .i64 x.t, .int .u64 x.n, .int .i64 y.t, .int .u64 y.n]))
      refine hK _ _ (fun _ => HX.out _ (F.out.trans F3.out (fun _ _ h => h))) ?_
      clear hK K
      generalize (wr.alloc (.cells #[.int .i64 x.t, .int .u64 x.n, .int .i64 y.t, .int .u64 y.n] 328)).drew = w3 at *
      have I3 := hid (I.out.fr F3.out (fun _ h => h.elim) (fun _ _ x => x))
      have F4 := hid (F.out.trans F3.out (fun _ _ h => h))
      repeat (first
        | (refine wpO_skip rfl rfl ?_; simp only [List.getElem_toArray, List.getElem_cons_succ, List.getElem_cons_zero, Act.put, List.setIfInBounds_toArray, List.set_cons_zero, List.set_cons_succ])
        | (refine wpO_call rfl rfl ?_; simp only [List.getElem_toArray, List.getElem_cons_succ, List.getElem_cons_zero]; apply Exists.intro; refine ⟨fun X hX => ?_, ?_⟩
           · (have s0 := hX.1; have s1 := hX.2.1; have s2 := hX.2.2.1; have s3 := hX.2.2.2; go_simp; exact stillUpon_value)
           simp only [Act.put, List.setIfInBounds_toArray, List.set_cons_zero, List.set_cons_succ]))
      refine wpO_eff rfl rfl (fun K hK => ?_)
      simp only [List.getElem_toArray, List.getElem_cons_succ, List.getElem_cons_zero]
      have hlk : ((xs.zip ys).take k).length = k := by rw [List.length_take]; omega
      refine opwp_appC (t := tPv) (P := Tryz.prog) (base := w.heap.size) (S := Emp) (v := u5) (xs := (xs.zip ys).take k) (ys := [(x, y)]) (dss := [[.int .i64 x.t, .int .u64 x.n, .int .i64 y.t, .int .u64 y.n]]) (B2 := w3.heap.size) elPv rfl rfl rfl I3.out (Css.one (RX.out _ _)) (Rd.blk G3.out G3.out.lt 0 (fun k u hu => by rw [Nat.zero_add]; simpa using hu)) rfl (by rw [hlk]; omega) (by rw [hlk]; omega) (fun _ h => h.elim) F4.out.size ?_
      intro v1 w5 hr5 f5 hv5
      have F5 : Hid (Fr No w w5) := F4.out.trans f5 (fun k hk e => by have := (I3.out.own e.symm).1; omega)
      have R5 : Hid (tPv.row w5 w.heap.size Emp 328 v1 ((xs.zip ys).take (k + 1))) := by
        rw [List.take_succ_eq_append_getElem hkz, HZ.out]; exact hr5
      refine hK _ _ (fun _ => HX.out _ F5.out) ?_
      clear hK K hr5 f5 hv5 hlk
      simp only [Act.put, List.setIfInBounds_toArray, List.set_cons_zero, List.set_cons_succ]
      repeat (first
        | (refine wpO_skip rfl rfl ?_; simp only [List.getElem_toArray, List.getElem_cons_succ, List.getElem_cons_zero, Act.put, List.setIfInBounds_toArray, List.set_cons_zero, List.set_cons_succ])
        | (refine wpO_call rfl rfl ?_; simp only [List.getElem_toArray, List.getElem_cons_succ, List.getElem_cons_zero]; apply Exists.intro; refine ⟨fun X hX => ?_, ?_⟩
           · (have s0 := hX.1; have s1 := hX.2.1; have s2 := hX.2.2.1; have s3 := hX.2.2.2; go_simp; exact stillUpon_value)
           simp only [Act.put, List.setIfInBounds_toArray, List.set_cons_zero, List.set_cons_succ]))
      refine wpO_nil ?_
      go_wp2
      go_roundw
      case rel => exact ⟨k + 1, by omega, by go_num, R5.out, F5.out⟩
      case measure => simp [intOf]; omega
    · have hkn : k = n := by omega
      subst hkn
      have hlz : (xs.zip ys).length = k := by rw [List.length_zip, hx.out, hy.out]; omega
      have I := I.out
      rw [List.take_of_length_le (by omega)] at I
      obtain ⟨A1, c1, e, _, _, h1⟩ := I.els (S' := (· < wr.heap.size)) (fun _ h => h.elim) (fun k hk => by obtain ⟨_, _, h⟩ := I.own hk; exact h.lt)
      subst e
      have H1 := hid h1
      clear h1 I hlz
      go_wp2
      go_ret
      exact ⟨A1, c1, rfl, H1.out, F.out⟩
/-- Some pair differs. -/
def difB (l : List (Vl × Vl)) : Bool := l.any fun p => decide (p.1 ≠ p.2)
theorem difB_zip : ∀ {xs ys : List Vl}, xs.length = ys.length → difB (xs.zip ys) = !decide (xs = ys)
  | [], [], _ => rfl
  | x :: xs, y :: ys, h => by
    have ih := difB_zip (xs := xs) (ys := ys) (by simpa using h)
    simp only [difB, List.zip_cons_cons, List.any_cons] at ih ⊢
    rw [ih]
    by_cases hx : x = y <;> simp [hx]
set_option maxRecDepth 100000 in
set_option maxHeartbeats 1600000 in
theorem vs1_any (p : Vl × Vl) (w : World) : Calls Tryz.prog 186 #[.agg #[.int .i64 p.1.t, .int .u64 p.1.n, .int .i64 p.2.t, .int .u64 p.2.n]] w fun e w' => e = .returned (.bool (decide (p.1 ≠ p.2))) ∧ Fr No w w' := by
  obtain ⟨⟨a, b⟩, c, d⟩ := p
  have F0 := hid ((Fr.refl No w).alloc (.cells #[.int .i64 a, .int .u64 b, .int .i64 c, .int .u64 d] 328))
  have hE : decide ((⟨a, b⟩ : Vl) ≠ ⟨c, d⟩) = !(a == c && (b == d && true)) := by
    by_cases h : a = c <;> by_cases h' : b = d <;> simp [h, h']
  have HE := hid hE
  have hrun := fun X => run_eq_vl a b c d X
  clear hE
  go_enter Tryz.func186, Tryz.ntmps186
  go_wp2
  go_ret
  refine ⟨rt_bool ?_, F0.out⟩
  rw [HE.out]
  cases (a == c) <;> cases (b == d) <;> rfl
def IdxTo (l : List (Vl × Vl)) (w : World) (e : Ending) (w' : World) : Prop := ∃ r : Int, e = .returned (.int .i64 r) ∧ Hid (decide (0 ≤ r) = difB l) ∧ Fr No w w'
set_option maxRecDepth 100000 in
set_option maxHeartbeats 1600000 in
theorem vidx_any (A : Option Addr) (c : Nat) (l : List (Vl × Vl)) (S : Nat → Prop) (w : World) (h : tPv.els w S A l) (hS : ∀ k, S k → k < w.heap.size) (hl : l.length ≤ 1048576) :
    Calls Tryz.prog 200 #[.slice A l.length c, .func (.func 186) #[] #[]] w (IdxTo l w) := by
  have H := hid h
  clear h
  go_enter Tryz.func200, Tryz.ntmps200
  go_wp2_with fail
  go_loopw [8] (fun i wr => ∃ (k : Nat), k ≤ l.length ∧ i = .int .i64 k ∧ Hid (difB (l.take k) = false) ∧ Hid (Fr No w wr)) (fun i _ => l.length - (intOf i).toNat)
  case atStart => exact ⟨0, by omega, rfl, rfl, Fr.refl _ _⟩
  case round =>
    obtain ⟨k, hk, rfl, D, F⟩ := hrel
    by_cases hlt : k < l.length
    · obtain ⟨b, o, ds, rfl, hb, hc, hr⟩ := (H.out.fr F.out (fun k hk => ⟨hS k hk, fun x => x⟩)).at_ k hlt
      have e := Pv_cells hr
      subst e
      have e : tPv.size = 4 := rfl
      rw [e] at hc
      have c0 : wr.cell? ⟨b, o + k * 4, none⟩ = some (.int .i64 l[k].1.t) := hc 0 _ rfl
      have c1 : wr.cell? ⟨b, o + k * 4 + 1, none⟩ = some (.int .u64 l[k].1.n) := hc 1 _ rfl
      have c2 : wr.cell? ⟨b, o + k * 4 + 2, none⟩ = some (.int .i64 l[k].2.t) := hc 2 _ rfl
      have c3 : wr.cell? ⟨b, o + k * 4 + 3, none⟩ = some (.int .u64 l[k].2.n) := hc 3 _ rfl
      have hbl : b < wr.heap.size := Nat.lt_of_lt_of_le (hS b hb) F.out.size
      have HD : Hid (difB (l.take (k + 1)) = decide (l[k].1 ≠ l[k].2)) := by
        have := D.out
        unfold Hid difB at *
        rw [List.take_succ_eq_append_getElem hlt, List.any_append, this]
        simp
      have HDY : Hid (decide (l[k].1 ≠ l[k].2) = true → difB l = true) := fun h => by
        unfold difB
        rw [List.any_eq_true]
        exact ⟨l[k], List.getElem_mem hlt, h⟩
      obtain ⟨p, hp⟩ : ∃ p, p = l[k] := ⟨_, rfl⟩
      rw [← hp] at c0 c1 c2 c3 HD HDY
      have i0 : (0 : Int) ≤ k := by omega
      have i1 : (k : Int) < l.length := by omega
      clear hc hr e hp
      obtain ⟨q, hq⟩ : ∃ q, q = decide (p.1 ≠ p.2) := ⟨_, rfl⟩
      have HV := hid (vs1_any p)
      rw [← hq] at HV HD HDY
      clear hq
      go_wp2_with fail
      refine (HV.out _).mono ?_
      rintro e w1 ⟨rfl, f1⟩
      have F1 := hid (F.out.trans f1 (fun _ _ h => h))
      clear f1 c0 c1 c2 c3
      cases q with
      | true =>
        go_wp2
        go_ret
        refine ⟨k, rfl, ?_, F1.out⟩
        unfold Hid
        rw [HDY.out trivial, decide_eq_true_eq]
        omega
      | false =>
        go_wp2
        go_roundw
        case rel => exact ⟨k + 1, by omega, by go_num, HD.out, F1.out⟩
        case measure => simp [intOf]; omega
    · go_wp2
      go_ret
      refine ⟨-1, rfl, ?_, F.out⟩
      have := D.out
      rw [List.take_of_length_le (by omega)] at this
      unfold Hid
      rw [this]
      decide
set_option maxHeartbeats 800000 in
theorem vcont_any (A : Option Addr) (c : Nat) (l : List (Vl × Vl)) (S : Nat → Prop) (w : World) (h : tPv.els w S A l) (hS : ∀ k, S k → k < w.heap.size) (hl : l.length ≤ 1048576) :
    Calls Tryz.prog 184 #[.slice A l.length c, .func (.func 186) #[] #[]] w fun e w' => e = .returned (.bool (difB l)) ∧ Fr No w w' := by
  have H := hid (vidx_any A c l S w h hS hl)
  clear h
  go_enter Tryz.func184, Tryz.ntmps184
  go_wp2_with fail
  refine H.out.mono ?_
  rintro e w1 ⟨r, rfl, hr, f1⟩
  have F1 := hid f1; clear f1
  go_wp2
  go_ret
  exact ⟨rt_bool hr.out, F1.out⟩
set_option maxHeartbeats 800000 in
theorem vsame_any (A B : Option Addr) (xs ys : List Vl) (c d : Nat) (S T : Nat → Prop) (w : World) (ha : tVl.els w S A xs) (hb : tVl.els w T B ys) (hS : ∀ k, S k → k < w.heap.size) (hT : ∀ k, T k → k < w.heap.size) (h1 : xs.length ≤ 1048576) :
    Calls Tryz.prog 109 #[.slice A xs.length c, .slice B ys.length d] w fun e w' => e = .returned (.bool (decide (xs = ys))) ∧ Fr No w w' := by
  by_cases hl : xs.length = ys.length
  · have HP := hid (vpairs_any A B xs ys xs.length c d S T w ha hb hS hT rfl hl.symm h1)
    have HZ : Hid ((!difB (xs.zip ys)) = decide (xs = ys)) := by unfold Hid; rw [difB_zip hl]; simp
    have HLZ : Hid ((xs.zip ys).length ≤ 1048576) := by rw [Hid, List.length_zip]; omega
    rw [← hl]
    obtain ⟨zs, hzs⟩ : ∃ zs, zs = xs.zip ys := ⟨_, rfl⟩
    rw [← hzs] at HP HZ HLZ
    clear hl ha hb hzs
    go_enter Tryz.func109, Tryz.ntmps109
    go_wp2_with (first
      | (go_at_call 185; refine HP.out.mono ?_; rintro e w1 ⟨A1, c1, rfl, h1, f1⟩; have H1 := hid h1; have F1 := hid f1; clear f1 h1)
      | (go_at_call 184; (refine (vcont_any A1 c1 zs (· < w1.heap.size) w1 H1.out (fun _ h => h) HLZ.out).mono ?_; rintro e w2 ⟨rfl, f2⟩; have F2 := hid f2; clear f2)))
    go_ret
    exact ⟨rt_bool HZ.out, F1.out.trans F2.out (fun _ _ h => h)⟩
  · have e1 : (((xs.length : Nat) : Int) == ((ys.length : Nat) : Int)) = false := by simp; omega
    have hne : decide (xs = ys) = false := by rw [decide_eq_false_iff_not]; rintro rfl; exact hl rfl
    rw [hne]
    clear ha hb hl hne
    go_enter Tryz.func109, Tryz.ntmps109
    go_wp2
    go_ret
    exact ⟨rfl, Fr.refl _ _⟩
end Go.Proofs.YtdckghiipijobaaGreat

namespace Go.Proofs.YtdckghiipijobaaGreat
open Go.RowKit

instance : DecidableEq Ca := fun a b =>
  if h : a.host = b.host ∧ a.args = b.args then isTrue (by cases a; cases b; obtain ⟨h1, h2⟩ := h; simp only at h1 h2; subst h1; subst h2; rfl)
  else isFalse (fun e => h ⟨congrArg Ca.host e, congrArg Ca.args e⟩)
theorem slel_at {α : Type} {t : Ty α} [TyOk t] [TyMore t] {w : World} {S : Nat → Prop} {A : Option Addr} {l : List (List α)} (h : t.slice.els w S A l) (i : Nat) (hi : i < l.length) :
    ∃ (b o : Nat) (A1 : Option Addr) (c1 : Nat), A = some ⟨b, o, none⟩ ∧ S b ∧ w.cell? ⟨b, o + i, none⟩ = some (.slice A1 l[i].length c1) ∧ t.els w S A1 l[i] := by
  obtain ⟨b, o, ds, rfl, hb, hc, hr⟩ := h.at_ i hi
  obtain ⟨A1, c1, rfl, h1, h2, h3⟩ := hr
  have e : (Ty.slice t).size = 1 := rfl
  rw [e, Nat.mul_one] at hc
  exact ⟨b, o, A1, c1, rfl, hb, hc 0 _ rfl, h3⟩
set_option maxRecDepth 100000 in
set_option maxHeartbeats 1600000 in
theorem ca1_any (x y : Ca) (A B : Option Addr) (c d : Nat) (S T : Nat → Prop) (w : World) (ha : tVl.els w S A x.args) (hb : tVl.els w T B y.args) (hS : ∀ k, S k → k < w.heap.size) (hT : ∀ k, T k → k < w.heap.size) (h1 : x.args.length ≤ 1048576) :
    Calls Tryz.prog 112 #[.agg #[.int .i64 x.host, .slice A x.args.length c], .agg #[.int .i64 y.host, .slice B y.args.length d]] w fun e w' => e = .returned (.bool (decide (x = y))) ∧ Fr No w w' := by
  obtain ⟨hx, ax⟩ := x
  obtain ⟨hy, ay⟩ := y
  dsimp only at ha hb h1 ⊢
  have F0 := hid (((Fr.refl No w).alloc (.cells #[.int .i64 hx, .slice A ax.length c] 113)).alloc (.cells #[.int .i64 hy, .slice B ay.length d] 113))
  by_cases h : hx = hy
  · subst h
    have HE : Hid (decide (ax = ay) = decide ((⟨hx, ax⟩ : Ca) = ⟨hx, ay⟩)) := by unfold Hid; simp
    have HVS := hid (vsame_any A B ax ay c d S T _ (ha.fr F0.out (fun k hk => ⟨hS k hk, fun x => x⟩)) (hb.fr F0.out (fun k hk => ⟨hT k hk, fun x => x⟩)) (fun k hk => Nat.lt_of_lt_of_le (hS k hk) F0.out.size) (fun k hk => Nat.lt_of_lt_of_le (hT k hk) F0.out.size) h1)
    clear ha hb
    go_enter Tryz.func112, Tryz.ntmps112
    go_wp2_with (go_at_call 109; refine HVS.out.mono ?_; rintro e w1 ⟨rfl, f1⟩; have F1 := hid f1; clear f1)
    go_ret
    exact ⟨rt_bool HE.out, F0.out.trans F1.out (fun _ _ h => h)⟩
  · have e1 : (hx == hy) = false := by simp [h]
    have HE : Hid (false = decide ((⟨hx, ax⟩ : Ca) = ⟨hy, ay⟩)) := by unfold Hid; symm; rw [decide_eq_false_iff_not]; intro e; exact h (congrArg Ca.host e)
    clear ha hb h
    go_enter Tryz.func112, Tryz.ntmps112
    go_wp2
    go_ret
    exact ⟨rt_bool HE.out, F0.out⟩

set_option maxRecDepth 100000 in
set_option maxHeartbeats 1600000 in
theorem eqfB_any (A B : Option Addr) (xs ys : List (List Int)) (c d : Nat) (S T : Nat → Prop) (w : World) (ha : (tB.slice).els w S A xs) (hb : (tB.slice).els w T B ys) (hS : ∀ k, S k → k < w.heap.size) (hT : ∀ k, T k → k < w.heap.size) (h1 : xs.length ≤ 1048576) (hbd : ∀ c ∈ xs, c.length ≤ 1048576) :
    Calls Tryz.prog 105 #[.slice A xs.length c, .slice B ys.length d, .func (.func 106) #[] #[]] w fun e w' => e = .returned (.bool (decide (xs = ys))) ∧ Fr No w w' := by
  by_cases hl : xs.length = ys.length
  · have e1 : (((xs.length : Nat) : Int) != ((ys.length : Nat) : Int)) = false := by simp [hl]
    have HA := hid ha
    have HB := hid hb
    have hL := hid hl
    clear ha hb
    go_enter Tryz.func105, Tryz.ntmps105
    go_wp2
    go_loopw [17] (fun i wr => ∃ k : Nat, k ≤ xs.length ∧ i = .int .i64 k ∧ Hid (xs.take k = ys.take k) ∧ Hid (Fr No w wr)) (fun i _ => xs.length - (intOf i).toNat)
    case atStart => exact ⟨0, by omega, rfl, by simp [Hid], Fr.refl _ _⟩
    case round =>
    obtain ⟨k, hk, rfl, HQ, F⟩ := hrel
    clear e1
    by_cases hlt : k < xs.length
    · have hkx : k < xs.length := hlt
      have hky : k < ys.length := by omega
      obtain ⟨b, o, A1, c1, rfl, hbS, k1, e1⟩ := slel_at HA.out k hkx
      obtain ⟨b', o', B1, d1, rfl, hbT, k3, e2⟩ := slel_at HB.out k hky
      have hbx := hbd xs[k] (List.getElem_mem hkx)
      have k1 := (F.out.cell (p := ⟨b, o + k, none⟩) (hS b hbS) (fun x => x)).trans k1
      have k3 := (F.out.cell (p := ⟨b', o' + k, none⟩) (hT b' hbT) (fun x => x)).trans k3
      have E1 := hid (e1.fr F.out (fun k hk => ⟨hS k hk, fun x => x⟩))
      have E2 := hid (e2.fr F.out (fun k hk => ⟨hT k hk, fun x => x⟩))
      have HS : Hid (∀ k, S k → k < wr.heap.size) := fun k hk => Nat.lt_of_lt_of_le (hS k hk) F.out.size
      have HT : Hid (∀ k, T k → k < wr.heap.size) := fun k hk => Nat.lt_of_lt_of_le (hT k hk) F.out.size
      have HX : Hid (xs.take (k + 1) = xs.take k ++ [xs[k]]) := List.take_succ_eq_append_getElem hkx
      have HY : Hid (ys.take (k + 1) = ys.take k ++ [ys[k]]) := List.take_succ_eq_append_getElem hky
      have HNE : Hid (xs[k] ≠ ys[k] → xs ≠ ys) := by rintro h rfl; exact h rfl
      obtain ⟨x, hxx⟩ : ∃ x, x = xs[k] := ⟨_, rfl⟩
      obtain ⟨y, hyy⟩ : ∃ y, y = ys[k] := ⟨_, rfl⟩
      simp only [← hxx, ← hyy] at *
      have i0 : (0 : Int) ≤ k := by omega
      have i1 : (k : Int) < xs.length := by omega
      have i2 : (k : Int) < ys.length := by omega
      have HC := hid (beq_any A1 B1 x y c1 d1 S T wr E1.out E2.out)
      clear e1 e2 hxx hyy hl
      go_wp2_with fail
      refine HC.out.mono ?_
      rintro e w1 ⟨rfl, m, rfl⟩
      have F1 := hid (F.out.drewN m)
      clear HC
      by_cases hxy : x = y
      · have hd : decide (x = y) = true := by simp [hxy]
        have HXY := hid hxy
        rw [hd]
        clear hxy hd
        go_wp2
        go_roundw
        case rel =>
          refine ⟨k + 1, by omega, by go_num, ?_, F1.out⟩
          show List.take (k + 1) xs = List.take (k + 1) ys
          rw [HX.out, HY.out, HQ.out, HXY.out]
        case measure => simp [intOf]; omega
      · have hd : decide (x = y) = false := by simp [hxy]
        have HXY := hid hxy
        rw [hd]
        clear hxy hd
        go_wp2
        go_ret
        refine ⟨ret_bool ?_, F1.out⟩
        symm
        rw [decide_eq_false_iff_not]
        exact HNE.out HXY.out
    · go_wp2
      go_ret
      refine ⟨ret_bool ?_, F.out⟩
      symm
      rw [decide_eq_true_eq]
      have h := HQ.out
      have h' := hL.out
      rwa [List.take_of_length_le (by omega), List.take_of_length_le (by omega)] at h
  · have e1 : (((xs.length : Nat) : Int) != ((ys.length : Nat) : Int)) = true := by simp; omega
    have hL := hid hl
    clear hl ha hb
    go_enter Tryz.func105, Tryz.ntmps105
    go_wp2
    go_ret
    refine ⟨ret_bool ?_, Fr.refl _ _⟩
    symm
    rw [decide_eq_false_iff_not]
    rintro rfl
    exact hL.out rfl

set_option maxRecDepth 100000 in
set_option maxHeartbeats 1600000 in
theorem eqfU_any (A B : Option Addr) (xs ys : List (List Int)) (c d : Nat) (S T : Nat → Prop) (w : World) (ha : (tU.slice).els w S A xs) (hb : (tU.slice).els w T B ys) (hS : ∀ k, S k → k < w.heap.size) (hT : ∀ k, T k → k < w.heap.size) (h1 : xs.length ≤ 1048576) (hbd : ∀ c ∈ xs, c.length ≤ 1048576) (hbe : ∀ c ∈ ys, c.length ≤ 1048576) :
    Calls Tryz.prog 107 #[.slice A xs.length c, .slice B ys.length d, .func (.func 108) #[] #[]] w fun e w' => e = .returned (.bool (decide (xs = ys))) ∧ Fr No w w' := by
  by_cases hl : xs.length = ys.length
  · have e1 : (((xs.length : Nat) : Int) != ((ys.length : Nat) : Int)) = false := by simp [hl]
    have HA := hid ha
    have HB := hid hb
    have hL := hid hl
    clear ha hb
    go_enter Tryz.func107, Tryz.ntmps107
    go_wp2
    go_loopw [17] (fun i wr => ∃ k : Nat, k ≤ xs.length ∧ i = .int .i64 k ∧ Hid (xs.take k = ys.take k) ∧ Hid (Fr No w wr)) (fun i _ => xs.length - (intOf i).toNat)
    case atStart => exact ⟨0, by omega, rfl, by simp [Hid], Fr.refl _ _⟩
    case round =>
    obtain ⟨k, hk, rfl, HQ, F⟩ := hrel
    clear e1
    by_cases hlt : k < xs.length
    · have hkx : k < xs.length := hlt
      have hky : k < ys.length := by omega
      obtain ⟨b, o, A1, c1, rfl, hbS, k1, e1⟩ := slel_at HA.out k hkx
      obtain ⟨b', o', B1, d1, rfl, hbT, k3, e2⟩ := slel_at HB.out k hky
      have hbx := hbd xs[k] (List.getElem_mem hkx)
      have k1 := (F.out.cell (p := ⟨b, o + k, none⟩) (hS b hbS) (fun x => x)).trans k1
      have k3 := (F.out.cell (p := ⟨b', o' + k, none⟩) (hT b' hbT) (fun x => x)).trans k3
      have hby := hbe ys[k] (List.getElem_mem hky)
      have E1 := hid (e1.fr F.out (fun k hk => ⟨hS k hk, fun x => x⟩))
      have E2 := hid (e2.fr F.out (fun k hk => ⟨hT k hk, fun x => x⟩))
      have HS : Hid (∀ k, S k → k < wr.heap.size) := fun k hk => Nat.lt_of_lt_of_le (hS k hk) F.out.size
      have HT : Hid (∀ k, T k → k < wr.heap.size) := fun k hk => Nat.lt_of_lt_of_le (hT k hk) F.out.size
      have HX : Hid (xs.take (k + 1) = xs.take k ++ [xs[k]]) := List.take_succ_eq_append_getElem hkx
      have HY : Hid (ys.take (k + 1) = ys.take k ++ [ys[k]]) := List.take_succ_eq_append_getElem hky
      have HNE : Hid (xs[k] ≠ ys[k] → xs ≠ ys) := by rintro h rfl; exact h rfl
      obtain ⟨x, hxx⟩ : ∃ x, x = xs[k] := ⟨_, rfl⟩
      obtain ⟨y, hyy⟩ : ∃ y, y = ys[k] := ⟨_, rfl⟩
      simp only [← hxx, ← hyy] at *
      have i0 : (0 : Int) ≤ k := by omega
      have i1 : (k : Int) < xs.length := by omega
      have i2 : (k : Int) < ys.length := by omega
      have HC := hid (sequ_any A1 B1 x y c1 d1 S T wr E1.out E2.out (by omega) (by omega))
      clear e1 e2 hxx hyy hl
      go_wp2_with fail
      refine HC.out.mono ?_
      rintro e w1 ⟨rfl, m, rfl⟩
      have F1 := hid (F.out.drewN m)
      clear HC
      by_cases hxy : x = y
      · have hd : decide (x = y) = true := by simp [hxy]
        have HXY := hid hxy
        rw [hd]
        clear hxy hd
        go_wp2
        go_roundw
        case rel =>
          refine ⟨k + 1, by omega, by go_num, ?_, F1.out⟩
          show List.take (k + 1) xs = List.take (k + 1) ys
          rw [HX.out, HY.out, HQ.out, HXY.out]
        case measure => simp [intOf]; omega
      · have hd : decide (x = y) = false := by simp [hxy]
        have HXY := hid hxy
        rw [hd]
        clear hxy hd
        go_wp2
        go_ret
        refine ⟨ret_bool ?_, F1.out⟩
        symm
        rw [decide_eq_false_iff_not]
        exact HNE.out HXY.out
    · go_wp2
      go_ret
      refine ⟨ret_bool ?_, F.out⟩
      symm
      rw [decide_eq_true_eq]
      have h := HQ.out
      have h' := hL.out
      rwa [List.take_of_length_le (by omega), List.take_of_length_le (by omega)] at h
  · have e1 : (((xs.length : Nat) : Int) != ((ys.length : Nat) : Int)) = true := by simp; omega
    have hL := hid hl
    clear hl ha hb
    go_enter Tryz.func107, Tryz.ntmps107
    go_wp2
    go_ret
    refine ⟨ret_bool ?_, Fr.refl _ _⟩
    symm
    rw [decide_eq_false_iff_not]
    rintro rfl
    exact hL.out rfl

set_option maxRecDepth 100000 in
set_option maxHeartbeats 1600000 in
theorem eqfC_any (A B : Option Addr) (xs ys : List (Ca)) (c d : Nat) (S T : Nat → Prop) (w : World) (ha : (tCa).els w S A xs) (hb : (tCa).els w T B ys) (hS : ∀ k, S k → k < w.heap.size) (hT : ∀ k, T k → k < w.heap.size) (h1 : xs.length ≤ 1048576) (hbd : ∀ c ∈ xs, c.args.length ≤ 1048576) :
    Calls Tryz.prog 111 #[.slice A xs.length c, .slice B ys.length d, .func (.func 112) #[] #[]] w fun e w' => e = .returned (.bool (decide (xs = ys))) ∧ Fr No w w' := by
  by_cases hl : xs.length = ys.length
  · have e1 : (((xs.length : Nat) : Int) != ((ys.length : Nat) : Int)) = false := by simp [hl]
    have HA := hid ha
    have HB := hid hb
    have hL := hid hl
    clear ha hb
    go_enter Tryz.func111, Tryz.ntmps111
    go_wp2
    go_loopw [17] (fun i wr => ∃ k : Nat, k ≤ xs.length ∧ i = .int .i64 k ∧ Hid (xs.take k = ys.take k) ∧ Hid (Fr No w wr)) (fun i _ => xs.length - (intOf i).toNat)
    case atStart => exact ⟨0, by omega, rfl, by simp [Hid], Fr.refl _ _⟩
    case round =>
    obtain ⟨k, hk, rfl, HQ, F⟩ := hrel
    clear e1
    by_cases hlt : k < xs.length
    · have hkx : k < xs.length := hlt
      have hky : k < ys.length := by omega
      obtain ⟨b, o, A1, c1, rfl, hbS, k1, k2, -, -, -, e1⟩ := Ca_at HA.out k hkx
      obtain ⟨b', o', B1, d1, rfl, hbT, k3, k4, -, -, -, e2⟩ := Ca_at HB.out k hky
      have hbx := hbd xs[k] (List.getElem_mem hkx)
      have k1 := (F.out.cell (p := ⟨b, o + k * 2, none⟩) (hS b hbS) (fun x => x)).trans k1
      have k2 := (F.out.cell (p := ⟨b, o + k * 2 + 1, none⟩) (hS b hbS) (fun x => x)).trans k2
      have k3 := (F.out.cell (p := ⟨b', o' + k * 2, none⟩) (hT b' hbT) (fun x => x)).trans k3
      have k4 := (F.out.cell (p := ⟨b', o' + k * 2 + 1, none⟩) (hT b' hbT) (fun x => x)).trans k4
      have E1 := hid (e1.fr F.out (fun k hk => ⟨hS k hk, fun x => x⟩))
      have E2 := hid (e2.fr F.out (fun k hk => ⟨hT k hk, fun x => x⟩))
      have HS : Hid (∀ k, S k → k < wr.heap.size) := fun k hk => Nat.lt_of_lt_of_le (hS k hk) F.out.size
      have HT : Hid (∀ k, T k → k < wr.heap.size) := fun k hk => Nat.lt_of_lt_of_le (hT k hk) F.out.size
      have HX : Hid (xs.take (k + 1) = xs.take k ++ [xs[k]]) := List.take_succ_eq_append_getElem hkx
      have HY : Hid (ys.take (k + 1) = ys.take k ++ [ys[k]]) := List.take_succ_eq_append_getElem hky
      have HNE : Hid (xs[k] ≠ ys[k] → xs ≠ ys) := by rintro h rfl; exact h rfl
      obtain ⟨x, hxx⟩ : ∃ x, x = xs[k] := ⟨_, rfl⟩
      obtain ⟨y, hyy⟩ : ∃ y, y = ys[k] := ⟨_, rfl⟩
      simp only [← hxx, ← hyy] at *
      have i0 : (0 : Int) ≤ k := by omega
      have i1 : (k : Int) < xs.length := by omega
      have i2 : (k : Int) < ys.length := by omega
      have k3 := ((Fr.refl No wr).alloc (.cells #[.int .i64 x.host, .slice A1 x.args.length c1] 113)).cell (p := ⟨b', o' + k * 2, none⟩) (HT.out b' hbT) (fun x => x) |>.trans k3
      have k4 := ((Fr.refl No wr).alloc (.cells #[.int .i64 x.host, .slice A1 x.args.length c1] 113)).cell (p := ⟨b', o' + k * 2 + 1, none⟩) (HT.out b' hbT) (fun x => x) |>.trans k4
      have FB := hid (((Fr.refl No wr).alloc (.cells #[.int .i64 x.host, .slice A1 x.args.length c1] 113)).alloc (.cells #[.int .i64 y.host, .slice B1 y.args.length d1] 113))
      have HBB : Hid (b' < wr.heap.size) := HT.out b' hbT
      have HC := hid (ca1_any x y A1 B1 c1 d1 S T _ (E1.out.fr FB.out (fun k hk => ⟨HS.out k hk, fun x => x⟩)) (E2.out.fr FB.out (fun k hk => ⟨HT.out k hk, fun x => x⟩)) (fun k hk => Nat.lt_of_lt_of_le (HS.out k hk) FB.out.size) (fun k hk => Nat.lt_of_lt_of_le (HT.out k hk) FB.out.size) hbx)
      clear e1 e2 hxx hyy hl
      go_wp2_with fail
      refine HC.out.mono ?_
      rintro e w1 ⟨rfl, f1⟩
      have F1 := hid ((F.out.trans FB.out (fun _ _ h => h)).trans f1 (fun _ _ h => h))
      clear f1 FB k3 k4
      clear HC
      by_cases hxy : x = y
      · have hd : decide (x = y) = true := by simp [hxy]
        have HXY := hid hxy
        rw [hd]
        clear hxy hd
        go_wp2
        go_roundw
        case rel =>
          refine ⟨k + 1, by omega, by go_num, ?_, F1.out⟩
          show List.take (k + 1) xs = List.take (k + 1) ys
          rw [HX.out, HY.out, HQ.out, HXY.out]
        case measure => simp [intOf]; omega
      · have hd : decide (x = y) = false := by simp [hxy]
        have HXY := hid hxy
        rw [hd]
        clear hxy hd
        go_wp2
        go_ret
        refine ⟨ret_bool ?_, F1.out⟩
        symm
        rw [decide_eq_false_iff_not]
        exact HNE.out HXY.out
    · go_wp2
      go_ret
      refine ⟨ret_bool ?_, F.out⟩
      symm
      rw [decide_eq_true_eq]
      have h := HQ.out
      have h' := hL.out
      rwa [List.take_of_length_le (by omega), List.take_of_length_le (by omega)] at h
  · have e1 : (((xs.length : Nat) : Int) != ((ys.length : Nat) : Int)) = true := by simp; omega
    have hL := hid hl
    clear hl ha hb
    go_enter Tryz.func111, Tryz.ntmps111
    go_wp2
    go_ret
    refine ⟨ret_bool ?_, Fr.refl _ _⟩
    symm
    rw [decide_eq_false_iff_not]
    rintro rfl
    exact hL.out rfl
end Go.Proofs.YtdckghiipijobaaGreat

namespace Go.Proofs.YtdckghiipijobaaGreat
open Go.RowKit

theorem blk6 {w : World} {p : Nat} {t : TypeId} {v0 v1 v2 v3 v4 v5 : Value} (h : Blk w p t #[v0, v1, v2, v3, v4, v5]) : ∀ X, Fr No w X → X.cell? ⟨p, 0, none⟩ = some v0 ∧ X.cell? ⟨p, 1, none⟩ = some v1 ∧ X.cell? ⟨p, 2, none⟩ = some v2 ∧ X.cell? ⟨p, 3, none⟩ = some v3 ∧ X.cell? ⟨p, 4, none⟩ = some v4 ∧ X.cell? ⟨p, 5, none⟩ = some v5 := fun X f =>
  ⟨(h.fr f (fun x => x)).cell 0, (h.fr f (fun x => x)).cell 1, (h.fr f (fun x => x)).cell 2, (h.fr f (fun x => x)).cell 3, (h.fr f (fun x => x)).cell 4, (h.fr f (fun x => x)).cell 5⟩
def shEq (a b : Sh) : Bool := decide (a.mems = b.mems ∧ a.tables = b.tables ∧ a.globals = b.globals ∧ a.elems = b.elems ∧ a.datas = b.datas ∧ a.calls = b.calls)
theorem shEq_self (a : Sh) : shEq a a = true := by simp [shEq]
theorem shNo1 {a b : Sh} (h : false = decide (a.mems = b.mems)) : false = shEq a b := by symm at h ⊢; rw [decide_eq_false_iff_not] at h; rw [shEq, decide_eq_false_iff_not]; exact fun k => h k.1
theorem shNo2 {a b : Sh} (h : false = decide (a.tables = b.tables)) : false = shEq a b := by symm at h ⊢; rw [decide_eq_false_iff_not] at h; rw [shEq, decide_eq_false_iff_not]; exact fun k => h k.2.1
theorem shNo3 {a b : Sh} (h : false = decide (a.globals = b.globals)) : false = shEq a b := by symm at h ⊢; rw [decide_eq_false_iff_not] at h; rw [shEq, decide_eq_false_iff_not]; exact fun k => h k.2.2.1
theorem shNo4 {a b : Sh} (h : false = decide (a.elems = b.elems)) : false = shEq a b := by symm at h ⊢; rw [decide_eq_false_iff_not] at h; rw [shEq, decide_eq_false_iff_not]; exact fun k => h k.2.2.2.1
theorem shNo5 {a b : Sh} (h : false = decide (a.datas = b.datas)) : false = shEq a b := by symm at h ⊢; rw [decide_eq_false_iff_not] at h; rw [shEq, decide_eq_false_iff_not]; exact fun k => h k.2.2.2.2.1
theorem shYes {a b : Sh} (h1 : true = decide (a.mems = b.mems)) (h2 : true = decide (a.tables = b.tables)) (h3 : true = decide (a.globals = b.globals)) (h4 : true = decide (a.elems = b.elems)) (h5 : true = decide (a.datas = b.datas)) : decide (a.calls = b.calls) = shEq a b := by
  have h1 := of_decide_eq_true h1.symm
  have h2 := of_decide_eq_true h2.symm
  have h3 := of_decide_eq_true h3.symm
  have h4 := of_decide_eq_true h4.symm
  have h5 := of_decide_eq_true h5.symm
  simp [shEq, h1, h2, h3, h4, h5]
structure ShLe (a : Sh) : Prop where
  m : a.mems.length ≤ 1048576
  t : a.tables.length ≤ 1048576
  g : a.globals.length ≤ 1048576
  e : a.elems.length ≤ 1048576
  d : a.datas.length ≤ 1048576
  c : a.calls.length ≤ 1048576
  ms : ∀ x ∈ a.mems, x.length ≤ 1048576
  ts : ∀ x ∈ a.tables, x.length ≤ 1048576
  cs : ∀ x ∈ a.calls, x.args.length ≤ 1048576
set_option maxRecDepth 100000 in
set_option maxHeartbeats 3200000 in
theorem ssame_any (a b : Sh) (cs ds : List Value) (S T : Nat → Prop) (w : World) (ha : tSh.rd w S cs a) (hb : tSh.rd w T ds b) (hS : ∀ k, S k → k < w.heap.size) (hT : ∀ k, T k → k < w.heap.size) (la : ShLe a) (lb : ShLe b) :
    Calls Tryz.prog 32 #[.agg cs.toArray, .agg ds.toArray] w fun e w' => e = .returned (.bool (shEq a b)) ∧ Fr No w w' := by
  obtain ⟨Ama, cma, Ata, cta, Aga, cga, Aea, cea, Ada, cda, Aca, cca, rfl, -, -, ema, -, -, eta, -, -, ega, -, -, eea, -, -, eda, -, -, eca⟩ := Sh_cells ha
  obtain ⟨Amb, cmb, Atb, ctb, Agb, cgb, Aeb, ceb, Adb, cdb, Acb, ccb, rfl, -, -, emb, -, -, etb, -, -, egb, -, -, eeb, -, -, edb, -, -, ecb⟩ := Sh_cells hb
  have hs : ∀ X, Fr No w X → ∀ k, S k → k < X.heap.size := fun X f k hk => Nat.lt_of_lt_of_le (hS k hk) f.size
  have ht : ∀ X, Fr No w X → ∀ k, T k → k < X.heap.size := fun X f k hk => Nat.lt_of_lt_of_le (hT k hk) f.size
  have H1 := hid (fun X (f : Fr No w X) => eqfB_any Ama Amb a.mems b.mems cma cmb S T X (ema.fr f (fun k hk => ⟨hS k hk, fun x => x⟩)) (emb.fr f (fun k hk => ⟨hT k hk, fun x => x⟩)) (hs X f) (ht X f) la.m la.ms)
  have H2 := hid (fun X (f : Fr No w X) => eqfU_any Ata Atb a.tables b.tables cta ctb S T X (eta.fr f (fun k hk => ⟨hS k hk, fun x => x⟩)) (etb.fr f (fun k hk => ⟨hT k hk, fun x => x⟩)) (hs X f) (ht X f) la.t la.ts lb.ts)
  have H3 := hid (fun X (f : Fr No w X) => vsame_any Aga Agb a.globals b.globals cga cgb S T X (ega.fr f (fun k hk => ⟨hS k hk, fun x => x⟩)) (egb.fr f (fun k hk => ⟨hT k hk, fun x => x⟩)) (hs X f) (ht X f) la.g)
  have H4 := hid (fun X (f : Fr No w X) => seqb_any Aea Aeb a.elems b.elems cea ceb S T X (eea.fr f (fun k hk => ⟨hS k hk, fun x => x⟩)) (eeb.fr f (fun k hk => ⟨hT k hk, fun x => x⟩)) (Nat.le_trans la.e (by decide)) (Nat.le_trans lb.e (by decide)))
  have H5 := hid (fun X (f : Fr No w X) => seqb_any Ada Adb a.datas b.datas cda cdb S T X (eda.fr f (fun k hk => ⟨hS k hk, fun x => x⟩)) (edb.fr f (fun k hk => ⟨hT k hk, fun x => x⟩)) (Nat.le_trans la.d (by decide)) (Nat.le_trans lb.d (by decide)))
  have H6 := hid (fun X (f : Fr No w X) => eqfC_any Aca Acb a.calls b.calls cca ccb S T X (eca.fr f (fun k hk => ⟨hS k hk, fun x => x⟩)) (ecb.fr f (fun k hk => ⟨hT k hk, fun x => x⟩)) (hs X f) (ht X f) la.c la.cs)
  obtain ⟨q1, e1⟩ : ∃ q, q = decide (a.mems = b.mems) := ⟨_, rfl⟩
  obtain ⟨q2, e2⟩ : ∃ q, q = decide (a.tables = b.tables) := ⟨_, rfl⟩
  obtain ⟨q3, e3⟩ : ∃ q, q = decide (a.globals = b.globals) := ⟨_, rfl⟩
  obtain ⟨q4, e4⟩ : ∃ q, q = decide (a.elems = b.elems) := ⟨_, rfl⟩
  obtain ⟨q5, e5⟩ : ∃ q, q = decide (a.datas = b.datas) := ⟨_, rfl⟩
  rw [← e1] at H1
  rw [← e2] at H2
  rw [← e3] at H3
  rw [← e4] at H4
  rw [← e5] at H5
  have E1 := hid e1
  have E2 := hid e2
  have E3 := hid e3
  have E4 := hid e4
  have E5 := hid e5
  have F0 := hid (((Fr.refl No w).alloc (.cells #[.slice Ama a.mems.length cma, .slice Ata a.tables.length cta, .slice Aga a.globals.length cga, .slice Aea a.elems.length cea, .slice Ada a.datas.length cda, .slice Aca a.calls.length cca] 83)).alloc (.cells #[.slice Amb b.mems.length cmb, .slice Atb b.tables.length ctb, .slice Agb b.globals.length cgb, .slice Aeb b.elems.length ceb, .slice Adb b.datas.length cdb, .slice Acb b.calls.length ccb] 83))
  have BX := hid (blk6 ((Blk.new w 83 #[.slice Ama a.mems.length cma, .slice Ata a.tables.length cta, .slice Aga a.globals.length cga, .slice Aea a.elems.length cea, .slice Ada a.datas.length cda, .slice Aca a.calls.length cca]).alloc (.cells #[.slice Amb b.mems.length cmb, .slice Atb b.tables.length ctb, .slice Agb b.globals.length cgb, .slice Aeb b.elems.length ceb, .slice Adb b.datas.length cdb, .slice Acb b.calls.length ccb] 83)))
  have BY := hid (blk6 (Blk.new1 w (.cells #[.slice Ama a.mems.length cma, .slice Ata a.tables.length cta, .slice Aga a.globals.length cga, .slice Aea a.elems.length cea, .slice Ada a.datas.length cda, .slice Aca a.calls.length cca] 83) 83 #[.slice Amb b.mems.length cmb, .slice Atb b.tables.length ctb, .slice Agb b.globals.length cgb, .slice Aeb b.elems.length ceb, .slice Adb b.datas.length cdb, .slice Acb b.calls.length ccb]))
  clear e1 e2 e3 e4 e5 ema eta ega eea eda eca emb etb egb eeb edb ecb hs ht ha hb
  go_enter Tryz.func32, Tryz.ntmps32
  go_upto_region 1 with fail
  try simp only [World.size_alloc]
  generalize hW : (w.alloc (.cells #[.slice Ama a.mems.length cma, .slice Ata a.tables.length cta, .slice Aga a.globals.length cga, .slice Aea a.elems.length cea, .slice Ada a.datas.length cda, .slice Aca a.calls.length cca] 83)).alloc (.cells #[.slice Amb b.mems.length cmb, .slice Atb b.tables.length ctb, .slice Agb b.globals.length cgb, .slice Aeb b.elems.length ceb, .slice Adb b.datas.length cdb, .slice Acb b.calls.length ccb] 83) = W at *
  clear hW
  obtain ⟨p, hp⟩ : ∃ p, p = w.heap.size := ⟨_, rfl⟩
  simp only [← hp] at *
  have HP := hid hp
  clear hp
  obtain ⟨z0, z1, z2, z3, z4, z5⟩ := BX.out _ (Fr.refl No W)
  obtain ⟨y0, y1, y2, y3, y4, y5⟩ := BY.out _ (Fr.refl No W)
  go_wp2_with fail
  refine (H1.out _ F0.out).mono ?_
  rintro e w1 ⟨rfl, g1⟩
  have G1 := hid g1
  clear g1
  clear z0 z1 z2 z3 z4 z5 y0 y1 y2 y3 y4 y5
  have F1 := hid (F0.out.trans G1.out (fun _ _ h => h))
  have R1 := hid G1.out
  obtain ⟨z0, z1, z2, z3, z4, z5⟩ := BX.out _ R1.out
  obtain ⟨y0, y1, y2, y3, y4, y5⟩ := BY.out _ R1.out
  cases q1 with
  | false =>
    go_wp2
    go_ret
    exact ⟨rt_bool (shNo1 E1.out), F1.out⟩
  | true =>
  go_wp2_with fail
  refine (H2.out _ F1.out).mono ?_
  rintro e w2 ⟨rfl, g2⟩
  have G2 := hid g2
  clear g2
  clear z0 z1 z2 z3 z4 z5 y0 y1 y2 y3 y4 y5
  have F2 := hid (F1.out.trans G2.out (fun _ _ h => h))
  have R2 := hid (R1.out.trans G2.out (fun _ _ h => h))
  obtain ⟨z0, z1, z2, z3, z4, z5⟩ := BX.out _ R2.out
  obtain ⟨y0, y1, y2, y3, y4, y5⟩ := BY.out _ R2.out
  cases q2 with
  | false =>
    go_wp2
    go_ret
    exact ⟨rt_bool (shNo2 E2.out), F2.out⟩
  | true =>
  go_wp2_with fail
  refine (H3.out _ F2.out).mono ?_
  rintro e w3 ⟨rfl, g3⟩
  have G3 := hid g3
  clear g3
  clear z0 z1 z2 z3 z4 z5 y0 y1 y2 y3 y4 y5
  have F3 := hid (F2.out.trans G3.out (fun _ _ h => h))
  have R3 := hid (R2.out.trans G3.out (fun _ _ h => h))
  obtain ⟨z0, z1, z2, z3, z4, z5⟩ := BX.out _ R3.out
  obtain ⟨y0, y1, y2, y3, y4, y5⟩ := BY.out _ R3.out
  cases q3 with
  | false =>
    go_wp2
    go_ret
    exact ⟨rt_bool (shNo3 E3.out), F3.out⟩
  | true =>
  go_wp2_with fail
  refine (H4.out _ F3.out).mono ?_
  rintro e w4 ⟨rfl, m4, rfl⟩
  have G4 := hid (Fr.drewN (Fr.refl No w3) m4)
  clear z0 z1 z2 z3 z4 z5 y0 y1 y2 y3 y4 y5
  have F4 := hid (F3.out.trans G4.out (fun _ _ h => h))
  have R4 := hid (R3.out.trans G4.out (fun _ _ h => h))
  obtain ⟨w4, hw4⟩ : ∃ X, X = World.drewN w3 m4 := ⟨_, rfl⟩
  rw [← hw4] at G4 F4 R4 ⊢
  clear hw4
  obtain ⟨z0, z1, z2, z3, z4, z5⟩ := BX.out _ R4.out
  obtain ⟨y0, y1, y2, y3, y4, y5⟩ := BY.out _ R4.out
  cases q4 with
  | false =>
    go_wp2
    go_ret
    exact ⟨rt_bool (shNo4 E4.out), F4.out⟩
  | true =>
  go_wp2_with fail
  refine (H5.out _ F4.out).mono ?_
  rintro e w5 ⟨rfl, m5, rfl⟩
  have G5 := hid (Fr.drewN (Fr.refl No w4) m5)
  clear z0 z1 z2 z3 z4 z5 y0 y1 y2 y3 y4 y5
  have F5 := hid (F4.out.trans G5.out (fun _ _ h => h))
  have R5 := hid (R4.out.trans G5.out (fun _ _ h => h))
  obtain ⟨w5, hw5⟩ : ∃ X, X = World.drewN w4 m5 := ⟨_, rfl⟩
  rw [← hw5] at G5 F5 R5 ⊢
  clear hw5
  obtain ⟨z0, z1, z2, z3, z4, z5⟩ := BX.out _ R5.out
  obtain ⟨y0, y1, y2, y3, y4, y5⟩ := BY.out _ R5.out
  cases q5 with
  | false =>
    go_wp2
    go_ret
    exact ⟨rt_bool (shNo5 E5.out), F5.out⟩
  | true =>
  go_wp2_with fail
  refine (H6.out _ F5.out).mono ?_
  rintro e w6 ⟨rfl, g6⟩
  have F6 := hid (F5.out.trans g6 (fun _ _ h => h))
  clear z0 z1 z2 z3 z4 z5 y0 y1 y2 y3 y4 y5
  clear g6
  go_wp2
  go_ret
  exact ⟨rt_bool (shYes E1.out E2.out E3.out E4.out E5.out), F6.out⟩
end Go.Proofs.YtdckghiipijobaaGreat
