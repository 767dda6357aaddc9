/- For every input SplitRight returns true, part 8: what the proof rests on. Condition: the arguments are of bulk at most 1048576. -/
import Derived.Test.YtiafkakkbbclhaaGreatR7
set_option maxRecDepth 100000
set_option maxHeartbeats 12800000
set_option linter.unusedVariables false
set_option linter.unusedSimpArgs false
set_option linter.unusedSectionVars false
namespace Go.Proofs.YtiafkakkbbclhaaGreat
open Go.RowKit
theorem has23_any {w : World} {S : Nat → Prop} {mc : List Value} {m : Md} (h : MW w S mc m) (B : MdB m) (i : Int) (hi : -9223372036854775808 ≤ i ∧ i ≤ 9223372036854775807) : Calls Tryz.prog 103 #[.agg mc.toArray, .int .i64 i] w fun e w' => e = .returned (.bool (memD m i).2) ∧ Fr No w w' := by
  have F0 := hid ((Fr.refl No w).alloc (.cells mc.toArray 33))
  have GM0 := hid (Blk.new w 33 mc.toArray)
  have HIM : Hid ((Tryz.prog.info? 33).map (·.size) = some 12) := by unfold Hid; kernel_rfl
  have HLM := hid h.len
  have HG := hid (oMem (h.fr F0.out) B i hi)
  clear h B
  generalize memD m i = g at *
  obtain ⟨⟨l1, l2, l3⟩, ok⟩ := g
  dsimp only [cLim] at HG ⊢
  go_enter Tryz.func103, Tryz.ntmps103
  go_wp2_with (refine ldG Tryz.underlying33 HIM.out (rangeL GM0.out) HLM.out ?_)
  refine HG.out.mono ?_
  rintro e w1 ⟨rfl, f⟩
  have F1 := hid ((F0.out.trans f (fun _ _ h => h)).alloc (.cells #[.int .i64 l1, .int .i64 l2, .bool l3] 121))
  clear f HG
  go_wp2
  go_ret
  exact ⟨rfl, F1.out⟩
def callW (m : Md) (a : Int) : Fn × Int := match funcO m a with
  | some f => (f, 0)
  | none => badW 11
theorem call23_any {w : World} {S : Nat → Prop} {mc : List Value} {m : Md} (h : MW w S mc m) (B : MdB m) (op a b n : Int) (ha : 0 ≤ a ∧ a < 4294967296) (hb : 0 ≤ b ∧ b < 4294967296) (ho : op = 16) : Calls Tryz.prog 88 #[.agg mc.toArray, .agg #[.int .i64 op, .int .i64 a, .int .i64 b, .int .u64 n, .int .i64 0, .int .i64 0, .int .i64 0, .slice none 0 0, .slice none 0 0]] w (WantTo S (callW m a) w) := by
  have d16 : (op == 16) = true := beq_iff_eq.2 ho
  clear ho
  have HG := hid (fun W (k : MW W S mc m) => oFunc k B a (by omega))
  generalize hP : callW m a = P
  rw [callW] at hP
  have HP := hid hP
  clear hP
  generalize funcO m a = o at *
  obtain ⟨F0, GM0, GX0, GW0⟩ := bx23 w mc op a b n
  have HIM : Hid ((Tryz.prog.info? 33).map (·.size) = some 12) := by unfold Hid; kernel_rfl
  have HLM := hid h.len
  have HW0 := hid (h.fr F0.out)
  have HS := hid h.lt
  have HB := hid B
  clear h B
  go_enter Tryz.func88, Tryz.ntmps88
  go_upto_region 1 with fail
  generalize (((w.alloc (.cells mc.toArray 33)).alloc (.cells #[.int .i64 op, .int .i64 a, .int .i64 b, .int .u64 n, .int .i64 0, .int .i64 0, .int .i64 0, .slice none 0 0, .slice none 0 0] 139)).alloc (.cells #[.slice none 0 0, .slice none 0 0, .int .i64 0] 156)) = W0 at *
  have hxl := GX0.out.lt
  have x1 := GX0.out.cell 1
  go_wp2_with (refine ldG Tryz.underlying33 HIM.out (rangeL GM0.out) HLM.out ?_)
  refine (HG.out _ HW0.out).mono ?_
  rintro e W1 ⟨A1, c1, A2, c2, rfl, fa, f⟩
  have F1 := hid (F0.out.trans f (fun _ _ h => h))
  have GM1 := hid (GM0.out.fr f (fun x => x))
  have GX1 := hid (GX0.out.fr f (fun x => x))
  have GW1 := hid (GW0.out.fr f (fun x => x))
  have HW1 := hid (HW0.out.fr f)
  have FA := hid (fa.more (S' := S) (B' := (w.heap.size + 1 + 1) + 1) (fun _ h => h) (by have := GW0.out.lt; omega))
  clear fa
  clear f F0 GM0 GX0 GW0 HW0 HG x1
  cases o with
  | none =>
    have hp := HP.out
    dsimp only at hp
    subst hp
    simp only [fnD, Option.getD_none, Option.isSome_none] at FA ⊢
    go_wp2_with fail
    refine (bad_any _ _).mono ?_
    rintro e W2 ⟨rfl, f⟩
    have F2 := hid ((F1.out.alloc _).trans f (fun _ _ h => h))
    have GM2 := hid ((GM1.out.alloc _).fr f (fun x => x))
    have GX2 := hid ((GX1.out.alloc _).fr f (fun x => x))
    have GW2 := hid ((GW1.out.alloc _).fr f (fun x => x))
    have HW2 := hid ((HW1.out.fr (((Fr.refl No W1).alloc _))).fr f)
    have q0 := GW2.out.cell 0
    have q1 := GW2.out.cell 1
    have q2 := GW2.out.cell 2
    have f0 := GW2.out.frozen 0
    have f1 := GW2.out.frozen 1
    have f2 := GW2.out.frozen 2
    clear f
    go_wp2
    refine want_ret rfl rfl (((GW2.out.set_ 0 _).set_ 1 _).set_ 2 _) rfl ?_
    exact want_fin (r := badW 11) (c1 := 0) (c2 := 0) _ _ _ HS.out (by omega) ⟨.inl rfl, .inl rfl⟩ F2.out rfl rfl rfl
  | some g =>
    have hp := HP.out
    dsimp only at hp
    subst hp
    simp only [fnD, Option.getD_some, Option.isSome_some] at FA ⊢
    have hxl := GX1.out.lt
    have x0 := GX1.out.cell 0
    have q0 := GW1.out.cell 0
    have q1 := GW1.out.cell 1
    have q2 := GW1.out.cell 2
    have f0 := GW1.out.frozen 0
    have f1 := GW1.out.frozen 1
    have f2 := GW1.out.frozen 2
    have hq := GW1.out.lt
    go_wp2
    refine want_ret rfl rfl ((((GW1.out.set_ 0 _).set_ 1 _).set_ 2 _).alloc _) rfl ?_
    exact (want_fin (r := (g, 0)) _ _ _ HS.out (by omega) FA.out F1.out rfl rfl rfl).alloc HS.out _
def srcW (m : Md) (op a : Int) : Int × Bool := if op = 64526 then ((tabD m a).1.elem, (tabD m a).2) else elemD m a
def twoW (m : Md) (op a b : Int) : Fn × Int :=
  if (srcW m op a).2 = false then badW 11 else if (tabD m b).2 = false then badW 11 else if (srcW m op a).1 = (tabD m b).1.elem then sigW op else badW 12
theorem two23_any {w : World} {S : Nat → Prop} {mc : List Value} {m : Md} (h : MW w S mc m) (B : MdB m) (op a b n : Int) (ha : 0 ≤ a ∧ a < 4294967296) (hb : 0 ≤ b ∧ b < 4294967296) (ho : op = 64526 ∨ op = 64524) : Calls Tryz.prog 95 #[.agg mc.toArray, .agg #[.int .i64 op, .int .i64 a, .int .i64 b, .int .u64 n, .int .i64 0, .int .i64 0, .int .i64 0, .slice none 0 0, .slice none 0 0]] w (WantTo S (twoW m op a b) w) := by
  have HE := hid (fun W (k : MW W S mc m) => oElem k B a)
  have HT := hid (fun W (k : MW W S mc m) => oTable k B a (by omega))
  have HU := hid (fun W (k : MW W S mc m) => oTable k B b (by omega))
  generalize hP : twoW m op a b = P
  rw [twoW, srcW] at hP
  have HP := hid hP
  clear hP
  generalize elemD m a = g0 at *
  generalize tabD m a = g1 at *
  generalize tabD m b = g2 at *
  obtain ⟨v0, ok0⟩ := g0
  obtain ⟨⟨v1, ⟨l1, l2, l3⟩⟩, ok1⟩ := g1
  obtain ⟨⟨v2, ⟨k1, k2, k3⟩⟩, ok2⟩ := g2
  dsimp only [cTb] at HE HT HU HP
  obtain ⟨F0, GM0, GX0, GW0⟩ := bx23 w mc op a b n
  have HIM : Hid ((Tryz.prog.info? 33).map (·.size) = some 12) := by unfold Hid; kernel_rfl
  have HLM := hid h.len
  have HW0 := hid (h.fr F0.out)
  have HS := hid h.lt
  have HB := hid B
  clear h B
  go_enter Tryz.func95, Tryz.ntmps95
  go_upto_region 1 with fail
  generalize (((w.alloc (.cells mc.toArray 33)).alloc (.cells #[.int .i64 op, .int .i64 a, .int .i64 b, .int .u64 n, .int .i64 0, .int .i64 0, .int .i64 0, .slice none 0 0, .slice none 0 0] 139)).alloc (.cells #[.slice none 0 0, .slice none 0 0, .int .i64 0] 156)) = W0 at *
  have hxl := GX0.out.lt
  have x1 := GX0.out.cell 1
  go_wp2_with (refine ldG Tryz.underlying33 HIM.out (rangeL GM0.out) HLM.out ?_)
  refine (HE.out _ HW0.out).mono ?_
  rintro e W1 ⟨rfl, f⟩
  have F1 := hid (F0.out.trans f (fun _ _ h => h))
  have GM1 := hid (GM0.out.fr f (fun x => x))
  have GX1 := hid (GX0.out.fr f (fun x => x))
  have GW1 := hid (GW0.out.fr f (fun x => x))
  have HW1 := hid (HW0.out.fr f)
  clear f F0 GM0 GX0 GW0 HW0 HE x1
  have hxl := GX1.out.lt
  have x0 := GX1.out.cell 0
  have x1 := GX1.out.cell 1
  have x2 := GX1.out.cell 2
  rcases ho with rfl | rfl
  · have hp := HP.out
    simp only [if_true] at hp
    replace HP := hid hp
    clear hp
    go_wp2_with (refine ldG Tryz.underlying33 HIM.out (rangeL GM1.out) HLM.out ?_)
    refine (HT.out _ HW1.out).mono ?_
    rintro e W2 ⟨rfl, f⟩
    have F2 := hid (F1.out.trans f (fun _ _ h => h))
    have GM2 := hid (GM1.out.fr f (fun x => x))
    have GX2 := hid (GX1.out.fr f (fun x => x))
    have GW2 := hid (GW1.out.fr f (fun x => x))
    have HW2 := hid (HW1.out.fr f)
    clear f F1 GM1 GX1 GW1 HW1 HT x0 x1 x2 hxl
    go_upto_region 4 with fail
    have F3 := hid (F2.out.alloc (.cells #[.int .i64 v1, .int .i64 l1, .int .i64 l2, .bool l3] 142))
    have GM3 := hid (GM2.out.alloc (.cells #[.int .i64 v1, .int .i64 l1, .int .i64 l2, .bool l3] 142))
    have GX3 := hid (GX2.out.alloc (.cells #[.int .i64 v1, .int .i64 l1, .int .i64 l2, .bool l3] 142))
    have GW3 := hid (GW2.out.alloc (.cells #[.int .i64 v1, .int .i64 l1, .int .i64 l2, .bool l3] 142))
    have HW3 := hid (HW2.out.fr ((Fr.refl No W2).alloc (.cells #[.int .i64 v1, .int .i64 l1, .int .i64 l2, .bool l3] 142)))
    have BT3 := hid (Blk.new W2 142 #[.int .i64 v1, .int .i64 l1, .int .i64 l2, .bool l3])
    have hb3 := GW2.out.lt
    have hc3 : W2.heap.size < (W2.alloc (.cells #[.int .i64 v1, .int .i64 l1, .int .i64 l2, .bool l3] 142)).heap.size := BT3.out.lt
    clear F2 GM2 GX2 GW2 HW2
    generalize W2.alloc (.cells #[.int .i64 v1, .int .i64 l1, .int .i64 l2, .bool l3] 142) = W3 at *
    generalize hz3 : W2.heap.size = p3 at *
    clear hz3
    have z0 := BT3.out.cell 0
    go_upto_region 5 with fail
    clear z0
    have hxl := GX3.out.lt
    have x0 := GX3.out.cell 0
    have x2 := GX3.out.cell 2
    go_wp2_with (refine ldG Tryz.underlying33 HIM.out (rangeL GM3.out) HLM.out ?_)
    refine (HU.out _ HW3.out).mono ?_
    rintro e W4 ⟨rfl, f⟩
    have F4 := hid (F3.out.trans f (fun _ _ h => h))
    have GM4 := hid (GM3.out.fr f (fun x => x))
    have GX4 := hid (GX3.out.fr f (fun x => x))
    have GW4 := hid (GW3.out.fr f (fun x => x))
    have BT4 := hid (BT3.out.fr f (fun x => x))
    have HW4 := hid (HW3.out.fr f)
    clear f F3 GM3 GX3 GW3 HW3 BT3 HU x0 x2 hxl
    cases ok1 with
    | false =>
      have hp := HP.out
      simp only [if_true] at hp
      subst hp
      go_wp2_with fail
      refine (bad_any _ _).mono ?_
      rintro e W5 ⟨rfl, f⟩
      have F5 := hid ((F4.out.alloc _).trans f (fun _ _ h => h))
      have GM5 := hid ((GM4.out.alloc _).fr f (fun x => x))
      have GX5 := hid ((GX4.out.alloc _).fr f (fun x => x))
      have GW5 := hid ((GW4.out.alloc _).fr f (fun x => x))
      have BT5 := hid ((BT4.out.alloc _).fr f (fun x => x))
      have HW5 := hid ((HW4.out.fr (((Fr.refl No W4).alloc _))).fr f)
      have q0 := GW5.out.cell 0
      have q1 := GW5.out.cell 1
      have q2 := GW5.out.cell 2
      have f0 := GW5.out.frozen 0
      have f1 := GW5.out.frozen 1
      have f2 := GW5.out.frozen 2
      clear f
      go_wp2
      refine want_ret rfl rfl (((GW5.out.set_ 0 _).set_ 1 _).set_ 2 _) rfl ?_
      exact want_fin (r := badW 11) (c1 := 0) (c2 := 0) _ _ _ HS.out (by omega) ⟨.inl rfl, .inl rfl⟩ F5.out rfl rfl rfl
    | true =>
      cases ok2 with
      | false =>
        have hp := HP.out
        simp only [Bool.true_eq_false, if_false, if_true] at hp
        subst hp
        go_wp2_with fail
        refine (bad_any _ _).mono ?_
        rintro e W5 ⟨rfl, f⟩
        have F5 := hid ((F4.out.alloc _).trans f (fun _ _ h => h))
        have GM5 := hid ((GM4.out.alloc _).fr f (fun x => x))
        have GX5 := hid ((GX4.out.alloc _).fr f (fun x => x))
        have GW5 := hid ((GW4.out.alloc _).fr f (fun x => x))
        have BT5 := hid ((BT4.out.alloc _).fr f (fun x => x))
        have HW5 := hid ((HW4.out.fr (((Fr.refl No W4).alloc _))).fr f)
        have q0 := GW5.out.cell 0
        have q1 := GW5.out.cell 1
        have q2 := GW5.out.cell 2
        have f0 := GW5.out.frozen 0
        have f1 := GW5.out.frozen 1
        have f2 := GW5.out.frozen 2
        clear f
        go_wp2
        refine want_ret rfl rfl (((GW5.out.set_ 0 _).set_ 1 _).set_ 2 _) rfl ?_
        exact want_fin (r := badW 11) (c1 := 0) (c2 := 0) _ _ _ HS.out (by omega) ⟨.inl rfl, .inl rfl⟩ F5.out rfl rfl rfl
      | true =>
        have hp := HP.out
        simp only [Bool.true_eq_false, if_false] at hp
        by_cases hv : v1 = v2
        · rw [if_pos hv] at hp
          subst hp
          subst hv
          have hxl := GX4.out.lt
          have x0 := GX4.out.cell 0
          go_wp2_with fail
          refine (sig23_any _ _).mono ?_
          rintro e W5 ⟨A1, c1, A2, c2, rfl, ft, f⟩
          have F5 := hid ((F4.out.alloc _).trans f (fun _ _ h => h))
          have GM5 := hid ((GM4.out.alloc _).fr f (fun x => x))
          have GX5 := hid ((GX4.out.alloc _).fr f (fun x => x))
          have GW5 := hid ((GW4.out.alloc _).fr f (fun x => x))
          have BT5 := hid ((BT4.out.alloc _).fr f (fun x => x))
          have HW5 := hid ((HW4.out.fr (((Fr.refl No W4).alloc _))).fr f)
          have q0 := GW5.out.cell 0
          have q1 := GW5.out.cell 1
          have q2 := GW5.out.cell 2
          have f0 := GW5.out.frozen 0
          have f1 := GW5.out.frozen 1
          have f2 := GW5.out.frozen 2
          have hq := GW4.out.lt
          have FT := hid (ft.more (S' := S) (B' := (w.heap.size + 1 + 1) + 1) (fun _ h => h.elim) (by simp; omega))
          clear f ft
          go_wp2
          refine want_ret rfl rfl (((GW5.out.set_ 0 _).set_ 1 _).set_ 2 _) rfl ?_
          exact want_fin (r := sigW _) _ _ _ HS.out (by omega) FT.out F5.out rfl rfl rfl
        · rw [if_neg hv] at hp
          subst hp
          have hvb : (v1 == v2) = false := beq_eq_false_iff_ne.2 hv
          clear hv
          go_wp2_with fail
          refine (bad_any _ _).mono ?_
          rintro e W5 ⟨rfl, f⟩
          have F5 := hid ((F4.out.alloc _).trans f (fun _ _ h => h))
          have GM5 := hid ((GM4.out.alloc _).fr f (fun x => x))
          have GX5 := hid ((GX4.out.alloc _).fr f (fun x => x))
          have GW5 := hid ((GW4.out.alloc _).fr f (fun x => x))
          have BT5 := hid ((BT4.out.alloc _).fr f (fun x => x))
          have HW5 := hid ((HW4.out.fr (((Fr.refl No W4).alloc _))).fr f)
          have q0 := GW5.out.cell 0
          have q1 := GW5.out.cell 1
          have q2 := GW5.out.cell 2
          have f0 := GW5.out.frozen 0
          have f1 := GW5.out.frozen 1
          have f2 := GW5.out.frozen 2
          clear f
          go_wp2
          refine want_ret rfl rfl (((GW5.out.set_ 0 _).set_ 1 _).set_ 2 _) rfl ?_
          exact want_fin (r := badW 12) (c1 := 0) (c2 := 0) _ _ _ HS.out (by omega) ⟨.inl rfl, .inl rfl⟩ F5.out rfl rfl rfl
  · have hp := HP.out
    simp only [Int.reduceEq, if_false] at hp
    replace HP := hid hp
    clear hp
    go_upto_region 5 with fail
    clear x0 x1 x2 hxl
    have hxl := GX1.out.lt
    have x0 := GX1.out.cell 0
    have x2 := GX1.out.cell 2
    go_wp2_with (refine ldG Tryz.underlying33 HIM.out (rangeL GM1.out) HLM.out ?_)
    refine (HU.out _ HW1.out).mono ?_
    rintro e W2 ⟨rfl, f⟩
    have F2 := hid (F1.out.trans f (fun _ _ h => h))
    have GM2 := hid (GM1.out.fr f (fun x => x))
    have GX2 := hid (GX1.out.fr f (fun x => x))
    have GW2 := hid (GW1.out.fr f (fun x => x))
    have HW2 := hid (HW1.out.fr f)
    clear f F1 GM1 GX1 GW1 HW1 HU x0 x2 hxl
    cases ok0 with
    | false =>
      have hp := HP.out
      simp only [if_true] at hp
      subst hp
      go_wp2_with fail
      refine (bad_any _ _).mono ?_
      rintro e W3 ⟨rfl, f⟩
      have F3 := hid ((F2.out.alloc _).trans f (fun _ _ h => h))
      have GM3 := hid ((GM2.out.alloc _).fr f (fun x => x))
      have GX3 := hid ((GX2.out.alloc _).fr f (fun x => x))
      have GW3 := hid ((GW2.out.alloc _).fr f (fun x => x))
      have HW3 := hid ((HW2.out.fr (((Fr.refl No W2).alloc _))).fr f)
      have q0 := GW3.out.cell 0
      have q1 := GW3.out.cell 1
      have q2 := GW3.out.cell 2
      have f0 := GW3.out.frozen 0
      have f1 := GW3.out.frozen 1
      have f2 := GW3.out.frozen 2
      clear f
      go_wp2
      refine want_ret rfl rfl (((GW3.out.set_ 0 _).set_ 1 _).set_ 2 _) rfl ?_
      exact want_fin (r := badW 11) (c1 := 0) (c2 := 0) _ _ _ HS.out (by omega) ⟨.inl rfl, .inl rfl⟩ F3.out rfl rfl rfl
    | true =>
      cases ok2 with
      | false =>
        have hp := HP.out
        simp only [Bool.true_eq_false, if_false, if_true] at hp
        subst hp
        go_wp2_with fail
        refine (bad_any _ _).mono ?_
        rintro e W3 ⟨rfl, f⟩
        have F3 := hid ((F2.out.alloc _).trans f (fun _ _ h => h))
        have GM3 := hid ((GM2.out.alloc _).fr f (fun x => x))
        have GX3 := hid ((GX2.out.alloc _).fr f (fun x => x))
        have GW3 := hid ((GW2.out.alloc _).fr f (fun x => x))
        have HW3 := hid ((HW2.out.fr (((Fr.refl No W2).alloc _))).fr f)
        have q0 := GW3.out.cell 0
        have q1 := GW3.out.cell 1
        have q2 := GW3.out.cell 2
        have f0 := GW3.out.frozen 0
        have f1 := GW3.out.frozen 1
        have f2 := GW3.out.frozen 2
        clear f
        go_wp2
        refine want_ret rfl rfl (((GW3.out.set_ 0 _).set_ 1 _).set_ 2 _) rfl ?_
        exact want_fin (r := badW 11) (c1 := 0) (c2 := 0) _ _ _ HS.out (by omega) ⟨.inl rfl, .inl rfl⟩ F3.out rfl rfl rfl
      | true =>
        have hp := HP.out
        simp only [Bool.true_eq_false, if_false] at hp
        by_cases hv : v0 = v2
        · rw [if_pos hv] at hp
          subst hp
          subst hv
          have hxl := GX2.out.lt
          have x0 := GX2.out.cell 0
          go_wp2_with fail
          refine (sig23_any _ _).mono ?_
          rintro e W3 ⟨A1, c1, A2, c2, rfl, ft, f⟩
          have F3 := hid ((F2.out.alloc _).trans f (fun _ _ h => h))
          have GM3 := hid ((GM2.out.alloc _).fr f (fun x => x))
          have GX3 := hid ((GX2.out.alloc _).fr f (fun x => x))
          have GW3 := hid ((GW2.out.alloc _).fr f (fun x => x))
          have HW3 := hid ((HW2.out.fr (((Fr.refl No W2).alloc _))).fr f)
          have q0 := GW3.out.cell 0
          have q1 := GW3.out.cell 1
          have q2 := GW3.out.cell 2
          have f0 := GW3.out.frozen 0
          have f1 := GW3.out.frozen 1
          have f2 := GW3.out.frozen 2
          have hq := GW2.out.lt
          have FT := hid (ft.more (S' := S) (B' := (w.heap.size + 1 + 1) + 1) (fun _ h => h.elim) (by simp; omega))
          clear f ft
          go_wp2
          refine want_ret rfl rfl (((GW3.out.set_ 0 _).set_ 1 _).set_ 2 _) rfl ?_
          exact want_fin (r := sigW _) _ _ _ HS.out (by omega) FT.out F3.out rfl rfl rfl
        · rw [if_neg hv] at hp
          subst hp
          have hvb : (v0 == v2) = false := beq_eq_false_iff_ne.2 hv
          clear hv
          go_wp2_with fail
          refine (bad_any _ _).mono ?_
          rintro e W3 ⟨rfl, f⟩
          have F3 := hid ((F2.out.alloc _).trans f (fun _ _ h => h))
          have GM3 := hid ((GM2.out.alloc _).fr f (fun x => x))
          have GX3 := hid ((GX2.out.alloc _).fr f (fun x => x))
          have GW3 := hid ((GW2.out.alloc _).fr f (fun x => x))
          have HW3 := hid ((HW2.out.fr (((Fr.refl No W2).alloc _))).fr f)
          have q0 := GW3.out.cell 0
          have q1 := GW3.out.cell 1
          have q2 := GW3.out.cell 2
          have f0 := GW3.out.frozen 0
          have f1 := GW3.out.frozen 1
          have f2 := GW3.out.frozen 2
          clear f
          go_wp2
          refine want_ret rfl rfl (((GW3.out.set_ 0 _).set_ 1 _).set_ 2 _) rfl ?_
          exact want_fin (r := badW 12) (c1 := 0) (c2 := 0) _ _ _ HS.out (by omega) ⟨.inl rfl, .inl rfl⟩ F3.out rfl rfl rfl
end Go.Proofs.YtiafkakkbbclhaaGreat
namespace Go.Proofs.YtiafkakkbbclhaaGreat
open Go.RowKit
theorem wpO_load {P : Program} {ops : Array Oper} {Q : Exit → Act → World → Prop} {S : World → Prop} {d : Bool} {fins : List Nat} {i : Nat} {op : Oper} {r : List (Nat × Bool)} {a : Act} {w : World} (ho : ops[i]? = some op) (hw : Region.wanted op (yielded ops a.tmps) = true) (ty : TypeId) (x : Operand) (hop : op.op = .load ty x)
    (b q : Nat) (hx : a.eval x = .pointer (some ⟨b, q, none⟩)) (cs : List Value) (dd : TypeDesc) (hc : ∀ X, S X → X.rangeAt b q cs) (hu : P.underlying ty = some dd) (hd : dd.isRow = true) (hi : (P.info? ty).map (·.size) = some cs.length)
    (h : wpO P ops Q S fins d r (a.put op.dst (.agg cs.toArray)) w) : wpO P ops Q S fins d ((i, true) :: r) a w :=
  wpO_still ho hw (fun X hX => by unfold execOp; simp only [hop, hx, Instr.loadAt, Instr.sureAddr, Sem.run_bind, Sem.run_pure, Result.andThen_ok, run_loadVar_mid X b q ty cs dd (hc X hX) hu hd hi]) h
section
variable {ops : Array Oper} {rest : List Oper} {op : Oper} {a : Act} {Q : Exit → Act → World → Prop} {w : World} {T : TypeId} {p q n : Nat} {ds : List Value} {d : TypeDesc}
theorem ldW (hu : Tryz.prog.underlying T = some d) (hi : (Tryz.prog.info? T).map (·.size) = some n) (r : w.rangeAt p q ds) (hl : ds.length = n) (h : wpList Tryz.prog ops Q rest (a.put op.dst (.agg ds.toArray)) w)
    (hd : d.isRow = true := by rfl) (hw : Region.wanted op (yielded ops a.tmps) = true := by rfl) {o : Operand} (ho : op.op = .load T o := by rfl) (hx : a.eval o = .pointer (some ⟨p, q, none⟩) := by rfl) : wpList Tryz.prog ops Q (op :: rest) a w :=
  wpL_call hw ⟨.agg ds.toArray, by unfold execOp; simp only [ho, hx, Instr.loadAt, Instr.sureAddr, Sem.run_bind, Sem.run_pure, Result.andThen_ok, run_loadVar_mid w p q T ds d r hu hd (by rw [hl]; exact hi)], h⟩
end
def memW (m : Md) (op a b : Int) : Fn × Int :=
  if op = 64522 ∧ (memD m a).2 = false then badW 11 else if op = 64520 ∧ (m.datas : Int) ≤ a then badW 11 else if (memD m b).2 = false then badW 11 else sigW op
theorem memory23_any {w : World} {S : Nat → Prop} {mc : List Value} {m : Md} (h : MW w S mc m) (B : MdB m) (op a b n : Int) (ha : 0 ≤ a ∧ a < 4294967296) (hb : 0 ≤ b ∧ b < 4294967296) (ho : ofR op = 17 → a = 0) (hd : m.datas ≤ 1000000000000) : Calls Tryz.prog 97 #[.agg mc.toArray, .agg #[.int .i64 op, .int .i64 a, .int .i64 b, .int .u64 n, .int .i64 0, .int .i64 0, .int .i64 0, .slice none 0 0, .slice none 0 0]] w (WantTo S (memW m op a b) w) := by
  have HA := hid (fun W (k : MW W S mc m) => has23_any k B a (by omega))
  have HB2 := hid (fun W (k : MW W S mc m) => has23_any k B b (by omega))
  have HD := hid (fun W (k : MW W S mc m) => oDatas k)
  have HO := hid (fun W => of_any op W)
  have HL := hid (fun W => align_any op W)
  have hd2 := hd
  generalize hP : memW m op a b = P
  rw [memW] at hP
  have HP := hid hP
  clear hP
  generalize (memD m a).2 = oka at *
  generalize (memD m b).2 = okb at *
  generalize ofR op = k at *
  generalize m.datas = nd at *
  obtain ⟨F0, GM0, GX0, GW0⟩ := bx23 w mc op a b n
  have HIM : Hid ((Tryz.prog.info? 33).map (·.size) = some 12) := by unfold Hid; kernel_rfl
  have HLM := hid h.len
  have HW0 := hid (h.fr F0.out)
  have HS := hid h.lt
  have HB := hid B
  clear h B
  go_enter Tryz.func97, Tryz.ntmps97
  go_upto_region 1 with fail
  generalize (((w.alloc (.cells mc.toArray 33)).alloc (.cells #[.int .i64 op, .int .i64 a, .int .i64 b, .int .u64 n, .int .i64 0, .int .i64 0, .int .i64 0, .slice none 0 0, .slice none 0 0] 139)).alloc (.cells #[.slice none 0 0, .slice none 0 0, .int .i64 0] 156)) = W0 at *
  by_cases h22 : op = 64522
  · subst h22
    have hxl := GX0.out.lt
    have x0 := GX0.out.cell 0
    have x1 := GX0.out.cell 1
    go_wp2_with (refine ldW Tryz.underlying33 HIM.out (rangeL GM0.out) HLM.out ?_)
    refine (HA.out _ HW0.out).mono ?_
    rintro e W1 ⟨rfl, f⟩
    have F1 := hid (F0.out.trans f (fun _ _ h => h))
    have GM1 := hid (GM0.out.fr f (fun x => x))
    have GX1 := hid (GX0.out.fr f (fun x => x))
    have GW1 := hid (GW0.out.fr f (fun x => x))
    have HW1 := hid (HW0.out.fr f)
    clear f F0 GM0 GX0 GW0 HW0 HA x0 x1 hxl
    cases oka with
    | false =>
      have hp := HP.out
      rw [if_pos (by simp)] at hp
      subst hp
      go_wp2_with fail
      refine (bad_any _ _).mono ?_
      rintro e W2 ⟨rfl, f⟩
      have F2 := hid (F1.out.trans f (fun _ _ h => h))
      have GM2 := hid (GM1.out.fr f (fun x => x))
      have GX2 := hid (GX1.out.fr f (fun x => x))
      have GW2 := hid (GW1.out.fr f (fun x => x))
      have HW2 := hid (HW1.out.fr f)
      have q0 := GW2.out.cell 0
      have q1 := GW2.out.cell 1
      have q2 := GW2.out.cell 2
      have f0 := GW2.out.frozen 0
      have f1 := GW2.out.frozen 1
      have f2 := GW2.out.frozen 2
      clear f
      go_wp2
      refine want_ret rfl rfl (((GW2.out.set_ 0 _).set_ 1 _).set_ 2 _) rfl ?_
      exact want_fin (r := badW 11) (c1 := 0) (c2 := 0) _ _ _ HS.out (by omega) ⟨.inl rfl, .inl rfl⟩ F2.out rfl rfl rfl
    | true =>
      have hp := HP.out
      rw [if_neg (by simp), if_neg (by omega)] at hp
      replace HP := hid hp
      clear hp
      go_upto_region 3 with fail
      have HX : Hid (∀ X, Fr No W1 X → X.cell? ⟨w.heap.size + 1, 0, none⟩ = some (.int .i64 64522) ∧ X.cell? ⟨w.heap.size + 1, 1, none⟩ = some (.int .i64 a) ∧ X.cell? ⟨w.heap.size + 1, 2, none⟩ = some (.int .i64 b)) := hid fun X f => by
        have h := GX1.out.fr f (fun x => x)
        exact ⟨h.cell 0, h.cell 1, h.cell 2⟩
      refine wp_region_ord (Fr No W1) [] [(0, true), (1, true), (2, true), (3, true), (4, true), (5, true), (6, true), (7, false), (8, true), (9, true), (10, true)] (by kernel_rfl) (by kernel_rfl) (by kernel_rfl) rfl ((Fr.refl _ W1).drew) ?_
      have FD := hid (Fr.refl No W1).drew
      generalize W1.drew = wd at *
      repeat (first | refine oS ?_ | refine oX HX.out ?_)
      refine wpO_skipE rfl rfl FD.out ?_
      simp only [List.getElem_toArray, List.getElem_cons_succ, List.getElem_cons_zero, Act.put, List.setIfInBounds_toArray, List.set_cons_zero, List.set_cons_succ]
      repeat (first | refine oS ?_ | refine oX HX.out ?_)
      refine wpO_nil ?_
      have F2 := hid (F1.out.trans FD.out (fun _ _ h => h))
      have GM2 := hid (GM1.out.fr FD.out (fun x => x))
      have GX2 := hid (GX1.out.fr FD.out (fun x => x))
      have GW2 := hid (GW1.out.fr FD.out (fun x => x))
      have HW2 := hid (HW1.out.fr FD.out)
      clear HX FD F1 GM1 GX1 GW1 HW1
      generalize wd = W2 at *
      have hxl := GX2.out.lt
      have x2 := GX2.out.cell 2
      go_wp2_with (refine ldG Tryz.underlying33 HIM.out (rangeL GM2.out) HLM.out ?_)
      refine (HB2.out _ HW2.out).mono ?_
      rintro e W3 ⟨rfl, f⟩
      have F3 := hid (F2.out.trans f (fun _ _ h => h))
      have GM3 := hid (GM2.out.fr f (fun x => x))
      have GX3 := hid (GX2.out.fr f (fun x => x))
      have GW3 := hid (GW2.out.fr f (fun x => x))
      have HW3 := hid (HW2.out.fr f)
      clear f F2 GM2 GX2 GW2 HW2 HB2 x2 hxl
      cases okb with
      | false =>
        have hp := HP.out
        rw [if_pos rfl] at hp
        subst hp
        go_wp2_with fail
        refine (bad_any _ _).mono ?_
        rintro e W4 ⟨rfl, f⟩
        have F4 := hid (F3.out.trans f (fun _ _ h => h))
        have GM4 := hid (GM3.out.fr f (fun x => x))
        have GX4 := hid (GX3.out.fr f (fun x => x))
        have GW4 := hid (GW3.out.fr f (fun x => x))
        have HW4 := hid (HW3.out.fr f)
        have q0 := GW4.out.cell 0
        have q1 := GW4.out.cell 1
        have q2 := GW4.out.cell 2
        have f0 := GW4.out.frozen 0
        have f1 := GW4.out.frozen 1
        have f2 := GW4.out.frozen 2
        clear f
        go_wp2
        refine want_ret rfl rfl (((GW4.out.set_ 0 _).set_ 1 _).set_ 2 _) rfl ?_
        exact want_fin (r := badW 11) (c1 := 0) (c2 := 0) _ _ _ HS.out (by omega) ⟨.inl rfl, .inl rfl⟩ F4.out rfl rfl rfl
      | true =>
        have hp := HP.out
        rw [if_neg (by decide)] at hp
        subst hp
        go_upto_region 7 with fail
        have HX : Hid (∀ X, Fr No W3 X → X.cell? ⟨w.heap.size + 1, 0, none⟩ = some (.int .i64 64522) ∧ X.cell? ⟨w.heap.size + 1, 1, none⟩ = some (.int .i64 a) ∧ X.cell? ⟨w.heap.size + 1, 2, none⟩ = some (.int .i64 b)) := hid fun X f => by
          have h := GX3.out.fr f (fun x => x)
          exact ⟨h.cell 0, h.cell 1, h.cell 2⟩
        have FD := hid (Fr.refl No W3).drew
        refine wp_region_ord (Fr No W3) [] [(0, true), (1, true), (2, false), (3, true), (4, true), (5, true), (6, true), (7, true), (8, true), (9, false), (10, true), (11, true), (12, true)] (by kernel_rfl) (by kernel_rfl) (by kernel_rfl) rfl ((Fr.refl _ W3).drew) ?_
        generalize W3.drew = wd at *
        repeat (first | refine oS ?_ | refine oX HX.out ?_)
        refine wpO_eff rfl rfl (fun K hK => ?_)
        simp only [zA]
        go_simp
        refine (HO.out _).mono ?_
        rintro e we ⟨rfl, f⟩
        have FE := hid (FD.out.trans f (fun _ _ h => h))
        clear f
        refine hK _ _ (fun _ => FE.out) ?_
        clear hK K
        by_cases hk : k = 17
        · have ha0 := ho hk
          subst hk ha0
          repeat (first | refine oS ?_ | refine oX HX.out ?_)
          refine wpO_eff rfl rfl (fun K hK => ?_)
          simp only [zA]
          go_simp
          refine (HL.out _).mono ?_
          rintro e wf ⟨⟨r, rfl, hr0, hr1⟩, f⟩
          have FF := hid (FE.out.trans f (fun _ _ h => h))
          clear f
          refine hK _ _ (fun _ => FF.out) ?_
          clear hK K
          have hgt : decide (r < 0) = false := decide_eq_false (by omega)
          repeat (first | refine oS ?_ | refine oX HX.out ?_)
          refine wpO_nil ?_
          have F4 := hid (F3.out.trans FF.out (fun _ _ h => h))
          have GM4 := hid (GM3.out.fr FF.out (fun x => x))
          have GX4 := hid (GX3.out.fr FF.out (fun x => x))
          have GW4 := hid (GW3.out.fr FF.out (fun x => x))
          have HW4 := hid (HW3.out.fr FF.out)
          clear HX FD F3 GM3 GX3 GW3 HW3
          generalize wf = W4 at *
          have hxl := GX4.out.lt
          have x0 := GX4.out.cell 0
          go_wp2_with fail
          refine (sig23_any _ _).mono ?_
          rintro e W5 ⟨A1, c1, A2, c2, rfl, ft, f⟩
          have F5 := hid (F4.out.trans f (fun _ _ h => h))
          have GM5 := hid (GM4.out.fr f (fun x => x))
          have GX5 := hid (GX4.out.fr f (fun x => x))
          have GW5 := hid (GW4.out.fr f (fun x => x))
          have HW5 := hid (HW4.out.fr f)
          have q0 := GW5.out.cell 0
          have q1 := GW5.out.cell 1
          have q2 := GW5.out.cell 2
          have f0 := GW5.out.frozen 0
          have f1 := GW5.out.frozen 1
          have f2 := GW5.out.frozen 2
          have hq := GW4.out.lt
          have FT := hid (ft.more (S' := S) (B' := (w.heap.size + 1 + 1) + 1) (fun _ h => h.elim) hq)
          clear f ft
          go_wp2
          refine want_ret rfl rfl (((GW5.out.set_ 0 _).set_ 1 _).set_ 2 _) rfl ?_
          exact want_fin (r := sigW _) _ _ _ HS.out (by omega) FT.out F5.out rfl rfl rfl
        · have hkb : (k == 17) = false := beq_eq_false_iff_ne.2 hk
          clear hk ho
          repeat (first | refine oS ?_ | refine oX HX.out ?_)
          refine wpO_skipE rfl rfl FE.out ?_
          simp only [List.getElem_toArray, List.getElem_cons_succ, List.getElem_cons_zero, Act.put, List.setIfInBounds_toArray, List.set_cons_zero, List.set_cons_succ]
          repeat (first | refine oS ?_ | refine oX HX.out ?_)
          refine wpO_nil ?_
          have F4 := hid (F3.out.trans FE.out (fun _ _ h => h))
          have GM4 := hid (GM3.out.fr FE.out (fun x => x))
          have GX4 := hid (GX3.out.fr FE.out (fun x => x))
          have GW4 := hid (GW3.out.fr FE.out (fun x => x))
          have HW4 := hid (HW3.out.fr FE.out)
          clear HX FD F3 GM3 GX3 GW3 HW3
          generalize we = W4 at *
          have hxl := GX4.out.lt
          have x0 := GX4.out.cell 0
          go_wp2_with fail
          refine (sig23_any _ _).mono ?_
          rintro e W5 ⟨A1, c1, A2, c2, rfl, ft, f⟩
          have F5 := hid (F4.out.trans f (fun _ _ h => h))
          have GM5 := hid (GM4.out.fr f (fun x => x))
          have GX5 := hid (GX4.out.fr f (fun x => x))
          have GW5 := hid (GW4.out.fr f (fun x => x))
          have HW5 := hid (HW4.out.fr f)
          have q0 := GW5.out.cell 0
          have q1 := GW5.out.cell 1
          have q2 := GW5.out.cell 2
          have f0 := GW5.out.frozen 0
          have f1 := GW5.out.frozen 1
          have f2 := GW5.out.frozen 2
          have hq := GW4.out.lt
          have FT := hid (ft.more (S' := S) (B' := (w.heap.size + 1 + 1) + 1) (fun _ h => h.elim) hq)
          clear f ft
          go_wp2
          refine want_ret rfl rfl (((GW5.out.set_ 0 _).set_ 1 _).set_ 2 _) rfl ?_
          exact want_fin (r := sigW _) _ _ _ HS.out (by omega) FT.out F5.out rfl rfl rfl
  · have d22 : (op == 64522) = false := beq_eq_false_iff_ne.2 h22
    by_cases h20 : op = 64520
    · subst h20
      have hp := HP.out
      rw [if_neg (by omega)] at hp
      replace HP := hid hp
      clear hp h22
      have hxl := GX0.out.lt
      have x0 := GX0.out.cell 0
      go_upto_region 3 with fail
      clear x0 hxl
      have HX : Hid (∀ X, Fr No W0 X → X.cell? ⟨w.heap.size + 1, 0, none⟩ = some (.int .i64 64520) ∧ X.cell? ⟨w.heap.size + 1, 1, none⟩ = some (.int .i64 a) ∧ X.cell? ⟨w.heap.size + 1, 2, none⟩ = some (.int .i64 b)) := hid fun X f => by
        have h := GX0.out.fr f (fun x => x)
        exact ⟨h.cell 0, h.cell 1, h.cell 2⟩
      refine wp_region_ord (Fr No W0) [] [(0, true), (1, true), (2, true), (3, true), (4, true), (5, true), (6, true), (7, false), (8, true), (9, true), (10, true)] (by kernel_rfl) (by kernel_rfl) (by kernel_rfl) rfl ((Fr.refl _ W0).drew) ?_
      have FD := hid (Fr.refl No W0).drew
      generalize W0.drew = wd at *
      have HR : Hid (∀ X, Fr No W0 X → X.rangeAt w.heap.size 0 mc) := hid fun X f => rangeL (GM0.out.fr f (fun x => x))
      repeat (first | refine oS ?_ | refine oX HX.out ?_)
      refine wpO_load rfl rfl 33 _ rfl w.heap.size 0 rfl mc _ HR.out Tryz.underlying33 rfl (by rw [HLM.out]; exact HIM.out) ?_
      simp only [List.getElem_toArray, List.getElem_cons_succ, List.getElem_cons_zero, Act.put, List.setIfInBounds_toArray, List.set_cons_zero, List.set_cons_succ]
      refine wpO_eff rfl rfl (fun K hK => ?_)
      simp only [zA]
      go_simp
      refine (HD.out _ (HW0.out.fr FD.out)).mono ?_
      rintro e we ⟨rfl, f⟩
      have FE := hid (FD.out.trans f (fun _ _ h => h))
      clear f
      refine hK _ _ (fun _ => FE.out) ?_
      clear hK K
      by_cases hda : (nd : Int) ≤ a
      · have ddb : decide ((nd : Int) ≤ a) = true := decide_eq_true hda
        have hp := HP.out
        rw [if_pos (by simp [hda])] at hp
        subst hp
        repeat (first | refine oS ?_ | refine oX HX.out ?_)
        refine wpO_nil ?_
        have F1 := hid (F0.out.trans FE.out (fun _ _ h => h))
        have GM1 := hid (GM0.out.fr FE.out (fun x => x))
        have GX1 := hid (GX0.out.fr FE.out (fun x => x))
        have GW1 := hid (GW0.out.fr FE.out (fun x => x))
        have HW1 := hid (HW0.out.fr FE.out)
        clear HX HR FD F0 GM0 GX0 GW0 HW0
        generalize we = W1 at *
        go_wp2_with fail
        refine (bad_any _ _).mono ?_
        rintro e W2 ⟨rfl, f⟩
        have F2 := hid (F1.out.trans f (fun _ _ h => h))
        have GM2 := hid (GM1.out.fr f (fun x => x))
        have GX2 := hid (GX1.out.fr f (fun x => x))
        have GW2 := hid (GW1.out.fr f (fun x => x))
        have HW2 := hid (HW1.out.fr f)
        have q0 := GW2.out.cell 0
        have q1 := GW2.out.cell 1
        have q2 := GW2.out.cell 2
        have f0 := GW2.out.frozen 0
        have f1 := GW2.out.frozen 1
        have f2 := GW2.out.frozen 2
        clear f
        go_wp2
        refine want_ret rfl rfl (((GW2.out.set_ 0 _).set_ 1 _).set_ 2 _) rfl ?_
        exact want_fin (r := badW 11) (c1 := 0) (c2 := 0) _ _ _ HS.out (by omega) ⟨.inl rfl, .inl rfl⟩ F2.out rfl rfl rfl
      · have ddb : decide ((nd : Int) ≤ a) = false := decide_eq_false hda
        have hp := HP.out
        rw [if_neg (fun h => hda h.2)] at hp
        replace HP := hid hp
        clear hp
        repeat (first | refine oS ?_ | refine oX HX.out ?_)
        refine wpO_nil ?_
        have F1 := hid (F0.out.trans FE.out (fun _ _ h => h))
        have GM1 := hid (GM0.out.fr FE.out (fun x => x))
        have GX1 := hid (GX0.out.fr FE.out (fun x => x))
        have GW1 := hid (GW0.out.fr FE.out (fun x => x))
        have HW1 := hid (HW0.out.fr FE.out)
        clear HX HR FD F0 GM0 GX0 GW0 HW0
        generalize we = W1 at *
        have hxl := GX1.out.lt
        have x2 := GX1.out.cell 2
        go_wp2_with (refine ldG Tryz.underlying33 HIM.out (rangeL GM1.out) HLM.out ?_)
        refine (HB2.out _ HW1.out).mono ?_
        rintro e W2 ⟨rfl, f⟩
        have F2 := hid (F1.out.trans f (fun _ _ h => h))
        have GM2 := hid (GM1.out.fr f (fun x => x))
        have GX2 := hid (GX1.out.fr f (fun x => x))
        have GW2 := hid (GW1.out.fr f (fun x => x))
        have HW2 := hid (HW1.out.fr f)
        clear f F1 GM1 GX1 GW1 HW1 HB2 x2 hxl
        cases okb with
        | false =>
          have hp := HP.out
          rw [if_pos rfl] at hp
          subst hp
          go_wp2_with fail
          refine (bad_any _ _).mono ?_
          rintro e W3 ⟨rfl, f⟩
          have F3 := hid (F2.out.trans f (fun _ _ h => h))
          have GM3 := hid (GM2.out.fr f (fun x => x))
          have GX3 := hid (GX2.out.fr f (fun x => x))
          have GW3 := hid (GW2.out.fr f (fun x => x))
          have HW3 := hid (HW2.out.fr f)
          have q0 := GW3.out.cell 0
          have q1 := GW3.out.cell 1
          have q2 := GW3.out.cell 2
          have f0 := GW3.out.frozen 0
          have f1 := GW3.out.frozen 1
          have f2 := GW3.out.frozen 2
          clear f
          go_wp2
          refine want_ret rfl rfl (((GW3.out.set_ 0 _).set_ 1 _).set_ 2 _) rfl ?_
          exact want_fin (r := badW 11) (c1 := 0) (c2 := 0) _ _ _ HS.out (by omega) ⟨.inl rfl, .inl rfl⟩ F3.out rfl rfl rfl
        | true =>
          have hp := HP.out
          rw [if_neg (by decide)] at hp
          subst hp
          go_upto_region 7 with fail
          have HX : Hid (∀ X, Fr No W2 X → X.cell? ⟨w.heap.size + 1, 0, none⟩ = some (.int .i64 64520) ∧ X.cell? ⟨w.heap.size + 1, 1, none⟩ = some (.int .i64 a) ∧ X.cell? ⟨w.heap.size + 1, 2, none⟩ = some (.int .i64 b)) := hid fun X f => by
            have h := GX2.out.fr f (fun x => x)
            exact ⟨h.cell 0, h.cell 1, h.cell 2⟩
          have FD := hid (Fr.refl No W2).drew
          refine wp_region_ord (Fr No W2) [] [(0, true), (1, true), (2, false), (3, true), (4, true), (5, true), (6, true), (7, true), (8, true), (9, false), (10, true), (11, true), (12, true)] (by kernel_rfl) (by kernel_rfl) (by kernel_rfl) rfl ((Fr.refl _ W2).drew) ?_
          generalize W2.drew = wd at *
          repeat (first | refine oS ?_ | refine oX HX.out ?_)
          refine wpO_eff rfl rfl (fun K hK => ?_)
          simp only [zA]
          go_simp
          refine (HO.out _).mono ?_
          rintro e we ⟨rfl, f⟩
          have FE := hid (FD.out.trans f (fun _ _ h => h))
          clear f
          refine hK _ _ (fun _ => FE.out) ?_
          clear hK K
          by_cases hk : k = 17
          · have ha0 := ho hk
            subst hk ha0
            repeat (first | refine oS ?_ | refine oX HX.out ?_)
            refine wpO_eff rfl rfl (fun K hK => ?_)
            simp only [zA]
            go_simp
            refine (HL.out _).mono ?_
            rintro e wf ⟨⟨r, rfl, hr0, hr1⟩, f⟩
            have FF := hid (FE.out.trans f (fun _ _ h => h))
            clear f
            refine hK _ _ (fun _ => FF.out) ?_
            clear hK K
            have hgt : decide (r < 0) = false := decide_eq_false (by omega)
            repeat (first | refine oS ?_ | refine oX HX.out ?_)
            refine wpO_nil ?_
            have F3 := hid (F2.out.trans FF.out (fun _ _ h => h))
            have GM3 := hid (GM2.out.fr FF.out (fun x => x))
            have GX3 := hid (GX2.out.fr FF.out (fun x => x))
            have GW3 := hid (GW2.out.fr FF.out (fun x => x))
            have HW3 := hid (HW2.out.fr FF.out)
            clear HX FD F2 GM2 GX2 GW2 HW2
            generalize wf = W3 at *
            have hxl := GX3.out.lt
            have x0 := GX3.out.cell 0
            go_wp2_with fail
            refine (sig23_any _ _).mono ?_
            rintro e W4 ⟨A1, c1, A2, c2, rfl, ft, f⟩
            have F4 := hid (F3.out.trans f (fun _ _ h => h))
            have GM4 := hid (GM3.out.fr f (fun x => x))
            have GX4 := hid (GX3.out.fr f (fun x => x))
            have GW4 := hid (GW3.out.fr f (fun x => x))
            have HW4 := hid (HW3.out.fr f)
            have q0 := GW4.out.cell 0
            have q1 := GW4.out.cell 1
            have q2 := GW4.out.cell 2
            have f0 := GW4.out.frozen 0
            have f1 := GW4.out.frozen 1
            have f2 := GW4.out.frozen 2
            have hq := GW3.out.lt
            have FT := hid (ft.more (S' := S) (B' := (w.heap.size + 1 + 1) + 1) (fun _ h => h.elim) hq)
            clear f ft
            go_wp2
            refine want_ret rfl rfl (((GW4.out.set_ 0 _).set_ 1 _).set_ 2 _) rfl ?_
            exact want_fin (r := sigW _) _ _ _ HS.out (by omega) FT.out F4.out rfl rfl rfl
          · have hkb : (k == 17) = false := beq_eq_false_iff_ne.2 hk
            clear hk ho
            repeat (first | refine oS ?_ | refine oX HX.out ?_)
            refine wpO_skipE rfl rfl FE.out ?_
            simp only [List.getElem_toArray, List.getElem_cons_succ, List.getElem_cons_zero, Act.put, List.setIfInBounds_toArray, List.set_cons_zero, List.set_cons_succ]
            repeat (first | refine oS ?_ | refine oX HX.out ?_)
            refine wpO_nil ?_
            have F3 := hid (F2.out.trans FE.out (fun _ _ h => h))
            have GM3 := hid (GM2.out.fr FE.out (fun x => x))
            have GX3 := hid (GX2.out.fr FE.out (fun x => x))
            have GW3 := hid (GW2.out.fr FE.out (fun x => x))
            have HW3 := hid (HW2.out.fr FE.out)
            clear HX FD F2 GM2 GX2 GW2 HW2
            generalize we = W3 at *
            have hxl := GX3.out.lt
            have x0 := GX3.out.cell 0
            go_wp2_with fail
            refine (sig23_any _ _).mono ?_
            rintro e W4 ⟨A1, c1, A2, c2, rfl, ft, f⟩
            have F4 := hid (F3.out.trans f (fun _ _ h => h))
            have GM4 := hid (GM3.out.fr f (fun x => x))
            have GX4 := hid (GX3.out.fr f (fun x => x))
            have GW4 := hid (GW3.out.fr f (fun x => x))
            have HW4 := hid (HW3.out.fr f)
            have q0 := GW4.out.cell 0
            have q1 := GW4.out.cell 1
            have q2 := GW4.out.cell 2
            have f0 := GW4.out.frozen 0
            have f1 := GW4.out.frozen 1
            have f2 := GW4.out.frozen 2
            have hq := GW3.out.lt
            have FT := hid (ft.more (S' := S) (B' := (w.heap.size + 1 + 1) + 1) (fun _ h => h.elim) hq)
            clear f ft
            go_wp2
            refine want_ret rfl rfl (((GW4.out.set_ 0 _).set_ 1 _).set_ 2 _) rfl ?_
            exact want_fin (r := sigW _) _ _ _ HS.out (by omega) FT.out F4.out rfl rfl rfl
    · have d20 : (op == 64520) = false := beq_eq_false_iff_ne.2 h20
      have hp := HP.out
      rw [if_neg (fun h => h22 h.1), if_neg (fun h => h20 h.1)] at hp
      replace HP := hid hp
      clear hp h22 h20
      have hxl := GX0.out.lt
      have x0 := GX0.out.cell 0
      go_upto_region 3 with fail
      clear x0 hxl
      go_upto_region 3 with fail
      have HX : Hid (∀ X, Fr No W0 X → X.cell? ⟨w.heap.size + 1, 0, none⟩ = some (.int .i64 op) ∧ X.cell? ⟨w.heap.size + 1, 1, none⟩ = some (.int .i64 a) ∧ X.cell? ⟨w.heap.size + 1, 2, none⟩ = some (.int .i64 b)) := hid fun X f => by
        have h := GX0.out.fr f (fun x => x)
        exact ⟨h.cell 0, h.cell 1, h.cell 2⟩
      refine wp_region_ord (Fr No W0) [] [(0, true), (1, true), (2, true), (3, true), (4, true), (5, true), (6, true), (7, false), (8, true), (9, true), (10, true)] (by kernel_rfl) (by kernel_rfl) (by kernel_rfl) rfl ((Fr.refl _ W0).drew) ?_
      have FD := hid (Fr.refl No W0).drew
      generalize W0.drew = wd at *
      repeat (first | refine oS ?_ | refine oX HX.out ?_)
      refine wpO_skipE rfl rfl FD.out ?_
      simp only [List.getElem_toArray, List.getElem_cons_succ, List.getElem_cons_zero, Act.put, List.setIfInBounds_toArray, List.set_cons_zero, List.set_cons_succ]
      repeat (first | refine oS ?_ | refine oX HX.out ?_)
      refine wpO_nil ?_
      have F1 := hid (F0.out.trans FD.out (fun _ _ h => h))
      have GM1 := hid (GM0.out.fr FD.out (fun x => x))
      have GX1 := hid (GX0.out.fr FD.out (fun x => x))
      have GW1 := hid (GW0.out.fr FD.out (fun x => x))
      have HW1 := hid (HW0.out.fr FD.out)
      clear HX FD F0 GM0 GX0 GW0 HW0
      generalize wd = W1 at *
      have hxl := GX1.out.lt
      have x2 := GX1.out.cell 2
      go_wp2_with (refine ldG Tryz.underlying33 HIM.out (rangeL GM1.out) HLM.out ?_)
      refine (HB2.out _ HW1.out).mono ?_
      rintro e W2 ⟨rfl, f⟩
      have F2 := hid (F1.out.trans f (fun _ _ h => h))
      have GM2 := hid (GM1.out.fr f (fun x => x))
      have GX2 := hid (GX1.out.fr f (fun x => x))
      have GW2 := hid (GW1.out.fr f (fun x => x))
      have HW2 := hid (HW1.out.fr f)
      clear f F1 GM1 GX1 GW1 HW1 HB2 x2 hxl
      cases okb with
      | false =>
        have hp := HP.out
        rw [if_pos rfl] at hp
        subst hp
        go_wp2_with fail
        refine (bad_any _ _).mono ?_
        rintro e W3 ⟨rfl, f⟩
        have F3 := hid (F2.out.trans f (fun _ _ h => h))
        have GM3 := hid (GM2.out.fr f (fun x => x))
        have GX3 := hid (GX2.out.fr f (fun x => x))
        have GW3 := hid (GW2.out.fr f (fun x => x))
        have HW3 := hid (HW2.out.fr f)
        have q0 := GW3.out.cell 0
        have q1 := GW3.out.cell 1
        have q2 := GW3.out.cell 2
        have f0 := GW3.out.frozen 0
        have f1 := GW3.out.frozen 1
        have f2 := GW3.out.frozen 2
        clear f
        go_wp2
        refine want_ret rfl rfl (((GW3.out.set_ 0 _).set_ 1 _).set_ 2 _) rfl ?_
        exact want_fin (r := badW 11) (c1 := 0) (c2 := 0) _ _ _ HS.out (by omega) ⟨.inl rfl, .inl rfl⟩ F3.out rfl rfl rfl
      | true =>
        have hp := HP.out
        rw [if_neg (by decide)] at hp
        subst hp
        go_upto_region 7 with fail
        have HX : Hid (∀ X, Fr No W2 X → X.cell? ⟨w.heap.size + 1, 0, none⟩ = some (.int .i64 op) ∧ X.cell? ⟨w.heap.size + 1, 1, none⟩ = some (.int .i64 a) ∧ X.cell? ⟨w.heap.size + 1, 2, none⟩ = some (.int .i64 b)) := hid fun X f => by
          have h := GX2.out.fr f (fun x => x)
          exact ⟨h.cell 0, h.cell 1, h.cell 2⟩
        have FD := hid (Fr.refl No W2).drew
        refine wp_region_ord (Fr No W2) [] [(0, true), (1, true), (2, false), (3, true), (4, true), (5, true), (6, true), (7, true), (8, true), (9, false), (10, true), (11, true), (12, true)] (by kernel_rfl) (by kernel_rfl) (by kernel_rfl) rfl ((Fr.refl _ W2).drew) ?_
        generalize W2.drew = wd at *
        repeat (first | refine oS ?_ | refine oX HX.out ?_)
        refine wpO_eff rfl rfl (fun K hK => ?_)
        simp only [zA]
        go_simp
        refine (HO.out _).mono ?_
        rintro e we ⟨rfl, f⟩
        have FE := hid (FD.out.trans f (fun _ _ h => h))
        clear f
        refine hK _ _ (fun _ => FE.out) ?_
        clear hK K
        by_cases hk : k = 17
        · have ha0 := ho hk
          subst hk ha0
          repeat (first | refine oS ?_ | refine oX HX.out ?_)
          refine wpO_eff rfl rfl (fun K hK => ?_)
          simp only [zA]
          go_simp
          refine (HL.out _).mono ?_
          rintro e wf ⟨⟨r, rfl, hr0, hr1⟩, f⟩
          have FF := hid (FE.out.trans f (fun _ _ h => h))
          clear f
          refine hK _ _ (fun _ => FF.out) ?_
          clear hK K
          have hgt : decide (r < 0) = false := decide_eq_false (by omega)
          repeat (first | refine oS ?_ | refine oX HX.out ?_)
          refine wpO_nil ?_
          have F3 := hid (F2.out.trans FF.out (fun _ _ h => h))
          have GM3 := hid (GM2.out.fr FF.out (fun x => x))
          have GX3 := hid (GX2.out.fr FF.out (fun x => x))
          have GW3 := hid (GW2.out.fr FF.out (fun x => x))
          have HW3 := hid (HW2.out.fr FF.out)
          clear HX FD F2 GM2 GX2 GW2 HW2
          generalize wf = W3 at *
          have hxl := GX3.out.lt
          have x0 := GX3.out.cell 0
          go_wp2_with fail
          refine (sig23_any _ _).mono ?_
          rintro e W4 ⟨A1, c1, A2, c2, rfl, ft, f⟩
          have F4 := hid (F3.out.trans f (fun _ _ h => h))
          have GM4 := hid (GM3.out.fr f (fun x => x))
          have GX4 := hid (GX3.out.fr f (fun x => x))
          have GW4 := hid (GW3.out.fr f (fun x => x))
          have HW4 := hid (HW3.out.fr f)
          have q0 := GW4.out.cell 0
          have q1 := GW4.out.cell 1
          have q2 := GW4.out.cell 2
          have f0 := GW4.out.frozen 0
          have f1 := GW4.out.frozen 1
          have f2 := GW4.out.frozen 2
          have hq := GW3.out.lt
          have FT := hid (ft.more (S' := S) (B' := (w.heap.size + 1 + 1) + 1) (fun _ h => h.elim) hq)
          clear f ft
          go_wp2
          refine want_ret rfl rfl (((GW4.out.set_ 0 _).set_ 1 _).set_ 2 _) rfl ?_
          exact want_fin (r := sigW _) _ _ _ HS.out (by omega) FT.out F4.out rfl rfl rfl
        · have hkb : (k == 17) = false := beq_eq_false_iff_ne.2 hk
          clear hk ho
          repeat (first | refine oS ?_ | refine oX HX.out ?_)
          refine wpO_skipE rfl rfl FE.out ?_
          simp only [List.getElem_toArray, List.getElem_cons_succ, List.getElem_cons_zero, Act.put, List.setIfInBounds_toArray, List.set_cons_zero, List.set_cons_succ]
          repeat (first | refine oS ?_ | refine oX HX.out ?_)
          refine wpO_nil ?_
          have F3 := hid (F2.out.trans FE.out (fun _ _ h => h))
          have GM3 := hid (GM2.out.fr FE.out (fun x => x))
          have GX3 := hid (GX2.out.fr FE.out (fun x => x))
          have GW3 := hid (GW2.out.fr FE.out (fun x => x))
          have HW3 := hid (HW2.out.fr FE.out)
          clear HX FD F2 GM2 GX2 GW2 HW2
          generalize we = W3 at *
          have hxl := GX3.out.lt
          have x0 := GX3.out.cell 0
          go_wp2_with fail
          refine (sig23_any _ _).mono ?_
          rintro e W4 ⟨A1, c1, A2, c2, rfl, ft, f⟩
          have F4 := hid (F3.out.trans f (fun _ _ h => h))
          have GM4 := hid (GM3.out.fr f (fun x => x))
          have GX4 := hid (GX3.out.fr f (fun x => x))
          have GW4 := hid (GW3.out.fr f (fun x => x))
          have HW4 := hid (HW3.out.fr f)
          have q0 := GW4.out.cell 0
          have q1 := GW4.out.cell 1
          have q2 := GW4.out.cell 2
          have f0 := GW4.out.frozen 0
          have f1 := GW4.out.frozen 1
          have f2 := GW4.out.frozen 2
          have hq := GW3.out.lt
          have FT := hid (ft.more (S' := S) (B' := (w.heap.size + 1 + 1) + 1) (fun _ h => h.elim) hq)
          clear f ft
          go_wp2
          refine want_ret rfl rfl (((GW4.out.set_ 0 _).set_ 1 _).set_ 2 _) rfl ?_
          exact want_fin (r := sigW _) _ _ _ HS.out (by omega) FT.out F4.out rfl rfl rfl
end Go.Proofs.YtiafkakkbbclhaaGreat
namespace Go.Proofs.YtiafkakkbbclhaaGreat
open Go.RowKit
theorem typeO_mem {m : Md} {a : Int} {g : Fn} (h : typeO m a = some g) : g ∈ m.types := by
  unfold typeO optD at h
  rcases at_cases m.types a with ⟨k, hk, rfl⟩ | hi | ⟨hi0, hi⟩
  · rw [atD_yes hk] at h
    have : m.types[k] = g := by simpa using h
    exact this ▸ List.getElem_mem hk
  · rw [atD_no (.inl hi)] at h; simp at h
  · rw [atD_no (.inr hi)] at h; simp at h
def indW (m : Md) (a b : Int) : Fn × Int := match typeO m a with
  | none => badW 11
  | some f => if (tabD m b).2 = false then badW 11 else if (tabD m b).1.elem = 3 then (⟨f.params ++ [1], f.results⟩, 0) else badW 12
theorem row_own {w : World} {base : Nat} {v : Value} {l : List Int} (h : tI.row w base Emp 59 v l) : ∃ A c, v = .slice A l.length c ∧ tI.els w (fun k => base ≤ k ∧ k < w.heap.size) A l := by
  obtain ⟨A, c, e, _, _, k⟩ := h.els (S' := fun k => base ≤ k ∧ k < w.heap.size) (fun _ h => h.elim) (fun g hg => by obtain ⟨h0, _, hb⟩ := h.own hg; exact ⟨h0, hb.lt⟩)
  exact ⟨A, c, e, k⟩
theorem indirect23_any {w : World} {S : Nat → Prop} {mc : List Value} {m : Md} (h : MW w S mc m) (B : MdB m) (op a b n : Int) (ha : 0 ≤ a ∧ a < 4294967296) (hb : 0 ≤ b ∧ b < 4294967296) : Calls Tryz.prog 89 #[.agg mc.toArray, .agg #[.int .i64 op, .int .i64 a, .int .i64 b, .int .u64 n, .int .i64 0, .int .i64 0, .int .i64 0, .slice none 0 0, .slice none 0 0]] w (WantTo S (indW m a b) w) := by
  have HG := hid (fun W (k : MW W S mc m) => oType k B a)
  have HT := hid (fun W (k : MW W S mc m) => oTable k B b (by omega))
  have HLP : Hid (∀ g, typeO m a = some g → g.params.length * 8 ≤ 140737488351232) := hid fun g hg => (B.lp g (typeO_mem hg)).1
  generalize hP : indW m a b = P
  rw [indW] at hP
  have HP := hid hP
  clear hP
  generalize typeO m a = o at *
  generalize tabD m b = g2 at *
  obtain ⟨⟨v2, ⟨k1, k2, k3⟩⟩, ok2⟩ := g2
  dsimp only [cTb] at HT HP
  obtain ⟨F0, GM0, GX0, GW0⟩ := bx23 w mc op a b n
  have HIM : Hid ((Tryz.prog.info? 33).map (·.size) = some 12) := by unfold Hid; kernel_rfl
  have HLM := hid h.len
  have HW0 := hid (h.fr F0.out)
  have HS := hid h.lt
  have HB := hid B
  clear h B
  go_enter Tryz.func89, Tryz.ntmps89
  go_upto_region 1 with fail
  generalize (((w.alloc (.cells mc.toArray 33)).alloc (.cells #[.int .i64 op, .int .i64 a, .int .i64 b, .int .u64 n, .int .i64 0, .int .i64 0, .int .i64 0, .slice none 0 0, .slice none 0 0] 139)).alloc (.cells #[.slice none 0 0, .slice none 0 0, .int .i64 0] 156)) = W0 at *
  have hxl := GX0.out.lt
  have x1 := GX0.out.cell 1
  go_wp2_with (refine ldG Tryz.underlying33 HIM.out (rangeL GM0.out) HLM.out ?_)
  refine (HG.out _ HW0.out).mono ?_
  rintro e W1 ⟨A1, c1, A2, c2, rfl, fa, f⟩
  have F1 := hid (F0.out.trans f (fun _ _ h => h))
  have GM1 := hid (GM0.out.fr f (fun x => x))
  have GX1 := hid (GX0.out.fr f (fun x => x))
  have GW1 := hid (GW0.out.fr f (fun x => x))
  have HW1 := hid (HW0.out.fr f)
  have FA1 := hid (fa.more (S' := S) (B' := (w.heap.size + 1 + 1) + 1) (fun _ h => h) (by have := GW0.out.lt; omega))
  clear fa
  clear f F0 GM0 GX0 GW0 HW0 HG x1
  go_upto_region 2 with fail
  have F2 := hid (F1.out.alloc (.cells #[.slice A1 (fnD o).params.length c1, .slice A2 (fnD o).results.length c2] 36))
  have GM2 := hid (GM1.out.alloc (.cells #[.slice A1 (fnD o).params.length c1, .slice A2 (fnD o).results.length c2] 36))
  have GX2 := hid (GX1.out.alloc (.cells #[.slice A1 (fnD o).params.length c1, .slice A2 (fnD o).results.length c2] 36))
  have GW2 := hid (GW1.out.alloc (.cells #[.slice A1 (fnD o).params.length c1, .slice A2 (fnD o).results.length c2] 36))
  have HW2 := hid (HW1.out.fr ((Fr.refl No W1).alloc (.cells #[.slice A1 (fnD o).params.length c1, .slice A2 (fnD o).results.length c2] 36)))
  have BF2 := hid (Blk.new W1 36 #[.slice A1 (fnD o).params.length c1, .slice A2 (fnD o).results.length c2])
  have hb2 := GW1.out.lt
  have hc2 : W1.heap.size < (W1.alloc (.cells #[.slice A1 (fnD o).params.length c1, .slice A2 (fnD o).results.length c2] 36)).heap.size := BF2.out.lt
  have FA2 := hid (FA1.out.frNo ((Fr.refl No W1).alloc (.cells #[.slice A1 (fnD o).params.length c1, .slice A2 (fnD o).results.length c2] 36)) HW1.out.lt)
  clear FA1
  clear F1 GM1 GX1 GW1 HW1
  generalize W1.alloc (.cells #[.slice A1 (fnD o).params.length c1, .slice A2 (fnD o).results.length c2] 36) = W2 at *
  generalize hz2 : W1.heap.size = p2 at *
  clear hz2
  have hxl := GX2.out.lt
  have x0 := GX2.out.cell 0
  have x2 := GX2.out.cell 2
  go_wp2_with (refine ldG Tryz.underlying33 HIM.out (rangeL GM2.out) HLM.out ?_)
  refine (HT.out _ HW2.out).mono ?_
  rintro e W3 ⟨rfl, f⟩
  have F3 := hid (F2.out.trans f (fun _ _ h => h))
  have GM3 := hid (GM2.out.fr f (fun x => x))
  have GX3 := hid (GX2.out.fr f (fun x => x))
  have GW3 := hid (GW2.out.fr f (fun x => x))
  have BF3 := hid (BF2.out.fr f (fun x => x))
  have HW3 := hid (HW2.out.fr f)
  have FA3 := hid (FA2.out.frNo f HW2.out.lt)
  clear f F2 GM2 GX2 GW2 HW2 BF2 HT x0 x2 hxl FA2
  go_upto_region 3 with fail
  have F4 := hid (F3.out.alloc (.cells #[.int .i64 v2, .int .i64 k1, .int .i64 k2, .bool k3] 142))
  have GM4 := hid (GM3.out.alloc (.cells #[.int .i64 v2, .int .i64 k1, .int .i64 k2, .bool k3] 142))
  have GX4 := hid (GX3.out.alloc (.cells #[.int .i64 v2, .int .i64 k1, .int .i64 k2, .bool k3] 142))
  have GW4 := hid (GW3.out.alloc (.cells #[.int .i64 v2, .int .i64 k1, .int .i64 k2, .bool k3] 142))
  have BF4 := hid (BF3.out.alloc (.cells #[.int .i64 v2, .int .i64 k1, .int .i64 k2, .bool k3] 142))
  have HW4 := hid (HW3.out.fr ((Fr.refl No W3).alloc (.cells #[.int .i64 v2, .int .i64 k1, .int .i64 k2, .bool k3] 142)))
  have BT4 := hid (Blk.new W3 142 #[.int .i64 v2, .int .i64 k1, .int .i64 k2, .bool k3])
  have hb4 := GW3.out.lt
  have hc4 : W3.heap.size < (W3.alloc (.cells #[.int .i64 v2, .int .i64 k1, .int .i64 k2, .bool k3] 142)).heap.size := BT4.out.lt
  have FA4 := hid (FA3.out.frNo ((Fr.refl No W3).alloc (.cells #[.int .i64 v2, .int .i64 k1, .int .i64 k2, .bool k3] 142)) HW3.out.lt)
  clear FA3
  clear F3 GM3 GX3 GW3 HW3 BF3
  generalize W3.alloc (.cells #[.int .i64 v2, .int .i64 k1, .int .i64 k2, .bool k3] 142) = W4 at *
  generalize hz4 : W3.heap.size = p4 at *
  clear hz4
  have z0 := BT4.out.cell 0
  cases o with
  | none =>
    have hp := HP.out
    dsimp only at hp
    subst hp
    clear z0
    go_wp2_with fail
    refine (bad_any _ _).mono ?_
    rintro e W5 ⟨rfl, f⟩
    have F5 := hid (F4.out.trans f (fun _ _ h => h))
    have GM5 := hid (GM4.out.fr f (fun x => x))
    have GX5 := hid (GX4.out.fr f (fun x => x))
    have GW5 := hid (GW4.out.fr f (fun x => x))
    have BF5 := hid (BF4.out.fr f (fun x => x))
    have BT5 := hid (BT4.out.fr f (fun x => x))
    have HW5 := hid (HW4.out.fr f)
    have q0 := GW5.out.cell 0
    have q1 := GW5.out.cell 1
    have q2 := GW5.out.cell 2
    have f0 := GW5.out.frozen 0
    have f1 := GW5.out.frozen 1
    have f2 := GW5.out.frozen 2
    clear f
    go_wp2
    refine want_ret rfl rfl (((GW5.out.set_ 0 _).set_ 1 _).set_ 2 _) rfl ?_
    exact want_fin (r := badW 11) (c1 := 0) (c2 := 0) _ _ _ HS.out (by omega) ⟨.inl rfl, .inl rfl⟩ F5.out rfl rfl rfl
  | some g =>
    cases ok2 with
    | false =>
      have hp := HP.out
      dsimp only at hp
      rw [if_pos rfl] at hp
      subst hp
      clear z0
      go_wp2_with fail
      refine (bad_any _ _).mono ?_
      rintro e W5 ⟨rfl, f⟩
      have F5 := hid (F4.out.trans f (fun _ _ h => h))
      have GM5 := hid (GM4.out.fr f (fun x => x))
      have GX5 := hid (GX4.out.fr f (fun x => x))
      have GW5 := hid (GW4.out.fr f (fun x => x))
      have BF5 := hid (BF4.out.fr f (fun x => x))
      have BT5 := hid (BT4.out.fr f (fun x => x))
      have HW5 := hid (HW4.out.fr f)
      have q0 := GW5.out.cell 0
      have q1 := GW5.out.cell 1
      have q2 := GW5.out.cell 2
      have f0 := GW5.out.frozen 0
      have f1 := GW5.out.frozen 1
      have f2 := GW5.out.frozen 2
      clear f
      go_wp2
      refine want_ret rfl rfl (((GW5.out.set_ 0 _).set_ 1 _).set_ 2 _) rfl ?_
      exact want_fin (r := badW 11) (c1 := 0) (c2 := 0) _ _ _ HS.out (by omega) ⟨.inl rfl, .inl rfl⟩ F5.out rfl rfl rfl
    | true =>
      have hp := HP.out
      dsimp only at hp
      rw [if_neg (by decide)] at hp
      by_cases hv : v2 = 3
      · rw [if_pos hv] at hp
        subst hp
        subst hv
        simp only [fnD, Option.getD_some] at *
        go_upto_region 7 with fail
        clear z0
        have hl8 := HLP.out g rfl
        obtain ⟨fe1, fe2⟩ := FA4.out
        have FE1 := hid (els_flat fe1 (B := W4.heap.size) (fun k hk => hk.elim (HW4.out.lt k) (fun h => h.2)))
        have FE2 := hid fe2
        obtain ⟨np, hnp⟩ : ∃ n, g.params.length = n := ⟨_, rfl⟩
        have HNP := hid hnp
        rw [hnp] at hl8
        have hqs : (w.heap.size + 1 + 1) + 1 ≤ W4.heap.size := by have := BT4.out.lt; have := BF4.out.lt; have := GW4.out.lt; omega
        have bfne : p2 ≠ (w.heap.size + 1 + 1) := by omega
        have HX : Hid (∀ X, Fr (One (w.heap.size + 1 + 1)) W4 X → X.cell? ⟨p2, 0, none⟩ = some (.slice A1 np c1) ∧ X.cell? ⟨p2, 1, none⟩ = some (.slice A2 g.results.length c2)) := hid fun X f => by
          have h := BF4.out.fr f (fun x => bfne x)
          exact ⟨by rw [h.cell, ← HNP.out]; rfl, h.cell 1⟩
        clear fe1 fe2 hnp bfne FA4
        refine wp_region_ort (Fr (One (w.heap.size + 1 + 1)) W4) (.rd 1 (.rd 2 (.rd 6 (.rd 7 (.alt 0 (.alt 3 (.eff 4 (.eff 5 (.eff 8 (.eff 9 .nil)))) 4 (.eff 3 (.eff 5 (.eff 8 (.eff 9 .nil))))) 4 (.eff 0 (.eff 3 (.eff 5 (.eff 8 (.eff 9 .nil)))))))))) (by kernel_rfl) (by kernel_rfl) (by kernel_rfl) rfl ((Fr.refl _ W4).drew) ?_
        have FD := hid (Fr.refl No W4).drew
        have hsd : W4.heap.size ≤ W4.drew.heap.size := FD.out.size
        generalize W4.drew = wd at *
        repeat (first | refine tS ?_ | refine tX HX.out ?_)
        obtain ⟨css, hcs⟩ := FE1.out
        have HC := hid hcs.1
        have HR := hid hcs.2
        clear hcs FE1
        refine wpT_alt ?_ ?_
        · skip
          refine wpT_eff rfl rfl (fun K hK => ?_)
          simp only [zA]
          go_simp
          have Fa := hid (FD.out.alloc (.cells #[] 59))
          have Ba := hid (Blk.new wd 59 #[])
          refine hK _ _ ((Fa.out.mono (fun _ _ h => h.elim))) ?_
          clear hK K
          refine wpT_alt ?_ ?_
          · skip
            have R0 := hid (Ty.row.lit (t := tI) (base := W4.heap.size) (S := Emp) (css := []) (xs := []) Ba.out (by first | exact hsd | omega | (simp only [World.size_alloc]; omega)) Css.nil (by decide))
            refine wpT_eff rfl rfl (fun K hK => ?_)
            refine opwp_appC (t := tI) (base := W4.heap.size) (S := Emp) (xs := []) (ys := g.params) (dss := css) (B2 := W4.heap.size) (m := np) elVals rfl rfl rfl R0.out (HC.out _ _) (HR.out.fr Fa.out (fun _ _ x => x)) HNP.out (by simp; omega) (by simp; omega) (fun _ h => h.elim) Fa.out.size ?_
            intro vw5 w5 hr fr1 hv1
            have Rw5 := hid hr
            have Fw5 := hid (own_frame R0.out Fa.out fr1 (Nat.le_refl _))
            obtain ⟨A5, c5, e5, _⟩ := row_own hr
            subst e5
            clear hr fr1 hv1
            refine hK _ _ ((Fw5.out.mono (fun _ _ h => h.elim))) ?_
            clear hK K
            refine wpT_eff rfl rfl (fun K hK => ?_)
            simp only [zA]
            go_simp
            have Fb := hid (Fw5.out.alloc (.cells #[.int .i64 1] 59))
            have Bb := hid (Blk.new w5 59 #[.int .i64 1])
            refine hK _ _ ((Fb.out.mono (fun _ _ h => h.elim))) ?_
            clear hK K
            have R6 := hid (Rw5.out.fr ((Fr.refl No w5).alloc (.cells #[.int .i64 1] 59)) (fun _ h => h.elim) (fun _ _ h => h))
            refine wpT_eff rfl rfl (fun K hK => ?_)
            refine opwp_appC (t := tI) (base := W4.heap.size) (S := Emp) (xs := [] ++ g.params) (ys := [1]) (dss := [[.int .i64 1]]) (B2 := (w5.alloc (.cells #[.int .i64 1] 59)).heap.size) (m := 1) elVals rfl rfl rfl R6.out (Css.one (int_mk (by decide))) (by simpa using Rd.blk Bb.out Bb.out.lt 0 (xs := [.int .i64 1]) (fun i u h => by rw [Nat.zero_add]; simpa using h)) rfl (by simp; rw [HNP.out]; omega) (by simp; rw [HNP.out]; omega) (fun _ h => h.elim) Fb.out.size ?_
            intro v8 w8 hr8 fr8 hv8
            have F8 := hid (own_frame R6.out Fb.out fr8 (Nat.le_refl _))
            rw [List.nil_append] at hr8
            obtain ⟨A8, c8, e8, hel8⟩ := row_own hr8
            subst e8
            have HE8 := hid hel8
            clear hr8 fr8 hv8 hel8
            refine hK _ _ ((F8.out.mono (fun _ _ h => h.elim))) ?_
            clear hK K
            refine wpT_eff rfl rfl (fun K hK => ?_)
            simp only [zA]
            go_simp
            refine (gives_any _ _ _ _ _ _ _).mono ?_
            rintro e w9 ⟨rfl, f⟩
            have F9 := hid (F8.out.trans f (fun _ _ h => h))
            have G9 := hid (GW4.out.fr F9.out (fun x => x))
            have HS4 := HW4.out.lt
            have FT : FnAt S ((w.heap.size + 1 + 1) + 1) w9 A8 A2 ⟨g.params ++ [1], g.results⟩ := ⟨(HE8.out.fr f (fun k hk => ⟨hk.2, fun x => x⟩)).more (fun k hk => .inr ⟨by omega, Nat.lt_of_lt_of_le hk.2 f.size⟩), (FE2.out.fr F9.out (fun k hk => ⟨hk.elim (HS4 k) (fun h => h.2), fun x => x⟩)).more (fun k hk => hk.imp id (fun h => ⟨h.1, Nat.lt_of_lt_of_le h.2 F9.out.size⟩))⟩
            have FF := hid (F4.out.trans F9.out (fun _ _ h => h))
            clear f
            refine hK _ _ ((F9.out.mono (fun _ _ h => h.elim))) ?_
            clear hK K
            have q0 := G9.out.cell 0
            have q1 := G9.out.cell 1
            have q2 := G9.out.cell 2
            have f0 := G9.out.frozen 0
            have f1 := G9.out.frozen 1
            have f2 := G9.out.frozen 2
            refine wpT_eff rfl rfl (fun K hK => ?_)
            simp only [zA]
            go_simp
            refine hK _ _ ?_ ?_
            · refine Fr.setCell ?_ _ _ (fun _ => rfl)
              refine Fr.setCell ?_ _ _ (fun _ => rfl)
              refine Fr.setCell ?_ _ _ (fun _ => rfl)
              exact F9.out.mono (fun _ _ h => h.elim)
            clear hK K
            refine wpT_nil ?_
            go_wp2
            refine want_ret rfl rfl (((G9.out.set_ 0 _).set_ 1 _).set_ 2 _) rfl ?_
            exact want_fin (r := (⟨g.params ++ [1], g.results⟩, 0)) _ _ _ HS.out (by omega) FT FF.out (by simp) rfl rfl
          · skip
            have Ba2 := hid (Ba.out.alloc (.cells #[.int .i64 1] 59))
            refine wpT_eff rfl rfl (fun K hK => ?_)
            simp only [zA]
            go_simp
            have Fb := hid (Fa.out.alloc (.cells #[.int .i64 1] 59))
            have Bb := hid (Blk.new1 wd (.cells #[] 59) 59 #[.int .i64 1])
            refine hK _ _ ((Fb.out.mono (fun _ _ h => h.elim))) ?_
            clear hK K
            have R0 := hid (Ty.row.lit (t := tI) (base := W4.heap.size) (S := Emp) (css := []) (xs := []) Ba2.out (by first | exact hsd | omega | (simp only [World.size_alloc]; omega)) Css.nil (by decide))
            refine wpT_eff rfl rfl (fun K hK => ?_)
            refine opwp_appC (t := tI) (base := W4.heap.size) (S := Emp) (xs := []) (ys := g.params) (dss := css) (B2 := W4.heap.size) (m := np) elVals rfl rfl rfl R0.out (HC.out _ _) (HR.out.fr Fb.out (fun _ _ x => x)) HNP.out (by simp; omega) (by simp; omega) (fun _ h => h.elim) Fb.out.size ?_
            intro vw5 w5 hr fr1 hv1
            have Rw5 := hid hr
            have Fw5 := hid (own_frame R0.out Fb.out fr1 (Nat.le_refl _))
            obtain ⟨A5, c5, e5, _⟩ := row_own hr
            subst e5
            have B6 := hid (Bb.out.fr fr1 (fun h => by have h2 : some (wd.heap.size + 1) = some wd.heap.size := h; simp at h2))
            clear hr fr1 hv1
            refine hK _ _ ((Fw5.out.mono (fun _ _ h => h.elim))) ?_
            clear hK K
            refine wpT_eff rfl rfl (fun K hK => ?_)
            refine opwp_appC (t := tI) (base := W4.heap.size) (S := Emp) (xs := [] ++ g.params) (ys := [1]) (dss := [[.int .i64 1]]) (B2 := w5.heap.size) (m := 1) elVals rfl rfl rfl Rw5.out (Css.one (int_mk (by decide))) (by simpa using Rd.blk B6.out B6.out.lt 0 (xs := [.int .i64 1]) (fun i u h => by rw [Nat.zero_add]; simpa using h)) rfl (by simp; rw [HNP.out]; omega) (by simp; rw [HNP.out]; omega) (fun _ h => h.elim) Fw5.out.size ?_
            intro v8 w8 hr8 fr8 hv8
            have F8 := hid (own_frame Rw5.out Fw5.out fr8 (Nat.le_refl _))
            rw [List.nil_append] at hr8
            obtain ⟨A8, c8, e8, hel8⟩ := row_own hr8
            subst e8
            have HE8 := hid hel8
            clear hr8 fr8 hv8 hel8
            refine hK _ _ ((F8.out.mono (fun _ _ h => h.elim))) ?_
            clear hK K
            refine wpT_eff rfl rfl (fun K hK => ?_)
            simp only [zA]
            go_simp
            refine (gives_any _ _ _ _ _ _ _).mono ?_
            rintro e w9 ⟨rfl, f⟩
            have F9 := hid (F8.out.trans f (fun _ _ h => h))
            have G9 := hid (GW4.out.fr F9.out (fun x => x))
            have HS4 := HW4.out.lt
            have FT : FnAt S ((w.heap.size + 1 + 1) + 1) w9 A8 A2 ⟨g.params ++ [1], g.results⟩ := ⟨(HE8.out.fr f (fun k hk => ⟨hk.2, fun x => x⟩)).more (fun k hk => .inr ⟨by omega, Nat.lt_of_lt_of_le hk.2 f.size⟩), (FE2.out.fr F9.out (fun k hk => ⟨hk.elim (HS4 k) (fun h => h.2), fun x => x⟩)).more (fun k hk => hk.imp id (fun h => ⟨h.1, Nat.lt_of_lt_of_le h.2 F9.out.size⟩))⟩
            have FF := hid (F4.out.trans F9.out (fun _ _ h => h))
            clear f
            refine hK _ _ ((F9.out.mono (fun _ _ h => h.elim))) ?_
            clear hK K
            have q0 := G9.out.cell 0
            have q1 := G9.out.cell 1
            have q2 := G9.out.cell 2
            have f0 := G9.out.frozen 0
            have f1 := G9.out.frozen 1
            have f2 := G9.out.frozen 2
            refine wpT_eff rfl rfl (fun K hK => ?_)
            simp only [zA]
            go_simp
            refine hK _ _ ?_ ?_
            · refine Fr.setCell ?_ _ _ (fun _ => rfl)
              refine Fr.setCell ?_ _ _ (fun _ => rfl)
              refine Fr.setCell ?_ _ _ (fun _ => rfl)
              exact F9.out.mono (fun _ _ h => h.elim)
            clear hK K
            refine wpT_nil ?_
            go_wp2
            refine want_ret rfl rfl (((G9.out.set_ 0 _).set_ 1 _).set_ 2 _) rfl ?_
            exact want_fin (r := (⟨g.params ++ [1], g.results⟩, 0)) _ _ _ HS.out (by omega) FT FF.out (by simp) rfl rfl
        · skip
          refine wpT_eff rfl rfl (fun K hK => ?_)
          simp only [zA]
          go_simp
          have Fb := hid (FD.out.alloc (.cells #[.int .i64 1] 59))
          have Bb := hid (Blk.new wd 59 #[.int .i64 1])
          refine hK _ _ ((Fb.out.mono (fun _ _ h => h.elim))) ?_
          clear hK K
          have Bb2 := hid (Bb.out.alloc (.cells #[] 59))
          refine wpT_eff rfl rfl (fun K hK => ?_)
          simp only [zA]
          go_simp
          have Fa := hid (Fb.out.alloc (.cells #[] 59))
          have Ba := hid (Blk.new1 wd (.cells #[.int .i64 1] 59) 59 #[])
          refine hK _ _ ((Fa.out.mono (fun _ _ h => h.elim))) ?_
          clear hK K
          have R0 := hid (Ty.row.lit (t := tI) (base := W4.heap.size) (S := Emp) (css := []) (xs := []) Ba.out (by first | exact hsd | omega | (simp only [World.size_alloc]; omega)) Css.nil (by decide))
          refine wpT_eff rfl rfl (fun K hK => ?_)
          refine opwp_appC (t := tI) (base := W4.heap.size) (S := Emp) (xs := []) (ys := g.params) (dss := css) (B2 := W4.heap.size) (m := np) elVals rfl rfl rfl R0.out (HC.out _ _) (HR.out.fr Fa.out (fun _ _ x => x)) HNP.out (by simp; omega) (by simp; omega) (fun _ h => h.elim) Fa.out.size ?_
          intro vw5 w5 hr fr1 hv1
          have Rw5 := hid hr
          have Fw5 := hid (own_frame R0.out Fa.out fr1 (Nat.le_refl _))
          obtain ⟨A5, c5, e5, _⟩ := row_own hr
          subst e5
          have B6 := hid (Bb2.out.fr fr1 (fun h => by have h2 : some wd.heap.size = some (wd.heap.size + 1) := h; simp at h2))
          clear hr fr1 hv1
          refine hK _ _ ((Fw5.out.mono (fun _ _ h => h.elim))) ?_
          clear hK K
          refine wpT_eff rfl rfl (fun K hK => ?_)
          refine opwp_appC (t := tI) (base := W4.heap.size) (S := Emp) (xs := [] ++ g.params) (ys := [1]) (dss := [[.int .i64 1]]) (B2 := w5.heap.size) (m := 1) elVals rfl rfl rfl Rw5.out (Css.one (int_mk (by decide))) (by simpa using Rd.blk B6.out B6.out.lt 0 (xs := [.int .i64 1]) (fun i u h => by rw [Nat.zero_add]; simpa using h)) rfl (by simp; rw [HNP.out]; omega) (by simp; rw [HNP.out]; omega) (fun _ h => h.elim) Fw5.out.size ?_
          intro v8 w8 hr8 fr8 hv8
          have F8 := hid (own_frame Rw5.out Fw5.out fr8 (Nat.le_refl _))
          rw [List.nil_append] at hr8
          obtain ⟨A8, c8, e8, hel8⟩ := row_own hr8
          subst e8
          have HE8 := hid hel8
          clear hr8 fr8 hv8 hel8
          refine hK _ _ ((F8.out.mono (fun _ _ h => h.elim))) ?_
          clear hK K
          refine wpT_eff rfl rfl (fun K hK => ?_)
          simp only [zA]
          go_simp
          refine (gives_any _ _ _ _ _ _ _).mono ?_
          rintro e w9 ⟨rfl, f⟩
          have F9 := hid (F8.out.trans f (fun _ _ h => h))
          have G9 := hid (GW4.out.fr F9.out (fun x => x))
          have HS4 := HW4.out.lt
          have FT : FnAt S ((w.heap.size + 1 + 1) + 1) w9 A8 A2 ⟨g.params ++ [1], g.results⟩ := ⟨(HE8.out.fr f (fun k hk => ⟨hk.2, fun x => x⟩)).more (fun k hk => .inr ⟨by omega, Nat.lt_of_lt_of_le hk.2 f.size⟩), (FE2.out.fr F9.out (fun k hk => ⟨hk.elim (HS4 k) (fun h => h.2), fun x => x⟩)).more (fun k hk => hk.imp id (fun h => ⟨h.1, Nat.lt_of_lt_of_le h.2 F9.out.size⟩))⟩
          have FF := hid (F4.out.trans F9.out (fun _ _ h => h))
          clear f
          refine hK _ _ ((F9.out.mono (fun _ _ h => h.elim))) ?_
          clear hK K
          have q0 := G9.out.cell 0
          have q1 := G9.out.cell 1
          have q2 := G9.out.cell 2
          have f0 := G9.out.frozen 0
          have f1 := G9.out.frozen 1
          have f2 := G9.out.frozen 2
          refine wpT_eff rfl rfl (fun K hK => ?_)
          simp only [zA]
          go_simp
          refine hK _ _ ?_ ?_
          · refine Fr.setCell ?_ _ _ (fun _ => rfl)
            refine Fr.setCell ?_ _ _ (fun _ => rfl)
            refine Fr.setCell ?_ _ _ (fun _ => rfl)
            exact F9.out.mono (fun _ _ h => h.elim)
          clear hK K
          refine wpT_nil ?_
          go_wp2
          refine want_ret rfl rfl (((G9.out.set_ 0 _).set_ 1 _).set_ 2 _) rfl ?_
          exact want_fin (r := (⟨g.params ++ [1], g.results⟩, 0)) _ _ _ HS.out (by omega) FT FF.out (by simp) rfl rfl
      · rw [if_neg hv] at hp
        subst hp
        have hvb : (v2 == 3) = false := beq_eq_false_iff_ne.2 hv
        clear hv
        go_wp2_with fail
        refine (bad_any _ _).mono ?_
        rintro e W5 ⟨rfl, f⟩
        have F5 := hid (F4.out.trans f (fun _ _ h => h))
        have GM5 := hid (GM4.out.fr f (fun x => x))
        have GX5 := hid (GX4.out.fr f (fun x => x))
        have GW5 := hid (GW4.out.fr f (fun x => x))
        have BF5 := hid (BF4.out.fr f (fun x => x))
        have BT5 := hid (BT4.out.fr f (fun x => x))
        have HW5 := hid (HW4.out.fr f)
        have q0 := GW5.out.cell 0
        have q1 := GW5.out.cell 1
        have q2 := GW5.out.cell 2
        have f0 := GW5.out.frozen 0
        have f1 := GW5.out.frozen 1
        have f2 := GW5.out.frozen 2
        clear f
        go_wp2
        refine want_ret rfl rfl (((GW5.out.set_ 0 _).set_ 1 _).set_ 2 _) rfl ?_
        exact want_fin (r := badW 12) (c1 := 0) (c2 := 0) _ _ _ HS.out (by omega) ⟨.inl rfl, .inl rfl⟩ F5.out rfl rfl rfl
end Go.Proofs.YtiafkakkbbclhaaGreat
