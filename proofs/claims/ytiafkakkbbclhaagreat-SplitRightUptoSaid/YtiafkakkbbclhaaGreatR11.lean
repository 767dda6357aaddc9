/- For every input SplitRight returns true, part 11: what the proof rests on. Condition: the arguments are of bulk at most 1048576. -/
import Derived.Test.YtiafkakkbbclhaaGreatR10
set_option maxRecDepth 100000
set_option maxHeartbeats 12800000
set_option linter.unusedVariables false
set_option linter.unusedSimpArgs false
set_option linter.unusedSectionVars false
namespace Go.Proofs.YtiafkakkbbclhaaGreat
open Go.RowKit
def named39O (m : Md) (x : Si) : Option Fn :=
  if zeroB x true (x.kind == 14) false false = false then none else if x.kind = 11 then wantsO m 35 x.a 0 0 else if x.kind = 12 then wantsO m 36 x.a 0 0 else if x.kind = 13 then wantsO m 16 x.a 0 0
  else if x.kind = 14 then wantsO m 17 x.a x.b 0 else if (funcO m x.a).isSome = true then some ⟨[], [3]⟩ else none
def bulkA (op : Int) : Bool := op == 64523 || op == 64522 || op == 64520 || op == 64521
def bulkB (op : Int) : Bool := op == 37 || op == 38 || op == 64528 || op == 64527 || op == 64529 || op == 64526 || op == 64524 || op == 64525
def bulk39O (m : Md) (x : Si) : Option Fn :=
  if zeroB x true true false true = false then none else if bulkA x.op = true then (if x.kind = 17 then wantsO m x.op x.a x.b 0 else none) else if bulkB x.op = true then (if x.kind = 18 then wantsO m x.op x.a x.b 0 else none) else none
theorem named39_any {w : World} {S : Nat → Prop} {xc : List Value} {x : Si} {mc : List Value} {m : Md} (h : XW w S xc x) (hm : MW w S mc m) (B : MdB m) (hd : m.datas ≤ 1000000000000) (hk : x.kind = 11 ∨ x.kind = 12 ∨ x.kind = 13 ∨ x.kind = 14 ∨ x.kind = 15) : Calls Tryz.prog 43 #[.agg mc.toArray, .agg xc.toArray] w (SigTo S (named39O m x) w) := by
  have HZ := hid (fun (a b n op : Bool) W (k : XW W S xc x) => zero_any k a b n op)
  have HFN := hid (fun W (k : MW W S mc m) => oFunc k B x.a h.rng.1)
  have HWN : Hid (∀ (op a b n : Int) (W : World), MW W S mc m → OpOk op a → Calls Tryz.prog 58 #[.agg mc.toArray, .int .i64 op, .int .i64 a, .int .i64 b, .int .u64 n] W (SigTo S (wantsO m op a b n) W)) := hid fun op a b n W k ho => wants39_any k B op a b n hd ho
  have hv : Hid True := hid trivial
  generalize hP : named39O m x = P
  rw [named39O] at hP
  have HP := hid hP
  clear hP hd B
  generalize wantsO m = wo at *
  generalize funcO m x.a = o at *
  obtain ⟨F0, GM0, GX0, GW0⟩ := bxMX w mc xc
  obtain ⟨e0, e1, e2, e3, e4⟩ := h.ints
  have E0 := hid e0
  have E1 := hid e1
  have E2 := hid e2
  have E3 := hid e3
  have E4 := hid e4
  have XX0 := hid (h.fr F0.out)
  have HIX : Hid ((Tryz.prog.info? 82).map (·.size) = some 7) := by unfold Hid; kernel_rfl
  have HLX := hid h.len
  have HS := hid h.lt
  have HW0 := hid (hm.fr F0.out)
  have HIM : Hid ((Tryz.prog.info? 33).map (·.size) = some 12) := by unfold Hid; kernel_rfl
  have HLM := hid hm.len
  clear e0 e1 e2 e3 e4 h hm 
  go_enter Tryz.func43, Tryz.ntmps43
  go_upto_region 1 with fail
  generalize (((w.alloc (.cells mc.toArray 33)).alloc (.cells xc.toArray 82)).alloc (.cells #[.slice none 0 0, .slice none 0 0] 36)) = W0 at *
  have hxl := GX0.out.lt
  have x0 := GX0.out.at_ E0.out
  rcases hk with h0 | h0 | h0 | h0 | h0
  · have hp := HP.out
    rw [h0] at hp x0 E0
    rw [show (((11 : Int)) == 14) = false from rfl] at hp
    replace HP := hid hp
    have HZ1 := hid (HZ.out true false false false)
    generalize zeroB x true false false false = z at *
    clear hp HZ h0
    go_wp2_with (first | refine ldG Tryz.underlying82 HIX.out (rangeL GX0.out) HLX.out ?_ | refine ldG Tryz.underlying33 HIM.out (rangeL GM0.out) HLM.out ?_ | refine ldW Tryz.underlying82 HIX.out (rangeL GX0.out) HLX.out ?_)
    refine (HZ1.out _ XX0.out).mono ?_
    rintro e W1 ⟨rfl, f⟩
    have F1 := hid (F0.out.trans f (fun _ _ h => h))
    have GX1 := hid (GX0.out.fr f (fun x => x))
    have GW1 := hid (GW0.out.fr f (fun x => x))
    have XX1 := hid ((XX0.out).fr f)
    have GM1 := hid (GM0.out.fr f (fun x => x))
    have HW1 := hid ((HW0.out).fr f)
    clear f F0 GX0 GW0 XX0 GM0 HW0 HZ1 x0 hxl
    cases z with
    | false =>
      have hp := HP.out
      rw [if_pos rfl] at hp
      subst hp
      go_wp2_with (first | refine ldG Tryz.underlying82 HIX.out (rangeL GX1.out) HLX.out ?_ | refine ldG Tryz.underlying33 HIM.out (rangeL GM1.out) HLM.out ?_ | refine ldW Tryz.underlying82 HIX.out (rangeL GX1.out) HLX.out ?_)
      refine (none39_any _).mono ?_
      rintro e W2 ⟨rfl, f⟩
      have F2 := hid (F1.out.trans f (fun _ _ h => h))
      have GX2 := hid (GX1.out.fr f (fun x => x))
      have GW2 := hid (GW1.out.fr f (fun x => x))
      have XX2 := hid ((XX1.out).fr f)
      have GM2 := hid (GM1.out.fr f (fun x => x))
      have HW2 := hid ((HW1.out).fr f)
      have q0 := GW2.out.cell 0
      have q1 := GW2.out.cell 1
      have f0 := GW2.out.frozen 0
      have f1 := GW2.out.frozen 1
      clear f
      go_wp2
      refine fn_ret (x := .bool false) rfl rfl rfl ((GW2.out.set_ 0 _).set_ 1 _) rfl ?_
      exact sig_fin (o := none) (c1 := 0) (c2 := 0) _ _ HS.out (by omega) ⟨.inl rfl, .inl rfl⟩ F2.out rfl rfl
    | true =>
      have hp := HP.out
      rw [if_neg (by decide), if_pos (by decide)] at hp
      replace HP := hid hp
      clear hp
      have hxl := GX1.out.lt
      have x0 := GX1.out.at_ E0.out
      have x2 := GX1.out.at_ E2.out
      have hp := HP.out
      subst hp
      have HW9 := hid (HWN.out 35 x.a 0 0)
      clear HWN HFN
      have hq := GW1.out.lt
      go_wp2_with (first | refine ldG Tryz.underlying82 HIX.out (rangeL GX1.out) HLX.out ?_ | refine ldG Tryz.underlying33 HIM.out (rangeL GM1.out) HLM.out ?_ | refine ldW Tryz.underlying82 HIX.out (rangeL GX1.out) HLX.out ?_)
      refine (HW9.out _ HW1.out (by unfold OpOk; simp)).mono ?_
      rintro e W2 ⟨A1, c1, A2, c2, rfl, ft, f⟩
      have F2 := hid (F1.out.trans f (fun _ _ h => h))
      have GX2 := hid (GX1.out.fr f (fun x => x))
      have GW2 := hid (GW1.out.fr f (fun x => x))
      have XX2 := hid ((XX1.out).fr f)
      have GM2 := hid (GM1.out.fr f (fun x => x))
      have HW2 := hid ((HW1.out).fr f)
      have q0 := GW2.out.cell 0
      have q1 := GW2.out.cell 1
      have f0 := GW2.out.frozen 0
      have f1 := GW2.out.frozen 1
      have FT := hid (ft.more (S' := S) (B' := (w.heap.size + 1 + 1) + 1) (fun _ h => h) hq)
      clear f ft
      go_wp2
      refine fn_ret rfl rfl rfl ((GW2.out.set_ 0 _).set_ 1 _) rfl ?_
      exact sig_fin (o := _) _ _ HS.out (by omega) FT.out F2.out rfl rfl
  · have hp := HP.out
    rw [h0] at hp x0 E0
    rw [show (((12 : Int)) == 14) = false from rfl] at hp
    replace HP := hid hp
    have HZ1 := hid (HZ.out true false false false)
    generalize zeroB x true false false false = z at *
    clear hp HZ h0
    go_wp2_with (first | refine ldG Tryz.underlying82 HIX.out (rangeL GX0.out) HLX.out ?_ | refine ldG Tryz.underlying33 HIM.out (rangeL GM0.out) HLM.out ?_ | refine ldW Tryz.underlying82 HIX.out (rangeL GX0.out) HLX.out ?_)
    refine (HZ1.out _ XX0.out).mono ?_
    rintro e W1 ⟨rfl, f⟩
    have F1 := hid (F0.out.trans f (fun _ _ h => h))
    have GX1 := hid (GX0.out.fr f (fun x => x))
    have GW1 := hid (GW0.out.fr f (fun x => x))
    have XX1 := hid ((XX0.out).fr f)
    have GM1 := hid (GM0.out.fr f (fun x => x))
    have HW1 := hid ((HW0.out).fr f)
    clear f F0 GX0 GW0 XX0 GM0 HW0 HZ1 x0 hxl
    cases z with
    | false =>
      have hp := HP.out
      rw [if_pos rfl] at hp
      subst hp
      go_wp2_with (first | refine ldG Tryz.underlying82 HIX.out (rangeL GX1.out) HLX.out ?_ | refine ldG Tryz.underlying33 HIM.out (rangeL GM1.out) HLM.out ?_ | refine ldW Tryz.underlying82 HIX.out (rangeL GX1.out) HLX.out ?_)
      refine (none39_any _).mono ?_
      rintro e W2 ⟨rfl, f⟩
      have F2 := hid (F1.out.trans f (fun _ _ h => h))
      have GX2 := hid (GX1.out.fr f (fun x => x))
      have GW2 := hid (GW1.out.fr f (fun x => x))
      have XX2 := hid ((XX1.out).fr f)
      have GM2 := hid (GM1.out.fr f (fun x => x))
      have HW2 := hid ((HW1.out).fr f)
      have q0 := GW2.out.cell 0
      have q1 := GW2.out.cell 1
      have f0 := GW2.out.frozen 0
      have f1 := GW2.out.frozen 1
      clear f
      go_wp2
      refine fn_ret (x := .bool false) rfl rfl rfl ((GW2.out.set_ 0 _).set_ 1 _) rfl ?_
      exact sig_fin (o := none) (c1 := 0) (c2 := 0) _ _ HS.out (by omega) ⟨.inl rfl, .inl rfl⟩ F2.out rfl rfl
    | true =>
      have hp := HP.out
      rw [if_neg (by decide), if_neg (by decide), if_pos (by decide)] at hp
      replace HP := hid hp
      clear hp
      have hxl := GX1.out.lt
      have x0 := GX1.out.at_ E0.out
      have x2 := GX1.out.at_ E2.out
      have hp := HP.out
      subst hp
      have HW9 := hid (HWN.out 36 x.a 0 0)
      clear HWN HFN
      have hq := GW1.out.lt
      go_wp2_with (first | refine ldG Tryz.underlying82 HIX.out (rangeL GX1.out) HLX.out ?_ | refine ldG Tryz.underlying33 HIM.out (rangeL GM1.out) HLM.out ?_ | refine ldW Tryz.underlying82 HIX.out (rangeL GX1.out) HLX.out ?_)
      refine (HW9.out _ HW1.out (by unfold OpOk; simp)).mono ?_
      rintro e W2 ⟨A1, c1, A2, c2, rfl, ft, f⟩
      have F2 := hid (F1.out.trans f (fun _ _ h => h))
      have GX2 := hid (GX1.out.fr f (fun x => x))
      have GW2 := hid (GW1.out.fr f (fun x => x))
      have XX2 := hid ((XX1.out).fr f)
      have GM2 := hid (GM1.out.fr f (fun x => x))
      have HW2 := hid ((HW1.out).fr f)
      have q0 := GW2.out.cell 0
      have q1 := GW2.out.cell 1
      have f0 := GW2.out.frozen 0
      have f1 := GW2.out.frozen 1
      have FT := hid (ft.more (S' := S) (B' := (w.heap.size + 1 + 1) + 1) (fun _ h => h) hq)
      clear f ft
      go_wp2
      refine fn_ret rfl rfl rfl ((GW2.out.set_ 0 _).set_ 1 _) rfl ?_
      exact sig_fin (o := _) _ _ HS.out (by omega) FT.out F2.out rfl rfl
  · have hp := HP.out
    rw [h0] at hp x0 E0
    rw [show (((13 : Int)) == 14) = false from rfl] at hp
    replace HP := hid hp
    have HZ1 := hid (HZ.out true false false false)
    generalize zeroB x true false false false = z at *
    clear hp HZ h0
    go_wp2_with (first | refine ldG Tryz.underlying82 HIX.out (rangeL GX0.out) HLX.out ?_ | refine ldG Tryz.underlying33 HIM.out (rangeL GM0.out) HLM.out ?_ | refine ldW Tryz.underlying82 HIX.out (rangeL GX0.out) HLX.out ?_)
    refine (HZ1.out _ XX0.out).mono ?_
    rintro e W1 ⟨rfl, f⟩
    have F1 := hid (F0.out.trans f (fun _ _ h => h))
    have GX1 := hid (GX0.out.fr f (fun x => x))
    have GW1 := hid (GW0.out.fr f (fun x => x))
    have XX1 := hid ((XX0.out).fr f)
    have GM1 := hid (GM0.out.fr f (fun x => x))
    have HW1 := hid ((HW0.out).fr f)
    clear f F0 GX0 GW0 XX0 GM0 HW0 HZ1 x0 hxl
    cases z with
    | false =>
      have hp := HP.out
      rw [if_pos rfl] at hp
      subst hp
      go_wp2_with (first | refine ldG Tryz.underlying82 HIX.out (rangeL GX1.out) HLX.out ?_ | refine ldG Tryz.underlying33 HIM.out (rangeL GM1.out) HLM.out ?_ | refine ldW Tryz.underlying82 HIX.out (rangeL GX1.out) HLX.out ?_)
      refine (none39_any _).mono ?_
      rintro e W2 ⟨rfl, f⟩
      have F2 := hid (F1.out.trans f (fun _ _ h => h))
      have GX2 := hid (GX1.out.fr f (fun x => x))
      have GW2 := hid (GW1.out.fr f (fun x => x))
      have XX2 := hid ((XX1.out).fr f)
      have GM2 := hid (GM1.out.fr f (fun x => x))
      have HW2 := hid ((HW1.out).fr f)
      have q0 := GW2.out.cell 0
      have q1 := GW2.out.cell 1
      have f0 := GW2.out.frozen 0
      have f1 := GW2.out.frozen 1
      clear f
      go_wp2
      refine fn_ret (x := .bool false) rfl rfl rfl ((GW2.out.set_ 0 _).set_ 1 _) rfl ?_
      exact sig_fin (o := none) (c1 := 0) (c2 := 0) _ _ HS.out (by omega) ⟨.inl rfl, .inl rfl⟩ F2.out rfl rfl
    | true =>
      have hp := HP.out
      rw [if_neg (by decide), if_neg (by decide), if_neg (by decide), if_pos (by decide)] at hp
      replace HP := hid hp
      clear hp
      have hxl := GX1.out.lt
      have x0 := GX1.out.at_ E0.out
      have x2 := GX1.out.at_ E2.out
      have hp := HP.out
      subst hp
      have HW9 := hid (HWN.out 16 x.a 0 0)
      clear HWN HFN
      have hq := GW1.out.lt
      go_wp2_with (first | refine ldG Tryz.underlying82 HIX.out (rangeL GX1.out) HLX.out ?_ | refine ldG Tryz.underlying33 HIM.out (rangeL GM1.out) HLM.out ?_ | refine ldW Tryz.underlying82 HIX.out (rangeL GX1.out) HLX.out ?_)
      refine (HW9.out _ HW1.out (by unfold OpOk; simp)).mono ?_
      rintro e W2 ⟨A1, c1, A2, c2, rfl, ft, f⟩
      have F2 := hid (F1.out.trans f (fun _ _ h => h))
      have GX2 := hid (GX1.out.fr f (fun x => x))
      have GW2 := hid (GW1.out.fr f (fun x => x))
      have XX2 := hid ((XX1.out).fr f)
      have GM2 := hid (GM1.out.fr f (fun x => x))
      have HW2 := hid ((HW1.out).fr f)
      have q0 := GW2.out.cell 0
      have q1 := GW2.out.cell 1
      have f0 := GW2.out.frozen 0
      have f1 := GW2.out.frozen 1
      have FT := hid (ft.more (S' := S) (B' := (w.heap.size + 1 + 1) + 1) (fun _ h => h) hq)
      clear f ft
      go_wp2
      refine fn_ret rfl rfl rfl ((GW2.out.set_ 0 _).set_ 1 _) rfl ?_
      exact sig_fin (o := _) _ _ HS.out (by omega) FT.out F2.out rfl rfl
  · have hp := HP.out
    rw [h0] at hp x0 E0
    rw [show (((14 : Int)) == 14) = true from rfl] at hp
    replace HP := hid hp
    have HZ1 := hid (HZ.out true true false false)
    generalize zeroB x true true false false = z at *
    clear hp HZ h0
    go_wp2_with (first | refine ldG Tryz.underlying82 HIX.out (rangeL GX0.out) HLX.out ?_ | refine ldG Tryz.underlying33 HIM.out (rangeL GM0.out) HLM.out ?_ | refine ldW Tryz.underlying82 HIX.out (rangeL GX0.out) HLX.out ?_)
    refine (HZ1.out _ XX0.out).mono ?_
    rintro e W1 ⟨rfl, f⟩
    have F1 := hid (F0.out.trans f (fun _ _ h => h))
    have GX1 := hid (GX0.out.fr f (fun x => x))
    have GW1 := hid (GW0.out.fr f (fun x => x))
    have XX1 := hid ((XX0.out).fr f)
    have GM1 := hid (GM0.out.fr f (fun x => x))
    have HW1 := hid ((HW0.out).fr f)
    clear f F0 GX0 GW0 XX0 GM0 HW0 HZ1 x0 hxl
    cases z with
    | false =>
      have hp := HP.out
      rw [if_pos rfl] at hp
      subst hp
      go_wp2_with (first | refine ldG Tryz.underlying82 HIX.out (rangeL GX1.out) HLX.out ?_ | refine ldG Tryz.underlying33 HIM.out (rangeL GM1.out) HLM.out ?_ | refine ldW Tryz.underlying82 HIX.out (rangeL GX1.out) HLX.out ?_)
      refine (none39_any _).mono ?_
      rintro e W2 ⟨rfl, f⟩
      have F2 := hid (F1.out.trans f (fun _ _ h => h))
      have GX2 := hid (GX1.out.fr f (fun x => x))
      have GW2 := hid (GW1.out.fr f (fun x => x))
      have XX2 := hid ((XX1.out).fr f)
      have GM2 := hid (GM1.out.fr f (fun x => x))
      have HW2 := hid ((HW1.out).fr f)
      have q0 := GW2.out.cell 0
      have q1 := GW2.out.cell 1
      have f0 := GW2.out.frozen 0
      have f1 := GW2.out.frozen 1
      clear f
      go_wp2
      refine fn_ret (x := .bool false) rfl rfl rfl ((GW2.out.set_ 0 _).set_ 1 _) rfl ?_
      exact sig_fin (o := none) (c1 := 0) (c2 := 0) _ _ HS.out (by omega) ⟨.inl rfl, .inl rfl⟩ F2.out rfl rfl
    | true =>
      have hp := HP.out
      rw [if_neg (by decide), if_neg (by decide), if_neg (by decide), if_neg (by decide), if_pos (by decide)] at hp
      replace HP := hid hp
      clear hp
      have hxl := GX1.out.lt
      have x0 := GX1.out.at_ E0.out
      have x2 := GX1.out.at_ E2.out
      have x3 := GX1.out.at_ E3.out
      have hp := HP.out
      subst hp
      have HW9 := hid (HWN.out 17 x.a x.b 0)
      clear HWN HFN
      have hq := GW1.out.lt
      go_wp2_with (first | refine ldG Tryz.underlying82 HIX.out (rangeL GX1.out) HLX.out ?_ | refine ldG Tryz.underlying33 HIM.out (rangeL GM1.out) HLM.out ?_ | refine ldW Tryz.underlying82 HIX.out (rangeL GX1.out) HLX.out ?_)
      refine (HW9.out _ HW1.out (by unfold OpOk; simp)).mono ?_
      rintro e W2 ⟨A1, c1, A2, c2, rfl, ft, f⟩
      have F2 := hid (F1.out.trans f (fun _ _ h => h))
      have GX2 := hid (GX1.out.fr f (fun x => x))
      have GW2 := hid (GW1.out.fr f (fun x => x))
      have XX2 := hid ((XX1.out).fr f)
      have GM2 := hid (GM1.out.fr f (fun x => x))
      have HW2 := hid ((HW1.out).fr f)
      have q0 := GW2.out.cell 0
      have q1 := GW2.out.cell 1
      have f0 := GW2.out.frozen 0
      have f1 := GW2.out.frozen 1
      have FT := hid (ft.more (S' := S) (B' := (w.heap.size + 1 + 1) + 1) (fun _ h => h) hq)
      clear f ft
      go_wp2
      refine fn_ret rfl rfl rfl ((GW2.out.set_ 0 _).set_ 1 _) rfl ?_
      exact sig_fin (o := _) _ _ HS.out (by omega) FT.out F2.out rfl rfl
  · have hp := HP.out
    rw [h0] at hp x0 E0
    rw [show (((15 : Int)) == 14) = false from rfl] at hp
    replace HP := hid hp
    have HZ1 := hid (HZ.out true false false false)
    generalize zeroB x true false false false = z at *
    clear hp HZ h0
    go_wp2_with (first | refine ldG Tryz.underlying82 HIX.out (rangeL GX0.out) HLX.out ?_ | refine ldG Tryz.underlying33 HIM.out (rangeL GM0.out) HLM.out ?_ | refine ldW Tryz.underlying82 HIX.out (rangeL GX0.out) HLX.out ?_)
    refine (HZ1.out _ XX0.out).mono ?_
    rintro e W1 ⟨rfl, f⟩
    have F1 := hid (F0.out.trans f (fun _ _ h => h))
    have GX1 := hid (GX0.out.fr f (fun x => x))
    have GW1 := hid (GW0.out.fr f (fun x => x))
    have XX1 := hid ((XX0.out).fr f)
    have GM1 := hid (GM0.out.fr f (fun x => x))
    have HW1 := hid ((HW0.out).fr f)
    clear f F0 GX0 GW0 XX0 GM0 HW0 HZ1 x0 hxl
    cases z with
    | false =>
      have hp := HP.out
      rw [if_pos rfl] at hp
      subst hp
      go_wp2_with (first | refine ldG Tryz.underlying82 HIX.out (rangeL GX1.out) HLX.out ?_ | refine ldG Tryz.underlying33 HIM.out (rangeL GM1.out) HLM.out ?_ | refine ldW Tryz.underlying82 HIX.out (rangeL GX1.out) HLX.out ?_)
      refine (none39_any _).mono ?_
      rintro e W2 ⟨rfl, f⟩
      have F2 := hid (F1.out.trans f (fun _ _ h => h))
      have GX2 := hid (GX1.out.fr f (fun x => x))
      have GW2 := hid (GW1.out.fr f (fun x => x))
      have XX2 := hid ((XX1.out).fr f)
      have GM2 := hid (GM1.out.fr f (fun x => x))
      have HW2 := hid ((HW1.out).fr f)
      have q0 := GW2.out.cell 0
      have q1 := GW2.out.cell 1
      have f0 := GW2.out.frozen 0
      have f1 := GW2.out.frozen 1
      clear f
      go_wp2
      refine fn_ret (x := .bool false) rfl rfl rfl ((GW2.out.set_ 0 _).set_ 1 _) rfl ?_
      exact sig_fin (o := none) (c1 := 0) (c2 := 0) _ _ HS.out (by omega) ⟨.inl rfl, .inl rfl⟩ F2.out rfl rfl
    | true =>
      have hp := HP.out
      rw [if_neg (by decide), if_neg (by decide), if_neg (by decide), if_neg (by decide), if_neg (by decide)] at hp
      replace HP := hid hp
      clear hp
      have hxl := GX1.out.lt
      have x0 := GX1.out.at_ E0.out
      have x2 := GX1.out.at_ E2.out
      go_wp2_with (first | refine ldG Tryz.underlying82 HIX.out (rangeL GX1.out) HLX.out ?_ | refine ldG Tryz.underlying33 HIM.out (rangeL GM1.out) HLM.out ?_ | refine ldW Tryz.underlying82 HIX.out (rangeL GX1.out) HLX.out ?_)
      refine (HFN.out _ HW1.out).mono ?_
      rintro e W2 ⟨A1, c1, A2, c2, rfl, fa, f⟩
      have F2 := hid (F1.out.trans f (fun _ _ h => h))
      have GX2 := hid (GX1.out.fr f (fun x => x))
      have GW2 := hid (GW1.out.fr f (fun x => x))
      have XX2 := hid ((XX1.out).fr f)
      have GM2 := hid (GM1.out.fr f (fun x => x))
      have HW2 := hid ((HW1.out).fr f)
      clear fa
      clear f F1 GX1 GW1 XX1 GM1 HW1 HFN HWN x0 x2 hxl
      cases o with
      | none =>
        simp only [fnD, Option.getD_none, Option.isSome_none]
        have hp := HP.out
        rw [if_neg (by simp)] at hp
        subst hp
        go_wp2_with (first | refine ldG Tryz.underlying82 HIX.out (rangeL GX2.out) HLX.out ?_ | refine ldG Tryz.underlying33 HIM.out (rangeL GM2.out) HLM.out ?_ | refine ldW Tryz.underlying82 HIX.out (rangeL GX2.out) HLX.out ?_)
        refine (none39_any _).mono ?_
        rintro e W3 ⟨rfl, f⟩
        have F3 := hid ((F2.out.alloc _).trans f (fun _ _ h => h))
        have GX3 := hid ((GX2.out.alloc _).fr f (fun x => x))
        have GW3 := hid ((GW2.out.alloc _).fr f (fun x => x))
        have XX3 := hid ((XX2.out.fr (((Fr.refl No W2).alloc _))).fr f)
        have GM3 := hid ((GM2.out.alloc _).fr f (fun x => x))
        have HW3 := hid ((HW2.out.fr (((Fr.refl No W2).alloc _))).fr f)
        have q0 := GW3.out.cell 0
        have q1 := GW3.out.cell 1
        have f0 := GW3.out.frozen 0
        have f1 := GW3.out.frozen 1
        clear f
        go_wp2
        refine fn_ret (x := .bool false) rfl rfl rfl ((GW3.out.set_ 0 _).set_ 1 _) rfl ?_
        exact sig_fin (o := none) (c1 := 0) (c2 := 0) _ _ HS.out (by omega) ⟨.inl rfl, .inl rfl⟩ F3.out rfl rfl
      | some g =>
        simp only [fnD, Option.getD_some, Option.isSome_some]
        have hp := HP.out
        rw [if_pos (by simp)] at hp
        subst hp
        have hq := GW2.out.lt
        go_wp2_with (first | refine ldG Tryz.underlying82 HIX.out (rangeL GX2.out) HLX.out ?_ | refine ldG Tryz.underlying33 HIM.out (rangeL GM2.out) HLM.out ?_ | refine ldW Tryz.underlying82 HIX.out (rangeL GX2.out) HLX.out ?_)
        refine (fn39_any _ _ _ _ _ _ _).mono ?_
        rintro e W3 ⟨rfl, f⟩
        have F3 := hid (((F2.out.alloc _).alloc _).trans f (fun _ _ h => h))
        have GX3 := hid (((GX2.out.alloc _).alloc _).fr f (fun x => x))
        have GW3 := hid (((GW2.out.alloc _).alloc _).fr f (fun x => x))
        have XX3 := hid ((XX2.out.fr ((((Fr.refl No W2).alloc _).alloc _))).fr f)
        have GM3 := hid (((GM2.out.alloc _).alloc _).fr f (fun x => x))
        have HW3 := hid ((HW2.out.fr ((((Fr.refl No W2).alloc _).alloc _))).fr f)
        have q0 := GW3.out.cell 0
        have q1 := GW3.out.cell 1
        have f0 := GW3.out.frozen 0
        have f1 := GW3.out.frozen 1
        have FT : FnAt S ((w.heap.size + 1 + 1) + 1) W3 none _ (fnD (some ⟨[], [3]⟩)) := ⟨.inl rfl, lits_els (l := [3]) ((Blk.new1 _ _ 59 #[.int .i64 3]).fr f (fun x => x)) (by omega) (by intro y hy; simp only [List.mem_cons, List.not_mem_nil, or_false] at hy; rcases hy with rfl <;> first | decide | exact hv.out)⟩
        clear f
        go_wp2
        refine fn_ret (x := .bool true) rfl rfl rfl ((GW3.out.set_ 0 _).set_ 1 _) rfl ?_
        exact sig_fin (o := some ⟨[], [3]⟩) _ _ HS.out (by omega) FT F3.out rfl rfl
theorem bulk39_any {w : World} {S : Nat → Prop} {xc : List Value} {x : Si} {mc : List Value} {m : Md} (h : XW w S xc x) (hm : MW w S mc m) (B : MdB m) (hd : m.datas ≤ 1000000000000) (hk : x.kind = 17 ∨ x.kind = 18) : Calls Tryz.prog 44 #[.agg mc.toArray, .agg xc.toArray] w (SigTo S (bulk39O m x) w) := by
  have HZ1 := hid (fun W (k : XW W S xc x) => zero_any k true true false true)
  have HWN : Hid (∀ (op a b n : Int) (W : World), MW W S mc m → OpOk op a → Calls Tryz.prog 58 #[.agg mc.toArray, .int .i64 op, .int .i64 a, .int .i64 b, .int .u64 n] W (SigTo S (wantsO m op a b n) W)) := hid fun op a b n W k ho => wants39_any k B op a b n hd ho
  generalize hP : bulk39O m x = P
  rw [bulk39O] at hP
  have HP := hid hP
  clear hP hd B
  generalize wantsO m = wo at *
  generalize zeroB x true true false true = z at *
  obtain ⟨F0, GM0, GX0, GW0⟩ := bxMX w mc xc
  obtain ⟨e0, e1, e2, e3, e4⟩ := h.ints
  have E0 := hid e0
  have E1 := hid e1
  have E2 := hid e2
  have E3 := hid e3
  have E4 := hid e4
  have XX0 := hid (h.fr F0.out)
  have HIX : Hid ((Tryz.prog.info? 82).map (·.size) = some 7) := by unfold Hid; kernel_rfl
  have HLX := hid h.len
  have HS := hid h.lt
  have HW0 := hid (hm.fr F0.out)
  have HIM : Hid ((Tryz.prog.info? 33).map (·.size) = some 12) := by unfold Hid; kernel_rfl
  have HLM := hid hm.len
  clear e0 e1 e2 e3 e4 h hm 
  go_enter Tryz.func44, Tryz.ntmps44
  go_upto_region 1 with fail
  generalize (((w.alloc (.cells mc.toArray 33)).alloc (.cells xc.toArray 82)).alloc (.cells #[.slice none 0 0, .slice none 0 0] 36)) = W0 at *
  generalize x.op = xo at *
  go_wp2_with (first | refine ldG Tryz.underlying82 HIX.out (rangeL GX0.out) HLX.out ?_ | refine ldG Tryz.underlying33 HIM.out (rangeL GM0.out) HLM.out ?_ | refine ldW Tryz.underlying82 HIX.out (rangeL GX0.out) HLX.out ?_)
  refine (HZ1.out _ XX0.out).mono ?_
  rintro e W1 ⟨rfl, f⟩
  have F1 := hid (F0.out.trans f (fun _ _ h => h))
  have GX1 := hid (GX0.out.fr f (fun x => x))
  have GW1 := hid (GW0.out.fr f (fun x => x))
  have XX1 := hid ((XX0.out).fr f)
  have GM1 := hid (GM0.out.fr f (fun x => x))
  have HW1 := hid ((HW0.out).fr f)
  clear f F0 GX0 GW0 XX0 GM0 HW0 HZ1
  cases z with
  | false =>
    have hp := HP.out
    rw [if_pos rfl] at hp
    subst hp
    go_wp2_with (first | refine ldG Tryz.underlying82 HIX.out (rangeL GX1.out) HLX.out ?_ | refine ldG Tryz.underlying33 HIM.out (rangeL GM1.out) HLM.out ?_ | refine ldW Tryz.underlying82 HIX.out (rangeL GX1.out) HLX.out ?_)
    refine (none39_any _).mono ?_
    rintro e W2 ⟨rfl, f⟩
    have F2 := hid (F1.out.trans f (fun _ _ h => h))
    have GX2 := hid (GX1.out.fr f (fun x => x))
    have GW2 := hid (GW1.out.fr f (fun x => x))
    have XX2 := hid ((XX1.out).fr f)
    have GM2 := hid (GM1.out.fr f (fun x => x))
    have HW2 := hid ((HW1.out).fr f)
    have q0 := GW2.out.cell 0
    have q1 := GW2.out.cell 1
    have f0 := GW2.out.frozen 0
    have f1 := GW2.out.frozen 1
    clear f
    go_wp2
    refine fn_ret (x := .bool false) rfl rfl rfl ((GW2.out.set_ 0 _).set_ 1 _) rfl ?_
    exact sig_fin (o := none) (c1 := 0) (c2 := 0) _ _ HS.out (by omega) ⟨.inl rfl, .inl rfl⟩ F2.out rfl rfl
  | true =>
    have hp := HP.out
    rw [if_neg (by decide)] at hp
    replace HP := hid hp
    clear hp
    have hxl := GX1.out.lt
    have x0 := GX1.out.at_ E0.out
    have x1 := GX1.out.at_ E1.out
    have x2 := GX1.out.at_ E2.out
    have x3 := GX1.out.at_ E3.out
    by_cases h64523 : xo = 64523
    · subst h64523
      have hp := HP.out
      rw [if_pos (by decide)] at hp
      replace HP := hid hp
      clear hp
      rcases hk with h0 | h0
      · rw [h0] at x0
        have hp := HP.out
        rw [if_pos h0] at hp
        subst hp
        clear h0
        have HW9 := hid (HWN.out 64523 x.a x.b 0)
        clear HWN
        have hq := GW1.out.lt
        go_wp2_with (first | refine ldG Tryz.underlying82 HIX.out (rangeL GX1.out) HLX.out ?_ | refine ldG Tryz.underlying33 HIM.out (rangeL GM1.out) HLM.out ?_ | refine ldW Tryz.underlying82 HIX.out (rangeL GX1.out) HLX.out ?_)
        refine (HW9.out _ HW1.out (by unfold OpOk; simp)).mono ?_
        rintro e W2 ⟨A1, c1, A2, c2, rfl, ft, f⟩
        have F2 := hid (F1.out.trans f (fun _ _ h => h))
        have GX2 := hid (GX1.out.fr f (fun x => x))
        have GW2 := hid (GW1.out.fr f (fun x => x))
        have XX2 := hid ((XX1.out).fr f)
        have GM2 := hid (GM1.out.fr f (fun x => x))
        have HW2 := hid ((HW1.out).fr f)
        have q0 := GW2.out.cell 0
        have q1 := GW2.out.cell 1
        have f0 := GW2.out.frozen 0
        have f1 := GW2.out.frozen 1
        have FT := hid (ft.more (S' := S) (B' := (w.heap.size + 1 + 1) + 1) (fun _ h => h) hq)
        clear f ft
        go_wp2
        refine fn_ret rfl rfl rfl ((GW2.out.set_ 0 _).set_ 1 _) rfl ?_
        exact sig_fin (o := _) _ _ HS.out (by omega) FT.out F2.out rfl rfl
      · rw [h0] at x0
        have hp := HP.out
        rw [if_neg (by omega)] at hp
        subst hp
        clear h0
        go_wp2_with (first | refine ldG Tryz.underlying82 HIX.out (rangeL GX1.out) HLX.out ?_ | refine ldG Tryz.underlying33 HIM.out (rangeL GM1.out) HLM.out ?_ | refine ldW Tryz.underlying82 HIX.out (rangeL GX1.out) HLX.out ?_)
        refine (none39_any _).mono ?_
        rintro e W2 ⟨rfl, f⟩
        have F2 := hid (F1.out.trans f (fun _ _ h => h))
        have GX2 := hid (GX1.out.fr f (fun x => x))
        have GW2 := hid (GW1.out.fr f (fun x => x))
        have XX2 := hid ((XX1.out).fr f)
        have GM2 := hid (GM1.out.fr f (fun x => x))
        have HW2 := hid ((HW1.out).fr f)
        have q0 := GW2.out.cell 0
        have q1 := GW2.out.cell 1
        have f0 := GW2.out.frozen 0
        have f1 := GW2.out.frozen 1
        clear f
        go_wp2
        refine fn_ret (x := .bool false) rfl rfl rfl ((GW2.out.set_ 0 _).set_ 1 _) rfl ?_
        exact sig_fin (o := none) (c1 := 0) (c2 := 0) _ _ HS.out (by omega) ⟨.inl rfl, .inl rfl⟩ F2.out rfl rfl
    by_cases h64522 : xo = 64522
    · subst h64522
      have hp := HP.out
      rw [if_pos (by decide)] at hp
      replace HP := hid hp
      clear hp
      rcases hk with h0 | h0
      · rw [h0] at x0
        have hp := HP.out
        rw [if_pos h0] at hp
        subst hp
        clear h0
        have HW9 := hid (HWN.out 64522 x.a x.b 0)
        clear HWN
        have hq := GW1.out.lt
        go_wp2_with (first | refine ldG Tryz.underlying82 HIX.out (rangeL GX1.out) HLX.out ?_ | refine ldG Tryz.underlying33 HIM.out (rangeL GM1.out) HLM.out ?_ | refine ldW Tryz.underlying82 HIX.out (rangeL GX1.out) HLX.out ?_)
        refine (HW9.out _ HW1.out (by unfold OpOk; simp)).mono ?_
        rintro e W2 ⟨A1, c1, A2, c2, rfl, ft, f⟩
        have F2 := hid (F1.out.trans f (fun _ _ h => h))
        have GX2 := hid (GX1.out.fr f (fun x => x))
        have GW2 := hid (GW1.out.fr f (fun x => x))
        have XX2 := hid ((XX1.out).fr f)
        have GM2 := hid (GM1.out.fr f (fun x => x))
        have HW2 := hid ((HW1.out).fr f)
        have q0 := GW2.out.cell 0
        have q1 := GW2.out.cell 1
        have f0 := GW2.out.frozen 0
        have f1 := GW2.out.frozen 1
        have FT := hid (ft.more (S' := S) (B' := (w.heap.size + 1 + 1) + 1) (fun _ h => h) hq)
        clear f ft
        go_wp2
        refine fn_ret rfl rfl rfl ((GW2.out.set_ 0 _).set_ 1 _) rfl ?_
        exact sig_fin (o := _) _ _ HS.out (by omega) FT.out F2.out rfl rfl
      · rw [h0] at x0
        have hp := HP.out
        rw [if_neg (by omega)] at hp
        subst hp
        clear h0
        go_wp2_with (first | refine ldG Tryz.underlying82 HIX.out (rangeL GX1.out) HLX.out ?_ | refine ldG Tryz.underlying33 HIM.out (rangeL GM1.out) HLM.out ?_ | refine ldW Tryz.underlying82 HIX.out (rangeL GX1.out) HLX.out ?_)
        refine (none39_any _).mono ?_
        rintro e W2 ⟨rfl, f⟩
        have F2 := hid (F1.out.trans f (fun _ _ h => h))
        have GX2 := hid (GX1.out.fr f (fun x => x))
        have GW2 := hid (GW1.out.fr f (fun x => x))
        have XX2 := hid ((XX1.out).fr f)
        have GM2 := hid (GM1.out.fr f (fun x => x))
        have HW2 := hid ((HW1.out).fr f)
        have q0 := GW2.out.cell 0
        have q1 := GW2.out.cell 1
        have f0 := GW2.out.frozen 0
        have f1 := GW2.out.frozen 1
        clear f
        go_wp2
        refine fn_ret (x := .bool false) rfl rfl rfl ((GW2.out.set_ 0 _).set_ 1 _) rfl ?_
        exact sig_fin (o := none) (c1 := 0) (c2 := 0) _ _ HS.out (by omega) ⟨.inl rfl, .inl rfl⟩ F2.out rfl rfl
    by_cases h64520 : xo = 64520
    · subst h64520
      have hp := HP.out
      rw [if_pos (by decide)] at hp
      replace HP := hid hp
      clear hp
      rcases hk with h0 | h0
      · rw [h0] at x0
        have hp := HP.out
        rw [if_pos h0] at hp
        subst hp
        clear h0
        have HW9 := hid (HWN.out 64520 x.a x.b 0)
        clear HWN
        have hq := GW1.out.lt
        go_wp2_with (first | refine ldG Tryz.underlying82 HIX.out (rangeL GX1.out) HLX.out ?_ | refine ldG Tryz.underlying33 HIM.out (rangeL GM1.out) HLM.out ?_ | refine ldW Tryz.underlying82 HIX.out (rangeL GX1.out) HLX.out ?_)
        refine (HW9.out _ HW1.out (by unfold OpOk; simp)).mono ?_
        rintro e W2 ⟨A1, c1, A2, c2, rfl, ft, f⟩
        have F2 := hid (F1.out.trans f (fun _ _ h => h))
        have GX2 := hid (GX1.out.fr f (fun x => x))
        have GW2 := hid (GW1.out.fr f (fun x => x))
        have XX2 := hid ((XX1.out).fr f)
        have GM2 := hid (GM1.out.fr f (fun x => x))
        have HW2 := hid ((HW1.out).fr f)
        have q0 := GW2.out.cell 0
        have q1 := GW2.out.cell 1
        have f0 := GW2.out.frozen 0
        have f1 := GW2.out.frozen 1
        have FT := hid (ft.more (S' := S) (B' := (w.heap.size + 1 + 1) + 1) (fun _ h => h) hq)
        clear f ft
        go_wp2
        refine fn_ret rfl rfl rfl ((GW2.out.set_ 0 _).set_ 1 _) rfl ?_
        exact sig_fin (o := _) _ _ HS.out (by omega) FT.out F2.out rfl rfl
      · rw [h0] at x0
        have hp := HP.out
        rw [if_neg (by omega)] at hp
        subst hp
        clear h0
        go_wp2_with (first | refine ldG Tryz.underlying82 HIX.out (rangeL GX1.out) HLX.out ?_ | refine ldG Tryz.underlying33 HIM.out (rangeL GM1.out) HLM.out ?_ | refine ldW Tryz.underlying82 HIX.out (rangeL GX1.out) HLX.out ?_)
        refine (none39_any _).mono ?_
        rintro e W2 ⟨rfl, f⟩
        have F2 := hid (F1.out.trans f (fun _ _ h => h))
        have GX2 := hid (GX1.out.fr f (fun x => x))
        have GW2 := hid (GW1.out.fr f (fun x => x))
        have XX2 := hid ((XX1.out).fr f)
        have GM2 := hid (GM1.out.fr f (fun x => x))
        have HW2 := hid ((HW1.out).fr f)
        have q0 := GW2.out.cell 0
        have q1 := GW2.out.cell 1
        have f0 := GW2.out.frozen 0
        have f1 := GW2.out.frozen 1
        clear f
        go_wp2
        refine fn_ret (x := .bool false) rfl rfl rfl ((GW2.out.set_ 0 _).set_ 1 _) rfl ?_
        exact sig_fin (o := none) (c1 := 0) (c2 := 0) _ _ HS.out (by omega) ⟨.inl rfl, .inl rfl⟩ F2.out rfl rfl
    by_cases h64521 : xo = 64521
    · subst h64521
      have hp := HP.out
      rw [if_pos (by decide)] at hp
      replace HP := hid hp
      clear hp
      rcases hk with h0 | h0
      · rw [h0] at x0
        have hp := HP.out
        rw [if_pos h0] at hp
        subst hp
        clear h0
        have HW9 := hid (HWN.out 64521 x.a x.b 0)
        clear HWN
        have hq := GW1.out.lt
        go_wp2_with (first | refine ldG Tryz.underlying82 HIX.out (rangeL GX1.out) HLX.out ?_ | refine ldG Tryz.underlying33 HIM.out (rangeL GM1.out) HLM.out ?_ | refine ldW Tryz.underlying82 HIX.out (rangeL GX1.out) HLX.out ?_)
        refine (HW9.out _ HW1.out (by unfold OpOk; simp)).mono ?_
        rintro e W2 ⟨A1, c1, A2, c2, rfl, ft, f⟩
        have F2 := hid (F1.out.trans f (fun _ _ h => h))
        have GX2 := hid (GX1.out.fr f (fun x => x))
        have GW2 := hid (GW1.out.fr f (fun x => x))
        have XX2 := hid ((XX1.out).fr f)
        have GM2 := hid (GM1.out.fr f (fun x => x))
        have HW2 := hid ((HW1.out).fr f)
        have q0 := GW2.out.cell 0
        have q1 := GW2.out.cell 1
        have f0 := GW2.out.frozen 0
        have f1 := GW2.out.frozen 1
        have FT := hid (ft.more (S' := S) (B' := (w.heap.size + 1 + 1) + 1) (fun _ h => h) hq)
        clear f ft
        go_wp2
        refine fn_ret rfl rfl rfl ((GW2.out.set_ 0 _).set_ 1 _) rfl ?_
        exact sig_fin (o := _) _ _ HS.out (by omega) FT.out F2.out rfl rfl
      · rw [h0] at x0
        have hp := HP.out
        rw [if_neg (by omega)] at hp
        subst hp
        clear h0
        go_wp2_with (first | refine ldG Tryz.underlying82 HIX.out (rangeL GX1.out) HLX.out ?_ | refine ldG Tryz.underlying33 HIM.out (rangeL GM1.out) HLM.out ?_ | refine ldW Tryz.underlying82 HIX.out (rangeL GX1.out) HLX.out ?_)
        refine (none39_any _).mono ?_
        rintro e W2 ⟨rfl, f⟩
        have F2 := hid (F1.out.trans f (fun _ _ h => h))
        have GX2 := hid (GX1.out.fr f (fun x => x))
        have GW2 := hid (GW1.out.fr f (fun x => x))
        have XX2 := hid ((XX1.out).fr f)
        have GM2 := hid (GM1.out.fr f (fun x => x))
        have HW2 := hid ((HW1.out).fr f)
        have q0 := GW2.out.cell 0
        have q1 := GW2.out.cell 1
        have f0 := GW2.out.frozen 0
        have f1 := GW2.out.frozen 1
        clear f
        go_wp2
        refine fn_ret (x := .bool false) rfl rfl rfl ((GW2.out.set_ 0 _).set_ 1 _) rfl ?_
        exact sig_fin (o := none) (c1 := 0) (c2 := 0) _ _ HS.out (by omega) ⟨.inl rfl, .inl rfl⟩ F2.out rfl rfl
    by_cases h37 : xo = 37
    · subst h37
      have hp := HP.out
      rw [if_neg (by decide), if_pos (by decide)] at hp
      replace HP := hid hp
      clear hp
      rcases hk with h0 | h0
      · rw [h0] at x0
        have hp := HP.out
        rw [if_neg (by omega)] at hp
        subst hp
        clear h0
        go_wp2_with (first | refine ldG Tryz.underlying82 HIX.out (rangeL GX1.out) HLX.out ?_ | refine ldG Tryz.underlying33 HIM.out (rangeL GM1.out) HLM.out ?_ | refine ldW Tryz.underlying82 HIX.out (rangeL GX1.out) HLX.out ?_)
        refine (none39_any _).mono ?_
        rintro e W2 ⟨rfl, f⟩
        have F2 := hid (F1.out.trans f (fun _ _ h => h))
        have GX2 := hid (GX1.out.fr f (fun x => x))
        have GW2 := hid (GW1.out.fr f (fun x => x))
        have XX2 := hid ((XX1.out).fr f)
        have GM2 := hid (GM1.out.fr f (fun x => x))
        have HW2 := hid ((HW1.out).fr f)
        have q0 := GW2.out.cell 0
        have q1 := GW2.out.cell 1
        have f0 := GW2.out.frozen 0
        have f1 := GW2.out.frozen 1
        clear f
        go_wp2
        refine fn_ret (x := .bool false) rfl rfl rfl ((GW2.out.set_ 0 _).set_ 1 _) rfl ?_
        exact sig_fin (o := none) (c1 := 0) (c2 := 0) _ _ HS.out (by omega) ⟨.inl rfl, .inl rfl⟩ F2.out rfl rfl
      · rw [h0] at x0
        have hp := HP.out
        rw [if_pos h0] at hp
        subst hp
        clear h0
        have HW9 := hid (HWN.out 37 x.a x.b 0)
        clear HWN
        have hq := GW1.out.lt
        go_wp2_with (first | refine ldG Tryz.underlying82 HIX.out (rangeL GX1.out) HLX.out ?_ | refine ldG Tryz.underlying33 HIM.out (rangeL GM1.out) HLM.out ?_ | refine ldW Tryz.underlying82 HIX.out (rangeL GX1.out) HLX.out ?_)
        refine (HW9.out _ HW1.out (by unfold OpOk; simp)).mono ?_
        rintro e W2 ⟨A1, c1, A2, c2, rfl, ft, f⟩
        have F2 := hid (F1.out.trans f (fun _ _ h => h))
        have GX2 := hid (GX1.out.fr f (fun x => x))
        have GW2 := hid (GW1.out.fr f (fun x => x))
        have XX2 := hid ((XX1.out).fr f)
        have GM2 := hid (GM1.out.fr f (fun x => x))
        have HW2 := hid ((HW1.out).fr f)
        have q0 := GW2.out.cell 0
        have q1 := GW2.out.cell 1
        have f0 := GW2.out.frozen 0
        have f1 := GW2.out.frozen 1
        have FT := hid (ft.more (S' := S) (B' := (w.heap.size + 1 + 1) + 1) (fun _ h => h) hq)
        clear f ft
        go_wp2
        refine fn_ret rfl rfl rfl ((GW2.out.set_ 0 _).set_ 1 _) rfl ?_
        exact sig_fin (o := _) _ _ HS.out (by omega) FT.out F2.out rfl rfl
    by_cases h38 : xo = 38
    · subst h38
      have hp := HP.out
      rw [if_neg (by decide), if_pos (by decide)] at hp
      replace HP := hid hp
      clear hp
      rcases hk with h0 | h0
      · rw [h0] at x0
        have hp := HP.out
        rw [if_neg (by omega)] at hp
        subst hp
        clear h0
        go_wp2_with (first | refine ldG Tryz.underlying82 HIX.out (rangeL GX1.out) HLX.out ?_ | refine ldG Tryz.underlying33 HIM.out (rangeL GM1.out) HLM.out ?_ | refine ldW Tryz.underlying82 HIX.out (rangeL GX1.out) HLX.out ?_)
        refine (none39_any _).mono ?_
        rintro e W2 ⟨rfl, f⟩
        have F2 := hid (F1.out.trans f (fun _ _ h => h))
        have GX2 := hid (GX1.out.fr f (fun x => x))
        have GW2 := hid (GW1.out.fr f (fun x => x))
        have XX2 := hid ((XX1.out).fr f)
        have GM2 := hid (GM1.out.fr f (fun x => x))
        have HW2 := hid ((HW1.out).fr f)
        have q0 := GW2.out.cell 0
        have q1 := GW2.out.cell 1
        have f0 := GW2.out.frozen 0
        have f1 := GW2.out.frozen 1
        clear f
        go_wp2
        refine fn_ret (x := .bool false) rfl rfl rfl ((GW2.out.set_ 0 _).set_ 1 _) rfl ?_
        exact sig_fin (o := none) (c1 := 0) (c2 := 0) _ _ HS.out (by omega) ⟨.inl rfl, .inl rfl⟩ F2.out rfl rfl
      · rw [h0] at x0
        have hp := HP.out
        rw [if_pos h0] at hp
        subst hp
        clear h0
        have HW9 := hid (HWN.out 38 x.a x.b 0)
        clear HWN
        have hq := GW1.out.lt
        go_wp2_with (first | refine ldG Tryz.underlying82 HIX.out (rangeL GX1.out) HLX.out ?_ | refine ldG Tryz.underlying33 HIM.out (rangeL GM1.out) HLM.out ?_ | refine ldW Tryz.underlying82 HIX.out (rangeL GX1.out) HLX.out ?_)
        refine (HW9.out _ HW1.out (by unfold OpOk; simp)).mono ?_
        rintro e W2 ⟨A1, c1, A2, c2, rfl, ft, f⟩
        have F2 := hid (F1.out.trans f (fun _ _ h => h))
        have GX2 := hid (GX1.out.fr f (fun x => x))
        have GW2 := hid (GW1.out.fr f (fun x => x))
        have XX2 := hid ((XX1.out).fr f)
        have GM2 := hid (GM1.out.fr f (fun x => x))
        have HW2 := hid ((HW1.out).fr f)
        have q0 := GW2.out.cell 0
        have q1 := GW2.out.cell 1
        have f0 := GW2.out.frozen 0
        have f1 := GW2.out.frozen 1
        have FT := hid (ft.more (S' := S) (B' := (w.heap.size + 1 + 1) + 1) (fun _ h => h) hq)
        clear f ft
        go_wp2
        refine fn_ret rfl rfl rfl ((GW2.out.set_ 0 _).set_ 1 _) rfl ?_
        exact sig_fin (o := _) _ _ HS.out (by omega) FT.out F2.out rfl rfl
    by_cases h64528 : xo = 64528
    · subst h64528
      have hp := HP.out
      rw [if_neg (by decide), if_pos (by decide)] at hp
      replace HP := hid hp
      clear hp
      rcases hk with h0 | h0
      · rw [h0] at x0
        have hp := HP.out
        rw [if_neg (by omega)] at hp
        subst hp
        clear h0
        go_wp2_with (first | refine ldG Tryz.underlying82 HIX.out (rangeL GX1.out) HLX.out ?_ | refine ldG Tryz.underlying33 HIM.out (rangeL GM1.out) HLM.out ?_ | refine ldW Tryz.underlying82 HIX.out (rangeL GX1.out) HLX.out ?_)
        refine (none39_any _).mono ?_
        rintro e W2 ⟨rfl, f⟩
        have F2 := hid (F1.out.trans f (fun _ _ h => h))
        have GX2 := hid (GX1.out.fr f (fun x => x))
        have GW2 := hid (GW1.out.fr f (fun x => x))
        have XX2 := hid ((XX1.out).fr f)
        have GM2 := hid (GM1.out.fr f (fun x => x))
        have HW2 := hid ((HW1.out).fr f)
        have q0 := GW2.out.cell 0
        have q1 := GW2.out.cell 1
        have f0 := GW2.out.frozen 0
        have f1 := GW2.out.frozen 1
        clear f
        go_wp2
        refine fn_ret (x := .bool false) rfl rfl rfl ((GW2.out.set_ 0 _).set_ 1 _) rfl ?_
        exact sig_fin (o := none) (c1 := 0) (c2 := 0) _ _ HS.out (by omega) ⟨.inl rfl, .inl rfl⟩ F2.out rfl rfl
      · rw [h0] at x0
        have hp := HP.out
        rw [if_pos h0] at hp
        subst hp
        clear h0
        have HW9 := hid (HWN.out 64528 x.a x.b 0)
        clear HWN
        have hq := GW1.out.lt
        go_wp2_with (first | refine ldG Tryz.underlying82 HIX.out (rangeL GX1.out) HLX.out ?_ | refine ldG Tryz.underlying33 HIM.out (rangeL GM1.out) HLM.out ?_ | refine ldW Tryz.underlying82 HIX.out (rangeL GX1.out) HLX.out ?_)
        refine (HW9.out _ HW1.out (by unfold OpOk; simp)).mono ?_
        rintro e W2 ⟨A1, c1, A2, c2, rfl, ft, f⟩
        have F2 := hid (F1.out.trans f (fun _ _ h => h))
        have GX2 := hid (GX1.out.fr f (fun x => x))
        have GW2 := hid (GW1.out.fr f (fun x => x))
        have XX2 := hid ((XX1.out).fr f)
        have GM2 := hid (GM1.out.fr f (fun x => x))
        have HW2 := hid ((HW1.out).fr f)
        have q0 := GW2.out.cell 0
        have q1 := GW2.out.cell 1
        have f0 := GW2.out.frozen 0
        have f1 := GW2.out.frozen 1
        have FT := hid (ft.more (S' := S) (B' := (w.heap.size + 1 + 1) + 1) (fun _ h => h) hq)
        clear f ft
        go_wp2
        refine fn_ret rfl rfl rfl ((GW2.out.set_ 0 _).set_ 1 _) rfl ?_
        exact sig_fin (o := _) _ _ HS.out (by omega) FT.out F2.out rfl rfl
    by_cases h64527 : xo = 64527
    · subst h64527
      have hp := HP.out
      rw [if_neg (by decide), if_pos (by decide)] at hp
      replace HP := hid hp
      clear hp
      rcases hk with h0 | h0
      · rw [h0] at x0
        have hp := HP.out
        rw [if_neg (by omega)] at hp
        subst hp
        clear h0
        go_wp2_with (first | refine ldG Tryz.underlying82 HIX.out (rangeL GX1.out) HLX.out ?_ | refine ldG Tryz.underlying33 HIM.out (rangeL GM1.out) HLM.out ?_ | refine ldW Tryz.underlying82 HIX.out (rangeL GX1.out) HLX.out ?_)
        refine (none39_any _).mono ?_
        rintro e W2 ⟨rfl, f⟩
        have F2 := hid (F1.out.trans f (fun _ _ h => h))
        have GX2 := hid (GX1.out.fr f (fun x => x))
        have GW2 := hid (GW1.out.fr f (fun x => x))
        have XX2 := hid ((XX1.out).fr f)
        have GM2 := hid (GM1.out.fr f (fun x => x))
        have HW2 := hid ((HW1.out).fr f)
        have q0 := GW2.out.cell 0
        have q1 := GW2.out.cell 1
        have f0 := GW2.out.frozen 0
        have f1 := GW2.out.frozen 1
        clear f
        go_wp2
        refine fn_ret (x := .bool false) rfl rfl rfl ((GW2.out.set_ 0 _).set_ 1 _) rfl ?_
        exact sig_fin (o := none) (c1 := 0) (c2 := 0) _ _ HS.out (by omega) ⟨.inl rfl, .inl rfl⟩ F2.out rfl rfl
      · rw [h0] at x0
        have hp := HP.out
        rw [if_pos h0] at hp
        subst hp
        clear h0
        have HW9 := hid (HWN.out 64527 x.a x.b 0)
        clear HWN
        have hq := GW1.out.lt
        go_wp2_with (first | refine ldG Tryz.underlying82 HIX.out (rangeL GX1.out) HLX.out ?_ | refine ldG Tryz.underlying33 HIM.out (rangeL GM1.out) HLM.out ?_ | refine ldW Tryz.underlying82 HIX.out (rangeL GX1.out) HLX.out ?_)
        refine (HW9.out _ HW1.out (by unfold OpOk; simp)).mono ?_
        rintro e W2 ⟨A1, c1, A2, c2, rfl, ft, f⟩
        have F2 := hid (F1.out.trans f (fun _ _ h => h))
        have GX2 := hid (GX1.out.fr f (fun x => x))
        have GW2 := hid (GW1.out.fr f (fun x => x))
        have XX2 := hid ((XX1.out).fr f)
        have GM2 := hid (GM1.out.fr f (fun x => x))
        have HW2 := hid ((HW1.out).fr f)
        have q0 := GW2.out.cell 0
        have q1 := GW2.out.cell 1
        have f0 := GW2.out.frozen 0
        have f1 := GW2.out.frozen 1
        have FT := hid (ft.more (S' := S) (B' := (w.heap.size + 1 + 1) + 1) (fun _ h => h) hq)
        clear f ft
        go_wp2
        refine fn_ret rfl rfl rfl ((GW2.out.set_ 0 _).set_ 1 _) rfl ?_
        exact sig_fin (o := _) _ _ HS.out (by omega) FT.out F2.out rfl rfl
    by_cases h64529 : xo = 64529
    · subst h64529
      have hp := HP.out
      rw [if_neg (by decide), if_pos (by decide)] at hp
      replace HP := hid hp
      clear hp
      rcases hk with h0 | h0
      · rw [h0] at x0
        have hp := HP.out
        rw [if_neg (by omega)] at hp
        subst hp
        clear h0
        go_wp2_with (first | refine ldG Tryz.underlying82 HIX.out (rangeL GX1.out) HLX.out ?_ | refine ldG Tryz.underlying33 HIM.out (rangeL GM1.out) HLM.out ?_ | refine ldW Tryz.underlying82 HIX.out (rangeL GX1.out) HLX.out ?_)
        refine (none39_any _).mono ?_
        rintro e W2 ⟨rfl, f⟩
        have F2 := hid (F1.out.trans f (fun _ _ h => h))
        have GX2 := hid (GX1.out.fr f (fun x => x))
        have GW2 := hid (GW1.out.fr f (fun x => x))
        have XX2 := hid ((XX1.out).fr f)
        have GM2 := hid (GM1.out.fr f (fun x => x))
        have HW2 := hid ((HW1.out).fr f)
        have q0 := GW2.out.cell 0
        have q1 := GW2.out.cell 1
        have f0 := GW2.out.frozen 0
        have f1 := GW2.out.frozen 1
        clear f
        go_wp2
        refine fn_ret (x := .bool false) rfl rfl rfl ((GW2.out.set_ 0 _).set_ 1 _) rfl ?_
        exact sig_fin (o := none) (c1 := 0) (c2 := 0) _ _ HS.out (by omega) ⟨.inl rfl, .inl rfl⟩ F2.out rfl rfl
      · rw [h0] at x0
        have hp := HP.out
        rw [if_pos h0] at hp
        subst hp
        clear h0
        have HW9 := hid (HWN.out 64529 x.a x.b 0)
        clear HWN
        have hq := GW1.out.lt
        go_wp2_with (first | refine ldG Tryz.underlying82 HIX.out (rangeL GX1.out) HLX.out ?_ | refine ldG Tryz.underlying33 HIM.out (rangeL GM1.out) HLM.out ?_ | refine ldW Tryz.underlying82 HIX.out (rangeL GX1.out) HLX.out ?_)
        refine (HW9.out _ HW1.out (by unfold OpOk; simp)).mono ?_
        rintro e W2 ⟨A1, c1, A2, c2, rfl, ft, f⟩
        have F2 := hid (F1.out.trans f (fun _ _ h => h))
        have GX2 := hid (GX1.out.fr f (fun x => x))
        have GW2 := hid (GW1.out.fr f (fun x => x))
        have XX2 := hid ((XX1.out).fr f)
        have GM2 := hid (GM1.out.fr f (fun x => x))
        have HW2 := hid ((HW1.out).fr f)
        have q0 := GW2.out.cell 0
        have q1 := GW2.out.cell 1
        have f0 := GW2.out.frozen 0
        have f1 := GW2.out.frozen 1
        have FT := hid (ft.more (S' := S) (B' := (w.heap.size + 1 + 1) + 1) (fun _ h => h) hq)
        clear f ft
        go_wp2
        refine fn_ret rfl rfl rfl ((GW2.out.set_ 0 _).set_ 1 _) rfl ?_
        exact sig_fin (o := _) _ _ HS.out (by omega) FT.out F2.out rfl rfl
    by_cases h64526 : xo = 64526
    · subst h64526
      have hp := HP.out
      rw [if_neg (by decide), if_pos (by decide)] at hp
      replace HP := hid hp
      clear hp
      rcases hk with h0 | h0
      · rw [h0] at x0
        have hp := HP.out
        rw [if_neg (by omega)] at hp
        subst hp
        clear h0
        go_wp2_with (first | refine ldG Tryz.underlying82 HIX.out (rangeL GX1.out) HLX.out ?_ | refine ldG Tryz.underlying33 HIM.out (rangeL GM1.out) HLM.out ?_ | refine ldW Tryz.underlying82 HIX.out (rangeL GX1.out) HLX.out ?_)
        refine (none39_any _).mono ?_
        rintro e W2 ⟨rfl, f⟩
        have F2 := hid (F1.out.trans f (fun _ _ h => h))
        have GX2 := hid (GX1.out.fr f (fun x => x))
        have GW2 := hid (GW1.out.fr f (fun x => x))
        have XX2 := hid ((XX1.out).fr f)
        have GM2 := hid (GM1.out.fr f (fun x => x))
        have HW2 := hid ((HW1.out).fr f)
        have q0 := GW2.out.cell 0
        have q1 := GW2.out.cell 1
        have f0 := GW2.out.frozen 0
        have f1 := GW2.out.frozen 1
        clear f
        go_wp2
        refine fn_ret (x := .bool false) rfl rfl rfl ((GW2.out.set_ 0 _).set_ 1 _) rfl ?_
        exact sig_fin (o := none) (c1 := 0) (c2 := 0) _ _ HS.out (by omega) ⟨.inl rfl, .inl rfl⟩ F2.out rfl rfl
      · rw [h0] at x0
        have hp := HP.out
        rw [if_pos h0] at hp
        subst hp
        clear h0
        have HW9 := hid (HWN.out 64526 x.a x.b 0)
        clear HWN
        have hq := GW1.out.lt
        go_wp2_with (first | refine ldG Tryz.underlying82 HIX.out (rangeL GX1.out) HLX.out ?_ | refine ldG Tryz.underlying33 HIM.out (rangeL GM1.out) HLM.out ?_ | refine ldW Tryz.underlying82 HIX.out (rangeL GX1.out) HLX.out ?_)
        refine (HW9.out _ HW1.out (by unfold OpOk; simp)).mono ?_
        rintro e W2 ⟨A1, c1, A2, c2, rfl, ft, f⟩
        have F2 := hid (F1.out.trans f (fun _ _ h => h))
        have GX2 := hid (GX1.out.fr f (fun x => x))
        have GW2 := hid (GW1.out.fr f (fun x => x))
        have XX2 := hid ((XX1.out).fr f)
        have GM2 := hid (GM1.out.fr f (fun x => x))
        have HW2 := hid ((HW1.out).fr f)
        have q0 := GW2.out.cell 0
        have q1 := GW2.out.cell 1
        have f0 := GW2.out.frozen 0
        have f1 := GW2.out.frozen 1
        have FT := hid (ft.more (S' := S) (B' := (w.heap.size + 1 + 1) + 1) (fun _ h => h) hq)
        clear f ft
        go_wp2
        refine fn_ret rfl rfl rfl ((GW2.out.set_ 0 _).set_ 1 _) rfl ?_
        exact sig_fin (o := _) _ _ HS.out (by omega) FT.out F2.out rfl rfl
    by_cases h64524 : xo = 64524
    · subst h64524
      have hp := HP.out
      rw [if_neg (by decide), if_pos (by decide)] at hp
      replace HP := hid hp
      clear hp
      rcases hk with h0 | h0
      · rw [h0] at x0
        have hp := HP.out
        rw [if_neg (by omega)] at hp
        subst hp
        clear h0
        go_wp2_with (first | refine ldG Tryz.underlying82 HIX.out (rangeL GX1.out) HLX.out ?_ | refine ldG Tryz.underlying33 HIM.out (rangeL GM1.out) HLM.out ?_ | refine ldW Tryz.underlying82 HIX.out (rangeL GX1.out) HLX.out ?_)
        refine (none39_any _).mono ?_
        rintro e W2 ⟨rfl, f⟩
        have F2 := hid (F1.out.trans f (fun _ _ h => h))
        have GX2 := hid (GX1.out.fr f (fun x => x))
        have GW2 := hid (GW1.out.fr f (fun x => x))
        have XX2 := hid ((XX1.out).fr f)
        have GM2 := hid (GM1.out.fr f (fun x => x))
        have HW2 := hid ((HW1.out).fr f)
        have q0 := GW2.out.cell 0
        have q1 := GW2.out.cell 1
        have f0 := GW2.out.frozen 0
        have f1 := GW2.out.frozen 1
        clear f
        go_wp2
        refine fn_ret (x := .bool false) rfl rfl rfl ((GW2.out.set_ 0 _).set_ 1 _) rfl ?_
        exact sig_fin (o := none) (c1 := 0) (c2 := 0) _ _ HS.out (by omega) ⟨.inl rfl, .inl rfl⟩ F2.out rfl rfl
      · rw [h0] at x0
        have hp := HP.out
        rw [if_pos h0] at hp
        subst hp
        clear h0
        have HW9 := hid (HWN.out 64524 x.a x.b 0)
        clear HWN
        have hq := GW1.out.lt
        go_wp2_with (first | refine ldG Tryz.underlying82 HIX.out (rangeL GX1.out) HLX.out ?_ | refine ldG Tryz.underlying33 HIM.out (rangeL GM1.out) HLM.out ?_ | refine ldW Tryz.underlying82 HIX.out (rangeL GX1.out) HLX.out ?_)
        refine (HW9.out _ HW1.out (by unfold OpOk; simp)).mono ?_
        rintro e W2 ⟨A1, c1, A2, c2, rfl, ft, f⟩
        have F2 := hid (F1.out.trans f (fun _ _ h => h))
        have GX2 := hid (GX1.out.fr f (fun x => x))
        have GW2 := hid (GW1.out.fr f (fun x => x))
        have XX2 := hid ((XX1.out).fr f)
        have GM2 := hid (GM1.out.fr f (fun x => x))
        have HW2 := hid ((HW1.out).fr f)
        have q0 := GW2.out.cell 0
        have q1 := GW2.out.cell 1
        have f0 := GW2.out.frozen 0
        have f1 := GW2.out.frozen 1
        have FT := hid (ft.more (S' := S) (B' := (w.heap.size + 1 + 1) + 1) (fun _ h => h) hq)
        clear f ft
        go_wp2
        refine fn_ret rfl rfl rfl ((GW2.out.set_ 0 _).set_ 1 _) rfl ?_
        exact sig_fin (o := _) _ _ HS.out (by omega) FT.out F2.out rfl rfl
    by_cases h64525 : xo = 64525
    · subst h64525
      have hp := HP.out
      rw [if_neg (by decide), if_pos (by decide)] at hp
      replace HP := hid hp
      clear hp
      rcases hk with h0 | h0
      · rw [h0] at x0
        have hp := HP.out
        rw [if_neg (by omega)] at hp
        subst hp
        clear h0
        go_wp2_with (first | refine ldG Tryz.underlying82 HIX.out (rangeL GX1.out) HLX.out ?_ | refine ldG Tryz.underlying33 HIM.out (rangeL GM1.out) HLM.out ?_ | refine ldW Tryz.underlying82 HIX.out (rangeL GX1.out) HLX.out ?_)
        refine (none39_any _).mono ?_
        rintro e W2 ⟨rfl, f⟩
        have F2 := hid (F1.out.trans f (fun _ _ h => h))
        have GX2 := hid (GX1.out.fr f (fun x => x))
        have GW2 := hid (GW1.out.fr f (fun x => x))
        have XX2 := hid ((XX1.out).fr f)
        have GM2 := hid (GM1.out.fr f (fun x => x))
        have HW2 := hid ((HW1.out).fr f)
        have q0 := GW2.out.cell 0
        have q1 := GW2.out.cell 1
        have f0 := GW2.out.frozen 0
        have f1 := GW2.out.frozen 1
        clear f
        go_wp2
        refine fn_ret (x := .bool false) rfl rfl rfl ((GW2.out.set_ 0 _).set_ 1 _) rfl ?_
        exact sig_fin (o := none) (c1 := 0) (c2 := 0) _ _ HS.out (by omega) ⟨.inl rfl, .inl rfl⟩ F2.out rfl rfl
      · rw [h0] at x0
        have hp := HP.out
        rw [if_pos h0] at hp
        subst hp
        clear h0
        have HW9 := hid (HWN.out 64525 x.a x.b 0)
        clear HWN
        have hq := GW1.out.lt
        go_wp2_with (first | refine ldG Tryz.underlying82 HIX.out (rangeL GX1.out) HLX.out ?_ | refine ldG Tryz.underlying33 HIM.out (rangeL GM1.out) HLM.out ?_ | refine ldW Tryz.underlying82 HIX.out (rangeL GX1.out) HLX.out ?_)
        refine (HW9.out _ HW1.out (by unfold OpOk; simp)).mono ?_
        rintro e W2 ⟨A1, c1, A2, c2, rfl, ft, f⟩
        have F2 := hid (F1.out.trans f (fun _ _ h => h))
        have GX2 := hid (GX1.out.fr f (fun x => x))
        have GW2 := hid (GW1.out.fr f (fun x => x))
        have XX2 := hid ((XX1.out).fr f)
        have GM2 := hid (GM1.out.fr f (fun x => x))
        have HW2 := hid ((HW1.out).fr f)
        have q0 := GW2.out.cell 0
        have q1 := GW2.out.cell 1
        have f0 := GW2.out.frozen 0
        have f1 := GW2.out.frozen 1
        have FT := hid (ft.more (S' := S) (B' := (w.heap.size + 1 + 1) + 1) (fun _ h => h) hq)
        clear f ft
        go_wp2
        refine fn_ret rfl rfl rfl ((GW2.out.set_ 0 _).set_ 1 _) rfl ?_
        exact sig_fin (o := _) _ _ HS.out (by omega) FT.out F2.out rfl rfl
    have d64523 : (xo == 64523) = false := beq_eq_false_iff_ne.2 h64523
    have d64522 : (xo == 64522) = false := beq_eq_false_iff_ne.2 h64522
    have d64520 : (xo == 64520) = false := beq_eq_false_iff_ne.2 h64520
    have d64521 : (xo == 64521) = false := beq_eq_false_iff_ne.2 h64521
    have d37 : (xo == 37) = false := beq_eq_false_iff_ne.2 h37
    have d38 : (xo == 38) = false := beq_eq_false_iff_ne.2 h38
    have d64528 : (xo == 64528) = false := beq_eq_false_iff_ne.2 h64528
    have d64527 : (xo == 64527) = false := beq_eq_false_iff_ne.2 h64527
    have d64529 : (xo == 64529) = false := beq_eq_false_iff_ne.2 h64529
    have d64526 : (xo == 64526) = false := beq_eq_false_iff_ne.2 h64526
    have d64524 : (xo == 64524) = false := beq_eq_false_iff_ne.2 h64524
    have d64525 : (xo == 64525) = false := beq_eq_false_iff_ne.2 h64525
    clear h64523 h64522 h64520 h64521 h37 h38 h64528 h64527 h64529 h64526 h64524 h64525
    have hp := HP.out
    rw [if_neg (by unfold bulkA; simp [d64523, d64522, d64520, d64521]), if_neg (by unfold bulkB; simp [d37, d38, d64528, d64527, d64529, d64526, d64524, d64525])] at hp
    subst hp
    go_wp2_with (first | refine ldG Tryz.underlying82 HIX.out (rangeL GX1.out) HLX.out ?_ | refine ldG Tryz.underlying33 HIM.out (rangeL GM1.out) HLM.out ?_ | refine ldW Tryz.underlying82 HIX.out (rangeL GX1.out) HLX.out ?_)
    refine (none39_any _).mono ?_
    rintro e W2 ⟨rfl, f⟩
    have F2 := hid (F1.out.trans f (fun _ _ h => h))
    have GX2 := hid (GX1.out.fr f (fun x => x))
    have GW2 := hid (GW1.out.fr f (fun x => x))
    have XX2 := hid ((XX1.out).fr f)
    have GM2 := hid (GM1.out.fr f (fun x => x))
    have HW2 := hid ((HW1.out).fr f)
    have q0 := GW2.out.cell 0
    have q1 := GW2.out.cell 1
    have f0 := GW2.out.frozen 0
    have f1 := GW2.out.frozen 1
    clear f
    go_wp2
    refine fn_ret (x := .bool false) rfl rfl rfl ((GW2.out.set_ 0 _).set_ 1 _) rfl ?_
    exact sig_fin (o := none) (c1 := 0) (c2 := 0) _ _ HS.out (by omega) ⟨.inl rfl, .inl rfl⟩ F2.out rfl rfl
end Go.Proofs.YtiafkakkbbclhaaGreat
namespace Go.Proofs.YtiafkakkbbclhaaGreat
open Go.RowKit
def fuelO (x : Si) : Option Fn := if zeroB x true false false false = false then none else if 1 ≤ x.a ∧ x.a < 4294967296 then some ⟨[], []⟩ else none
def typeT (m : Md) (vals : List Int) (x : Si) : Option Fn :=
  if x.kind = 0 ∨ x.kind = 1 ∨ x.kind = 2 ∨ x.kind = 5 ∨ x.kind = 16 then plainO vals x
  else if x.kind = 3 then numO x 1 else if x.kind = 4 then numO x 2
  else if x.kind = 6 ∨ x.kind = 7 ∨ x.kind = 8 ∨ x.kind = 9 ∨ x.kind = 10 then mem39O m x
  else if x.kind = 11 ∨ x.kind = 12 ∨ x.kind = 13 ∨ x.kind = 14 ∨ x.kind = 15 then named39O m x
  else if x.kind = 17 ∨ x.kind = 18 then bulk39O m x
  else if x.kind = 19 then fuelO x else none
theorem type39_any {w : World} {S : Nat → Prop} {xc : List Value} {x : Si} {mc : List Value} {m : Md} {A : Option Addr} {vals : List Int} (h : XW w S xc x) (hm : MW w S mc m) (B : MdB m) (hd : m.datas ≤ 1000000000000) (hvs : VW w S A vals) (hx : XB x) (cv : Nat) : Calls Tryz.prog 37 #[.agg mc.toArray, .agg xc.toArray, .slice A vals.length cv] w (SigTo S (typeT m vals x) w) := by
  have HPL : Hid ((x.kind = 0 ∨ x.kind = 1 ∨ x.kind = 2 ∨ x.kind = 5 ∨ x.kind = 16) → ∀ W, XW W S xc x → VW W S A vals → Calls Tryz.prog 40 #[.agg xc.toArray, .slice A vals.length cv] W (SigTo S (plainO vals x) W)) := hid fun hk W a b => plain39_any a b hx cv hk
  have HNU := hid (fun (n : Int) W (a : XW W S xc x) => numeric_any a n)
  have HME : Hid ((x.kind = 6 ∨ x.kind = 7 ∨ x.kind = 8 ∨ x.kind = 9 ∨ x.kind = 10) → ∀ W, XW W S xc x → MW W S mc m → Calls Tryz.prog 42 #[.agg mc.toArray, .agg xc.toArray] W (SigTo S (mem39O m x) W)) := hid fun hk W a b => mem39_any a b B hd hk
  have HNA : Hid ((x.kind = 11 ∨ x.kind = 12 ∨ x.kind = 13 ∨ x.kind = 14 ∨ x.kind = 15) → ∀ W, XW W S xc x → MW W S mc m → Calls Tryz.prog 43 #[.agg mc.toArray, .agg xc.toArray] W (SigTo S (named39O m x) W)) := hid fun hk W a b => named39_any a b B hd hk
  have HBU : Hid ((x.kind = 17 ∨ x.kind = 18) → ∀ W, XW W S xc x → MW W S mc m → Calls Tryz.prog 44 #[.agg mc.toArray, .agg xc.toArray] W (SigTo S (bulk39O m x) W)) := hid fun hk W a b => bulk39_any a b B hd hk
  have HZ1 := hid (fun W (k : XW W S xc x) => zero_any k true false false false)
  have HV := hid hvs
  generalize hP : typeT m vals x = P
  rw [typeT] at hP
  have HP := hid hP
  clear hP hd B hvs hx
  generalize plainO vals x = o1 at *
  unfold fuelO at HP
  generalize mem39O m x = o2 at *
  generalize named39O m x = o3 at *
  generalize bulk39O m x = o4 at *
  generalize zeroB x true false false false = z at *
  generalize vals.length = nv at *
  obtain ⟨F0, GM0, GX0, GW0⟩ := bxMX w mc xc
  obtain ⟨e0, e1, e2, e3, e4⟩ := h.ints
  have E0 := hid e0
  have E1 := hid e1
  have E2 := hid e2
  have E3 := hid e3
  have E4 := hid e4
  have XX0 := hid (h.fr F0.out)
  have HIX : Hid ((Tryz.prog.info? 82).map (·.size) = some 7) := by unfold Hid; kernel_rfl
  have HLX := hid h.len
  have HS := hid h.lt
  have HW0 := hid (hm.fr F0.out)
  have HIM : Hid ((Tryz.prog.info? 33).map (·.size) = some 12) := by unfold Hid; kernel_rfl
  have HLM := hid hm.len
  clear e0 e1 e2 e3 e4 h hm 
  go_enter Tryz.func37, Tryz.ntmps37
  go_upto_region 1 with fail
  generalize (((w.alloc (.cells mc.toArray 33)).alloc (.cells xc.toArray 82)).alloc (.cells #[.slice none 0 0, .slice none 0 0] 36)) = W0 at *
  have VV0 := HV.out.fr F0.out
  replace VV0 := hid VV0
  clear HV
  have hxl := GX0.out.lt
  have x0 := GX0.out.at_ E0.out
  have x2 := GX0.out.at_ E2.out
  generalize x.a = xa at *
  clear E0 E1 E2 E3 E4
  by_cases h0 : x.kind = 0
  · have hp := HP.out
    rw [if_pos (by omega)] at hp
    subst hp
    have HC := hid (HPL.out (by omega))
    rw [h0] at x0
    clear h0 HP HZ1 HPL HNU HME HNA HBU
    have hq := GW0.out.lt
    go_wp2_with (first | refine ldG Tryz.underlying82 HIX.out (rangeL GX0.out) HLX.out ?_ | refine ldG Tryz.underlying33 HIM.out (rangeL GM0.out) HLM.out ?_ | refine ldW Tryz.underlying82 HIX.out (rangeL GX0.out) HLX.out ?_)
    refine (HC.out _ XX0.out VV0.out).mono ?_
    rintro e W1 ⟨A1, c1, A2, c2, rfl, ft, f⟩
    have F1 := hid (F0.out.trans f (fun _ _ h => h))
    have GX1 := hid (GX0.out.fr f (fun x => x))
    have GW1 := hid (GW0.out.fr f (fun x => x))
    have XX1 := hid ((XX0.out).fr f)
    have GM1 := hid (GM0.out.fr f (fun x => x))
    have HW1 := hid ((HW0.out).fr f)
    have q0 := GW1.out.cell 0
    have q1 := GW1.out.cell 1
    have f0 := GW1.out.frozen 0
    have f1 := GW1.out.frozen 1
    have FT := hid (ft.more (S' := S) (B' := (w.heap.size + 1 + 1) + 1) (fun _ h => h) hq)
    clear f ft
    go_wp2
    refine fn_ret rfl rfl rfl ((GW1.out.set_ 0 _).set_ 1 _) rfl ?_
    exact sig_fin (o := _) _ _ HS.out (by omega) FT.out F1.out rfl rfl
  have hn0 := h0
  clear h0
  by_cases h0 : x.kind = 1
  · have hp := HP.out
    rw [if_pos (by omega)] at hp
    subst hp
    have HC := hid (HPL.out (by omega))
    rw [h0] at x0
    clear h0 HP HZ1 HPL HNU HME HNA HBU
    have hq := GW0.out.lt
    go_wp2_with (first | refine ldG Tryz.underlying82 HIX.out (rangeL GX0.out) HLX.out ?_ | refine ldG Tryz.underlying33 HIM.out (rangeL GM0.out) HLM.out ?_ | refine ldW Tryz.underlying82 HIX.out (rangeL GX0.out) HLX.out ?_)
    refine (HC.out _ XX0.out VV0.out).mono ?_
    rintro e W1 ⟨A1, c1, A2, c2, rfl, ft, f⟩
    have F1 := hid (F0.out.trans f (fun _ _ h => h))
    have GX1 := hid (GX0.out.fr f (fun x => x))
    have GW1 := hid (GW0.out.fr f (fun x => x))
    have XX1 := hid ((XX0.out).fr f)
    have GM1 := hid (GM0.out.fr f (fun x => x))
    have HW1 := hid ((HW0.out).fr f)
    have q0 := GW1.out.cell 0
    have q1 := GW1.out.cell 1
    have f0 := GW1.out.frozen 0
    have f1 := GW1.out.frozen 1
    have FT := hid (ft.more (S' := S) (B' := (w.heap.size + 1 + 1) + 1) (fun _ h => h) hq)
    clear f ft
    go_wp2
    refine fn_ret rfl rfl rfl ((GW1.out.set_ 0 _).set_ 1 _) rfl ?_
    exact sig_fin (o := _) _ _ HS.out (by omega) FT.out F1.out rfl rfl
  have hn1 := h0
  clear h0
  by_cases h0 : x.kind = 2
  · have hp := HP.out
    rw [if_pos (by omega)] at hp
    subst hp
    have HC := hid (HPL.out (by omega))
    rw [h0] at x0
    clear h0 HP HZ1 HPL HNU HME HNA HBU
    have hq := GW0.out.lt
    go_wp2_with (first | refine ldG Tryz.underlying82 HIX.out (rangeL GX0.out) HLX.out ?_ | refine ldG Tryz.underlying33 HIM.out (rangeL GM0.out) HLM.out ?_ | refine ldW Tryz.underlying82 HIX.out (rangeL GX0.out) HLX.out ?_)
    refine (HC.out _ XX0.out VV0.out).mono ?_
    rintro e W1 ⟨A1, c1, A2, c2, rfl, ft, f⟩
    have F1 := hid (F0.out.trans f (fun _ _ h => h))
    have GX1 := hid (GX0.out.fr f (fun x => x))
    have GW1 := hid (GW0.out.fr f (fun x => x))
    have XX1 := hid ((XX0.out).fr f)
    have GM1 := hid (GM0.out.fr f (fun x => x))
    have HW1 := hid ((HW0.out).fr f)
    have q0 := GW1.out.cell 0
    have q1 := GW1.out.cell 1
    have f0 := GW1.out.frozen 0
    have f1 := GW1.out.frozen 1
    have FT := hid (ft.more (S' := S) (B' := (w.heap.size + 1 + 1) + 1) (fun _ h => h) hq)
    clear f ft
    go_wp2
    refine fn_ret rfl rfl rfl ((GW1.out.set_ 0 _).set_ 1 _) rfl ?_
    exact sig_fin (o := _) _ _ HS.out (by omega) FT.out F1.out rfl rfl
  have hn2 := h0
  clear h0
  by_cases h0 : x.kind = 3
  · have hp := HP.out
    rw [if_neg (by omega), if_pos h0] at hp
    subst hp
    have HC := hid (fun W (k : XW W S xc x) => HNU.out 1 W k)
    rw [h0] at x0
    clear h0 HP HZ1 HPL HNU HME HNA HBU
    have hq := GW0.out.lt
    go_wp2_with (first | refine ldG Tryz.underlying82 HIX.out (rangeL GX0.out) HLX.out ?_ | refine ldG Tryz.underlying33 HIM.out (rangeL GM0.out) HLM.out ?_ | refine ldW Tryz.underlying82 HIX.out (rangeL GX0.out) HLX.out ?_)
    refine (HC.out _ XX0.out).mono ?_
    rintro e W1 ⟨A1, c1, A2, c2, rfl, ft, f⟩
    have F1 := hid (F0.out.trans f (fun _ _ h => h))
    have GX1 := hid (GX0.out.fr f (fun x => x))
    have GW1 := hid (GW0.out.fr f (fun x => x))
    have XX1 := hid ((XX0.out).fr f)
    have GM1 := hid (GM0.out.fr f (fun x => x))
    have HW1 := hid ((HW0.out).fr f)
    have q0 := GW1.out.cell 0
    have q1 := GW1.out.cell 1
    have f0 := GW1.out.frozen 0
    have f1 := GW1.out.frozen 1
    have FT := hid (ft.more (S' := S) (B' := (w.heap.size + 1 + 1) + 1) (fun _ h => h) hq)
    clear f ft
    go_wp2
    refine fn_ret rfl rfl rfl ((GW1.out.set_ 0 _).set_ 1 _) rfl ?_
    exact sig_fin (o := _) _ _ HS.out (by omega) FT.out F1.out rfl rfl
  have hn3 := h0
  clear h0
  by_cases h0 : x.kind = 4
  · have hp := HP.out
    rw [if_neg (by omega), if_neg (by omega), if_pos h0] at hp
    subst hp
    have HC := hid (fun W (k : XW W S xc x) => HNU.out 2 W k)
    rw [h0] at x0
    clear h0 HP HZ1 HPL HNU HME HNA HBU
    have hq := GW0.out.lt
    go_wp2_with (first | refine ldG Tryz.underlying82 HIX.out (rangeL GX0.out) HLX.out ?_ | refine ldG Tryz.underlying33 HIM.out (rangeL GM0.out) HLM.out ?_ | refine ldW Tryz.underlying82 HIX.out (rangeL GX0.out) HLX.out ?_)
    refine (HC.out _ XX0.out).mono ?_
    rintro e W1 ⟨A1, c1, A2, c2, rfl, ft, f⟩
    have F1 := hid (F0.out.trans f (fun _ _ h => h))
    have GX1 := hid (GX0.out.fr f (fun x => x))
    have GW1 := hid (GW0.out.fr f (fun x => x))
    have XX1 := hid ((XX0.out).fr f)
    have GM1 := hid (GM0.out.fr f (fun x => x))
    have HW1 := hid ((HW0.out).fr f)
    have q0 := GW1.out.cell 0
    have q1 := GW1.out.cell 1
    have f0 := GW1.out.frozen 0
    have f1 := GW1.out.frozen 1
    have FT := hid (ft.more (S' := S) (B' := (w.heap.size + 1 + 1) + 1) (fun _ h => h) hq)
    clear f ft
    go_wp2
    refine fn_ret rfl rfl rfl ((GW1.out.set_ 0 _).set_ 1 _) rfl ?_
    exact sig_fin (o := _) _ _ HS.out (by omega) FT.out F1.out rfl rfl
  have hn4 := h0
  clear h0
  by_cases h0 : x.kind = 5
  · have hp := HP.out
    rw [if_pos (by omega)] at hp
    subst hp
    have HC := hid (HPL.out (by omega))
    rw [h0] at x0
    clear h0 HP HZ1 HPL HNU HME HNA HBU
    have hq := GW0.out.lt
    go_wp2_with (first | refine ldG Tryz.underlying82 HIX.out (rangeL GX0.out) HLX.out ?_ | refine ldG Tryz.underlying33 HIM.out (rangeL GM0.out) HLM.out ?_ | refine ldW Tryz.underlying82 HIX.out (rangeL GX0.out) HLX.out ?_)
    refine (HC.out _ XX0.out VV0.out).mono ?_
    rintro e W1 ⟨A1, c1, A2, c2, rfl, ft, f⟩
    have F1 := hid (F0.out.trans f (fun _ _ h => h))
    have GX1 := hid (GX0.out.fr f (fun x => x))
    have GW1 := hid (GW0.out.fr f (fun x => x))
    have XX1 := hid ((XX0.out).fr f)
    have GM1 := hid (GM0.out.fr f (fun x => x))
    have HW1 := hid ((HW0.out).fr f)
    have q0 := GW1.out.cell 0
    have q1 := GW1.out.cell 1
    have f0 := GW1.out.frozen 0
    have f1 := GW1.out.frozen 1
    have FT := hid (ft.more (S' := S) (B' := (w.heap.size + 1 + 1) + 1) (fun _ h => h) hq)
    clear f ft
    go_wp2
    refine fn_ret rfl rfl rfl ((GW1.out.set_ 0 _).set_ 1 _) rfl ?_
    exact sig_fin (o := _) _ _ HS.out (by omega) FT.out F1.out rfl rfl
  have hn5 := h0
  clear h0
  by_cases h0 : x.kind = 6
  · have hp := HP.out
    rw [if_neg (by omega), if_neg (by omega), if_neg (by omega), if_pos (by omega)] at hp
    subst hp
    have HC := hid (HME.out (by omega))
    rw [h0] at x0
    clear h0 HP HZ1 HPL HNU HME HNA HBU
    have hq := GW0.out.lt
    go_wp2_with (first | refine ldG Tryz.underlying82 HIX.out (rangeL GX0.out) HLX.out ?_ | refine ldG Tryz.underlying33 HIM.out (rangeL GM0.out) HLM.out ?_ | refine ldW Tryz.underlying82 HIX.out (rangeL GX0.out) HLX.out ?_)
    refine (HC.out _ XX0.out HW0.out).mono ?_
    rintro e W1 ⟨A1, c1, A2, c2, rfl, ft, f⟩
    have F1 := hid (F0.out.trans f (fun _ _ h => h))
    have GX1 := hid (GX0.out.fr f (fun x => x))
    have GW1 := hid (GW0.out.fr f (fun x => x))
    have XX1 := hid ((XX0.out).fr f)
    have GM1 := hid (GM0.out.fr f (fun x => x))
    have HW1 := hid ((HW0.out).fr f)
    have q0 := GW1.out.cell 0
    have q1 := GW1.out.cell 1
    have f0 := GW1.out.frozen 0
    have f1 := GW1.out.frozen 1
    have FT := hid (ft.more (S' := S) (B' := (w.heap.size + 1 + 1) + 1) (fun _ h => h) hq)
    clear f ft
    go_wp2
    refine fn_ret rfl rfl rfl ((GW1.out.set_ 0 _).set_ 1 _) rfl ?_
    exact sig_fin (o := _) _ _ HS.out (by omega) FT.out F1.out rfl rfl
  have hn6 := h0
  clear h0
  by_cases h0 : x.kind = 7
  · have hp := HP.out
    rw [if_neg (by omega), if_neg (by omega), if_neg (by omega), if_pos (by omega)] at hp
    subst hp
    have HC := hid (HME.out (by omega))
    rw [h0] at x0
    clear h0 HP HZ1 HPL HNU HME HNA HBU
    have hq := GW0.out.lt
    go_wp2_with (first | refine ldG Tryz.underlying82 HIX.out (rangeL GX0.out) HLX.out ?_ | refine ldG Tryz.underlying33 HIM.out (rangeL GM0.out) HLM.out ?_ | refine ldW Tryz.underlying82 HIX.out (rangeL GX0.out) HLX.out ?_)
    refine (HC.out _ XX0.out HW0.out).mono ?_
    rintro e W1 ⟨A1, c1, A2, c2, rfl, ft, f⟩
    have F1 := hid (F0.out.trans f (fun _ _ h => h))
    have GX1 := hid (GX0.out.fr f (fun x => x))
    have GW1 := hid (GW0.out.fr f (fun x => x))
    have XX1 := hid ((XX0.out).fr f)
    have GM1 := hid (GM0.out.fr f (fun x => x))
    have HW1 := hid ((HW0.out).fr f)
    have q0 := GW1.out.cell 0
    have q1 := GW1.out.cell 1
    have f0 := GW1.out.frozen 0
    have f1 := GW1.out.frozen 1
    have FT := hid (ft.more (S' := S) (B' := (w.heap.size + 1 + 1) + 1) (fun _ h => h) hq)
    clear f ft
    go_wp2
    refine fn_ret rfl rfl rfl ((GW1.out.set_ 0 _).set_ 1 _) rfl ?_
    exact sig_fin (o := _) _ _ HS.out (by omega) FT.out F1.out rfl rfl
  have hn7 := h0
  clear h0
  by_cases h0 : x.kind = 8
  · have hp := HP.out
    rw [if_neg (by omega), if_neg (by omega), if_neg (by omega), if_pos (by omega)] at hp
    subst hp
    have HC := hid (HME.out (by omega))
    rw [h0] at x0
    clear h0 HP HZ1 HPL HNU HME HNA HBU
    have hq := GW0.out.lt
    go_wp2_with (first | refine ldG Tryz.underlying82 HIX.out (rangeL GX0.out) HLX.out ?_ | refine ldG Tryz.underlying33 HIM.out (rangeL GM0.out) HLM.out ?_ | refine ldW Tryz.underlying82 HIX.out (rangeL GX0.out) HLX.out ?_)
    refine (HC.out _ XX0.out HW0.out).mono ?_
    rintro e W1 ⟨A1, c1, A2, c2, rfl, ft, f⟩
    have F1 := hid (F0.out.trans f (fun _ _ h => h))
    have GX1 := hid (GX0.out.fr f (fun x => x))
    have GW1 := hid (GW0.out.fr f (fun x => x))
    have XX1 := hid ((XX0.out).fr f)
    have GM1 := hid (GM0.out.fr f (fun x => x))
    have HW1 := hid ((HW0.out).fr f)
    have q0 := GW1.out.cell 0
    have q1 := GW1.out.cell 1
    have f0 := GW1.out.frozen 0
    have f1 := GW1.out.frozen 1
    have FT := hid (ft.more (S' := S) (B' := (w.heap.size + 1 + 1) + 1) (fun _ h => h) hq)
    clear f ft
    go_wp2
    refine fn_ret rfl rfl rfl ((GW1.out.set_ 0 _).set_ 1 _) rfl ?_
    exact sig_fin (o := _) _ _ HS.out (by omega) FT.out F1.out rfl rfl
  have hn8 := h0
  clear h0
  by_cases h0 : x.kind = 9
  · have hp := HP.out
    rw [if_neg (by omega), if_neg (by omega), if_neg (by omega), if_pos (by omega)] at hp
    subst hp
    have HC := hid (HME.out (by omega))
    rw [h0] at x0
    clear h0 HP HZ1 HPL HNU HME HNA HBU
    have hq := GW0.out.lt
    go_wp2_with (first | refine ldG Tryz.underlying82 HIX.out (rangeL GX0.out) HLX.out ?_ | refine ldG Tryz.underlying33 HIM.out (rangeL GM0.out) HLM.out ?_ | refine ldW Tryz.underlying82 HIX.out (rangeL GX0.out) HLX.out ?_)
    refine (HC.out _ XX0.out HW0.out).mono ?_
    rintro e W1 ⟨A1, c1, A2, c2, rfl, ft, f⟩
    have F1 := hid (F0.out.trans f (fun _ _ h => h))
    have GX1 := hid (GX0.out.fr f (fun x => x))
    have GW1 := hid (GW0.out.fr f (fun x => x))
    have XX1 := hid ((XX0.out).fr f)
    have GM1 := hid (GM0.out.fr f (fun x => x))
    have HW1 := hid ((HW0.out).fr f)
    have q0 := GW1.out.cell 0
    have q1 := GW1.out.cell 1
    have f0 := GW1.out.frozen 0
    have f1 := GW1.out.frozen 1
    have FT := hid (ft.more (S' := S) (B' := (w.heap.size + 1 + 1) + 1) (fun _ h => h) hq)
    clear f ft
    go_wp2
    refine fn_ret rfl rfl rfl ((GW1.out.set_ 0 _).set_ 1 _) rfl ?_
    exact sig_fin (o := _) _ _ HS.out (by omega) FT.out F1.out rfl rfl
  have hn9 := h0
  clear h0
  by_cases h0 : x.kind = 10
  · have hp := HP.out
    rw [if_neg (by omega), if_neg (by omega), if_neg (by omega), if_pos (by omega)] at hp
    subst hp
    have HC := hid (HME.out (by omega))
    rw [h0] at x0
    clear h0 HP HZ1 HPL HNU HME HNA HBU
    have hq := GW0.out.lt
    go_wp2_with (first | refine ldG Tryz.underlying82 HIX.out (rangeL GX0.out) HLX.out ?_ | refine ldG Tryz.underlying33 HIM.out (rangeL GM0.out) HLM.out ?_ | refine ldW Tryz.underlying82 HIX.out (rangeL GX0.out) HLX.out ?_)
    refine (HC.out _ XX0.out HW0.out).mono ?_
    rintro e W1 ⟨A1, c1, A2, c2, rfl, ft, f⟩
    have F1 := hid (F0.out.trans f (fun _ _ h => h))
    have GX1 := hid (GX0.out.fr f (fun x => x))
    have GW1 := hid (GW0.out.fr f (fun x => x))
    have XX1 := hid ((XX0.out).fr f)
    have GM1 := hid (GM0.out.fr f (fun x => x))
    have HW1 := hid ((HW0.out).fr f)
    have q0 := GW1.out.cell 0
    have q1 := GW1.out.cell 1
    have f0 := GW1.out.frozen 0
    have f1 := GW1.out.frozen 1
    have FT := hid (ft.more (S' := S) (B' := (w.heap.size + 1 + 1) + 1) (fun _ h => h) hq)
    clear f ft
    go_wp2
    refine fn_ret rfl rfl rfl ((GW1.out.set_ 0 _).set_ 1 _) rfl ?_
    exact sig_fin (o := _) _ _ HS.out (by omega) FT.out F1.out rfl rfl
  have hn10 := h0
  clear h0
  by_cases h0 : x.kind = 11
  · have hp := HP.out
    rw [if_neg (by omega), if_neg (by omega), if_neg (by omega), if_neg (by omega), if_pos (by omega)] at hp
    subst hp
    have HC := hid (HNA.out (by omega))
    rw [h0] at x0
    clear h0 HP HZ1 HPL HNU HME HNA HBU
    have hq := GW0.out.lt
    go_wp2_with (first | refine ldG Tryz.underlying82 HIX.out (rangeL GX0.out) HLX.out ?_ | refine ldG Tryz.underlying33 HIM.out (rangeL GM0.out) HLM.out ?_ | refine ldW Tryz.underlying82 HIX.out (rangeL GX0.out) HLX.out ?_)
    refine (HC.out _ XX0.out HW0.out).mono ?_
    rintro e W1 ⟨A1, c1, A2, c2, rfl, ft, f⟩
    have F1 := hid (F0.out.trans f (fun _ _ h => h))
    have GX1 := hid (GX0.out.fr f (fun x => x))
    have GW1 := hid (GW0.out.fr f (fun x => x))
    have XX1 := hid ((XX0.out).fr f)
    have GM1 := hid (GM0.out.fr f (fun x => x))
    have HW1 := hid ((HW0.out).fr f)
    have q0 := GW1.out.cell 0
    have q1 := GW1.out.cell 1
    have f0 := GW1.out.frozen 0
    have f1 := GW1.out.frozen 1
    have FT := hid (ft.more (S' := S) (B' := (w.heap.size + 1 + 1) + 1) (fun _ h => h) hq)
    clear f ft
    go_wp2
    refine fn_ret rfl rfl rfl ((GW1.out.set_ 0 _).set_ 1 _) rfl ?_
    exact sig_fin (o := _) _ _ HS.out (by omega) FT.out F1.out rfl rfl
  have hn11 := h0
  clear h0
  by_cases h0 : x.kind = 12
  · have hp := HP.out
    rw [if_neg (by omega), if_neg (by omega), if_neg (by omega), if_neg (by omega), if_pos (by omega)] at hp
    subst hp
    have HC := hid (HNA.out (by omega))
    rw [h0] at x0
    clear h0 HP HZ1 HPL HNU HME HNA HBU
    have hq := GW0.out.lt
    go_wp2_with (first | refine ldG Tryz.underlying82 HIX.out (rangeL GX0.out) HLX.out ?_ | refine ldG Tryz.underlying33 HIM.out (rangeL GM0.out) HLM.out ?_ | refine ldW Tryz.underlying82 HIX.out (rangeL GX0.out) HLX.out ?_)
    refine (HC.out _ XX0.out HW0.out).mono ?_
    rintro e W1 ⟨A1, c1, A2, c2, rfl, ft, f⟩
    have F1 := hid (F0.out.trans f (fun _ _ h => h))
    have GX1 := hid (GX0.out.fr f (fun x => x))
    have GW1 := hid (GW0.out.fr f (fun x => x))
    have XX1 := hid ((XX0.out).fr f)
    have GM1 := hid (GM0.out.fr f (fun x => x))
    have HW1 := hid ((HW0.out).fr f)
    have q0 := GW1.out.cell 0
    have q1 := GW1.out.cell 1
    have f0 := GW1.out.frozen 0
    have f1 := GW1.out.frozen 1
    have FT := hid (ft.more (S' := S) (B' := (w.heap.size + 1 + 1) + 1) (fun _ h => h) hq)
    clear f ft
    go_wp2
    refine fn_ret rfl rfl rfl ((GW1.out.set_ 0 _).set_ 1 _) rfl ?_
    exact sig_fin (o := _) _ _ HS.out (by omega) FT.out F1.out rfl rfl
  have hn12 := h0
  clear h0
  by_cases h0 : x.kind = 13
  · have hp := HP.out
    rw [if_neg (by omega), if_neg (by omega), if_neg (by omega), if_neg (by omega), if_pos (by omega)] at hp
    subst hp
    have HC := hid (HNA.out (by omega))
    rw [h0] at x0
    clear h0 HP HZ1 HPL HNU HME HNA HBU
    have hq := GW0.out.lt
    go_wp2_with (first | refine ldG Tryz.underlying82 HIX.out (rangeL GX0.out) HLX.out ?_ | refine ldG Tryz.underlying33 HIM.out (rangeL GM0.out) HLM.out ?_ | refine ldW Tryz.underlying82 HIX.out (rangeL GX0.out) HLX.out ?_)
    refine (HC.out _ XX0.out HW0.out).mono ?_
    rintro e W1 ⟨A1, c1, A2, c2, rfl, ft, f⟩
    have F1 := hid (F0.out.trans f (fun _ _ h => h))
    have GX1 := hid (GX0.out.fr f (fun x => x))
    have GW1 := hid (GW0.out.fr f (fun x => x))
    have XX1 := hid ((XX0.out).fr f)
    have GM1 := hid (GM0.out.fr f (fun x => x))
    have HW1 := hid ((HW0.out).fr f)
    have q0 := GW1.out.cell 0
    have q1 := GW1.out.cell 1
    have f0 := GW1.out.frozen 0
    have f1 := GW1.out.frozen 1
    have FT := hid (ft.more (S' := S) (B' := (w.heap.size + 1 + 1) + 1) (fun _ h => h) hq)
    clear f ft
    go_wp2
    refine fn_ret rfl rfl rfl ((GW1.out.set_ 0 _).set_ 1 _) rfl ?_
    exact sig_fin (o := _) _ _ HS.out (by omega) FT.out F1.out rfl rfl
  have hn13 := h0
  clear h0
  by_cases h0 : x.kind = 14
  · have hp := HP.out
    rw [if_neg (by omega), if_neg (by omega), if_neg (by omega), if_neg (by omega), if_pos (by omega)] at hp
    subst hp
    have HC := hid (HNA.out (by omega))
    rw [h0] at x0
    clear h0 HP HZ1 HPL HNU HME HNA HBU
    have hq := GW0.out.lt
    go_wp2_with (first | refine ldG Tryz.underlying82 HIX.out (rangeL GX0.out) HLX.out ?_ | refine ldG Tryz.underlying33 HIM.out (rangeL GM0.out) HLM.out ?_ | refine ldW Tryz.underlying82 HIX.out (rangeL GX0.out) HLX.out ?_)
    refine (HC.out _ XX0.out HW0.out).mono ?_
    rintro e W1 ⟨A1, c1, A2, c2, rfl, ft, f⟩
    have F1 := hid (F0.out.trans f (fun _ _ h => h))
    have GX1 := hid (GX0.out.fr f (fun x => x))
    have GW1 := hid (GW0.out.fr f (fun x => x))
    have XX1 := hid ((XX0.out).fr f)
    have GM1 := hid (GM0.out.fr f (fun x => x))
    have HW1 := hid ((HW0.out).fr f)
    have q0 := GW1.out.cell 0
    have q1 := GW1.out.cell 1
    have f0 := GW1.out.frozen 0
    have f1 := GW1.out.frozen 1
    have FT := hid (ft.more (S' := S) (B' := (w.heap.size + 1 + 1) + 1) (fun _ h => h) hq)
    clear f ft
    go_wp2
    refine fn_ret rfl rfl rfl ((GW1.out.set_ 0 _).set_ 1 _) rfl ?_
    exact sig_fin (o := _) _ _ HS.out (by omega) FT.out F1.out rfl rfl
  have hn14 := h0
  clear h0
  by_cases h0 : x.kind = 15
  · have hp := HP.out
    rw [if_neg (by omega), if_neg (by omega), if_neg (by omega), if_neg (by omega), if_pos (by omega)] at hp
    subst hp
    have HC := hid (HNA.out (by omega))
    rw [h0] at x0
    clear h0 HP HZ1 HPL HNU HME HNA HBU
    have hq := GW0.out.lt
    go_wp2_with (first | refine ldG Tryz.underlying82 HIX.out (rangeL GX0.out) HLX.out ?_ | refine ldG Tryz.underlying33 HIM.out (rangeL GM0.out) HLM.out ?_ | refine ldW Tryz.underlying82 HIX.out (rangeL GX0.out) HLX.out ?_)
    refine (HC.out _ XX0.out HW0.out).mono ?_
    rintro e W1 ⟨A1, c1, A2, c2, rfl, ft, f⟩
    have F1 := hid (F0.out.trans f (fun _ _ h => h))
    have GX1 := hid (GX0.out.fr f (fun x => x))
    have GW1 := hid (GW0.out.fr f (fun x => x))
    have XX1 := hid ((XX0.out).fr f)
    have GM1 := hid (GM0.out.fr f (fun x => x))
    have HW1 := hid ((HW0.out).fr f)
    have q0 := GW1.out.cell 0
    have q1 := GW1.out.cell 1
    have f0 := GW1.out.frozen 0
    have f1 := GW1.out.frozen 1
    have FT := hid (ft.more (S' := S) (B' := (w.heap.size + 1 + 1) + 1) (fun _ h => h) hq)
    clear f ft
    go_wp2
    refine fn_ret rfl rfl rfl ((GW1.out.set_ 0 _).set_ 1 _) rfl ?_
    exact sig_fin (o := _) _ _ HS.out (by omega) FT.out F1.out rfl rfl
  have hn15 := h0
  clear h0
  by_cases h0 : x.kind = 16
  · have hp := HP.out
    rw [if_pos (by omega)] at hp
    subst hp
    have HC := hid (HPL.out (by omega))
    rw [h0] at x0
    clear h0 HP HZ1 HPL HNU HME HNA HBU
    have hq := GW0.out.lt
    go_wp2_with (first | refine ldG Tryz.underlying82 HIX.out (rangeL GX0.out) HLX.out ?_ | refine ldG Tryz.underlying33 HIM.out (rangeL GM0.out) HLM.out ?_ | refine ldW Tryz.underlying82 HIX.out (rangeL GX0.out) HLX.out ?_)
    refine (HC.out _ XX0.out VV0.out).mono ?_
    rintro e W1 ⟨A1, c1, A2, c2, rfl, ft, f⟩
    have F1 := hid (F0.out.trans f (fun _ _ h => h))
    have GX1 := hid (GX0.out.fr f (fun x => x))
    have GW1 := hid (GW0.out.fr f (fun x => x))
    have XX1 := hid ((XX0.out).fr f)
    have GM1 := hid (GM0.out.fr f (fun x => x))
    have HW1 := hid ((HW0.out).fr f)
    have q0 := GW1.out.cell 0
    have q1 := GW1.out.cell 1
    have f0 := GW1.out.frozen 0
    have f1 := GW1.out.frozen 1
    have FT := hid (ft.more (S' := S) (B' := (w.heap.size + 1 + 1) + 1) (fun _ h => h) hq)
    clear f ft
    go_wp2
    refine fn_ret rfl rfl rfl ((GW1.out.set_ 0 _).set_ 1 _) rfl ?_
    exact sig_fin (o := _) _ _ HS.out (by omega) FT.out F1.out rfl rfl
  have hn16 := h0
  clear h0
  by_cases h0 : x.kind = 17
  · have hp := HP.out
    rw [if_neg (by omega), if_neg (by omega), if_neg (by omega), if_neg (by omega), if_neg (by omega), if_pos (by omega)] at hp
    subst hp
    have HC := hid (HBU.out (by omega))
    rw [h0] at x0
    clear h0 HP HZ1 HPL HNU HME HNA HBU
    have hq := GW0.out.lt
    go_wp2_with (first | refine ldG Tryz.underlying82 HIX.out (rangeL GX0.out) HLX.out ?_ | refine ldG Tryz.underlying33 HIM.out (rangeL GM0.out) HLM.out ?_ | refine ldW Tryz.underlying82 HIX.out (rangeL GX0.out) HLX.out ?_)
    refine (HC.out _ XX0.out HW0.out).mono ?_
    rintro e W1 ⟨A1, c1, A2, c2, rfl, ft, f⟩
    have F1 := hid (F0.out.trans f (fun _ _ h => h))
    have GX1 := hid (GX0.out.fr f (fun x => x))
    have GW1 := hid (GW0.out.fr f (fun x => x))
    have XX1 := hid ((XX0.out).fr f)
    have GM1 := hid (GM0.out.fr f (fun x => x))
    have HW1 := hid ((HW0.out).fr f)
    have q0 := GW1.out.cell 0
    have q1 := GW1.out.cell 1
    have f0 := GW1.out.frozen 0
    have f1 := GW1.out.frozen 1
    have FT := hid (ft.more (S' := S) (B' := (w.heap.size + 1 + 1) + 1) (fun _ h => h) hq)
    clear f ft
    go_wp2
    refine fn_ret rfl rfl rfl ((GW1.out.set_ 0 _).set_ 1 _) rfl ?_
    exact sig_fin (o := _) _ _ HS.out (by omega) FT.out F1.out rfl rfl
  have hn17 := h0
  clear h0
  by_cases h0 : x.kind = 18
  · have hp := HP.out
    rw [if_neg (by omega), if_neg (by omega), if_neg (by omega), if_neg (by omega), if_neg (by omega), if_pos (by omega)] at hp
    subst hp
    have HC := hid (HBU.out (by omega))
    rw [h0] at x0
    clear h0 HP HZ1 HPL HNU HME HNA HBU
    have hq := GW0.out.lt
    go_wp2_with (first | refine ldG Tryz.underlying82 HIX.out (rangeL GX0.out) HLX.out ?_ | refine ldG Tryz.underlying33 HIM.out (rangeL GM0.out) HLM.out ?_ | refine ldW Tryz.underlying82 HIX.out (rangeL GX0.out) HLX.out ?_)
    refine (HC.out _ XX0.out HW0.out).mono ?_
    rintro e W1 ⟨A1, c1, A2, c2, rfl, ft, f⟩
    have F1 := hid (F0.out.trans f (fun _ _ h => h))
    have GX1 := hid (GX0.out.fr f (fun x => x))
    have GW1 := hid (GW0.out.fr f (fun x => x))
    have XX1 := hid ((XX0.out).fr f)
    have GM1 := hid (GM0.out.fr f (fun x => x))
    have HW1 := hid ((HW0.out).fr f)
    have q0 := GW1.out.cell 0
    have q1 := GW1.out.cell 1
    have f0 := GW1.out.frozen 0
    have f1 := GW1.out.frozen 1
    have FT := hid (ft.more (S' := S) (B' := (w.heap.size + 1 + 1) + 1) (fun _ h => h) hq)
    clear f ft
    go_wp2
    refine fn_ret rfl rfl rfl ((GW1.out.set_ 0 _).set_ 1 _) rfl ?_
    exact sig_fin (o := _) _ _ HS.out (by omega) FT.out F1.out rfl rfl
  have hn18 := h0
  clear h0
  by_cases h0 : x.kind = 19
  · have hp := HP.out
    rw [if_neg (by omega), if_neg (by omega), if_neg (by omega), if_neg (by omega), if_neg (by omega), if_neg (by omega), if_pos h0] at hp
    replace HP := hid hp
    rw [h0] at x0
    clear hp h0 HPL HNU HME HNA HBU hn0 hn1 hn2 hn3 hn4 hn5 hn6 hn7 hn8 hn9 hn10 hn11 hn12 hn13 hn14 hn15 hn16 hn17 hn18
    go_wp2_with (first | refine ldG Tryz.underlying82 HIX.out (rangeL GX0.out) HLX.out ?_ | refine ldG Tryz.underlying33 HIM.out (rangeL GM0.out) HLM.out ?_ | refine ldW Tryz.underlying82 HIX.out (rangeL GX0.out) HLX.out ?_)
    refine (HZ1.out _ XX0.out).mono ?_
    rintro e W1 ⟨rfl, f⟩
    have F1 := hid (F0.out.trans f (fun _ _ h => h))
    have GX1 := hid (GX0.out.fr f (fun x => x))
    have GW1 := hid (GW0.out.fr f (fun x => x))
    have XX1 := hid ((XX0.out).fr f)
    have GM1 := hid (GM0.out.fr f (fun x => x))
    have HW1 := hid ((HW0.out).fr f)
    have x2 := x2
    have y2 : W1.cell? ⟨w.heap.size + 1, 2, none⟩ = some (.int .i64 xa) := (f.cell (p := ⟨w.heap.size + 1, 2, none⟩) GX0.out.lt (fun x => x)).trans x2
    clear f F0 GX0 GW0 XX0 GM0 HW0 HZ1 x0 x2 hxl VV0
    cases z with
    | false =>
      have hp := HP.out
      rw [if_pos rfl] at hp
      subst hp
      go_wp2_with (first | refine ldG Tryz.underlying82 HIX.out (rangeL GX1.out) HLX.out ?_ | refine ldG Tryz.underlying33 HIM.out (rangeL GM1.out) HLM.out ?_ | refine ldW Tryz.underlying82 HIX.out (rangeL GX1.out) HLX.out ?_)
      refine (none39_any _).mono ?_
      rintro e W2 ⟨rfl, f⟩
      have F2 := hid (F1.out.trans f (fun _ _ h => h))
      have GX2 := hid (GX1.out.fr f (fun x => x))
      have GW2 := hid (GW1.out.fr f (fun x => x))
      have XX2 := hid ((XX1.out).fr f)
      have GM2 := hid (GM1.out.fr f (fun x => x))
      have HW2 := hid ((HW1.out).fr f)
      have q0 := GW2.out.cell 0
      have q1 := GW2.out.cell 1
      have f0 := GW2.out.frozen 0
      have f1 := GW2.out.frozen 1
      clear f
      go_wp2
      refine fn_ret (x := .bool false) rfl rfl rfl ((GW2.out.set_ 0 _).set_ 1 _) rfl ?_
      exact sig_fin (o := none) (c1 := 0) (c2 := 0) _ _ HS.out (by omega) ⟨.inl rfl, .inl rfl⟩ F2.out rfl rfl
    | true =>
      have hp := HP.out
      rw [if_neg (by decide)] at hp
      replace HP := hid hp
      clear hp
      by_cases h1 : 1 ≤ xa
      · have d1 : decide (1 ≤ xa) = true := decide_eq_true h1
        by_cases h2 : xa < 4294967296
        · have d2 : decide (xa < 4294967296) = true := decide_eq_true h2
          have hp := HP.out
          rw [if_pos ⟨h1, h2⟩] at hp
          subst hp
          clear h2
          have hv : Hid True := hid trivial
          have hq := GW1.out.lt
          go_wp2_with (first | refine ldG Tryz.underlying82 HIX.out (rangeL GX1.out) HLX.out ?_ | refine ldG Tryz.underlying33 HIM.out (rangeL GM1.out) HLM.out ?_ | refine ldW Tryz.underlying82 HIX.out (rangeL GX1.out) HLX.out ?_)
          refine (fn39_any _ _ _ _ _ _ _).mono ?_
          rintro e W2 ⟨rfl, f⟩
          have F2 := hid (F1.out.trans f (fun _ _ h => h))
          have GX2 := hid (GX1.out.fr f (fun x => x))
          have GW2 := hid (GW1.out.fr f (fun x => x))
          have XX2 := hid ((XX1.out).fr f)
          have GM2 := hid (GM1.out.fr f (fun x => x))
          have HW2 := hid ((HW1.out).fr f)
          have q0 := GW2.out.cell 0
          have q1 := GW2.out.cell 1
          have f0 := GW2.out.frozen 0
          have f1 := GW2.out.frozen 1
          have FT : FnAt S ((w.heap.size + 1 + 1) + 1) W2 none none (fnD (some ⟨[], []⟩)) := ⟨.inl rfl, .inl rfl⟩
          clear f
          go_wp2
          refine fn_ret (x := .bool true) rfl rfl rfl ((GW2.out.set_ 0 _).set_ 1 _) rfl ?_
          exact sig_fin (o := some ⟨[], []⟩) _ _ HS.out (by omega) FT F2.out rfl rfl
        · have d2 : decide (xa < 4294967296) = false := decide_eq_false h2
          have hp := HP.out
          rw [if_neg (fun h => h2 h.2)] at hp
          clear h2
          subst hp
          go_wp2_with (first | refine ldG Tryz.underlying82 HIX.out (rangeL GX1.out) HLX.out ?_ | refine ldG Tryz.underlying33 HIM.out (rangeL GM1.out) HLM.out ?_ | refine ldW Tryz.underlying82 HIX.out (rangeL GX1.out) HLX.out ?_)
          refine (none39_any _).mono ?_
          rintro e W2 ⟨rfl, f⟩
          have F2 := hid (F1.out.trans f (fun _ _ h => h))
          have GX2 := hid (GX1.out.fr f (fun x => x))
          have GW2 := hid (GW1.out.fr f (fun x => x))
          have XX2 := hid ((XX1.out).fr f)
          have GM2 := hid (GM1.out.fr f (fun x => x))
          have HW2 := hid ((HW1.out).fr f)
          have q0 := GW2.out.cell 0
          have q1 := GW2.out.cell 1
          have f0 := GW2.out.frozen 0
          have f1 := GW2.out.frozen 1
          clear f
          go_wp2
          refine fn_ret (x := .bool false) rfl rfl rfl ((GW2.out.set_ 0 _).set_ 1 _) rfl ?_
          exact sig_fin (o := none) (c1 := 0) (c2 := 0) _ _ HS.out (by omega) ⟨.inl rfl, .inl rfl⟩ F2.out rfl rfl
      · have d1 : decide (1 ≤ xa) = false := decide_eq_false h1
        have hp := HP.out
        rw [if_neg (fun h => h1 h.1)] at hp
        subst hp
        go_wp2_with (first | refine ldG Tryz.underlying82 HIX.out (rangeL GX1.out) HLX.out ?_ | refine ldG Tryz.underlying33 HIM.out (rangeL GM1.out) HLM.out ?_ | refine ldW Tryz.underlying82 HIX.out (rangeL GX1.out) HLX.out ?_)
        refine (none39_any _).mono ?_
        rintro e W2 ⟨rfl, f⟩
        have F2 := hid (F1.out.trans f (fun _ _ h => h))
        have GX2 := hid (GX1.out.fr f (fun x => x))
        have GW2 := hid (GW1.out.fr f (fun x => x))
        have XX2 := hid ((XX1.out).fr f)
        have GM2 := hid (GM1.out.fr f (fun x => x))
        have HW2 := hid ((HW1.out).fr f)
        have q0 := GW2.out.cell 0
        have q1 := GW2.out.cell 1
        have f0 := GW2.out.frozen 0
        have f1 := GW2.out.frozen 1
        clear f
        go_wp2
        refine fn_ret (x := .bool false) rfl rfl rfl ((GW2.out.set_ 0 _).set_ 1 _) rfl ?_
        exact sig_fin (o := none) (c1 := 0) (c2 := 0) _ _ HS.out (by omega) ⟨.inl rfl, .inl rfl⟩ F2.out rfl rfl
  have hp := HP.out
  rw [if_neg (by omega), if_neg (by omega), if_neg (by omega), if_neg (by omega), if_neg (by omega), if_neg (by omega), if_neg h0] at hp
  subst hp
  have d0 : (x.kind == 0) = false := beq_eq_false_iff_ne.2 hn0
  have d1 : (x.kind == 1) = false := beq_eq_false_iff_ne.2 hn1
  have d2 : (x.kind == 2) = false := beq_eq_false_iff_ne.2 hn2
  have d3 : (x.kind == 3) = false := beq_eq_false_iff_ne.2 hn3
  have d4 : (x.kind == 4) = false := beq_eq_false_iff_ne.2 hn4
  have d5 : (x.kind == 5) = false := beq_eq_false_iff_ne.2 hn5
  have d6 : (x.kind == 6) = false := beq_eq_false_iff_ne.2 hn6
  have d7 : (x.kind == 7) = false := beq_eq_false_iff_ne.2 hn7
  have d8 : (x.kind == 8) = false := beq_eq_false_iff_ne.2 hn8
  have d9 : (x.kind == 9) = false := beq_eq_false_iff_ne.2 hn9
  have d10 : (x.kind == 10) = false := beq_eq_false_iff_ne.2 hn10
  have d11 : (x.kind == 11) = false := beq_eq_false_iff_ne.2 hn11
  have d12 : (x.kind == 12) = false := beq_eq_false_iff_ne.2 hn12
  have d13 : (x.kind == 13) = false := beq_eq_false_iff_ne.2 hn13
  have d14 : (x.kind == 14) = false := beq_eq_false_iff_ne.2 hn14
  have d15 : (x.kind == 15) = false := beq_eq_false_iff_ne.2 hn15
  have d16 : (x.kind == 16) = false := beq_eq_false_iff_ne.2 hn16
  have d17 : (x.kind == 17) = false := beq_eq_false_iff_ne.2 hn17
  have d18 : (x.kind == 18) = false := beq_eq_false_iff_ne.2 hn18
  have d19 : (x.kind == 19) = false := beq_eq_false_iff_ne.2 h0
  clear h0 hn0 hn1 hn2 hn3 hn4 hn5 hn6 hn7 hn8 hn9 hn10 hn11 hn12 hn13 hn14 hn15 hn16 hn17 hn18 HP HZ1 HPL HNU HME HNA HBU
  generalize x.kind = xk at *
  go_wp2_with (first | refine ldG Tryz.underlying82 HIX.out (rangeL GX0.out) HLX.out ?_ | refine ldG Tryz.underlying33 HIM.out (rangeL GM0.out) HLM.out ?_ | refine ldW Tryz.underlying82 HIX.out (rangeL GX0.out) HLX.out ?_)
  refine (none39_any _).mono ?_
  rintro e W1 ⟨rfl, f⟩
  have F1 := hid (F0.out.trans f (fun _ _ h => h))
  have GX1 := hid (GX0.out.fr f (fun x => x))
  have GW1 := hid (GW0.out.fr f (fun x => x))
  have XX1 := hid ((XX0.out).fr f)
  have GM1 := hid (GM0.out.fr f (fun x => x))
  have HW1 := hid ((HW0.out).fr f)
  have q0 := GW1.out.cell 0
  have q1 := GW1.out.cell 1
  have f0 := GW1.out.frozen 0
  have f1 := GW1.out.frozen 1
  clear f
  go_wp2
  refine fn_ret (x := .bool false) rfl rfl rfl ((GW1.out.set_ 0 _).set_ 1 _) rfl ?_
  exact sig_fin (o := none) (c1 := 0) (c2 := 0) _ _ HS.out (by omega) ⟨.inl rfl, .inl rfl⟩ F1.out rfl rfl
end Go.Proofs.YtiafkakkbbclhaaGreat
namespace Go.Proofs.YtiafkakkbbclhaaGreat
open Go.RowKit
def isVal (t : Int) : Bool := decide (1 ≤ t ∧ t ≤ 4)
theorem take_eq_succ {α : Type} {xs ys : List α} {k : Nat} (h1 : k < xs.length) (h2 : k < ys.length) (h : xs.take k = ys.take k) (he : xs[k] = ys[k]) : xs.take (k + 1) = ys.take (k + 1) := by
  rw [List.take_succ_eq_append_getElem h1, List.take_succ_eq_append_getElem h2, h, he]
theorem sameVals_any (A A' : Option Addr) (xs ys : List Int) (c c' : Nat) (S S' : Nat → Prop) (w : World) (hS : ∀ k, S k → k < w.heap.size) (hS' : ∀ k, S' k → k < w.heap.size) (ha : tI.els w S A xs) (hb : tI.els w S' A' ys) (h1 : xs.length ≤ 140737488355328) (h2 : ys.length ≤ 140737488355328) :
    Calls Tryz.prog 48 #[.slice A xs.length c, .slice A' ys.length c'] w fun e w' => e = .returned (.bool (decide (xs = ys))) ∧ Fr No w w' := by
  generalize hP : decide (xs = ys) = P
  have HP := hid hP
  clear hP
  by_cases hl : xs.length = ys.length
  · have e1 : (((xs.length : Nat) : Int) == ((ys.length : Nat) : Int)) = true := by simp [hl]
    have hL := hid hl
    have hl1 : xs.length ≤ ys.length := by omega
    clear hl
    go_enter Tryz.func48, Tryz.ntmps48
    go_wp2
    clear e1
    go_loopw [5] (fun i wr => ∃ k : Nat, k ≤ xs.length ∧ i = .int .i64 k ∧ Hid (Fr No w wr) ∧ Hid (xs.take k = ys.take k)) (fun i _ => xs.length - (intOf i).toNat)
    case atStart => exact ⟨0, by omega, rfl, Fr.refl _ _, by simp [Hid]⟩
    case round =>
      obtain ⟨k, hk, rfl, HF, HQ⟩ := hrel
      by_cases hlt : k < xs.length
      · obtain ⟨b, o, rfl, hbS, c1, _⟩ := ints_at (ha.fr HF.out (fun k hk => ⟨hS k hk, fun x => x⟩)) k hlt
        obtain ⟨b', o', rfl, hbS', c3, _⟩ := ints_at (hb.fr HF.out (fun k hk => ⟨hS' k hk, fun x => x⟩)) k (by omega)
        have hbl := hS b hbS
        have hbl' := hS' b' hbS'
        have i0 : (0 : Int) ≤ k := by omega
        have i1 : (k : Int) < xs.length := by omega
        have i2 : (k : Int) < ys.length := by omega
        have HE := hid (take_eq_succ hlt (by omega) HQ.out)
        generalize hx : xs[k] = x at *
        generalize hy : ys[k] = y at *
        have HX := hid hx
        have HY := hid hy
        clear hx hy ha hb hS hS'
        cases hxy : (x == y) with
        | true =>
          have HXY := hid (eq_of_beq hxy)
          go_wp2
          refine wp_region_ord (fun X => X.cell? ⟨b, o + k, none⟩ = some (.int .i64 x) ∧ X.cell? ⟨b', o' + k, none⟩ = some (.int .i64 y)) [] [(0, true), (1, true), (2, true), (3, true), (4, true), (5, true), (6, true), (7, true), (8, true)] (by kernel_rfl) (by kernel_rfl) (by kernel_rfl) rfl ⟨c1, c3⟩ ?_
          repeat (first | refine oS ?_ | refine oC ?_)
          refine wpO_nil ?_
          go_wp2
          go_roundw
          case rel => exact ⟨k + 1, by omega, by go_num, HF.out.drew, HE.out HXY.out⟩
          case measure => simp [intOf]; omega
        | false =>
          have HXY := hid (ne_of_beq_false hxy)
          go_wp2
          refine wp_region_ord (fun X => X.cell? ⟨b, o + k, none⟩ = some (.int .i64 x) ∧ X.cell? ⟨b', o' + k, none⟩ = some (.int .i64 y)) [] [(0, true), (1, true), (2, true), (3, true), (4, true), (5, true), (6, true), (7, true), (8, true)] (by kernel_rfl) (by kernel_rfl) (by kernel_rfl) rfl ⟨c1, c3⟩ ?_
          repeat (first | refine oS ?_ | refine oC ?_)
          refine wpO_nil ?_
          go_wp2
          go_ret
          refine ⟨rt_bool ?_, HF.out.drew⟩
          rw [← HP.out]
          symm
          rw [decide_eq_false_iff_not]
          intro h
          apply HXY.out
          rw [← HX.out, ← HY.out]
          simp [h]
      · go_wp2
        go_ret
        refine ⟨rt_bool ?_, HF.out⟩
        rw [← HP.out]
        symm
        rw [decide_eq_true_eq]
        have h := HQ.out
        have h' := hL.out
        rwa [List.take_of_length_le (by omega), List.take_of_length_le (by omega)] at h
  · have e1 : (((xs.length : Nat) : Int) == ((ys.length : Nat) : Int)) = false := by simp; omega
    have hL := hid hl
    clear hl ha hb
    go_enter Tryz.func48, Tryz.ntmps48
    go_wp2
    go_ret
    refine ⟨rt_bool ?_, Fr.refl _ _⟩
    rw [← HP.out]
    symm
    rw [decide_eq_false_iff_not]
    intro h
    exact hL.out (by rw [h])
theorem val06_any (t : Int) (w : World) : Calls Tryz.prog 22 #[.int .i64 t] w fun e w' => e = .returned (.bool (isVal t)) ∧ w = w' := by
  by_cases h1 : 1 ≤ t
  · by_cases h2 : t ≤ 4
    · have hv : isVal t = true := by unfold isVal; simp; omega
      rw [hv]
      have d1 : decide (1 ≤ t) = true := decide_eq_true h1
      have d2 : decide (t ≤ 4) = true := decide_eq_true h2
      go_enter Tryz.func22, Tryz.ntmps22
      go_wp2
      go_ret
      exact ⟨rfl, rfl⟩
    · have hv : isVal t = false := by unfold isVal; simp; omega
      rw [hv]
      have d1 : decide (1 ≤ t) = true := decide_eq_true h1
      have d2 : decide (t ≤ 4) = false := decide_eq_false h2
      go_enter Tryz.func22, Tryz.ntmps22
      go_wp2
      go_ret
      exact ⟨rfl, rfl⟩
  · have hv : isVal t = false := by unfold isVal; simp; omega
    rw [hv]
    have d1 : decide (1 ≤ t) = false := decide_eq_false h1
    go_enter Tryz.func22, Tryz.ntmps22
    go_wp2
    go_ret
    exact ⟨rfl, rfl⟩
theorem allV_no {l : List Int} {k : Nat} (hk : k < l.length) (h : isVal l[k] = false) : l.all isVal = false := by
  rw [← Bool.not_eq_true]; intro hh
  have := List.all_eq_true.1 hh _ (List.getElem_mem hk)
  rw [h] at this; cases this
def valsB (l : List Int) : Bool := l.all isVal && decide ((l.length : Int) ≤ 8)
theorem vals06_any (A : Option Addr) (c : Nat) (l : List Int) (S : Nat → Prop) (w : World) (h : tI.els w S A l) (hS : ∀ k, S k → k < w.heap.size) (hl : l.length ≤ 140737488351232) : Calls Tryz.prog 35 #[.slice A l.length c] w fun e w' => e = .returned (.bool (valsB l)) ∧ w = w' := by
  have HE := hid h
  have hbl := hid hS
  have HV := hid (fun t W => val06_any t W)
  have HNO := hid (fun k (hk : k < l.length) (hn : isVal l[k] = false) => allV_no hk hn)
  have HYES : Hid ((∀ k (hk : k < l.length), isVal l[k] = true) → l.all isVal = true) := hid fun hh => List.all_eq_true.2 fun v hv => by
    obtain ⟨k, hk, rfl⟩ := List.getElem_of_mem hv
    exact hh k hk
  clear h hS
  unfold valsB
  generalize l.all isVal = P at *
  obtain ⟨m, hm⟩ : ∃ m, l.length = m := ⟨_, rfl⟩
  have HM := hid hm
  rw [hm] at hl ⊢
  clear hm
  go_enter Tryz.func35, Tryz.ntmps35
  go_wp2_with fail
  go_loop [3] (fun i => ∃ (k : Nat), k ≤ m ∧ i = .int .i64 k ∧ Hid (∀ j (hj : j < l.length), j < k → isVal l[j] = true)) (fun i => m - (intOf i).toNat)
  case atStart => exact ⟨0, by omega, rfl, hid (fun j _ hj => absurd hj (by omega))⟩
  case round =>
    obtain ⟨k, hk, rfl, HI⟩ := hrel
    by_cases hgo : k < m
    · have hlk : k < l.length := by have := HM.out; omega
      obtain ⟨b, o, rfl, hb, z0, _⟩ := ints_at HE.out k hlk
      have hbb := hbl.out b hb
      have i0 : (0 : Int) ≤ k := by omega
      have i1 : (k : Int) < m := by omega
      cases hv : isVal l[k] with
      | true =>
        have hnx : Hid (∀ j (hj : j < l.length), j < k + 1 → isVal l[j] = true) := hid fun j hj hlt => by
          by_cases e : j = k
          · subst e; exact hv
          · exact HI.out j hj (by omega)
        have HV1 := hid (HV.out l[k])
        rw [hv] at HV1
        generalize l[k] = u at *
        clear HI HNO HYES HV hv
        go_wp2_with fail
        refine (HV1.out _).mono ?_
        rintro e w' ⟨rfl, rfl⟩
        go_wp2_with fail
        go_round
        case rel => exact ⟨k + 1, by omega, by go_num, hnx⟩
        case measure => simp [intOf]; omega
      | false =>
        have hp := HNO.out k hlk hv
        subst hp
        have HV1 := hid (HV.out l[k])
        rw [hv] at HV1
        generalize l[k] = u at *
        clear HI HNO HYES HV hv
        go_wp2_with fail
        refine (HV1.out _).mono ?_
        rintro e w' ⟨rfl, rfl⟩
        go_wp2
        go_ret
        exact ⟨rfl, rfl⟩
    · have hkm : k = m := by omega
      subst hkm
      have hp := HYES.out (fun j hj => HI.out j hj (by have := HM.out; omega))
      subst hp
      clear hgo HI HNO HYES
      go_wp2
      go_ret
      exact ⟨rt_bool (by simp), rfl⟩
def rightB (f : Fn) : Bool := valsB f.params && valsB f.results
theorem right_any (P R : Option Addr) (pc rc : Nat) (f : Fn) (S : Nat → Prop) (w : World) (hp : tI.els w S P f.params) (hr : tI.els w S R f.results) (hS : ∀ k, S k → k < w.heap.size) (h1 : f.params.length ≤ 140737488351232) (h2 : f.results.length ≤ 140737488351232) : Calls Tryz.prog 21 #[.agg #[.slice P f.params.length pc, .slice R f.results.length rc]] w fun e w' => e = .returned (.bool (rightB f)) ∧ Fr No w w' := by
  have F0 := hid ((Fr.refl No w).alloc (.cells #[.slice P f.params.length pc, .slice R f.results.length rc] 36))
  have hS' : ∀ k, S k → k < (w.alloc (.cells #[.slice P f.params.length pc, .slice R f.results.length rc] 36)).heap.size := fun k hk => Nat.lt_of_lt_of_le (hS k hk) F0.out.size
  have H1 := hid (vals06_any P pc f.params S _ (hp.fr F0.out (fun k hk => ⟨hS k hk, fun x => x⟩)) hS' h1)
  have H2 := hid (vals06_any R rc f.results S _ (hr.fr F0.out (fun k hk => ⟨hS k hk, fun x => x⟩)) hS' h2)
  unfold rightB
  clear hp hr hS hS'
  generalize valsB f.params = b1 at *
  generalize valsB f.results = b2 at *
  go_enter Tryz.func21, Tryz.ntmps21
  go_wp2_with fail
  refine H1.out.mono ?_
  rintro e w' ⟨rfl, rfl⟩
  cases b1 with
  | false =>
    go_wp2
    go_ret
    exact ⟨rfl, F0.out⟩
  | true =>
    go_wp2_with fail
    refine H2.out.mono ?_
    rintro e w' ⟨rfl, rfl⟩
    go_wp2
    go_ret
    exact ⟨rt_bool (by simp), F0.out⟩
end Go.Proofs.YtiafkakkbbclhaaGreat
