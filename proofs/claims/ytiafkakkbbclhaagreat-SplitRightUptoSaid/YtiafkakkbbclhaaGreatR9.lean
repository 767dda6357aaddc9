/- For every input SplitRight returns true, part 9: what the proof rests on. Condition: the arguments are of bulk at most 1048576. -/
import Derived.Test.YtiafkakkbbclhaaGreatR8
import Derived.Test.YtiafkakkbbclhaaGreatR2
set_option maxRecDepth 100000
set_option maxHeartbeats 12800000
set_option linter.unusedVariables false
set_option linter.unusedSimpArgs false
set_option linter.unusedSectionVars false
namespace Go.Proofs.YtiafkakkbbclhaaGreat
open Go.RowKit
theorem wants_4 {w : World} {S : Nat → Prop} {mc : List Value} {m : Md} (h : MW w S mc m) (B : MdB m) (op a b n : Int) (ha : 0 ≤ a ∧ a < 4294967296) (hb : 0 ≤ b ∧ b < 4294967296) (hd : m.datas ≤ 1000000000000) (hk : ofR op = 4) (ho : op = 16) : Calls Tryz.prog 74 #[.agg mc.toArray, .slice none 0 0, .agg #[.int .i64 op, .int .i64 a, .int .i64 b, .int .u64 n, .int .i64 0, .int .i64 0, .int .i64 0, .slice none 0 0, .slice none 0 0]] w (WantTo S (callW m a) w) := by
  have HO := hid (fun W => of_any op W)
  rw [hk] at HO
  have HC := hid (fun W (k : MW W S mc m) => call23_any k B op a b n ha hb ho)
  clear ho
  clear hk
  obtain ⟨F0, GM0, GX0, GW0⟩ := bx23 w mc op a b n
  have HIM : Hid ((Tryz.prog.info? 33).map (·.size) = some 12) := by unfold Hid; kernel_rfl
  have HLM := hid h.len
  have HW0 := hid (h.fr F0.out)
  have HS := hid h.lt
  have HB := hid B
  clear h B
  go_enter Tryz.func74, Tryz.ntmps74
  go_upto_region 1 with fail
  generalize (((w.alloc (.cells mc.toArray 33)).alloc (.cells #[.int .i64 op, .int .i64 a, .int .i64 b, .int .u64 n, .int .i64 0, .int .i64 0, .int .i64 0, .slice none 0 0, .slice none 0 0] 139)).alloc (.cells #[.slice none 0 0, .slice none 0 0, .int .i64 0] 156)) = W0 at *
  have hxl := GX0.out.lt
  have x0 := GX0.out.cell 0
  go_wp2_with fail
  refine (HO.out _).mono ?_
  rintro e W1 ⟨rfl, f⟩
  have F1 := hid (F0.out.trans f (fun _ _ h => h))
  have GM1 := hid (GM0.out.fr f (fun x => x))
  have GX1 := hid (GX0.out.fr f (fun x => x))
  have GW1 := hid (GW0.out.fr f (fun x => x))
  have HW1 := hid (HW0.out.fr f)
  clear f F0 GM0 GX0 GW0 HW0 HO x0 hxl
  have HIX : Hid ((Tryz.prog.info? 139).map (·.size) = some 9) := by unfold Hid; kernel_rfl
  have hq := GW1.out.lt
  go_wp2_with (first | refine ldG Tryz.underlying33 HIM.out (rangeL GM1.out) HLM.out ?_ | refine ldG (ds := [.int .i64 op, .int .i64 a, .int .i64 b, .int .u64 n, .int .i64 0, .int .i64 0, .int .i64 0, .slice none 0 0, .slice none 0 0]) Tryz.underlying139 HIX.out (rangeL GX1.out) rfl ?_)
  refine (HC.out _ HW1.out).mono ?_
  rintro e W2 ⟨A1, c1, A2, c2, rfl, ft, f⟩
  have F2 := hid (F1.out.trans f (fun _ _ h => h))
  have GW2 := hid (GW1.out.fr f (fun x => x))
  have FT := hid (ft.more (S' := S) (B' := (w.heap.size + 1 + 1) + 1) (fun _ h => h) hq)
  clear f ft
  have q0 := GW2.out.cell 0
  have q1 := GW2.out.cell 1
  have q2 := GW2.out.cell 2
  have f0 := GW2.out.frozen 0
  have f1 := GW2.out.frozen 1
  have f2 := GW2.out.frozen 2
  go_wp2
  refine want_ret rfl rfl (((GW2.out.set_ 0 _).set_ 1 _).set_ 2 _) rfl ?_
  exact want_fin (r := callW m a) _ _ _ HS.out (by omega) FT.out F2.out rfl rfl rfl
theorem wants_5 {w : World} {S : Nat → Prop} {mc : List Value} {m : Md} (h : MW w S mc m) (B : MdB m) (op a b n : Int) (ha : 0 ≤ a ∧ a < 4294967296) (hb : 0 ≤ b ∧ b < 4294967296) (hd : m.datas ≤ 1000000000000) (hk : ofR op = 5) : Calls Tryz.prog 74 #[.agg mc.toArray, .slice none 0 0, .agg #[.int .i64 op, .int .i64 a, .int .i64 b, .int .u64 n, .int .i64 0, .int .i64 0, .int .i64 0, .slice none 0 0, .slice none 0 0]] w (WantTo S (indW m a b) w) := by
  have HO := hid (fun W => of_any op W)
  rw [hk] at HO
  have HC := hid (fun W (k : MW W S mc m) => indirect23_any k B op a b n ha hb)
  clear hk
  obtain ⟨F0, GM0, GX0, GW0⟩ := bx23 w mc op a b n
  have HIM : Hid ((Tryz.prog.info? 33).map (·.size) = some 12) := by unfold Hid; kernel_rfl
  have HLM := hid h.len
  have HW0 := hid (h.fr F0.out)
  have HS := hid h.lt
  have HB := hid B
  clear h B
  go_enter Tryz.func74, Tryz.ntmps74
  go_upto_region 1 with fail
  generalize (((w.alloc (.cells mc.toArray 33)).alloc (.cells #[.int .i64 op, .int .i64 a, .int .i64 b, .int .u64 n, .int .i64 0, .int .i64 0, .int .i64 0, .slice none 0 0, .slice none 0 0] 139)).alloc (.cells #[.slice none 0 0, .slice none 0 0, .int .i64 0] 156)) = W0 at *
  have hxl := GX0.out.lt
  have x0 := GX0.out.cell 0
  go_wp2_with fail
  refine (HO.out _).mono ?_
  rintro e W1 ⟨rfl, f⟩
  have F1 := hid (F0.out.trans f (fun _ _ h => h))
  have GM1 := hid (GM0.out.fr f (fun x => x))
  have GX1 := hid (GX0.out.fr f (fun x => x))
  have GW1 := hid (GW0.out.fr f (fun x => x))
  have HW1 := hid (HW0.out.fr f)
  clear f F0 GM0 GX0 GW0 HW0 HO x0 hxl
  have HIX : Hid ((Tryz.prog.info? 139).map (·.size) = some 9) := by unfold Hid; kernel_rfl
  have hq := GW1.out.lt
  go_wp2_with (first | refine ldG Tryz.underlying33 HIM.out (rangeL GM1.out) HLM.out ?_ | refine ldG (ds := [.int .i64 op, .int .i64 a, .int .i64 b, .int .u64 n, .int .i64 0, .int .i64 0, .int .i64 0, .slice none 0 0, .slice none 0 0]) Tryz.underlying139 HIX.out (rangeL GX1.out) rfl ?_)
  refine (HC.out _ HW1.out).mono ?_
  rintro e W2 ⟨A1, c1, A2, c2, rfl, ft, f⟩
  have F2 := hid (F1.out.trans f (fun _ _ h => h))
  have GW2 := hid (GW1.out.fr f (fun x => x))
  have FT := hid (ft.more (S' := S) (B' := (w.heap.size + 1 + 1) + 1) (fun _ h => h) hq)
  clear f ft
  have q0 := GW2.out.cell 0
  have q1 := GW2.out.cell 1
  have q2 := GW2.out.cell 2
  have f0 := GW2.out.frozen 0
  have f1 := GW2.out.frozen 1
  have f2 := GW2.out.frozen 2
  go_wp2
  refine want_ret rfl rfl (((GW2.out.set_ 0 _).set_ 1 _).set_ 2 _) rfl ?_
  exact want_fin (r := indW m a b) _ _ _ HS.out (by omega) FT.out F2.out rfl rfl rfl
theorem wants_8 {w : World} {S : Nat → Prop} {mc : List Value} {m : Md} (h : MW w S mc m) (B : MdB m) (op a b n : Int) (ha : 0 ≤ a ∧ a < 4294967296) (hb : 0 ≤ b ∧ b < 4294967296) (hd : m.datas ≤ 1000000000000) (hk : ofR op = 8) : Calls Tryz.prog 74 #[.agg mc.toArray, .slice none 0 0, .agg #[.int .i64 op, .int .i64 a, .int .i64 b, .int .u64 n, .int .i64 0, .int .i64 0, .int .i64 0, .slice none 0 0, .slice none 0 0]] w (WantTo S (globW m op a) w) := by
  have HO := hid (fun W => of_any op W)
  rw [hk] at HO
  have HC := hid (fun W (k : MW W S mc m) => global23_any k B op a b n ha hb)
  clear hk
  obtain ⟨F0, GM0, GX0, GW0⟩ := bx23 w mc op a b n
  have HIM : Hid ((Tryz.prog.info? 33).map (·.size) = some 12) := by unfold Hid; kernel_rfl
  have HLM := hid h.len
  have HW0 := hid (h.fr F0.out)
  have HS := hid h.lt
  have HB := hid B
  clear h B
  go_enter Tryz.func74, Tryz.ntmps74
  go_upto_region 1 with fail
  generalize (((w.alloc (.cells mc.toArray 33)).alloc (.cells #[.int .i64 op, .int .i64 a, .int .i64 b, .int .u64 n, .int .i64 0, .int .i64 0, .int .i64 0, .slice none 0 0, .slice none 0 0] 139)).alloc (.cells #[.slice none 0 0, .slice none 0 0, .int .i64 0] 156)) = W0 at *
  have hxl := GX0.out.lt
  have x0 := GX0.out.cell 0
  go_wp2_with fail
  refine (HO.out _).mono ?_
  rintro e W1 ⟨rfl, f⟩
  have F1 := hid (F0.out.trans f (fun _ _ h => h))
  have GM1 := hid (GM0.out.fr f (fun x => x))
  have GX1 := hid (GX0.out.fr f (fun x => x))
  have GW1 := hid (GW0.out.fr f (fun x => x))
  have HW1 := hid (HW0.out.fr f)
  clear f F0 GM0 GX0 GW0 HW0 HO x0 hxl
  have HIX : Hid ((Tryz.prog.info? 139).map (·.size) = some 9) := by unfold Hid; kernel_rfl
  have hq := GW1.out.lt
  go_wp2_with (first | refine ldG Tryz.underlying33 HIM.out (rangeL GM1.out) HLM.out ?_ | refine ldG (ds := [.int .i64 op, .int .i64 a, .int .i64 b, .int .u64 n, .int .i64 0, .int .i64 0, .int .i64 0, .slice none 0 0, .slice none 0 0]) Tryz.underlying139 HIX.out (rangeL GX1.out) rfl ?_)
  refine (HC.out _ HW1.out).mono ?_
  rintro e W2 ⟨A1, c1, A2, c2, rfl, ft, f⟩
  have F2 := hid (F1.out.trans f (fun _ _ h => h))
  have GW2 := hid (GW1.out.fr f (fun x => x))
  have FT := hid (ft.more (S' := S) (B' := (w.heap.size + 1 + 1) + 1) (fun _ h => h) hq)
  clear f ft
  have q0 := GW2.out.cell 0
  have q1 := GW2.out.cell 1
  have q2 := GW2.out.cell 2
  have f0 := GW2.out.frozen 0
  have f1 := GW2.out.frozen 1
  have f2 := GW2.out.frozen 2
  go_wp2
  refine want_ret rfl rfl (((GW2.out.set_ 0 _).set_ 1 _).set_ 2 _) rfl ?_
  exact want_fin (r := globW m op a) _ _ _ HS.out (by omega) FT.out F2.out rfl rfl rfl
theorem wants_9 {w : World} {S : Nat → Prop} {mc : List Value} {m : Md} (h : MW w S mc m) (B : MdB m) (op a b n : Int) (ha : 0 ≤ a ∧ a < 4294967296) (hb : 0 ≤ b ∧ b < 4294967296) (hd : m.datas ≤ 1000000000000) (hk : ofR op = 9) (ho : op = 37 ∨ op = 38 ∨ op = 64528 ∨ op = 64527 ∨ op = 64529) : Calls Tryz.prog 74 #[.agg mc.toArray, .slice none 0 0, .agg #[.int .i64 op, .int .i64 a, .int .i64 b, .int .u64 n, .int .i64 0, .int .i64 0, .int .i64 0, .slice none 0 0, .slice none 0 0]] w (WantTo S (tableW m op a) w) := by
  have HO := hid (fun W => of_any op W)
  rw [hk] at HO
  have HC := hid (fun W (k : MW W S mc m) => table23_any k B op a b n ha hb ho)
  clear ho
  clear hk
  obtain ⟨F0, GM0, GX0, GW0⟩ := bx23 w mc op a b n
  have HIM : Hid ((Tryz.prog.info? 33).map (·.size) = some 12) := by unfold Hid; kernel_rfl
  have HLM := hid h.len
  have HW0 := hid (h.fr F0.out)
  have HS := hid h.lt
  have HB := hid B
  clear h B
  go_enter Tryz.func74, Tryz.ntmps74
  go_upto_region 1 with fail
  generalize (((w.alloc (.cells mc.toArray 33)).alloc (.cells #[.int .i64 op, .int .i64 a, .int .i64 b, .int .u64 n, .int .i64 0, .int .i64 0, .int .i64 0, .slice none 0 0, .slice none 0 0] 139)).alloc (.cells #[.slice none 0 0, .slice none 0 0, .int .i64 0] 156)) = W0 at *
  have hxl := GX0.out.lt
  have x0 := GX0.out.cell 0
  go_wp2_with fail
  refine (HO.out _).mono ?_
  rintro e W1 ⟨rfl, f⟩
  have F1 := hid (F0.out.trans f (fun _ _ h => h))
  have GM1 := hid (GM0.out.fr f (fun x => x))
  have GX1 := hid (GX0.out.fr f (fun x => x))
  have GW1 := hid (GW0.out.fr f (fun x => x))
  have HW1 := hid (HW0.out.fr f)
  clear f F0 GM0 GX0 GW0 HW0 HO x0 hxl
  have HIX : Hid ((Tryz.prog.info? 139).map (·.size) = some 9) := by unfold Hid; kernel_rfl
  have hq := GW1.out.lt
  go_wp2_with (first | refine ldG Tryz.underlying33 HIM.out (rangeL GM1.out) HLM.out ?_ | refine ldG (ds := [.int .i64 op, .int .i64 a, .int .i64 b, .int .u64 n, .int .i64 0, .int .i64 0, .int .i64 0, .slice none 0 0, .slice none 0 0]) Tryz.underlying139 HIX.out (rangeL GX1.out) rfl ?_)
  refine (HC.out _ HW1.out).mono ?_
  rintro e W2 ⟨A1, c1, A2, c2, rfl, ft, f⟩
  have F2 := hid (F1.out.trans f (fun _ _ h => h))
  have GW2 := hid (GW1.out.fr f (fun x => x))
  have FT := hid (ft.more (S' := S) (B' := (w.heap.size + 1 + 1) + 1) (fun _ h => h) hq)
  clear f ft
  have q0 := GW2.out.cell 0
  have q1 := GW2.out.cell 1
  have q2 := GW2.out.cell 2
  have f0 := GW2.out.frozen 0
  have f1 := GW2.out.frozen 1
  have f2 := GW2.out.frozen 2
  go_wp2
  refine want_ret rfl rfl (((GW2.out.set_ 0 _).set_ 1 _).set_ 2 _) rfl ?_
  exact want_fin (r := tableW m op a) _ _ _ HS.out (by omega) FT.out F2.out rfl rfl rfl
theorem wants_10 {w : World} {S : Nat → Prop} {mc : List Value} {m : Md} (h : MW w S mc m) (B : MdB m) (op a b n : Int) (ha : 0 ≤ a ∧ a < 4294967296) (hb : 0 ≤ b ∧ b < 4294967296) (hd : m.datas ≤ 1000000000000) (hk : ofR op = 10) (ho : op = 64526 ∨ op = 64524) : Calls Tryz.prog 74 #[.agg mc.toArray, .slice none 0 0, .agg #[.int .i64 op, .int .i64 a, .int .i64 b, .int .u64 n, .int .i64 0, .int .i64 0, .int .i64 0, .slice none 0 0, .slice none 0 0]] w (WantTo S (twoW m op a b) w) := by
  have HO := hid (fun W => of_any op W)
  rw [hk] at HO
  have HC := hid (fun W (k : MW W S mc m) => two23_any k B op a b n ha hb ho)
  clear ho
  clear hk
  obtain ⟨F0, GM0, GX0, GW0⟩ := bx23 w mc op a b n
  have HIM : Hid ((Tryz.prog.info? 33).map (·.size) = some 12) := by unfold Hid; kernel_rfl
  have HLM := hid h.len
  have HW0 := hid (h.fr F0.out)
  have HS := hid h.lt
  have HB := hid B
  clear h B
  go_enter Tryz.func74, Tryz.ntmps74
  go_upto_region 1 with fail
  generalize (((w.alloc (.cells mc.toArray 33)).alloc (.cells #[.int .i64 op, .int .i64 a, .int .i64 b, .int .u64 n, .int .i64 0, .int .i64 0, .int .i64 0, .slice none 0 0, .slice none 0 0] 139)).alloc (.cells #[.slice none 0 0, .slice none 0 0, .int .i64 0] 156)) = W0 at *
  have hxl := GX0.out.lt
  have x0 := GX0.out.cell 0
  go_wp2_with fail
  refine (HO.out _).mono ?_
  rintro e W1 ⟨rfl, f⟩
  have F1 := hid (F0.out.trans f (fun _ _ h => h))
  have GM1 := hid (GM0.out.fr f (fun x => x))
  have GX1 := hid (GX0.out.fr f (fun x => x))
  have GW1 := hid (GW0.out.fr f (fun x => x))
  have HW1 := hid (HW0.out.fr f)
  clear f F0 GM0 GX0 GW0 HW0 HO x0 hxl
  have HIX : Hid ((Tryz.prog.info? 139).map (·.size) = some 9) := by unfold Hid; kernel_rfl
  have hq := GW1.out.lt
  go_wp2_with (first | refine ldG Tryz.underlying33 HIM.out (rangeL GM1.out) HLM.out ?_ | refine ldG (ds := [.int .i64 op, .int .i64 a, .int .i64 b, .int .u64 n, .int .i64 0, .int .i64 0, .int .i64 0, .slice none 0 0, .slice none 0 0]) Tryz.underlying139 HIX.out (rangeL GX1.out) rfl ?_)
  refine (HC.out _ HW1.out).mono ?_
  rintro e W2 ⟨A1, c1, A2, c2, rfl, ft, f⟩
  have F2 := hid (F1.out.trans f (fun _ _ h => h))
  have GW2 := hid (GW1.out.fr f (fun x => x))
  have FT := hid (ft.more (S' := S) (B' := (w.heap.size + 1 + 1) + 1) (fun _ h => h) hq)
  clear f ft
  have q0 := GW2.out.cell 0
  have q1 := GW2.out.cell 1
  have q2 := GW2.out.cell 2
  have f0 := GW2.out.frozen 0
  have f1 := GW2.out.frozen 1
  have f2 := GW2.out.frozen 2
  go_wp2
  refine want_ret rfl rfl (((GW2.out.set_ 0 _).set_ 1 _).set_ 2 _) rfl ?_
  exact want_fin (r := twoW m op a b) _ _ _ HS.out (by omega) FT.out F2.out rfl rfl rfl
theorem wants_11 {w : World} {S : Nat → Prop} {mc : List Value} {m : Md} (h : MW w S mc m) (B : MdB m) (op a b n : Int) (ha : 0 ≤ a ∧ a < 4294967296) (hb : 0 ≤ b ∧ b < 4294967296) (hd : m.datas ≤ 1000000000000) (hk : ofR op = 11) (ho : op = 64526 ∨ op = 64524) : Calls Tryz.prog 74 #[.agg mc.toArray, .slice none 0 0, .agg #[.int .i64 op, .int .i64 a, .int .i64 b, .int .u64 n, .int .i64 0, .int .i64 0, .int .i64 0, .slice none 0 0, .slice none 0 0]] w (WantTo S (twoW m op a b) w) := by
  have HO := hid (fun W => of_any op W)
  rw [hk] at HO
  have HC := hid (fun W (k : MW W S mc m) => two23_any k B op a b n ha hb ho)
  clear ho
  clear hk
  obtain ⟨F0, GM0, GX0, GW0⟩ := bx23 w mc op a b n
  have HIM : Hid ((Tryz.prog.info? 33).map (·.size) = some 12) := by unfold Hid; kernel_rfl
  have HLM := hid h.len
  have HW0 := hid (h.fr F0.out)
  have HS := hid h.lt
  have HB := hid B
  clear h B
  go_enter Tryz.func74, Tryz.ntmps74
  go_upto_region 1 with fail
  generalize (((w.alloc (.cells mc.toArray 33)).alloc (.cells #[.int .i64 op, .int .i64 a, .int .i64 b, .int .u64 n, .int .i64 0, .int .i64 0, .int .i64 0, .slice none 0 0, .slice none 0 0] 139)).alloc (.cells #[.slice none 0 0, .slice none 0 0, .int .i64 0] 156)) = W0 at *
  have hxl := GX0.out.lt
  have x0 := GX0.out.cell 0
  go_wp2_with fail
  refine (HO.out _).mono ?_
  rintro e W1 ⟨rfl, f⟩
  have F1 := hid (F0.out.trans f (fun _ _ h => h))
  have GM1 := hid (GM0.out.fr f (fun x => x))
  have GX1 := hid (GX0.out.fr f (fun x => x))
  have GW1 := hid (GW0.out.fr f (fun x => x))
  have HW1 := hid (HW0.out.fr f)
  clear f F0 GM0 GX0 GW0 HW0 HO x0 hxl
  have HIX : Hid ((Tryz.prog.info? 139).map (·.size) = some 9) := by unfold Hid; kernel_rfl
  have hq := GW1.out.lt
  go_wp2_with (first | refine ldG Tryz.underlying33 HIM.out (rangeL GM1.out) HLM.out ?_ | refine ldG (ds := [.int .i64 op, .int .i64 a, .int .i64 b, .int .u64 n, .int .i64 0, .int .i64 0, .int .i64 0, .slice none 0 0, .slice none 0 0]) Tryz.underlying139 HIX.out (rangeL GX1.out) rfl ?_)
  refine (HC.out _ HW1.out).mono ?_
  rintro e W2 ⟨A1, c1, A2, c2, rfl, ft, f⟩
  have F2 := hid (F1.out.trans f (fun _ _ h => h))
  have GW2 := hid (GW1.out.fr f (fun x => x))
  have FT := hid (ft.more (S' := S) (B' := (w.heap.size + 1 + 1) + 1) (fun _ h => h) hq)
  clear f ft
  have q0 := GW2.out.cell 0
  have q1 := GW2.out.cell 1
  have q2 := GW2.out.cell 2
  have f0 := GW2.out.frozen 0
  have f1 := GW2.out.frozen 1
  have f2 := GW2.out.frozen 2
  go_wp2
  refine want_ret rfl rfl (((GW2.out.set_ 0 _).set_ 1 _).set_ 2 _) rfl ?_
  exact want_fin (r := twoW m op a b) _ _ _ HS.out (by omega) FT.out F2.out rfl rfl rfl
theorem wants_13 {w : World} {S : Nat → Prop} {mc : List Value} {m : Md} (h : MW w S mc m) (B : MdB m) (op a b n : Int) (ha : 0 ≤ a ∧ a < 4294967296) (hb : 0 ≤ b ∧ b < 4294967296) (hd : m.datas ≤ 1000000000000) (hk : ofR op = 13) : Calls Tryz.prog 74 #[.agg mc.toArray, .slice none 0 0, .agg #[.int .i64 op, .int .i64 a, .int .i64 b, .int .u64 n, .int .i64 0, .int .i64 0, .int .i64 0, .slice none 0 0, .slice none 0 0]] w (WantTo S (memW m op a b) w) := by
  have HO := hid (fun W => of_any op W)
  rw [hk] at HO
  have HC := hid (fun W (k : MW W S mc m) => memory23_any k B op a b n ha hb (fun h => absurd (hk.symm.trans h) (by decide)) hd)
  clear hk
  obtain ⟨F0, GM0, GX0, GW0⟩ := bx23 w mc op a b n
  have HIM : Hid ((Tryz.prog.info? 33).map (·.size) = some 12) := by unfold Hid; kernel_rfl
  have HLM := hid h.len
  have HW0 := hid (h.fr F0.out)
  have HS := hid h.lt
  have HB := hid B
  clear h B
  go_enter Tryz.func74, Tryz.ntmps74
  go_upto_region 1 with fail
  generalize (((w.alloc (.cells mc.toArray 33)).alloc (.cells #[.int .i64 op, .int .i64 a, .int .i64 b, .int .u64 n, .int .i64 0, .int .i64 0, .int .i64 0, .slice none 0 0, .slice none 0 0] 139)).alloc (.cells #[.slice none 0 0, .slice none 0 0, .int .i64 0] 156)) = W0 at *
  have hxl := GX0.out.lt
  have x0 := GX0.out.cell 0
  go_wp2_with fail
  refine (HO.out _).mono ?_
  rintro e W1 ⟨rfl, f⟩
  have F1 := hid (F0.out.trans f (fun _ _ h => h))
  have GM1 := hid (GM0.out.fr f (fun x => x))
  have GX1 := hid (GX0.out.fr f (fun x => x))
  have GW1 := hid (GW0.out.fr f (fun x => x))
  have HW1 := hid (HW0.out.fr f)
  clear f F0 GM0 GX0 GW0 HW0 HO x0 hxl
  have HIX : Hid ((Tryz.prog.info? 139).map (·.size) = some 9) := by unfold Hid; kernel_rfl
  have hq := GW1.out.lt
  go_wp2_with (first | refine ldG Tryz.underlying33 HIM.out (rangeL GM1.out) HLM.out ?_ | refine ldG (ds := [.int .i64 op, .int .i64 a, .int .i64 b, .int .u64 n, .int .i64 0, .int .i64 0, .int .i64 0, .slice none 0 0, .slice none 0 0]) Tryz.underlying139 HIX.out (rangeL GX1.out) rfl ?_)
  refine (HC.out _ HW1.out).mono ?_
  rintro e W2 ⟨A1, c1, A2, c2, rfl, ft, f⟩
  have F2 := hid (F1.out.trans f (fun _ _ h => h))
  have GW2 := hid (GW1.out.fr f (fun x => x))
  have FT := hid (ft.more (S' := S) (B' := (w.heap.size + 1 + 1) + 1) (fun _ h => h) hq)
  clear f ft
  have q0 := GW2.out.cell 0
  have q1 := GW2.out.cell 1
  have q2 := GW2.out.cell 2
  have f0 := GW2.out.frozen 0
  have f1 := GW2.out.frozen 1
  have f2 := GW2.out.frozen 2
  go_wp2
  refine want_ret rfl rfl (((GW2.out.set_ 0 _).set_ 1 _).set_ 2 _) rfl ?_
  exact want_fin (r := memW m op a b) _ _ _ HS.out (by omega) FT.out F2.out rfl rfl rfl
theorem wants_14 {w : World} {S : Nat → Prop} {mc : List Value} {m : Md} (h : MW w S mc m) (B : MdB m) (op a b n : Int) (ha : 0 ≤ a ∧ a < 4294967296) (hb : 0 ≤ b ∧ b < 4294967296) (hd : m.datas ≤ 1000000000000) (hk : ofR op = 14) : Calls Tryz.prog 74 #[.agg mc.toArray, .slice none 0 0, .agg #[.int .i64 op, .int .i64 a, .int .i64 b, .int .u64 n, .int .i64 0, .int .i64 0, .int .i64 0, .slice none 0 0, .slice none 0 0]] w (WantTo S (memW m op a b) w) := by
  have HO := hid (fun W => of_any op W)
  rw [hk] at HO
  have HC := hid (fun W (k : MW W S mc m) => memory23_any k B op a b n ha hb (fun h => absurd (hk.symm.trans h) (by decide)) hd)
  clear hk
  obtain ⟨F0, GM0, GX0, GW0⟩ := bx23 w mc op a b n
  have HIM : Hid ((Tryz.prog.info? 33).map (·.size) = some 12) := by unfold Hid; kernel_rfl
  have HLM := hid h.len
  have HW0 := hid (h.fr F0.out)
  have HS := hid h.lt
  have HB := hid B
  clear h B
  go_enter Tryz.func74, Tryz.ntmps74
  go_upto_region 1 with fail
  generalize (((w.alloc (.cells mc.toArray 33)).alloc (.cells #[.int .i64 op, .int .i64 a, .int .i64 b, .int .u64 n, .int .i64 0, .int .i64 0, .int .i64 0, .slice none 0 0, .slice none 0 0] 139)).alloc (.cells #[.slice none 0 0, .slice none 0 0, .int .i64 0] 156)) = W0 at *
  have hxl := GX0.out.lt
  have x0 := GX0.out.cell 0
  go_wp2_with fail
  refine (HO.out _).mono ?_
  rintro e W1 ⟨rfl, f⟩
  have F1 := hid (F0.out.trans f (fun _ _ h => h))
  have GM1 := hid (GM0.out.fr f (fun x => x))
  have GX1 := hid (GX0.out.fr f (fun x => x))
  have GW1 := hid (GW0.out.fr f (fun x => x))
  have HW1 := hid (HW0.out.fr f)
  clear f F0 GM0 GX0 GW0 HW0 HO x0 hxl
  have HIX : Hid ((Tryz.prog.info? 139).map (·.size) = some 9) := by unfold Hid; kernel_rfl
  have hq := GW1.out.lt
  go_wp2_with (first | refine ldG Tryz.underlying33 HIM.out (rangeL GM1.out) HLM.out ?_ | refine ldG (ds := [.int .i64 op, .int .i64 a, .int .i64 b, .int .u64 n, .int .i64 0, .int .i64 0, .int .i64 0, .slice none 0 0, .slice none 0 0]) Tryz.underlying139 HIX.out (rangeL GX1.out) rfl ?_)
  refine (HC.out _ HW1.out).mono ?_
  rintro e W2 ⟨A1, c1, A2, c2, rfl, ft, f⟩
  have F2 := hid (F1.out.trans f (fun _ _ h => h))
  have GW2 := hid (GW1.out.fr f (fun x => x))
  have FT := hid (ft.more (S' := S) (B' := (w.heap.size + 1 + 1) + 1) (fun _ h => h) hq)
  clear f ft
  have q0 := GW2.out.cell 0
  have q1 := GW2.out.cell 1
  have q2 := GW2.out.cell 2
  have f0 := GW2.out.frozen 0
  have f1 := GW2.out.frozen 1
  have f2 := GW2.out.frozen 2
  go_wp2
  refine want_ret rfl rfl (((GW2.out.set_ 0 _).set_ 1 _).set_ 2 _) rfl ?_
  exact want_fin (r := memW m op a b) _ _ _ HS.out (by omega) FT.out F2.out rfl rfl rfl
theorem wants_15 {w : World} {S : Nat → Prop} {mc : List Value} {m : Md} (h : MW w S mc m) (B : MdB m) (op a b n : Int) (ha : 0 ≤ a ∧ a < 4294967296) (hb : 0 ≤ b ∧ b < 4294967296) (hd : m.datas ≤ 1000000000000) (hk : ofR op = 15) : Calls Tryz.prog 74 #[.agg mc.toArray, .slice none 0 0, .agg #[.int .i64 op, .int .i64 a, .int .i64 b, .int .u64 n, .int .i64 0, .int .i64 0, .int .i64 0, .slice none 0 0, .slice none 0 0]] w (WantTo S (memW m op a b) w) := by
  have HO := hid (fun W => of_any op W)
  rw [hk] at HO
  have HC := hid (fun W (k : MW W S mc m) => memory23_any k B op a b n ha hb (fun h => absurd (hk.symm.trans h) (by decide)) hd)
  clear hk
  obtain ⟨F0, GM0, GX0, GW0⟩ := bx23 w mc op a b n
  have HIM : Hid ((Tryz.prog.info? 33).map (·.size) = some 12) := by unfold Hid; kernel_rfl
  have HLM := hid h.len
  have HW0 := hid (h.fr F0.out)
  have HS := hid h.lt
  have HB := hid B
  clear h B
  go_enter Tryz.func74, Tryz.ntmps74
  go_upto_region 1 with fail
  generalize (((w.alloc (.cells mc.toArray 33)).alloc (.cells #[.int .i64 op, .int .i64 a, .int .i64 b, .int .u64 n, .int .i64 0, .int .i64 0, .int .i64 0, .slice none 0 0, .slice none 0 0] 139)).alloc (.cells #[.slice none 0 0, .slice none 0 0, .int .i64 0] 156)) = W0 at *
  have hxl := GX0.out.lt
  have x0 := GX0.out.cell 0
  go_wp2_with fail
  refine (HO.out _).mono ?_
  rintro e W1 ⟨rfl, f⟩
  have F1 := hid (F0.out.trans f (fun _ _ h => h))
  have GM1 := hid (GM0.out.fr f (fun x => x))
  have GX1 := hid (GX0.out.fr f (fun x => x))
  have GW1 := hid (GW0.out.fr f (fun x => x))
  have HW1 := hid (HW0.out.fr f)
  clear f F0 GM0 GX0 GW0 HW0 HO x0 hxl
  have HIX : Hid ((Tryz.prog.info? 139).map (·.size) = some 9) := by unfold Hid; kernel_rfl
  have hq := GW1.out.lt
  go_wp2_with (first | refine ldG Tryz.underlying33 HIM.out (rangeL GM1.out) HLM.out ?_ | refine ldG (ds := [.int .i64 op, .int .i64 a, .int .i64 b, .int .u64 n, .int .i64 0, .int .i64 0, .int .i64 0, .slice none 0 0, .slice none 0 0]) Tryz.underlying139 HIX.out (rangeL GX1.out) rfl ?_)
  refine (HC.out _ HW1.out).mono ?_
  rintro e W2 ⟨A1, c1, A2, c2, rfl, ft, f⟩
  have F2 := hid (F1.out.trans f (fun _ _ h => h))
  have GW2 := hid (GW1.out.fr f (fun x => x))
  have FT := hid (ft.more (S' := S) (B' := (w.heap.size + 1 + 1) + 1) (fun _ h => h) hq)
  clear f ft
  have q0 := GW2.out.cell 0
  have q1 := GW2.out.cell 1
  have q2 := GW2.out.cell 2
  have f0 := GW2.out.frozen 0
  have f1 := GW2.out.frozen 1
  have f2 := GW2.out.frozen 2
  go_wp2
  refine want_ret rfl rfl (((GW2.out.set_ 0 _).set_ 1 _).set_ 2 _) rfl ?_
  exact want_fin (r := memW m op a b) _ _ _ HS.out (by omega) FT.out F2.out rfl rfl rfl
theorem wants_17 {w : World} {S : Nat → Prop} {mc : List Value} {m : Md} (h : MW w S mc m) (B : MdB m) (op a b n : Int) (ha : 0 ≤ a ∧ a < 4294967296) (hb : 0 ≤ b ∧ b < 4294967296) (hd : m.datas ≤ 1000000000000) (hk : ofR op = 17) (ho : a = 0) : Calls Tryz.prog 74 #[.agg mc.toArray, .slice none 0 0, .agg #[.int .i64 op, .int .i64 a, .int .i64 b, .int .u64 n, .int .i64 0, .int .i64 0, .int .i64 0, .slice none 0 0, .slice none 0 0]] w (WantTo S (memW m op a b) w) := by
  have HO := hid (fun W => of_any op W)
  rw [hk] at HO
  have HC := hid (fun W (k : MW W S mc m) => memory23_any k B op a b n ha hb (fun _ => ho) hd)
  clear ho
  clear hk
  obtain ⟨F0, GM0, GX0, GW0⟩ := bx23 w mc op a b n
  have HIM : Hid ((Tryz.prog.info? 33).map (·.size) = some 12) := by unfold Hid; kernel_rfl
  have HLM := hid h.len
  have HW0 := hid (h.fr F0.out)
  have HS := hid h.lt
  have HB := hid B
  clear h B
  go_enter Tryz.func74, Tryz.ntmps74
  go_upto_region 1 with fail
  generalize (((w.alloc (.cells mc.toArray 33)).alloc (.cells #[.int .i64 op, .int .i64 a, .int .i64 b, .int .u64 n, .int .i64 0, .int .i64 0, .int .i64 0, .slice none 0 0, .slice none 0 0] 139)).alloc (.cells #[.slice none 0 0, .slice none 0 0, .int .i64 0] 156)) = W0 at *
  have hxl := GX0.out.lt
  have x0 := GX0.out.cell 0
  go_wp2_with fail
  refine (HO.out _).mono ?_
  rintro e W1 ⟨rfl, f⟩
  have F1 := hid (F0.out.trans f (fun _ _ h => h))
  have GM1 := hid (GM0.out.fr f (fun x => x))
  have GX1 := hid (GX0.out.fr f (fun x => x))
  have GW1 := hid (GW0.out.fr f (fun x => x))
  have HW1 := hid (HW0.out.fr f)
  clear f F0 GM0 GX0 GW0 HW0 HO x0 hxl
  have HIX : Hid ((Tryz.prog.info? 139).map (·.size) = some 9) := by unfold Hid; kernel_rfl
  have hq := GW1.out.lt
  go_wp2_with (first | refine ldG Tryz.underlying33 HIM.out (rangeL GM1.out) HLM.out ?_ | refine ldG (ds := [.int .i64 op, .int .i64 a, .int .i64 b, .int .u64 n, .int .i64 0, .int .i64 0, .int .i64 0, .slice none 0 0, .slice none 0 0]) Tryz.underlying139 HIX.out (rangeL GX1.out) rfl ?_)
  refine (HC.out _ HW1.out).mono ?_
  rintro e W2 ⟨A1, c1, A2, c2, rfl, ft, f⟩
  have F2 := hid (F1.out.trans f (fun _ _ h => h))
  have GW2 := hid (GW1.out.fr f (fun x => x))
  have FT := hid (ft.more (S' := S) (B' := (w.heap.size + 1 + 1) + 1) (fun _ h => h) hq)
  clear f ft
  have q0 := GW2.out.cell 0
  have q1 := GW2.out.cell 1
  have q2 := GW2.out.cell 2
  have f0 := GW2.out.frozen 0
  have f1 := GW2.out.frozen 1
  have f2 := GW2.out.frozen 2
  go_wp2
  refine want_ret rfl rfl (((GW2.out.set_ 0 _).set_ 1 _).set_ 2 _) rfl ?_
  exact want_fin (r := memW m op a b) _ _ _ HS.out (by omega) FT.out F2.out rfl rfl rfl
def edropW (m : Md) (op a : Int) : Fn × Int := if (elemD m a).2 = false then badW 11 else sigW op
theorem wants_12 {w : World} {S : Nat → Prop} {mc : List Value} {m : Md} (h : MW w S mc m) (B : MdB m) (op a b n : Int) (ha : 0 ≤ a ∧ a < 4294967296) (hb : 0 ≤ b ∧ b < 4294967296) (hd : m.datas ≤ 1000000000000) (hk : ofR op = 12) : Calls Tryz.prog 74 #[.agg mc.toArray, .slice none 0 0, .agg #[.int .i64 op, .int .i64 a, .int .i64 b, .int .u64 n, .int .i64 0, .int .i64 0, .int .i64 0, .slice none 0 0, .slice none 0 0]] w (WantTo S (edropW m op a) w) := by
  have HO := hid (fun W => of_any op W)
  rw [hk] at HO
  generalize hP : edropW m op a = P
  rw [edropW] at hP
  have HP := hid hP
  clear hP
  have HC := hid (fun W (k : MW W S mc m) => oElem k B a)
  clear hk
  obtain ⟨F0, GM0, GX0, GW0⟩ := bx23 w mc op a b n
  have HIM : Hid ((Tryz.prog.info? 33).map (·.size) = some 12) := by unfold Hid; kernel_rfl
  have HLM := hid h.len
  have HW0 := hid (h.fr F0.out)
  have HS := hid h.lt
  have HB := hid B
  clear h B
  go_enter Tryz.func74, Tryz.ntmps74
  go_upto_region 1 with fail
  generalize (((w.alloc (.cells mc.toArray 33)).alloc (.cells #[.int .i64 op, .int .i64 a, .int .i64 b, .int .u64 n, .int .i64 0, .int .i64 0, .int .i64 0, .slice none 0 0, .slice none 0 0] 139)).alloc (.cells #[.slice none 0 0, .slice none 0 0, .int .i64 0] 156)) = W0 at *
  have hxl := GX0.out.lt
  have x0 := GX0.out.cell 0
  go_wp2_with fail
  refine (HO.out _).mono ?_
  rintro e W1 ⟨rfl, f⟩
  have F1 := hid (F0.out.trans f (fun _ _ h => h))
  have GM1 := hid (GM0.out.fr f (fun x => x))
  have GX1 := hid (GX0.out.fr f (fun x => x))
  have GW1 := hid (GW0.out.fr f (fun x => x))
  have HW1 := hid (HW0.out.fr f)
  clear f F0 GM0 GX0 GW0 HW0 HO x0 hxl
  generalize elemD m a = g at *
  obtain ⟨v, ok⟩ := g
  dsimp only at HC HP
  have hxl := GX1.out.lt
  have x1 := GX1.out.cell 1
  go_wp2_with (refine ldG Tryz.underlying33 HIM.out (rangeL GM1.out) HLM.out ?_)
  refine (HC.out _ HW1.out).mono ?_
  rintro e W2 ⟨rfl, f⟩
  have F2 := hid (F1.out.trans f (fun _ _ h => h))
  have GM2 := hid (GM1.out.fr f (fun x => x))
  have GX2 := hid (GX1.out.fr f (fun x => x))
  have GW2 := hid (GW1.out.fr f (fun x => x))
  have HW2 := hid (HW1.out.fr f)
  clear f F1 GM1 GX1 GW1 HW1 HC x1 hxl
  cases ok with
  | false =>
    have hp := HP.out
    rw [if_pos rfl] at hp
    subst hp
    go_wp2_with fail
    refine (bad_any _ _).mono ?_
    rintro e W3 ⟨rfl, f⟩
    have F3 := hid (F2.out.trans f (fun _ _ h => h))
    have GM3 := hid (GM2.out.fr f (fun x => x))
    have GX3 := hid (GX2.out.fr f (fun x => x))
    have GW3 := hid (GW2.out.fr f (fun x => x))
    have HW3 := hid (HW2.out.fr f)
    have q0 := GW3.out.cell 0
    have q1 := GW3.out.cell 1
    have q2 := GW3.out.cell 2
    have f0 := GW3.out.frozen 0
    have f1 := GW3.out.frozen 1
    have f2 := GW3.out.frozen 2
    clear f
    go_wp2
    refine want_ret rfl rfl (((GW3.out.set_ 0 _).set_ 1 _).set_ 2 _) rfl ?_
    exact want_fin (r := badW 11) (c1 := 0) (c2 := 0) _ _ _ HS.out (by omega) ⟨.inl rfl, .inl rfl⟩ F3.out rfl rfl rfl
  | true =>
    have hp := HP.out
    rw [if_neg (by decide)] at hp
    subst hp
    have hxl := GX2.out.lt
    have x0 := GX2.out.cell 0
    go_wp2_with fail
    refine (sig23_any _ _).mono ?_
    rintro e W3 ⟨A1, c1, A2, c2, rfl, ft, f⟩
    have F3 := hid (F2.out.trans f (fun _ _ h => h))
    have GM3 := hid (GM2.out.fr f (fun x => x))
    have GX3 := hid (GX2.out.fr f (fun x => x))
    have GW3 := hid (GW2.out.fr f (fun x => x))
    have HW3 := hid (HW2.out.fr f)
    have q0 := GW3.out.cell 0
    have q1 := GW3.out.cell 1
    have q2 := GW3.out.cell 2
    have f0 := GW3.out.frozen 0
    have f1 := GW3.out.frozen 1
    have f2 := GW3.out.frozen 2
    have hq := GW2.out.lt
    have FT := hid (ft.more (S' := S) (B' := (w.heap.size + 1 + 1) + 1) (fun _ h => h.elim) hq)
    clear f ft
    go_wp2
    refine want_ret rfl rfl (((GW3.out.set_ 0 _).set_ 1 _).set_ 2 _) rfl ?_
    exact want_fin (r := sigW _) _ _ _ HS.out (by omega) FT.out F3.out rfl rfl rfl
def ddropW (m : Md) (op a : Int) : Fn × Int := if (m.datas : Int) ≤ a then badW 11 else sigW op
theorem wants_16 {w : World} {S : Nat → Prop} {mc : List Value} {m : Md} (h : MW w S mc m) (B : MdB m) (op a b n : Int) (ha : 0 ≤ a ∧ a < 4294967296) (hb : 0 ≤ b ∧ b < 4294967296) (hd : m.datas ≤ 1000000000000) (hk : ofR op = 16) : Calls Tryz.prog 74 #[.agg mc.toArray, .slice none 0 0, .agg #[.int .i64 op, .int .i64 a, .int .i64 b, .int .u64 n, .int .i64 0, .int .i64 0, .int .i64 0, .slice none 0 0, .slice none 0 0]] w (WantTo S (ddropW m op a) w) := by
  have HO := hid (fun W => of_any op W)
  rw [hk] at HO
  generalize hP : ddropW m op a = P
  rw [ddropW] at hP
  have HP := hid hP
  clear hP
  have hd2 := hd
  have HC := hid (fun W (k : MW W S mc m) => oDatas k)
  clear hk
  obtain ⟨F0, GM0, GX0, GW0⟩ := bx23 w mc op a b n
  have HIM : Hid ((Tryz.prog.info? 33).map (·.size) = some 12) := by unfold Hid; kernel_rfl
  have HLM := hid h.len
  have HW0 := hid (h.fr F0.out)
  have HS := hid h.lt
  have HB := hid B
  clear h B
  go_enter Tryz.func74, Tryz.ntmps74
  go_upto_region 1 with fail
  generalize (((w.alloc (.cells mc.toArray 33)).alloc (.cells #[.int .i64 op, .int .i64 a, .int .i64 b, .int .u64 n, .int .i64 0, .int .i64 0, .int .i64 0, .slice none 0 0, .slice none 0 0] 139)).alloc (.cells #[.slice none 0 0, .slice none 0 0, .int .i64 0] 156)) = W0 at *
  have hxl := GX0.out.lt
  have x0 := GX0.out.cell 0
  go_wp2_with fail
  refine (HO.out _).mono ?_
  rintro e W1 ⟨rfl, f⟩
  have F1 := hid (F0.out.trans f (fun _ _ h => h))
  have GM1 := hid (GM0.out.fr f (fun x => x))
  have GX1 := hid (GX0.out.fr f (fun x => x))
  have GW1 := hid (GW0.out.fr f (fun x => x))
  have HW1 := hid (HW0.out.fr f)
  clear f F0 GM0 GX0 GW0 HW0 HO x0 hxl
  generalize m.datas = nd at *
  go_upto_region 31 with fail
  have HX : Hid (∀ X, Fr No W1 X → X.cell? ⟨w.heap.size + 1, 1, none⟩ = some (.int .i64 a)) := hid fun X f => (GX1.out.fr f (fun x => x)).cell 1
  have HR : Hid (∀ X, Fr No W1 X → X.rangeAt w.heap.size 0 mc) := hid fun X f => rangeL (GM1.out.fr f (fun x => x))
  refine wp_region_ord (Fr No W1) [] [(0, true), (1, true), (2, true), (3, false), (4, true)] (by kernel_rfl) (by kernel_rfl) (by kernel_rfl) rfl ((Fr.refl _ W1).drew) ?_
  have FD := hid (Fr.refl No W1).drew
  generalize W1.drew = wd at *
  refine oX HX.out ?_
  refine oX HX.out ?_
  refine wpO_load rfl rfl 33 _ rfl w.heap.size 0 rfl mc _ HR.out Tryz.underlying33 rfl (by rw [HLM.out]; exact HIM.out) ?_
  simp only [List.getElem_toArray, List.getElem_cons_succ, List.getElem_cons_zero, Act.put, List.setIfInBounds_toArray, List.set_cons_zero, List.set_cons_succ]
  refine wpO_eff rfl rfl (fun K hK => ?_)
  simp only [zA]
  go_simp
  refine (HC.out _ (HW1.out.fr FD.out)).mono ?_
  rintro e we ⟨rfl, f⟩
  have FE := hid (FD.out.trans f (fun _ _ h => h))
  clear f HC
  refine hK _ _ (fun _ => FE.out) ?_
  clear hK K
  by_cases hda : (nd : Int) ≤ a
  · have ddb : decide ((nd : Int) ≤ a) = true := decide_eq_true hda
    have hp := HP.out
    rw [if_pos hda] at hp
    subst hp
    repeat (first | refine oS ?_ | refine oX HX.out ?_)
    refine wpO_nil ?_
    have F2 := hid (F1.out.trans FE.out (fun _ _ h => h))
    have GM2 := hid (GM1.out.fr FE.out (fun x => x))
    have GX2 := hid (GX1.out.fr FE.out (fun x => x))
    have GW2 := hid (GW1.out.fr FE.out (fun x => x))
    have HW2 := hid (HW1.out.fr FE.out)
    clear HX HR FD F1 GM1 GX1 GW1 HW1
    generalize we = W2 at *
    go_wp2_with fail
    refine (bad_any _ _).mono ?_
    rintro e W3 ⟨rfl, f⟩
    have F3 := hid (F2.out.trans f (fun _ _ h => h))
    have GM3 := hid (GM2.out.fr f (fun x => x))
    have GX3 := hid (GX2.out.fr f (fun x => x))
    have GW3 := hid (GW2.out.fr f (fun x => x))
    have HW3 := hid (HW2.out.fr f)
    have q0 := GW3.out.cell 0
    have q1 := GW3.out.cell 1
    have q2 := GW3.out.cell 2
    have f0 := GW3.out.frozen 0
    have f1 := GW3.out.frozen 1
    have f2 := GW3.out.frozen 2
    clear f
    go_wp2
    refine want_ret rfl rfl (((GW3.out.set_ 0 _).set_ 1 _).set_ 2 _) rfl ?_
    exact want_fin (r := badW 11) (c1 := 0) (c2 := 0) _ _ _ HS.out (by omega) ⟨.inl rfl, .inl rfl⟩ F3.out rfl rfl rfl
  · have ddb : decide ((nd : Int) ≤ a) = false := decide_eq_false hda
    have hp := HP.out
    rw [if_neg hda] at hp
    subst hp
    repeat (first | refine oS ?_ | refine oX HX.out ?_)
    refine wpO_nil ?_
    have F2 := hid (F1.out.trans FE.out (fun _ _ h => h))
    have GM2 := hid (GM1.out.fr FE.out (fun x => x))
    have GX2 := hid (GX1.out.fr FE.out (fun x => x))
    have GW2 := hid (GW1.out.fr FE.out (fun x => x))
    have HW2 := hid (HW1.out.fr FE.out)
    clear HX HR FD F1 GM1 GX1 GW1 HW1
    generalize we = W2 at *
    have hxl := GX2.out.lt
    have x0 := GX2.out.cell 0
    go_wp2_with fail
    refine (sig23_any _ _).mono ?_
    rintro e W3 ⟨A1, c1, A2, c2, rfl, ft, f⟩
    have F3 := hid (F2.out.trans f (fun _ _ h => h))
    have GM3 := hid (GM2.out.fr f (fun x => x))
    have GX3 := hid (GX2.out.fr f (fun x => x))
    have GW3 := hid (GW2.out.fr f (fun x => x))
    have HW3 := hid (HW2.out.fr f)
    have q0 := GW3.out.cell 0
    have q1 := GW3.out.cell 1
    have q2 := GW3.out.cell 2
    have f0 := GW3.out.frozen 0
    have f1 := GW3.out.frozen 1
    have f2 := GW3.out.frozen 2
    have hq := GW2.out.lt
    have FT := hid (ft.more (S' := S) (B' := (w.heap.size + 1 + 1) + 1) (fun _ h => h.elim) hq)
    clear f ft
    go_wp2
    refine want_ret rfl rfl (((GW3.out.set_ 0 _).set_ 1 _).set_ 2 _) rfl ?_
    exact want_fin (r := sigW _) _ _ _ HS.out (by omega) FT.out F3.out rfl rfl rfl
end Go.Proofs.YtiafkakkbbclhaaGreat
namespace Go.Proofs.YtiafkakkbbclhaaGreat
open Go.RowKit
def wantsW (m : Md) (op a b : Int) : Fn × Int :=
  if ofR op = 4 then callW m a else if ofR op = 5 then indW m a b else if ofR op = 8 then globW m op a else if ofR op = 9 then tableW m op a
  else if ofR op = 10 ∨ ofR op = 11 then twoW m op a b else if ofR op = 12 then edropW m op a else if ofR op = 16 then ddropW m op a else memW m op a b
def OpOk (op a : Int) : Prop := (ofR op = 17 ∧ a = 0) ∨ op = 16 ∨ op = 17 ∨ op = 35 ∨ op = 36 ∨ op = 63 ∨ op = 64 ∨ op = 37 ∨ op = 38 ∨ op = 64528 ∨ op = 64527 ∨ op = 64529 ∨ op = 64526 ∨ op = 64524 ∨ op = 64525 ∨ op = 64521 ∨ op = 64523 ∨ op = 64522 ∨ op = 64520
theorem of_vals : ofR 16 = 4 ∧ ofR 17 = 5 ∧ ofR 35 = 8 ∧ ofR 36 = 8 ∧ ofR 63 = 13 ∧ ofR 64 = 13 ∧ ofR 37 = 9 ∧ ofR 38 = 9 ∧ ofR 64528 = 9 ∧ ofR 64527 = 9 ∧ ofR 64529 = 9 ∧ ofR 64526 = 10 ∧ ofR 64524 = 11 ∧ ofR 64525 = 12 ∧ ofR 64521 = 16 ∧ ofR 64523 = 13 ∧ ofR 64522 = 14 ∧ ofR 64520 = 15 := by decide +kernel
theorem opOk_k {op a : Int} (h : OpOk op a) : KOk (ofR op) := by
  obtain ⟨h1, h2, h3, h4, h5, h6, h7, h8, h9, h10, h11, h12, h13, h14, h15, h16, h17, h18⟩ := of_vals
  rcases h with ⟨h, _⟩ | rfl | rfl | rfl | rfl | rfl | rfl | rfl | rfl | rfl | rfl | rfl | rfl | rfl | rfl | rfl | rfl | rfl | rfl <;> unfold KOk <;> simp [*]
theorem wants_any {w : World} {S : Nat → Prop} {mc : List Value} {m : Md} (h : MW w S mc m) (B : MdB m) (op a b n : Int) (ha : 0 ≤ a ∧ a < 4294967296) (hb : 0 ≤ b ∧ b < 4294967296) (hd : m.datas ≤ 1000000000000) (ho : OpOk op a) : Calls Tryz.prog 74 #[.agg mc.toArray, .slice none 0 0, .agg #[.int .i64 op, .int .i64 a, .int .i64 b, .int .u64 n, .int .i64 0, .int .i64 0, .int .i64 0, .slice none 0 0, .slice none 0 0]] w (WantTo S (wantsW m op a b) w) := by
  obtain ⟨h1, h2, h3, h4, h5, h6, h7, h8, h9, h10, h11, h12, h13, h14, h15, h16, h17, h18⟩ := of_vals
  unfold wantsW
  rcases ho with ⟨hk, ho⟩ | rfl | rfl | rfl | rfl | rfl | rfl | rfl | rfl | rfl | rfl | rfl | rfl | rfl | rfl | rfl | rfl | rfl | rfl
  · rw [hk]; exact wants_17 h B op a b n ha hb hd hk ho
  · rw [h1]; exact wants_4 h B 16 a b n ha hb hd h1 rfl
  · rw [h2]; exact wants_5 h B 17 a b n ha hb hd h2
  · rw [h3]; exact wants_8 h B 35 a b n ha hb hd h3
  · rw [h4]; exact wants_8 h B 36 a b n ha hb hd h4
  · rw [h5]; exact wants_13 h B 63 a b n ha hb hd h5
  · rw [h6]; exact wants_13 h B 64 a b n ha hb hd h6
  · rw [h7]; exact wants_9 h B 37 a b n ha hb hd h7 (by simp)
  · rw [h8]; exact wants_9 h B 38 a b n ha hb hd h8 (by simp)
  · rw [h9]; exact wants_9 h B 64528 a b n ha hb hd h9 (by simp)
  · rw [h10]; exact wants_9 h B 64527 a b n ha hb hd h10 (by simp)
  · rw [h11]; exact wants_9 h B 64529 a b n ha hb hd h11 (by simp)
  · rw [h12]; exact wants_10 h B 64526 a b n ha hb hd h12 (by simp)
  · rw [h13]; exact wants_11 h B 64524 a b n ha hb hd h13 (by simp)
  · rw [h14]; exact wants_12 h B 64525 a b n ha hb hd h14
  · rw [h15]; exact wants_16 h B 64521 a b n ha hb hd h15
  · rw [h16]; exact wants_13 h B 64523 a b n ha hb hd h16
  · rw [h17]; exact wants_14 h B 64522 a b n ha hb hd h17
  · rw [h18]; exact wants_15 h B 64520 a b n ha hb hd h18
def wantsO (m : Md) (op a b n : Int) : Option Fn := if plnB (ofR op) a b n = true then (if (wantsW m op a b).2 = 0 then some (wantsW m op a b).1 else none) else none
def WtsTo (S : Nat → Prop) (o : Option Fn) (w : World) (e : Ending) (w' : World) : Prop :=
  ∃ (A1 : Option Addr) (c1 : Nat) (A2 : Option Addr) (c2 : Nat) (k : Int), e = .returned (.tuple #[.agg #[.slice A1 (fnD o).params.length c1, .slice A2 (fnD o).results.length c2], .int .i64 k]) ∧ (k == 0) = o.isSome ∧ FnAt S w.heap.size w' A1 A2 (fnD o) ∧ Fr No w w'
theorem pln_rng {op a b n : Int} (h : plnB (ofR op) a b n = true) (hk : KOk (ofR op)) : (0 ≤ a ∧ a < 4294967296) ∧ (0 ≤ b ∧ b < 4294967296) := by
  unfold plnB at h
  split at h
  · simp only [idxB, Bool.and_eq_true, decide_eq_true_eq] at h; omega
  · split at h
    · simp only [idxB, Bool.and_eq_true, decide_eq_true_eq, beq_iff_eq] at h; omega
    · split at h
      · simp only [idxB, Bool.and_eq_true, decide_eq_true_eq, beq_iff_eq] at h; omega
      · simp only [idxB, Bool.and_eq_true, decide_eq_true_eq, beq_iff_eq] at h; omega
theorem bx23f (w : World) (mc : List Value) (op a b n : Int) : Hid (Fr No w (((w.alloc (.cells mc.toArray 33)).alloc (.cells #[.int .i64 op, .int .i64 a, .int .i64 b, .int .u64 n, .int .i64 0, .int .i64 0, .int .i64 0, .slice none 0 0, .slice none 0 0] 139)).alloc (.cells #[.slice none 0 0, .slice none 0 0] 36))) ∧ Hid (Blk (((w.alloc (.cells mc.toArray 33)).alloc (.cells #[.int .i64 op, .int .i64 a, .int .i64 b, .int .u64 n, .int .i64 0, .int .i64 0, .int .i64 0, .slice none 0 0, .slice none 0 0] 139)).alloc (.cells #[.slice none 0 0, .slice none 0 0] 36)) w.heap.size 33 mc.toArray) ∧ Hid (Blk (((w.alloc (.cells mc.toArray 33)).alloc (.cells #[.int .i64 op, .int .i64 a, .int .i64 b, .int .u64 n, .int .i64 0, .int .i64 0, .int .i64 0, .slice none 0 0, .slice none 0 0] 139)).alloc (.cells #[.slice none 0 0, .slice none 0 0] 36)) (w.heap.size + 1) 139 #[.int .i64 op, .int .i64 a, .int .i64 b, .int .u64 n, .int .i64 0, .int .i64 0, .int .i64 0, .slice none 0 0, .slice none 0 0]) ∧ Hid (Blk (((w.alloc (.cells mc.toArray 33)).alloc (.cells #[.int .i64 op, .int .i64 a, .int .i64 b, .int .u64 n, .int .i64 0, .int .i64 0, .int .i64 0, .slice none 0 0, .slice none 0 0] 139)).alloc (.cells #[.slice none 0 0, .slice none 0 0] 36)) (w.heap.size + 1 + 1) 36 #[.slice none 0 0, .slice none 0 0]) :=
  ⟨(((Fr.refl No w).alloc _).alloc _).alloc _, ((Blk.new w _ _).alloc _).alloc _, (Blk.new1 w _ _ _).alloc _, blk_n2 w _ _ _ _⟩
theorem wts_fin {S : Nat → Prop} {o : Option Fn} {w w5 : World} {q n m : Nat} {k : Int} {A1 A2 : Option Addr} {c1 c2 : Nat} (u v : Value) (hS : ∀ k, S k → k < w.heap.size) (hq : w.heap.size ≤ q) (hA : FnAt S (q + 1) w5 A1 A2 (fnD o)) (hF : Fr No w w5) (hn : n = (fnD o).params.length) (hm : m = (fnD o).results.length) (hk : (k == 0) = o.isSome) :
    WtsTo S o w (.returned (.tuple #[.agg #[.slice A1 n c1, .slice A2 m c2], .int .i64 k])) ((w5.setCell ⟨q, 0, none⟩ u).setCell ⟨q, 1, none⟩ v) := by
  subst hn hm
  have FZ := ((Fr.refl (One q) w5).setCell ⟨q, 0, none⟩ u (fun _ => rfl)).setCell ⟨q, 1, none⟩ v (fun _ => rfl)
  have hz := hF.size
  exact ⟨A1, c1, A2, c2, k, rfl, hk, (hA.fr FZ (fun k hk => ⟨by have := hS k hk; omega, fun h => by have := hS k hk; simp only [One] at h; omega⟩) (fun k h1 _ h => by simp only [One] at h; omega)).more (fun _ h => h) (by omega), hF.trans FZ (fun i hi h => by simp only [One] at h; omega)⟩
theorem WtsTo.alloc {S : Nat → Prop} {o : Option Fn} {w w' : World} {e : Ending} (h : WtsTo S o w e w') (hS : ∀ k, S k → k < w.heap.size) (x : Obj) : WtsTo S o w e (w'.alloc x) := by
  obtain ⟨A1, c1, A2, c2, k, e1, hk, h1, h2⟩ := h
  exact ⟨A1, c1, A2, c2, k, e1, hk, h1.frNo ((Fr.refl No w').alloc x) (fun k hk => Nat.lt_of_lt_of_le (hS k hk) h2.size), h2.alloc x⟩
theorem Wants_any {w : World} {S : Nat → Prop} {mc : List Value} {m : Md} (h : MW w S mc m) (B : MdB m) (op a b n : Int) (hd : m.datas ≤ 1000000000000) (ho : OpOk op a) : Calls Tryz.prog 68 #[.agg mc.toArray, .slice none 0 0, .agg #[.int .i64 op, .int .i64 a, .int .i64 b, .int .u64 n, .int .i64 0, .int .i64 0, .int .i64 0, .slice none 0 0, .slice none 0 0]] w (WtsTo S (wantsO m op a b n) w) := by
  have HK := opOk_k ho
  have HC : Hid (plnB (ofR op) a b n = true → ∀ W, MW W S mc m → Calls Tryz.prog 74 #[.agg mc.toArray, .slice none 0 0, .agg #[.int .i64 op, .int .i64 a, .int .i64 b, .int .u64 n, .int .i64 0, .int .i64 0, .int .i64 0, .slice none 0 0, .slice none 0 0]] W (WantTo S (wantsW m op a b) W)) := hid fun hp W k => wants_any k B op a b n (pln_rng hp HK).1 (pln_rng hp HK).2 hd ho
  have HPL := hid (fun W => plain_any op a b n W HK)
  generalize hP : wantsO m op a b n = P
  rw [wantsO] at hP
  have HP := hid hP
  clear hP HK ho hd
  generalize wantsW m op a b = r at *
  generalize plnB (ofR op) a b n = pb at *
  obtain ⟨F0, GM0, GX0, GW0⟩ := bx23f w mc op a b n
  have HIM : Hid ((Tryz.prog.info? 33).map (·.size) = some 12) := by unfold Hid; kernel_rfl
  have HIX : Hid ((Tryz.prog.info? 139).map (·.size) = some 9) := by unfold Hid; kernel_rfl
  have HLM := hid h.len
  have HW0 := hid (h.fr F0.out)
  have HS := hid h.lt
  clear h B
  go_enter Tryz.func68, Tryz.ntmps68
  go_upto_region 1 with fail
  generalize (((w.alloc (.cells mc.toArray 33)).alloc (.cells #[.int .i64 op, .int .i64 a, .int .i64 b, .int .u64 n, .int .i64 0, .int .i64 0, .int .i64 0, .slice none 0 0, .slice none 0 0] 139)).alloc (.cells #[.slice none 0 0, .slice none 0 0] 36)) = W0 at *
  go_wp2_with (refine ldG (ds := [.int .i64 op, .int .i64 a, .int .i64 b, .int .u64 n, .int .i64 0, .int .i64 0, .int .i64 0, .slice none 0 0, .slice none 0 0]) Tryz.underlying139 HIX.out (rangeL GX0.out) rfl ?_)
  refine (HPL.out _).mono ?_
  rintro e W1 ⟨rfl, f⟩
  have F1 := hid (F0.out.trans f (fun _ _ h => h))
  have GM1 := hid (GM0.out.fr f (fun x => x))
  have GX1 := hid (GX0.out.fr f (fun x => x))
  have GW1 := hid (GW0.out.fr f (fun x => x))
  have HW1 := hid (HW0.out.fr f)
  clear f F0 GM0 GX0 GW0 HW0 HPL
  cases pb with
  | false =>
    have hp := HP.out
    rw [if_neg (by decide)] at hp
    subst hp
    clear HC
    have q0 := GW1.out.cell 0
    have q1 := GW1.out.cell 1
    have f0 := GW1.out.frozen 0
    have f1 := GW1.out.frozen 1
    go_wp2
    refine fn_ret (x := .int .i64 10) rfl rfl rfl ((GW1.out.set_ 0 _).set_ 1 _) rfl ?_
    exact wts_fin (o := none) (c1 := 0) (c2 := 0) _ _ HS.out (by omega) ⟨.inl rfl, .inl rfl⟩ F1.out rfl rfl rfl
  | true =>
    have hp := HP.out
    rw [if_pos rfl] at hp
    replace HP := hid hp
    clear hp
    have HC1 := hid (HC.out rfl)
    clear HC
    obtain ⟨g, k⟩ := r
    go_wp2_with (first | refine ldG Tryz.underlying33 HIM.out (rangeL GM1.out) HLM.out ?_ | refine ldG (ds := [.int .i64 op, .int .i64 a, .int .i64 b, .int .u64 n, .int .i64 0, .int .i64 0, .int .i64 0, .slice none 0 0, .slice none 0 0]) Tryz.underlying139 HIX.out (rangeL GX1.out) rfl ?_)
    refine (HC1.out _ HW1.out).mono ?_
    rintro e W2 ⟨A1, c1, A2, c2, rfl, ft, f⟩
    dsimp only at ft HP ⊢
    have F2 := hid (F1.out.trans f (fun _ _ h => h))
    have GW2 := hid (GW1.out.fr f (fun x => x))
    have FT := hid (ft.more (S' := S) (B' := (w.heap.size + 1 + 1) + 1) (fun _ h => h) GW1.out.lt)
    have HW2 := hid (HW1.out.fr f)
    clear f ft HC1 F1 GM1 GX1 GW1 HW1
    have hq := GW2.out.lt
    have q0 := GW2.out.cell 0
    have q1 := GW2.out.cell 1
    have f0 := GW2.out.frozen 0
    have f1 := GW2.out.frozen 1
    have hp := HP.out
    by_cases hk : k = 0
    · rw [if_pos hk] at hp
      subst hp
      subst hk
      go_wp2
      refine fn_ret (x := .int .i64 0) rfl rfl rfl (((GW2.out.set_ 0 _).set_ 1 _).alloc _) rfl ?_
      exact (wts_fin (o := some g) _ _ HS.out (by omega) FT.out F2.out rfl rfl rfl).alloc HS.out _
    · rw [if_neg hk] at hp
      subst hp
      have hkb : (k == 0) = false := beq_eq_false_iff_ne.2 hk
      clear hk
      go_upto_region 5 with fail
      have F3 := hid (F2.out.alloc (.cells #[.slice A1 g.params.length c1, .slice A2 g.results.length c2, .int .i64 k] 156))
      have GW3 := hid (GW2.out.alloc (.cells #[.slice A1 g.params.length c1, .slice A2 g.results.length c2, .int .i64 k] 156))
      have BW := hid (Blk.new W2 156 #[.slice A1 g.params.length c1, .slice A2 g.results.length c2, .int .i64 k])
      clear F2 GW2 q0 q1 f0 f1 FT HW2
      have hbw := BW.out.lt
      generalize W2.alloc (.cells #[.slice A1 g.params.length c1, .slice A2 g.results.length c2, .int .i64 k] 156) = W3 at *
      have q0 := GW3.out.cell 0
      have q1 := GW3.out.cell 1
      have f0 := GW3.out.frozen 0
      have f1 := GW3.out.frozen 1
      generalize hz : W2.heap.size = pw at *
      have HX : Hid (∀ X, Fr (One (w.heap.size + 1 + 1)) W3 X → X.cell? ⟨pw, 2, none⟩ = some (.int .i64 k)) := hid fun X f => (BW.out.fr f (fun h => by simp only [One] at h; omega)).cell 2
      refine wp_region_ord (Fr (One (w.heap.size + 1 + 1)) W3) [] [(0, true), (1, true), (2, true), (3, false), (4, true)] (by kernel_rfl) (by kernel_rfl) (by kernel_rfl) rfl ((Fr.refl _ W3).drew) ?_
      have FD := hid (Fr.refl No W3).drew
      have GD := hid (GW3.out.drew)
      generalize W3.drew = wd at *
      clear q0 q1 f0 f1
      have q0 := GD.out.cell 0
      have q1 := GD.out.cell 1
      have f0 := GD.out.frozen 0
      have f1 := GD.out.frozen 1
      repeat (first | refine oS ?_ | refine oX HX.out ?_)
      refine wpO_eff rfl rfl (fun K hK => ?_)
      simp only [zA]
      go_simp
      refine hK _ _ (fun _ => ?_) ?_
      · refine Fr.setCell ?_ _ _ (fun _ => rfl)
        refine Fr.setCell ?_ _ _ (fun _ => rfl)
        exact FD.out.mono (fun _ _ h => h.elim)
      clear hK K
      repeat (first | refine oS ?_ | refine oX HX.out ?_)
      refine wpO_nil ?_
      have FF := hid (F3.out.trans FD.out (fun _ _ h => h))
      go_wp2
      refine fn_ret (x := .int .i64 k) rfl rfl rfl ((GD.out.set_ 0 _).set_ 1 _) rfl ?_
      exact wts_fin (o := none) (c1 := 0) (c2 := 0) _ _ HS.out (by omega) ⟨.inl rfl, .inl rfl⟩ FF.out rfl rfl hkb
end Go.Proofs.YtiafkakkbbclhaaGreat
namespace Go.Proofs.YtiafkakkbbclhaaGreat
open Go.RowKit
def AllTo (o : Option (List Int)) (w : World) (e : Ending) (w' : World) : Prop :=
  ∃ (A : Option Addr) (c : Nat), e = .returned (.tuple #[.slice A (o.getD []).length c, .bool o.isSome]) ∧ tI.els w' (fun k => w.heap.size ≤ k ∧ k < w'.heap.size) A (o.getD []) ∧ Fr No w w'
theorem allT_no {vals l : List Int} {k : Nat} (hk : k < l.length) (h : ¬ inR vals l[k]) : allT vals l = none := by
  unfold allT
  rw [if_neg (fun hh => h (hh _ (List.getElem_mem hk)))]
def mapT (vals l : List Int) : List Int := l.map fun v => vals.getD v.toNat 0
theorem allT_yes {vals l : List Int} (h : ∀ k (hk : k < l.length), inR vals l[k]) : allT vals l = some (mapT vals l) := by
  unfold allT mapT
  rw [if_pos (fun v hv => by obtain ⟨k, hk, rfl⟩ := List.getElem_of_mem hv; exact h k hk)]
theorem all_any (A0 : Option Addr) (c0 : Nat) (l : List Int) (Av : Option Addr) (cv : Nat) (vals : List Int) (S : Nat → Prop) (w : World) (h : tI.els w S A0 l) (hv : tI.els w S Av vals) (hS : ∀ k, S k → k < w.heap.size) (hl : l.length * 8 ≤ 140737488351232) (hl2 : vals.length ≤ 140737488351232) :
    Calls Tryz.prog 26 #[.slice A0 l.length c0, .slice Av vals.length cv] w (AllTo (allT vals l) w) := by
  have HE := hid h
  have HV := hid hv
  have hbl := hid hS
  have HNO := hid (fun k (hk : k < l.length) (hn : ¬ inR vals l[k]) => allT_no hk hn)
  have HYES := hid (fun (hn : ∀ k (hk : k < l.length), inR vals l[k]) => allT_yes hn)
  clear h hv hS
  generalize hP : allT vals l = P at *
  clear hP
  obtain ⟨m, hm⟩ : ∃ m, l.length = m := ⟨_, rfl⟩
  have HM := hid hm
  obtain ⟨nv, hnv⟩ : ∃ n, vals.length = n := ⟨_, rfl⟩
  have HNV := hid hnv
  rw [hm] at hl ⊢
  rw [hnv] at hl2 ⊢
  clear hm hnv
  go_enter Tryz.func26, Tryz.ntmps26
  go_wp2_with fail
  go_loopw [6, 7] (fun v i wr => ∃ (k : Nat) (A : Option Addr) (c : Nat), k ≤ m ∧ i = .int .i64 k ∧ v = .slice A k c ∧ Hid (tI.row wr w.heap.size Emp 59 (.slice A k c) (mapT vals (l.take k))) ∧ Hid (Fr No w wr) ∧ Hid (∀ j (hj : j < l.length), j < k → inR vals l[j])) (fun _ i _ => m - (intOf i).toNat)
  case atStart => exact ⟨0, none, 0, by omega, rfl, rfl, hid (by rw [List.take_zero]; exact Ty.row.nil _ _ _ _), hid (Fr.refl No w), hid (fun j _ hj => absurd hj (by omega))⟩
  case round =>
    obtain ⟨k, A, c, hk, rfl, rfl, HR, FR, HI⟩ := hrel
    by_cases hgo : k < m
    · have hlk : k < l.length := by have := HM.out; omega
      obtain ⟨b, o, rfl, hb, z0, _⟩ := ints_at HE.out k hlk
      have hbb := hbl.out b hb
      replace z0 := (FR.out.cell (p := ⟨b, o + k, none⟩) hbb (fun x => x)).trans z0
      have i0 : (0 : Int) ≤ k := by omega
      have i1 : (k : Int) < m := by omega
      by_cases hr : inR vals l[k]
      · have hnx : Hid (∀ j (hj : j < l.length), j < k + 1 → inR vals l[j]) := hid fun j hj hlt => by
          by_cases e : j = k
          · subst e; exact hr
          · exact HI.out j hj (by omega)
        have hmt : mapT vals (l.take (k + 1)) = mapT vals (l.take k) ++ [vals.getD (l[k]).toNat 0] := by
          unfold mapT
          rw [List.take_succ_eq_append_getElem hlk, List.map_append]; rfl
        have HMT := hid hmt
        obtain ⟨hr1, hr2⟩ := hr
        rw [HNV.out] at hr2
        obtain ⟨t, ht⟩ : ∃ t : Nat, l[k] = t := ⟨(l[k]).toNat, by omega⟩
        have htv : t < vals.length := by have := HNV.out; omega
        obtain ⟨b2, o2, rfl, hb2, z1, hw1⟩ := ints_at HV.out t htv
        have hbb2 := hbl.out b2 hb2
        replace z1 := (FR.out.cell (p := ⟨b2, o2 + t, none⟩) hbb2 (fun x => x)).trans z1
        have hgd : vals.getD (l[k]).toNat 0 = vals[t] := by rw [ht]; exact getD_el 0 htv
        rw [hgd] at HMT
        rw [ht] at z0 hr1 hr2
        generalize vals[t] = u at *
        have t0 : (0 : Int) ≤ t := by omega
        have t1 : (t : Int) < nv := by omega
        have d1 : decide ((t : Int) < 0) = false := decide_eq_false (by omega)
        have d2 : decide ((nv : Int) ≤ t) = false := decide_eq_false (by omega)
        have HW1 := hid hw1
        have BL := hid (Blk.new wr 59 #[.int .i64 u])
        have FL := (Fr.refl No wr).alloc (.cells #[.int .i64 u] 59)
        have FRL := hid (FR.out.trans FL (fun _ _ h => h))
        have RL := hid (HR.out.fr FL (fun _ h => h.elim) (fun _ _ h => h))
        have HLQ : Hid ((mapT vals (l.take k)).length = k) := hid (by unfold mapT; rw [List.length_map, List.length_take]; have := HM.out; omega)
        clear hmt ht hgd FL hr1 hr2 HNO HYES hw1 HI HR
        go_wp2_with (at_builtin; refine wpList_appC (t := tI) (base := w.heap.size) (S := Emp) (xs := mapT vals (l.take k)) (ys := [u]) (dss := [[.int .i64 u]]) (B2 := (wr.alloc (.cells #[.int .i64 u] 59)).heap.size) elVals rfl rfl rfl rfl RL.out (Css.one (int_mk HW1.out)) (by simpa using Rd.blk BL.out BL.out.lt 0 (xs := [.int .i64 u]) (fun i u h => by rw [Nat.zero_add]; simpa using h)) rfl (by rw [HLQ.out]; omega) (by rw [HLQ.out]; omega) (fun _ h => h.elim) FRL.out.size ?_; intro v8 wy hr8 fr1 hv8; have FY := hid (own_frame RL.out FRL.out fr1 (Nat.le_refl _)); have RY := hid hr8; clear hr8 fr1 hv8)
        rw [← HMT.out] at RY
        obtain ⟨A8, c8, e8, _, _, _⟩ := RY.out.els (S' := fun _ => True) (fun _ _ => trivial) (fun _ _ => trivial)
        have hl8 : (mapT vals (l.take (k + 1))).length = k + 1 := by unfold mapT; rw [List.length_map, List.length_take]; have := HM.out; omega
        rw [hl8] at e8
        subst e8
        clear RL BL FRL z0 z1 hl8
        go_wp2_with fail
        go_round
        case rel => exact ⟨k + 1, A8, c8, by omega, by go_num, rfl, RY, FY, hnx⟩
        case measure => simp [intOf]; omega
      · have HP := hid (HNO.out k hlk hr)
        clear HNO HYES HI
        have hP := HP.out
        subst hP
        unfold inR at hr
        rw [HNV.out] at hr
        generalize l[k] = u at *
        clear HR HP
        by_cases h0 : u < 0
        · have d1 : decide (u < 0) = true := decide_eq_true h0
          clear hr
          go_wp2
          go_ret2
          exact ⟨none, 0, rfl, .inl rfl, FR.out⟩
        · have d1 : decide (u < 0) = false := decide_eq_false h0
          have d2 : decide ((nv : Int) ≤ u) = true := decide_eq_true (by omega)
          clear hr h0
          go_wp2
          go_ret2
          exact ⟨none, 0, rfl, .inl rfl, FR.out⟩
    · have hkm : k = m := by omega
      subst hkm
      have HP := hid (HYES.out (fun j hj => HI.out j hj (by have := HM.out; omega)))
      clear hgo HNO HYES HI
      have hP := HP.out
      subst hP
      have htk : l.take k = l := List.take_of_length_le (by rw [HM.out]; exact Nat.le_refl _)
      rw [htk] at HR
      clear htk HP
      go_wp2
      go_ret2
      refine ⟨A, c, ?_, ?_, FR.out⟩
      · have : (mapT vals l).length = k := by unfold mapT; rw [List.length_map, HM.out]
        simp only [Option.getD_some, Option.isSome_some, this]
        rfl
      · obtain ⟨A', c', e', hh⟩ := row_own HR.out
        injection e' with e1 _ _
        subst e1
        exact hh
end Go.Proofs.YtiafkakkbbclhaaGreat
namespace Go.Proofs.YtiafkakkbbclhaaGreat
open Go.RowKit
structure XW (w : World) (S : Nat → Prop) (xc : List Value) (x : Si) : Prop where
  rd : tSi.rd w S xc x
  lt : ∀ k, S k → k < w.heap.size
theorem XW.fr {w w' : World} {S : Nat → Prop} {xc : List Value} {x : Si} (h : XW w S xc x) (f : Fr No w w') : XW w' S xc x :=
  ⟨(inferInstance : TyOk tSi).keep _ _ _ _ _ h.rd (fun _ hp => f.cell (h.lt _ hp) (fun x => x)), fun k hk => Nat.lt_of_lt_of_le (h.lt k hk) f.size⟩
structure VW (w : World) (S : Nat → Prop) (A : Option Addr) (vals : List Int) : Prop where
  els : tI.els w S A vals
  lt : ∀ k, S k → k < w.heap.size
  le : vals.length ≤ 140737488351232
theorem VW.fr {w w' : World} {S : Nat → Prop} {A : Option Addr} {vals : List Int} (h : VW w S A vals) (f : Fr No w w') : VW w' S A vals :=
  ⟨h.els.fr f (fun k hk => ⟨h.lt k hk, fun x => x⟩), fun k hk => Nat.lt_of_lt_of_le (h.lt k hk) f.size, h.le⟩
structure XB (x : Si) : Prop where
  args : x.args.length * 8 ≤ 140737488351232
  outs : x.outs.length * 8 ≤ 140737488351232
def ownO (vals : List Int) (x : Si) : Option Int := match allT vals x.outs with
  | some [t] => some t
  | _ => none
def firstO (vals : List Int) (x : Si) : Option Int := if x.args.length = 0 then none else match allT vals (x.args.take 1) with
  | some l => some (l.getD 0 0)
  | none => none
def IntTo (o : Option Int) (w : World) (e : Ending) (w' : World) : Prop := e = .returned (.tuple #[.int .i64 (o.getD 0), .bool o.isSome]) ∧ Fr No w w'
theorem own_any {w : World} {S : Nat → Prop} {xc : List Value} {x : Si} {A : Option Addr} {vals : List Int} (h : XW w S xc x) (hv : VW w S A vals) (hx : XB x) (cv : Nat) : Calls Tryz.prog 51 #[.agg xc.toArray, .slice A vals.length cv] w (IntTo (ownO vals x) w) := by
  obtain ⟨Aa, ca, Ao, co, rfl, w1, w2, w3, w4, w5, _, _, ha, _, _, ho⟩ := Si_cells h.rd
  have F0 := hid ((Fr.refl No w).alloc (.cells #[.int .i64 x.kind, .int .i64 x.op, .int .i64 x.a, .int .i64 x.b, .int .u64 x.n, .slice Aa x.args.length ca, .slice Ao x.outs.length co] 82))
  have hv0 := hv.fr F0.out
  have HC := hid (all_any Ao co x.outs A cv vals S _ (ho.fr F0.out (fun k hk => ⟨h.lt k hk, fun x => x⟩)) hv0.els hv0.lt hx.outs hv.le)
  generalize hP : ownO vals x = P
  rw [ownO] at hP
  have HP := hid hP
  clear hP h hv hv0 hx ha ho w1 w2 w3 w4 w5
  generalize allT vals x.outs = o at *
  go_enter Tryz.func51, Tryz.ntmps51
  go_wp2_with fail
  refine HC.out.mono ?_
  rintro e W ⟨A8, c8, rfl, h8, f⟩
  have F1 := hid (F0.out.trans f (fun _ _ h => h))
  have H8 := hid h8
  clear f h8 HC
  cases o with
  | none =>
    have hp := HP.out
    dsimp only at hp
    subst hp
    simp only [Option.getD_none, Option.isSome_none] at *
    go_wp2
    go_ret2
    exact ⟨rfl, F1.out⟩
  | some l =>
    simp only [Option.getD_some, Option.isSome_some] at *
    by_cases h1 : l.length = 1
    · obtain ⟨t, rfl⟩ : ∃ t, l = [t] := by
        match l, h1 with
        | [t], _ => exact ⟨t, rfl⟩
      have hp := HP.out
      dsimp only at hp
      subst hp
      obtain ⟨b, o, rfl, hb, z0, _⟩ := ints_at H8.out 0 (by simp)
      have hbb := hb.2
      simp only [List.getElem_cons_zero, Nat.add_zero] at z0
      clear h1
      go_wp2
      go_ret2
      exact ⟨rfl, F1.out⟩
    · have hp : P = none := by
        have := HP.out
        rw [← this]
        match l, h1 with
        | [], _ => rfl
        | [t], h1 => exact absurd rfl h1
        | _ :: _ :: _, _ => rfl
      subst hp
      have d1 : (((l.length : Nat) : Int) == 1) = false := by simp; omega
      generalize l.length = n at *
      clear HP
      go_wp2
      go_ret2
      exact ⟨rfl, F1.out⟩
theorem els_take {α : Type} {t : Ty α} {w : World} {S : Nat → Prop} {A : Option Addr} {xs : List α} (h : t.els w S A xs) (n : Nat) : t.els w S A (xs.take n) := by
  rcases h with rfl | ⟨b, o, e, hb, h⟩
  · exact .inl (by simp)
  · refine .inr ⟨b, o, e, hb, fun i x hx => h i x ?_⟩
    rw [List.getElem?_take] at hx
    split at hx
    · exact hx
    · cases hx
theorem first_any {w : World} {S : Nat → Prop} {xc : List Value} {x : Si} {A : Option Addr} {vals : List Int} (h : XW w S xc x) (hv : VW w S A vals) (cv : Nat) : Calls Tryz.prog 53 #[.agg xc.toArray, .slice A vals.length cv] w (IntTo (firstO vals x) w) := by
  obtain ⟨Aa, ca, Ao, co, rfl, -, -, -, -, -, hca, hcm, ha, -, -, -⟩ := Si_cells h.rd
  obtain ⟨na, hna⟩ : ∃ n, x.args.length = n := ⟨_, rfl⟩
  rw [hna] at hca ⊢
  have F0 := hid ((Fr.refl No w).alloc (.cells #[.int .i64 x.kind, .int .i64 x.op, .int .i64 x.a, .int .i64 x.b, .int .u64 x.n, .slice Aa na ca, .slice Ao x.outs.length co] 82))
  have hv0 := hv.fr F0.out
  have ha0 := ha.fr F0.out (fun k hk => ⟨h.lt k hk, fun x => x⟩)
  have HC := hid (fun c0 => all_any Aa c0 (x.args.take 1) A cv vals S _ (els_take ha0 1) hv0.els hv0.lt (by rw [List.length_take]; omega) hv.le)
  generalize hP : firstO vals x = P
  rw [firstO, hna] at hP
  have HP := hid hP
  by_cases hz : na = 0
  · rw [if_pos hz] at hP
    subst hP
    subst hz
    clear HC HP ha ha0 hv hv0 h hna
    go_enter Tryz.func53, Tryz.ntmps53
    go_wp2
    go_ret2
    exact ⟨rfl, F0.out⟩
  · rw [if_neg hz] at hP
    replace HP := hid hP
    have hl1 : (x.args.take 1).length = 1 := by rw [List.length_take]; omega
    rw [hl1] at HC
    have HLT : Hid (∀ l, allT vals (x.args.take 1) = some l → l.length = 1) := hid fun l hl => by
      unfold allT at hl
      split at hl
      · rw [← Option.some.inj hl, List.length_map, hl1]
      · cases hl
    clear hP
    generalize allT vals (x.args.take 1) = o at *
    have dz : (((na : Nat) : Int) == 0) = false := by simp; omega
    obtain ⟨b0, o0, rfl, hb0, -⟩ := ints_at ha 0 (by omega)
    have hna1 : 1 ≤ na := by omega
    clear ha ha0 hz hl1 hna hv hv0 h
    go_enter Tryz.func53, Tryz.ntmps53
    go_wp2_with fail
    refine (HC.out _).mono ?_
    rintro e W ⟨A8, c8, rfl, h8, f⟩
    have F1 := hid (F0.out.trans f (fun _ _ h => h))
    have H8 := hid h8
    clear f h8 HC
    cases o with
    | none =>
      have hp := HP.out
      dsimp only at hp
      subst hp
      simp only [Option.getD_none, Option.isSome_none] at *
      go_wp2
      go_ret2
      exact ⟨rfl, F1.out⟩
    | some l =>
      simp only [Option.getD_some, Option.isSome_some] at *
      obtain ⟨t, rfl⟩ : ∃ t, l = [t] := by
        have h1 := HLT.out l rfl
        match l, h1 with
        | [t], _ => exact ⟨t, rfl⟩
      have hp := HP.out
      subst hp
      obtain ⟨b, o, rfl, hb, z0, _⟩ := ints_at H8.out 0 (by simp)
      have hbb := hb.2
      simp only [List.getElem_cons_zero, Nat.add_zero] at z0
      clear HP HLT
      go_wp2
      go_ret2
      exact ⟨rfl, F1.out⟩
def zeroB (x : Si) (a b n op : Bool) : Bool := (a || x.a == 0) && (b || x.b == 0) && (n || x.n == 0) && (op || x.op == 0)
theorem zero_any {w : World} {S : Nat → Prop} {xc : List Value} {x : Si} (h : XW w S xc x) (a b n op : Bool) : Calls Tryz.prog 45 #[.agg xc.toArray, .bool a, .bool b, .bool n, .bool op] w fun e w' => e = .returned (.bool (zeroB x a b n op)) ∧ Fr No w w' := by
  obtain ⟨Aa, ca, Ao, co, rfl, _⟩ := Si_cells h.rd
  have F0 := hid ((Fr.refl No w).alloc (.cells #[.int .i64 x.kind, .int .i64 x.op, .int .i64 x.a, .int .i64 x.b, .int .u64 x.n, .slice Aa x.args.length ca, .slice Ao x.outs.length co] 82))
  unfold zeroB
  clear h
  generalize x.a = xa at *
  generalize x.b = xb at *
  generalize x.n = xn at *
  generalize x.op = xo at *
  cases h1 : (a || xa == 0) with
  | false =>
    simp only [Bool.or_eq_false_iff] at h1
    obtain ⟨rfl, h1⟩ := h1
    go_enter Tryz.func45, Tryz.ntmps45
    go_wp2
    go_ret
    exact ⟨rt_bool (by simp), F0.out⟩
  | true =>
    cases h2 : (b || xb == 0) with
    | false =>
      simp only [Bool.or_eq_false_iff] at h2
      obtain ⟨rfl, h2⟩ := h2
      cases a <;> simp only [Bool.false_or, Bool.true_or] at h1 <;>
      · go_enter Tryz.func45, Tryz.ntmps45
        go_wp2
        go_ret
        exact ⟨rt_bool (by simp), F0.out⟩
    | true =>
      cases h3 : (n || xn == 0) with
      | false =>
        simp only [Bool.or_eq_false_iff] at h3
        obtain ⟨rfl, h3⟩ := h3
        cases a <;> simp only [Bool.false_or, Bool.true_or] at h1 <;> cases b <;> simp only [Bool.false_or, Bool.true_or] at h2 <;>
        · go_enter Tryz.func45, Tryz.ntmps45
          go_wp2
          go_ret
          exact ⟨rt_bool (by simp), F0.out⟩
      | true =>
        cases a <;> simp only [Bool.false_or, Bool.true_or] at h1 <;> cases b <;> simp only [Bool.false_or, Bool.true_or] at h2 <;> cases n <;> simp only [Bool.false_or, Bool.true_or] at h3 <;> cases op <;>
        · simp only [Bool.false_or, Bool.true_or, Bool.true_and, Bool.and_true]
          go_enter Tryz.func45, Tryz.ntmps45
          go_wp2
          go_ret
          exact ⟨rfl, F0.out⟩
theorem fn39_any (A B : Option Addr) (n c k d : Nat) (w : World) : Calls Tryz.prog 46 #[.slice A n c, .slice B k d] w fun e w' => e = .returned (.tuple #[.agg #[.slice A n c, .slice B k d], .bool true]) ∧ Fr No w w' := by
  have G0 := hid (Blk.new w 36 #[.slice A n c, .slice B k d])
  have F0 := hid ((Fr.refl No w).alloc (.cells #[.slice A n c, .slice B k d] 36))
  go_enter Tryz.func46, Tryz.ntmps46
  go_wp2
  exact fn_ret rfl rfl rfl G0.out rfl ⟨rfl, F0.out⟩
theorem none39_any (w : World) : Calls Tryz.prog 47 #[] w fun e w' => e = .returned (.tuple #[.agg #[.slice none 0 0, .slice none 0 0], .bool false]) ∧ Fr No w w' := by
  have G0 := hid (Blk.new w 36 #[.slice none 0 0, .slice none 0 0])
  have F0 := hid ((Fr.refl No w).alloc (.cells #[.slice none 0 0, .slice none 0 0] 36))
  go_enter Tryz.func47, Tryz.ntmps47
  go_wp2
  exact fn_ret rfl rfl rfl G0.out rfl ⟨rfl, F0.out⟩
def begB (s p : ByteArray) : Bool := decide (p.size ≤ s.size) && ((s.extract 0 p.size).toList == p.toList)
theorem begins_any (op : Int) (p : ByteArray) (w : World) (hp : p.size ≤ 1000) : Calls Tryz.prog 56 #[.int .i64 op, .string p] w fun e w' => e = .returned (.bool (begB (nameR op) p)) ∧ Fr No w w' := by
  have HN := hid (fun W => name_any op W)
  have hl := name_le op
  generalize nameR op = s at *
  generalize hP : begB s p = P
  rw [begB] at hP
  obtain ⟨m, hm⟩ : ∃ m, p.size = m := ⟨_, rfl⟩
  obtain ⟨n, hn⟩ : ∃ n, s.size = n := ⟨_, rfl⟩
  rw [hm, hn] at hP
  have HP := hid hP
  clear hP
  go_enter Tryz.func56, Tryz.ntmps56
  go_wp2_with fail
  refine (HN.out _).mono ?_
  rintro e w1 ⟨rfl, f⟩
  have F1 := hid f
  clear f HN
  by_cases hmn : m ≤ n
  · cases hq : ((s.extract 0 m).toList == p.toList) with
    | true =>
      go_wp2
      go_ret
      exact ⟨rt_bool (by rw [← HP.out, hq]; simp [hmn]), F1.out⟩
    | false =>
      go_wp2
      go_ret
      exact ⟨rt_bool (by rw [← HP.out, hq]; simp), F1.out⟩
  · have d : decide (m ≤ n) = false := decide_eq_false hmn
    go_wp2
    go_ret
    exact ⟨rt_bool (by rw [← HP.out, d]; simp), F1.out⟩
def loadB (op : Int) : Bool := ((fnD (sigR op)).results.length : Int) == 1
theorem load39_any (op : Int) (w : World) : Calls Tryz.prog 57 #[.int .i64 op] w fun e w' => e = .returned (.bool (loadB op)) ∧ Fr No w w' := by
  have HN := hid (fun W => sig_any op W)
  unfold loadB
  generalize sigR op = o at *
  go_enter Tryz.func57, Tryz.ntmps57
  go_wp2_with fail
  refine (HN.out _).mono ?_
  rintro e w1 ⟨A1, c1, A2, c2, rfl, _, f⟩
  have F1 := hid (f.alloc (.cells #[.slice A1 (fnD o).params.length c1, .slice A2 (fnD o).results.length c2] 36))
  clear f HN
  go_wp2
  go_ret
  exact ⟨rfl, F1.out⟩
end Go.Proofs.YtiafkakkbbclhaaGreat
namespace Go.Proofs.YtiafkakkbbclhaaGreat
open Go.RowKit
theorem Blk.at_ {w : World} {p i : Nat} {t : TypeId} {cs : List Value} {v : Value} (h : Blk w p t cs.toArray) (e : cs[i]? = some v) : w.cell? ⟨p, i, none⟩ = some v := by
  rw [h.cell, List.getElem?_toArray, e]
theorem XW.len {w : World} {S : Nat → Prop} {xc : List Value} {x : Si} (h : XW w S xc x) : xc.length = 7 := (inferInstance : TyOk tSi).len _ _ _ _ h.rd
theorem XW.ints {w : World} {S : Nat → Prop} {xc : List Value} {x : Si} (h : XW w S xc x) : xc[0]? = some (.int .i64 x.kind) ∧ xc[1]? = some (.int .i64 x.op) ∧ xc[2]? = some (.int .i64 x.a) ∧ xc[3]? = some (.int .i64 x.b) ∧ xc[4]? = some (.int .u64 x.n) := by
  obtain ⟨Aa, ca, Ao, co, rfl, _⟩ := Si_cells h.rd
  exact ⟨rfl, rfl, rfl, rfl, rfl⟩
theorem XW.rng {w : World} {S : Nat → Prop} {xc : List Value} {x : Si} (h : XW w S xc x) : (-9223372036854775808 ≤ x.a ∧ x.a ≤ 9223372036854775807) ∧ (-9223372036854775808 ≤ x.b ∧ x.b ≤ 9223372036854775807) := by
  obtain ⟨Aa, ca, Ao, co, rfl, _, _, h1, h2, _⟩ := Si_cells h.rd
  exact ⟨wf_i64 h1, wf_i64 h2⟩
theorem bxX (w : World) (xc : List Value) : Hid (Fr No w ((w.alloc (.cells xc.toArray 82)).alloc (.cells #[.slice none 0 0, .slice none 0 0] 36))) ∧ Hid (Blk ((w.alloc (.cells xc.toArray 82)).alloc (.cells #[.slice none 0 0, .slice none 0 0] 36)) w.heap.size 82 xc.toArray) ∧ Hid (Blk ((w.alloc (.cells xc.toArray 82)).alloc (.cells #[.slice none 0 0, .slice none 0 0] 36)) (w.heap.size + 1) 36 #[.slice none 0 0, .slice none 0 0]) :=
  ⟨((Fr.refl No w).alloc _).alloc _, (Blk.new w _ _).alloc _, Blk.new1 w _ _ _⟩
theorem bxMX (w : World) (mc xc : List Value) : Hid (Fr No w (((w.alloc (.cells mc.toArray 33)).alloc (.cells xc.toArray 82)).alloc (.cells #[.slice none 0 0, .slice none 0 0] 36))) ∧ Hid (Blk (((w.alloc (.cells mc.toArray 33)).alloc (.cells xc.toArray 82)).alloc (.cells #[.slice none 0 0, .slice none 0 0] 36)) w.heap.size 33 mc.toArray) ∧ Hid (Blk (((w.alloc (.cells mc.toArray 33)).alloc (.cells xc.toArray 82)).alloc (.cells #[.slice none 0 0, .slice none 0 0] 36)) (w.heap.size + 1) 82 xc.toArray) ∧ Hid (Blk (((w.alloc (.cells mc.toArray 33)).alloc (.cells xc.toArray 82)).alloc (.cells #[.slice none 0 0, .slice none 0 0] 36)) (w.heap.size + 1 + 1) 36 #[.slice none 0 0, .slice none 0 0]) :=
  ⟨(((Fr.refl No w).alloc _).alloc _).alloc _, ((Blk.new w _ _).alloc _).alloc _, (Blk.new1 w _ _ _).alloc _, blk_n2 w _ _ _ _⟩
theorem wants39_any {w : World} {S : Nat → Prop} {mc : List Value} {m : Md} (hm : MW w S mc m) (B : MdB m) (op a b n : Int) (hd : m.datas ≤ 1000000000000) (ho : OpOk op a) : Calls Tryz.prog 58 #[.agg mc.toArray, .int .i64 op, .int .i64 a, .int .i64 b, .int .u64 n] w (SigTo S (wantsO m op a b n) w) := by
  have F0 := hid (((Fr.refl No w).alloc (.cells mc.toArray 33)).alloc (.cells #[.slice none 0 0, .slice none 0 0] 36))
  have GM0 := hid ((Blk.new w 33 mc.toArray).alloc (.cells #[.slice none 0 0, .slice none 0 0] 36))
  have GW0 := hid (Blk.new1 w (.cells mc.toArray 33) 36 #[.slice none 0 0, .slice none 0 0])
  have HW0 := hid (hm.fr F0.out)
  have HIM : Hid ((Tryz.prog.info? 33).map (·.size) = some 12) := by unfold Hid; kernel_rfl
  have HLM := hid hm.len
  have HS := hid hm.lt
  have HC := hid (fun W (k : MW W S mc m) => Wants_any k B op a b n hd ho)
  generalize wantsO m op a b n = o at *
  clear hm ho hd
  go_enter Tryz.func58, Tryz.ntmps58
  go_upto_region 1 with fail
  generalize ((w.alloc (.cells mc.toArray 33)).alloc (.cells #[.slice none 0 0, .slice none 0 0] 36)) = W0 at *
  go_wp2_with (refine ldG Tryz.underlying33 HIM.out (rangeL GM0.out) HLM.out ?_)
  refine (HC.out _ HW0.out).mono ?_
  rintro e W1 ⟨A1, c1, A2, c2, k, rfl, hk, ft, f⟩
  have F1 := hid (F0.out.trans f (fun _ _ h => h))
  have GW1 := hid (GW0.out.fr f (fun x => x))
  have FT := hid (ft.more (S' := S) (B' := w.heap.size + 1 + 1) (fun _ h => h) GW0.out.lt)
  clear f ft HC F0 GM0 GW0 HW0
  have hq := GW1.out.lt
  have q0 := GW1.out.cell 0
  have q1 := GW1.out.cell 1
  have f0 := GW1.out.frozen 0
  have f1 := GW1.out.frozen 1
  go_wp2
  refine fn_ret (x := .bool o.isSome) rfl rfl (by rw [← hk]; rfl) (((GW1.out.set_ 0 _).set_ 1 _).alloc _) rfl ?_
  exact (sig_fin (o := o) _ _ HS.out (by omega) FT.out F1.out rfl rfl).alloc HS.out _
def memS : ByteArray := ⟨#[109, 101, 109, 111, 114, 121]⟩
def tabS : ByteArray := ⟨#[116, 97, 98, 108, 101]⟩
def numO (x : Si) (n : Int) : Option Fn := match sigR x.op with
  | none => none
  | some f => if zeroB x false false false true = false then none else if ofR x.op = 17 then none else if begB (nameR x.op) memS = true then none else if begB (nameR x.op) tabS = true then none
    else if (f.params.length : Int) = n then (if (f.results.length : Int) = 1 then some f else none) else none
theorem numeric_any {w : World} {S : Nat → Prop} {xc : List Value} {x : Si} (h : XW w S xc x) (n : Int) : Calls Tryz.prog 41 #[.agg xc.toArray, .int .i64 n] w (SigTo S (numO x n) w) := by
  have HG := hid (fun W => sig_any x.op W)
  have HZ := hid (fun W (k : XW W S xc x) => zero_any k false false false true)
  have HO := hid (fun W => of_any x.op W)
  have HB1 := hid (fun W => begins_any x.op memS W (by decide))
  have HB2 := hid (fun W => begins_any x.op tabS W (by decide))
  generalize hP : numO x n = P
  rw [numO] at hP
  have HP := hid hP
  clear hP
  generalize sigR x.op = o at *
  generalize zeroB x false false false true = z at *
  generalize ofR x.op = k at *
  generalize begB (nameR x.op) memS = b1 at *
  generalize begB (nameR x.op) tabS = b2 at *
  obtain ⟨F0, GX0, GW0⟩ := bxX w xc
  obtain ⟨e0, e1, e2, e3, e4⟩ := h.ints
  have E0 := hid e0
  have E1 := hid e1
  have E2 := hid e2
  have E3 := hid e3
  have E4 := hid e4
  have XX0 := hid (h.fr F0.out)
  have HIX : Hid ((Tryz.prog.info? 82).map (·.size) = some 7) := by unfold Hid; kernel_rfl
  have HLX := hid h.len
  have HS := hid h.lt
  clear e0 e1 e2 e3 e4 h  
  go_enter Tryz.func41, Tryz.ntmps41
  go_upto_region 1 with fail
  generalize ((w.alloc (.cells xc.toArray 82)).alloc (.cells #[.slice none 0 0, .slice none 0 0] 36)) = W0 at *
  have hxl := GX0.out.lt
  have x1 := GX0.out.at_ E1.out
  go_wp2_with (first | refine ldG Tryz.underlying82 HIX.out (rangeL GX0.out) HLX.out ?_ | refine ldW Tryz.underlying82 HIX.out (rangeL GX0.out) HLX.out ?_)
  refine (HG.out _).mono ?_
  rintro e W1 ⟨A1, c1, A2, c2, rfl, fa, f⟩
  have F1 := hid (F0.out.trans f (fun _ _ h => h))
  have GX1 := hid (GX0.out.fr f (fun x => x))
  have GW1 := hid (GW0.out.fr f (fun x => x))
  have XX1 := hid ((XX0.out).fr f)
  have FA1 := hid (fa.more (S' := S) (B' := (w.heap.size + 1) + 1) (fun _ h => h.elim) GW0.out.lt)
  clear f F0 GX0 GW0 XX0 HG x1 hxl fa
  cases o with
  | none =>
    simp only [fnD, Option.getD_none, Option.isSome_none] at FA1 ⊢
    have hp := HP.out
    dsimp only at hp
    subst hp
    go_wp2_with (first | refine ldG Tryz.underlying82 HIX.out (rangeL GX1.out) HLX.out ?_ | refine ldW Tryz.underlying82 HIX.out (rangeL GX1.out) HLX.out ?_)
    refine (none39_any _).mono ?_
    rintro e W2 ⟨rfl, f⟩
    have F2 := hid ((F1.out.alloc _).trans f (fun _ _ h => h))
    have GX2 := hid ((GX1.out.alloc _).fr f (fun x => x))
    have GW2 := hid ((GW1.out.alloc _).fr f (fun x => x))
    have XX2 := hid ((XX1.out.fr (((Fr.refl No W1).alloc _))).fr f)
    have q0 := GW2.out.cell 0
    have q1 := GW2.out.cell 1
    have f0 := GW2.out.frozen 0
    have f1 := GW2.out.frozen 1
    clear f
    go_wp2
    refine fn_ret (x := .bool false) rfl rfl rfl ((GW2.out.set_ 0 _).set_ 1 _) rfl ?_
    exact sig_fin (o := none) (c1 := 0) (c2 := 0) _ _ HS.out (by omega) ⟨.inl rfl, .inl rfl⟩ F2.out rfl rfl
  | some g =>
    simp only [fnD, Option.getD_some, Option.isSome_some] at FA1 ⊢
    have hp := HP.out
    dsimp only at hp
    replace HP := hid hp
    clear hp
    go_upto_region 2 with fail
    have F2 := hid (F1.out.alloc (.cells #[.slice A1 g.params.length c1, .slice A2 g.results.length c2] 36))
    have GX2 := hid (GX1.out.alloc (.cells #[.slice A1 g.params.length c1, .slice A2 g.results.length c2] 36))
    have GW2 := hid (GW1.out.alloc (.cells #[.slice A1 g.params.length c1, .slice A2 g.results.length c2] 36))
    have XX2 := hid (XX1.out.fr ((Fr.refl No W1).alloc (.cells #[.slice A1 g.params.length c1, .slice A2 g.results.length c2] 36)))
    have BF2 := hid (Blk.new W1 36 #[.slice A1 g.params.length c1, .slice A2 g.results.length c2])
    have FA2 := hid (FA1.out.frNo ((Fr.refl No W1).alloc (.cells #[.slice A1 g.params.length c1, .slice A2 g.results.length c2] 36)) (fun k hk => Nat.lt_of_lt_of_le (HS.out k hk) F1.out.size))
    have hgw := GW1.out.lt
    clear F1 GX1 GW1 XX1 FA1
    generalize W1.alloc (.cells #[.slice A1 g.params.length c1, .slice A2 g.results.length c2] 36) = W2 at *
    generalize hz2 : W1.heap.size = p2 at *
    clear hz2
    go_wp2_with (first | refine ldG Tryz.underlying82 HIX.out (rangeL GX2.out) HLX.out ?_ | refine ldW Tryz.underlying82 HIX.out (rangeL GX2.out) HLX.out ?_)
    refine (HZ.out _ XX2.out).mono ?_
    rintro e W3 ⟨rfl, f⟩
    have F3 := hid (F2.out.trans f (fun _ _ h => h))
    have GX3 := hid (GX2.out.fr f (fun x => x))
    have GW3 := hid (GW2.out.fr f (fun x => x))
    have XX3 := hid ((XX2.out).fr f)
    have BF3 := hid (BF2.out.fr f (fun x => x))
    have FA3 := hid (FA2.out.frNo f (fun k hk => Nat.lt_of_lt_of_le (HS.out k hk) F2.out.size))
    clear f F2 GX2 GW2 XX2 BF2 HZ FA2
    cases z with
    | false =>
      have hp := HP.out
      rw [if_pos rfl] at hp
      subst hp
      go_wp2_with (first | refine ldG Tryz.underlying82 HIX.out (rangeL GX3.out) HLX.out ?_ | refine ldW Tryz.underlying82 HIX.out (rangeL GX3.out) HLX.out ?_)
      refine (none39_any _).mono ?_
      rintro e W4 ⟨rfl, f⟩
      have F4 := hid (F3.out.trans f (fun _ _ h => h))
      have GX4 := hid (GX3.out.fr f (fun x => x))
      have GW4 := hid (GW3.out.fr f (fun x => x))
      have XX4 := hid ((XX3.out).fr f)
      have BF4 := hid (BF3.out.fr f (fun x => x))
      have q0 := GW4.out.cell 0
      have q1 := GW4.out.cell 1
      have f0 := GW4.out.frozen 0
      have f1 := GW4.out.frozen 1
      clear f
      go_wp2
      refine fn_ret (x := .bool false) rfl rfl rfl ((GW4.out.set_ 0 _).set_ 1 _) rfl ?_
      exact sig_fin (o := none) (c1 := 0) (c2 := 0) _ _ HS.out (by omega) ⟨.inl rfl, .inl rfl⟩ F4.out rfl rfl
    | true =>
      have hp := HP.out
      rw [if_neg (by decide)] at hp
      replace HP := hid hp
      clear hp
      have hxl := GX3.out.lt
      have x1 := GX3.out.at_ E1.out
      go_wp2_with (first | refine ldG Tryz.underlying82 HIX.out (rangeL GX3.out) HLX.out ?_ | refine ldW Tryz.underlying82 HIX.out (rangeL GX3.out) HLX.out ?_)
      refine (HO.out _).mono ?_
      rintro e W4 ⟨rfl, f⟩
      have F4 := hid (F3.out.trans f (fun _ _ h => h))
      have GX4 := hid (GX3.out.fr f (fun x => x))
      have GW4 := hid (GW3.out.fr f (fun x => x))
      have XX4 := hid ((XX3.out).fr f)
      have BF4 := hid (BF3.out.fr f (fun x => x))
      have FA4 := hid (FA3.out.frNo f (fun k hk => Nat.lt_of_lt_of_le (HS.out k hk) F3.out.size))
      clear f F3 GX3 GW3 XX3 BF3 HO FA3 x1 hxl
      by_cases hk : k = 17
      · subst hk
        have hp := HP.out
        rw [if_pos rfl] at hp
        subst hp
        go_wp2_with (first | refine ldG Tryz.underlying82 HIX.out (rangeL GX4.out) HLX.out ?_ | refine ldW Tryz.underlying82 HIX.out (rangeL GX4.out) HLX.out ?_)
        refine (none39_any _).mono ?_
        rintro e W5 ⟨rfl, f⟩
        have F5 := hid (F4.out.trans f (fun _ _ h => h))
        have GX5 := hid (GX4.out.fr f (fun x => x))
        have GW5 := hid (GW4.out.fr f (fun x => x))
        have XX5 := hid ((XX4.out).fr f)
        have BF5 := hid (BF4.out.fr f (fun x => x))
        have q0 := GW5.out.cell 0
        have q1 := GW5.out.cell 1
        have f0 := GW5.out.frozen 0
        have f1 := GW5.out.frozen 1
        clear f
        go_wp2
        refine fn_ret (x := .bool false) rfl rfl rfl ((GW5.out.set_ 0 _).set_ 1 _) rfl ?_
        exact sig_fin (o := none) (c1 := 0) (c2 := 0) _ _ HS.out (by omega) ⟨.inl rfl, .inl rfl⟩ F5.out rfl rfl
      · have d17 : (k == 17) = false := beq_eq_false_iff_ne.2 hk
        have hp := HP.out
        rw [if_neg hk] at hp
        replace HP := hid hp
        clear hp hk
        have hxl := GX4.out.lt
        have x1 := GX4.out.at_ E1.out
        go_wp2_with (first | refine ldG Tryz.underlying82 HIX.out (rangeL GX4.out) HLX.out ?_ | refine ldW Tryz.underlying82 HIX.out (rangeL GX4.out) HLX.out ?_)
        refine (HB1.out _).mono ?_
        rintro e W5 ⟨rfl, f⟩
        have F5 := hid (F4.out.trans f (fun _ _ h => h))
        have GX5 := hid (GX4.out.fr f (fun x => x))
        have GW5 := hid (GW4.out.fr f (fun x => x))
        have XX5 := hid ((XX4.out).fr f)
        have BF5 := hid (BF4.out.fr f (fun x => x))
        have FA5 := hid (FA4.out.frNo f (fun k hk => Nat.lt_of_lt_of_le (HS.out k hk) F4.out.size))
        clear f F4 GX4 GW4 XX4 BF4 HB1 FA4 x1 hxl
        cases b1 with
        | true =>
          have hp := HP.out
          rw [if_pos rfl] at hp
          subst hp
          go_wp2_with (first | refine ldG Tryz.underlying82 HIX.out (rangeL GX5.out) HLX.out ?_ | refine ldW Tryz.underlying82 HIX.out (rangeL GX5.out) HLX.out ?_)
          refine (none39_any _).mono ?_
          rintro e W6 ⟨rfl, f⟩
          have F6 := hid (F5.out.trans f (fun _ _ h => h))
          have GX6 := hid (GX5.out.fr f (fun x => x))
          have GW6 := hid (GW5.out.fr f (fun x => x))
          have XX6 := hid ((XX5.out).fr f)
          have BF6 := hid (BF5.out.fr f (fun x => x))
          have q0 := GW6.out.cell 0
          have q1 := GW6.out.cell 1
          have f0 := GW6.out.frozen 0
          have f1 := GW6.out.frozen 1
          clear f
          go_wp2
          refine fn_ret (x := .bool false) rfl rfl rfl ((GW6.out.set_ 0 _).set_ 1 _) rfl ?_
          exact sig_fin (o := none) (c1 := 0) (c2 := 0) _ _ HS.out (by omega) ⟨.inl rfl, .inl rfl⟩ F6.out rfl rfl
        | false =>
          have hp := HP.out
          rw [if_neg (by decide)] at hp
          replace HP := hid hp
          clear hp
          have hxl := GX5.out.lt
          have x1 := GX5.out.at_ E1.out
          go_wp2_with (first | refine ldG Tryz.underlying82 HIX.out (rangeL GX5.out) HLX.out ?_ | refine ldW Tryz.underlying82 HIX.out (rangeL GX5.out) HLX.out ?_)
          refine (HB2.out _).mono ?_
          rintro e W6 ⟨rfl, f⟩
          have F6 := hid (F5.out.trans f (fun _ _ h => h))
          have GX6 := hid (GX5.out.fr f (fun x => x))
          have GW6 := hid (GW5.out.fr f (fun x => x))
          have XX6 := hid ((XX5.out).fr f)
          have BF6 := hid (BF5.out.fr f (fun x => x))
          have FA6 := hid (FA5.out.frNo f (fun k hk => Nat.lt_of_lt_of_le (HS.out k hk) F5.out.size))
          clear f F5 GX5 GW5 XX5 BF5 HB2 FA5 x1 hxl
          cases b2 with
          | true =>
            have hp := HP.out
            rw [if_pos rfl] at hp
            subst hp
            go_wp2_with (first | refine ldG Tryz.underlying82 HIX.out (rangeL GX6.out) HLX.out ?_ | refine ldW Tryz.underlying82 HIX.out (rangeL GX6.out) HLX.out ?_)
            refine (none39_any _).mono ?_
            rintro e W7 ⟨rfl, f⟩
            have F7 := hid (F6.out.trans f (fun _ _ h => h))
            have GX7 := hid (GX6.out.fr f (fun x => x))
            have GW7 := hid (GW6.out.fr f (fun x => x))
            have XX7 := hid ((XX6.out).fr f)
            have BF7 := hid (BF6.out.fr f (fun x => x))
            have q0 := GW7.out.cell 0
            have q1 := GW7.out.cell 1
            have f0 := GW7.out.frozen 0
            have f1 := GW7.out.frozen 1
            clear f
            go_wp2
            refine fn_ret (x := .bool false) rfl rfl rfl ((GW7.out.set_ 0 _).set_ 1 _) rfl ?_
            exact sig_fin (o := none) (c1 := 0) (c2 := 0) _ _ HS.out (by omega) ⟨.inl rfl, .inl rfl⟩ F7.out rfl rfl
          | false =>
            have hp := HP.out
            rw [if_neg (by decide)] at hp
            replace HP := hid hp
            clear hp
            have z0 := BF6.out.cell 0
            have z1 := BF6.out.cell 1
            have hbl := BF6.out.lt
            by_cases h1 : (g.params.length : Int) = n
            · have d1 : ((g.params.length : Int) == n) = true := beq_iff_eq.2 h1
              have hp := HP.out
              rw [if_pos h1] at hp
              clear d1
              subst h1
              by_cases h2 : (g.results.length : Int) = 1
              · have d2 : ((g.results.length : Int) == 1) = true := beq_iff_eq.2 h2
                rw [if_pos h2] at hp
                subst hp
                clear HP d2
                have q0 := GW6.out.cell 0
                have q1 := GW6.out.cell 1
                have f0 := GW6.out.frozen 0
                have f1 := GW6.out.frozen 1
                have hq := GW6.out.lt
                go_wp2
                refine fn_ret (x := .bool true) rfl rfl rfl ((GW6.out.set_ 0 _).set_ 1 _) rfl ?_
                exact sig_fin (o := some g) _ _ HS.out (by omega) FA6.out F6.out rfl rfl
              · have d2 : ((g.results.length : Int) == 1) = false := beq_eq_false_iff_ne.2 h2
                rw [if_neg h2] at hp
                subst hp
                clear HP
                go_wp2_with (first | refine ldG Tryz.underlying82 HIX.out (rangeL GX6.out) HLX.out ?_ | refine ldW Tryz.underlying82 HIX.out (rangeL GX6.out) HLX.out ?_)
                refine (none39_any _).mono ?_
                rintro e W7 ⟨rfl, f⟩
                have F7 := hid (F6.out.trans f (fun _ _ h => h))
                have GX7 := hid (GX6.out.fr f (fun x => x))
                have GW7 := hid (GW6.out.fr f (fun x => x))
                have XX7 := hid ((XX6.out).fr f)
                have BF7 := hid (BF6.out.fr f (fun x => x))
                have q0 := GW7.out.cell 0
                have q1 := GW7.out.cell 1
                have f0 := GW7.out.frozen 0
                have f1 := GW7.out.frozen 1
                clear f
                go_wp2
                refine fn_ret (x := .bool false) rfl rfl rfl ((GW7.out.set_ 0 _).set_ 1 _) rfl ?_
                exact sig_fin (o := none) (c1 := 0) (c2 := 0) _ _ HS.out (by omega) ⟨.inl rfl, .inl rfl⟩ F7.out rfl rfl
            · have d1 : ((g.params.length : Int) == n) = false := beq_eq_false_iff_ne.2 h1
              have hp := HP.out
              rw [if_neg h1] at hp
              subst hp
              clear HP
              go_wp2_with (first | refine ldG Tryz.underlying82 HIX.out (rangeL GX6.out) HLX.out ?_ | refine ldW Tryz.underlying82 HIX.out (rangeL GX6.out) HLX.out ?_)
              refine (none39_any _).mono ?_
              rintro e W7 ⟨rfl, f⟩
              have F7 := hid (F6.out.trans f (fun _ _ h => h))
              have GX7 := hid (GX6.out.fr f (fun x => x))
              have GW7 := hid (GW6.out.fr f (fun x => x))
              have XX7 := hid ((XX6.out).fr f)
              have BF7 := hid (BF6.out.fr f (fun x => x))
              have q0 := GW7.out.cell 0
              have q1 := GW7.out.cell 1
              have f0 := GW7.out.frozen 0
              have f1 := GW7.out.frozen 1
              clear f
              go_wp2
              refine fn_ret (x := .bool false) rfl rfl rfl ((GW7.out.set_ 0 _).set_ 1 _) rfl ?_
              exact sig_fin (o := none) (c1 := 0) (c2 := 0) _ _ HS.out (by omega) ⟨.inl rfl, .inl rfl⟩ F7.out rfl rfl
end Go.Proofs.YtiafkakkbbclhaaGreat
