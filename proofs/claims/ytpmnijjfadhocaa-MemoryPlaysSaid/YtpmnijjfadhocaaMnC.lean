/- Chapter 28: the law MemoryNone. -/
import Derived.Test.YtpmnijjfadhocaaMnB
import Derived.Test.YtpmnijjfadhocaaEq
namespace Go.Proofs.Ytpmnijjfadhocaa
open Go.RowKit

set_option maxRecDepth 100000 in
theorem eq_Lim (z : Lim) (d : Nat) (w : World) : (Op.equalIn (d + 1 + 1) 23 (.agg #[.int .i64 z.min, .int .i64 z.max, .bool z.has]) (.agg #[.int .i64 z.min, .int .i64 z.max, .bool z.has])).run Try.prog w = .ok true w := by
  have h := eq_st (P := Try.prog) (t := 23) (w := w) (d := d + 1) (xs := #[.int .i64 z.min, .int .i64 z.max, .bool z.has]) (ys := #[.int .i64 z.min, .int .i64 z.max, .bool z.has]) (by kernel_rfl) (by kernel_rfl) (eqf_cons (by decide) (run_part1 (isAgg_int Try.underlying3) rfl) (run_part1 (isAgg_int Try.underlying3) rfl) (run_equalIn_int w d _ _ _ _ _ Try.underlying3)
    (eqf_cons (by decide) (run_part1 (isAgg_int Try.underlying3) rfl) (run_part1 (isAgg_int Try.underlying3) rfl) (run_equalIn_int w d _ _ _ _ _ Try.underlying3)
    (eqf_cons (by decide) (run_part1 (isAgg_bool Try.underlying4) rfl) (run_part1 (isAgg_bool Try.underlying4) rfl) (run_equalIn_bool w d _ _ _ Try.underlying4) eqf_nil)))
  simpa using h
theorem eql_Lim (z : Lim) (w : World) : (binOp .eql 23 (.agg #[.int .i64 z.min, .int .i64 z.max, .bool z.has]) (.agg #[.int .i64 z.min, .int .i64 z.max, .bool z.has])).run Try.prog w = .ok (.bool true) w := run_eql_ag (r := true) (eq_Lim z 9998 w)
theorem nil_els (w : World) (S : Nat → Prop) (A : Option Addr) : tB.els w S A [] := .inl rfl
theorem nil_rm (w : World) : RmIn w none 0 [] := ⟨.inl rfl, fun _ => rfl, (fun _ e => by cases e), (fun _ h => by cases h), Nat.le_refl _⟩
set_option maxRecDepth 100000 in
set_option maxHeartbeats 3200000 in
theorem none_t (a : Ac) (Ab : Option Addr) (cb : Nat) (w : World) (hto : 0 ≤ a.to_ ∧ a.to_ < 18446744073709551616) (hat : 0 ≤ a.at_ ∧ a.at_ < 18446744073709551616) (hx : 0 ≤ a.x ∧ a.x < 18446744073709551616) :
    Calls Try.prog 7 #[.agg #[.int .i64 a.call, .int .i64 a.op, .int .u64 a.to_, .int .u64 a.at_, .int .u64 a.n, .int .u64 a.x, .slice Ab a.b.length cb]] w fun e w' => e = .returned (.bool true) ∧ Fr No w w' := by
  have F := hid (((Fr.refl No w).alloc (.cells #[.int .i64 a.call, .int .i64 a.op, .int .u64 a.to_, .int .u64 a.at_, .int .u64 a.n, .int .u64 a.x, .slice Ab a.b.length cb] 44)).alloc (.cells #[.int .i64 0, .int .i64 0, .bool false, .slice none 0 0] 54))
  have G := hid ((Blk.new w 44 #[.int .i64 a.call, .int .i64 a.op, .int .u64 a.to_, .int .u64 a.at_, .int .u64 a.n, .int .u64 a.x, .slice Ab a.b.length cb]).alloc (.cells #[.int .i64 0, .int .i64 0, .bool false, .slice none 0 0] 54))
  have HZ : Hid (Zero _ _) := hid (Blk.new1 w (.cells #[.int .i64 a.call, .int .i64 a.op, .int .u64 a.to_, .int .u64 a.at_, .int .u64 a.n, .int .u64 a.x, .slice Ab a.b.length cb] 44) 54 #[.int .i64 0, .int .i64 0, .bool false, .slice none 0 0])
  have he : ∀ X, (binOp .eql 23 (.agg #[.int .i64 0, .int .i64 0, .bool false]) (.agg #[.int .i64 0, .int .i64 0, .bool false])).run Try.prog X = .ok (.bool true) X := fun X => eql_Lim ⟨0, 0, false⟩ X
  have HR := hid (fun X => rmload_any ⟨0, 0, false⟩ none 0 [] a.op a.to_ a.at_ (· < X.heap.size) X (nil_els _ _ _) (fun _ x => x) (by decide) (by decide) hto hat)
  have HL := hid (fun (q : Nat) X (h : Zero X q) => load_any q none 0 [] a.op a.to_ a.at_ (· < X.heap.size) X (h.cell 3) h.lt (nil_els _ _ _) (fun _ x => x) (by decide) (by decide) hto hat)
  generalize loadR a.op [] a.to_ a.at_ = t at *
  unfold rmv at HR
  go_enter Try.func7, Try.ntmps7
  go_wp2_with fail
  generalize (w.alloc (.cells #[.int .i64 a.call, .int .i64 a.op, .int .u64 a.to_, .int .u64 a.at_, .int .u64 a.n, .int .u64 a.x, .slice Ab a.b.length cb] 44)).alloc (.cells #[.int .i64 0, .int .i64 0, .bool false, .slice none 0 0] 54) = W at *
  have y1 := G.out.cell 1
  have y2 := G.out.cell 2
  have y3 := G.out.cell 3
  have y4 := G.out.cell 4
  have y5 := G.out.cell 5
  go_wp2_with fail
  refine (load_nil a.op a.to_ a.at_ _).mono ?_
  rintro e w1 ⟨rfl, f⟩
  replace F := hid (F.out.trans f (fun _ _ h => h))
  replace G := hid (G.out.fr f (fun x => x))
  replace HZ : Hid (Zero _ _) := hid (HZ.out.fr f (fun x => x))
  clear f
  clear y1 y2 y3 y4 y5
  have y1 := G.out.cell 1
  have y2 := G.out.cell 2
  have y3 := G.out.cell 3
  have y4 := G.out.cell 4
  have y5 := G.out.cell 5
  go_wp2_with fail
  refine (HL.out _ _ HZ.out).mono ?_
  rintro e w2 ⟨rfl, f⟩
  replace F := hid (F.out.trans f (fun _ _ h => h))
  replace G := hid (G.out.fr f (fun x => x))
  replace HZ : Hid (Zero _ _) := hid (HZ.out.fr f (fun x => x))
  clear f
  clear y1 y2 y3 y4 y5
  have y1 := G.out.cell 1
  have y2 := G.out.cell 2
  have y3 := G.out.cell 3
  have y4 := G.out.cell 4
  have y5 := G.out.cell 5
  go_wp2_with fail
  refine (HR.out _).mono ?_
  rintro e w3 ⟨rfl, f⟩
  replace F := hid (F.out.trans f (fun _ _ h => h))
  replace G := hid (G.out.fr f (fun x => x))
  replace HZ : Hid (Zero _ _) := hid (HZ.out.fr f (fun x => x))
  clear f
  clear y1 y2 y3 y4 y5
  have y1 := G.out.cell 1
  have y2 := G.out.cell 2
  have y3 := G.out.cell 3
  have y4 := G.out.cell 4
  have y5 := G.out.cell 5
  go_wp2_with fail
  refine (store_nil a.op a.to_ a.at_ a.x _ hx).mono ?_
  rintro e w4 ⟨rfl, f⟩
  replace F := hid (F.out.trans f (fun _ _ h => h))
  replace G := hid (G.out.fr f (fun x => x))
  replace HZ : Hid (Zero _ _) := hid (HZ.out.fr f (fun x => x))
  clear f
  clear y1 y2 y3 y4 y5
  have y1 := G.out.cell 1
  have y2 := G.out.cell 2
  have y3 := G.out.cell 3
  have y4 := G.out.cell 4
  have y5 := G.out.cell 5
  go_wp2_with fail
  refine (fill_nil a.to_ a.x a.n _).mono ?_
  rintro e w5 ⟨rfl, f⟩
  replace F := hid (F.out.trans f (fun _ _ h => h))
  replace G := hid (G.out.fr f (fun x => x))
  replace HZ : Hid (Zero _ _) := hid (HZ.out.fr f (fun x => x))
  clear f
  clear y1 y2 y3 y4 y5
  have y1 := G.out.cell 1
  have y2 := G.out.cell 2
  have y3 := G.out.cell 3
  have y4 := G.out.cell 4
  have y5 := G.out.cell 5
  go_wp2_with fail
  refine (copy_nil1 _ a.to_ a.at_ a.n _).mono ?_
  rintro e w6 ⟨rfl, f⟩
  replace F := hid (F.out.trans f (fun _ _ h => h))
  replace G := hid (G.out.fr f (fun x => x))
  replace HZ : Hid (Zero _ _) := hid (HZ.out.fr f (fun x => x))
  clear f
  clear y1 y2 y3 y4 y5
  have y1 := G.out.cell 1
  have y2 := G.out.cell 2
  have y3 := G.out.cell 3
  have y4 := G.out.cell 4
  have y5 := G.out.cell 5
  go_wp2_with fail
  refine (copy_nil2 _ a.to_ a.at_ a.n _).mono ?_
  rintro e w7 ⟨rfl, f⟩
  replace F := hid (F.out.trans f (fun _ _ h => h))
  replace G := hid (G.out.fr f (fun x => x))
  replace HZ : Hid (Zero _ _) := hid (HZ.out.fr f (fun x => x))
  clear f
  clear y1 y2 y3 y4 y5
  have y1 := G.out.cell 1
  have y2 := G.out.cell 2
  have y3 := G.out.cell 3
  have y4 := G.out.cell 4
  have y5 := G.out.cell 5
  go_wp2_with fail
  refine (init_nil _ a.to_ a.at_ a.n _).mono ?_
  rintro e w8 ⟨rfl, f⟩
  replace F := hid (F.out.trans f (fun _ _ h => h))
  replace G := hid (G.out.fr f (fun x => x))
  replace HZ : Hid (Zero _ _) := hid (HZ.out.fr f (fun x => x))
  clear f
  clear y1 y2 y3 y4 y5
  have y1 := G.out.cell 1
  have y2 := G.out.cell 2
  have y3 := G.out.cell 3
  have y4 := G.out.cell 4
  have y5 := G.out.cell 5
  go_wp2_with fail
  refine (pages_nil _).mono ?_
  rintro e w9 ⟨rfl, rfl⟩

  go_wp2_with fail
  refine (limits_nil _).mono ?_
  rintro e w10 ⟨rfl, f⟩
  replace F := hid (F.out.trans f (fun _ _ h => h))
  replace G := hid (G.out.fr f (fun x => x))
  replace HZ : Hid (Zero _ _) := hid (HZ.out.fr f (fun x => x))
  clear f
  clear y1 y2 y3 y4 y5
  have y1 := G.out.cell 1
  have y2 := G.out.cell 2
  have y3 := G.out.cell 3
  have y4 := G.out.cell 4
  have y5 := G.out.cell 5
  go_wp2_with fail
  refine (grow_nil 0 _).mono ?_
  rintro e w11 ⟨rfl, f⟩
  replace F := hid (F.out.trans f (fun _ _ h => h))
  replace G := hid (G.out.fr f (fun x => x))
  replace HZ : Hid (Zero _ _) := hid (HZ.out.fr f (fun x => x))
  clear f
  clear y1 y2 y3 y4 y5
  have y1 := G.out.cell 1
  have y2 := G.out.cell 2
  have y3 := G.out.cell 3
  have y4 := G.out.cell 4
  have y5 := G.out.cell 5
  go_wp2_with fail
  refine (has_nil 0 0 0 _).mono ?_
  rintro e w12 ⟨rfl, rfl⟩

  go_wp2_with fail
  refine (bytes_nil _).mono ?_
  rintro e w13 ⟨rfl, rfl⟩

  go_wp2_with fail
  refine (pages_any _ none 0 0 _ (HZ.out.cell 3) (by decide)).mono ?_
  rintro e w14 ⟨rfl, rfl⟩

  go_wp2_with fail
  refine (has_any _ none 0 0 0 0 0 _ (HZ.out.cell 3) (by decide) (by decide) (by decide) (by decide)).mono ?_
  rintro e w15 ⟨rfl, rfl⟩

  go_wp2_with fail
  refine (grow_zero _ _ HZ.out).mono ?_
  rintro e w16 ⟨rfl, hz, f⟩
  replace F := hid (F.out.trans f (fun _ h1 h2 => by subst h2; omega))
  replace G := hid (G.out.fr f (fun x => by unfold One at x; omega))
  replace HZ : Hid (Zero _ _) := hid hz
  clear f hz
  clear y1 y2 y3 y4 y5
  have y1 := G.out.cell 1
  have y2 := G.out.cell 2
  have y3 := G.out.cell 3
  have y4 := G.out.cell 4
  have y5 := G.out.cell 5
  go_wp2_with fail
  refine (bytes_any _ 0 none [] _ (HZ.out.cell 3) HZ.out.lt (nil_rm _) (by decide)).mono ?_
  rintro e w17 ⟨A4, c4, rfl, _, f⟩
  replace F := hid (F.out.trans f (fun _ _ h => h))
  replace G := hid (G.out.fr f (fun x => x))
  replace HZ : Hid (Zero _ _) := hid (HZ.out.fr f (fun x => x))
  clear f
  clear y1 y2 y3 y4 y5
  have y1 := G.out.cell 1
  have y2 := G.out.cell 2
  have y3 := G.out.cell 3
  have y4 := G.out.cell 4
  have y5 := G.out.cell 5
  go_wp2_with fail
  refine (alive_any _).mono ?_
  rintro e w18 ⟨rfl, f⟩
  replace F := hid (F.out.trans f (fun _ _ h => h))
  replace G := hid (G.out.fr f (fun x => x))
  replace HZ : Hid (Zero _ _) := hid (HZ.out.fr f (fun x => x))
  clear f
  clear y1 y2 y3 y4 y5
  have y1 := G.out.cell 1
  have y2 := G.out.cell 2
  have y3 := G.out.cell 3
  have y4 := G.out.cell 4
  have y5 := G.out.cell 5
  go_wp2
  go_ret
  exact ⟨rfl, F.out⟩
theorem memoryNone_walk (w : World) (v0 : Value) (x0 : Ac) (y0 : tAc.rd w (· < w.heap.size) v0.cells.toList x0) (_u0 : tAc.lw 140737488351232 x0) (hv0 : ∃ cs, v0 = .agg cs) :
    Calls Try.prog 7 #[v0] w fun e w' => e = .returned (.bool true) ∧ Below w.heap.size w w' := by
  obtain ⟨cs, rfl⟩ := hv0
  obtain ⟨Ab, cb, hc, _, _, hto, hat, _, hx, _⟩ := Ac_cells y0
  have hcb : cs = #[.int .i64 x0.call, .int .i64 x0.op, .int .u64 x0.to_, .int .u64 x0.at_, .int .u64 x0.n, .int .u64 x0.x, .slice Ab x0.b.length cb] := by
    have : cs.toList = _ := hc
    rw [← Array.toArray_toList (xs := cs), this]
  subst hcb
  exact (none_t x0 Ab cb w (wf_u64 hto) (wf_u64 hat) (wf_u64 hx)).mono fun e w' ⟨a, b⟩ => ⟨a, b.below⟩
end Go.Proofs.Ytpmnijjfadhocaa
