/- Chapter 28: the nil memory and the zero memory. -/
import Derived.Test.YtpmnijjfadhocaaMnA
namespace Go.Proofs.Ytpmnijjfadhocaa
open Go.RowKit

theorem load_nil (op addr off : Int) (w : World) : Calls Try.prog 14 #[.pointer none, .int .i64 op, .int .u64 addr, .int .u64 off] w fun e w' => e = .returned (.tuple #[.int .u64 0, .int .i64 12]) ∧ Fr No w w' := by
  have HW := hid (width_any op w)
  go_enter Try.func14, Try.ntmps14
  go_wp2_with fail
  refine HW.out.mono ?_
  rintro e w1 ⟨rfl, f⟩
  have F := hid f
  clear f
  go_wp2
  go_ret2
  exact ⟨rfl, F.out⟩
theorem store_nil (op addr off x : Int) (w : World) (hx : 0 ≤ x ∧ x < 18446744073709551616) : Calls Try.prog 13 #[.pointer none, .int .i64 op, .int .u64 addr, .int .u64 off, .int .u64 x] w fun e w' => e = .returned (.int .i64 12) ∧ Fr No w w' := by
  have HS := hid (astore_any op x w hx)
  generalize stD op x = s at *
  go_enter Try.func13, Try.ntmps13
  go_wp2_with fail
  refine HS.out.mono ?_
  rintro e w1 ⟨D, d, rfl, hd, f⟩
  have F := hid f
  clear hd f
  go_wp2
  go_ret
  exact ⟨rfl, F.out⟩
theorem fill_nil (a b c : Int) (w : World) : Calls Try.prog 21 #[.pointer none, .int .u64 a, .int .u64 b, .int .u64 c] w fun e w' => e = .returned (.int .i64 12) ∧ Fr No w w' := by
  go_enter Try.func21, Try.ntmps21
  go_wp2
  go_ret
  exact ⟨rfl, Fr.refl _ _⟩
theorem copy_nil1 (v : Value) (a b c : Int) (w : World) : Calls Try.prog 22 #[.pointer none, v, .int .u64 a, .int .u64 b, .int .u64 c] w fun e w' => e = .returned (.int .i64 12) ∧ Fr No w w' := by
  go_enter Try.func22, Try.ntmps22
  go_wp2
  go_ret
  exact ⟨rfl, Fr.refl _ _⟩
theorem copy_nil2 (p : Nat) (a b c : Int) (w : World) : Calls Try.prog 22 #[.pointer (some ⟨p, 0, none⟩), .pointer none, .int .u64 a, .int .u64 b, .int .u64 c] w fun e w' => e = .returned (.int .i64 12) ∧ Fr No w w' := by
  go_enter Try.func22, Try.ntmps22
  go_wp2
  go_ret
  exact ⟨rfl, Fr.refl _ _⟩
theorem init_nil (v : Value) (a b c : Int) (w : World) : Calls Try.prog 16 #[.pointer none, v, .int .u64 a, .int .u64 b, .int .u64 c] w fun e w' => e = .returned (.int .i64 12) ∧ Fr No w w' := by
  go_enter Try.func16, Try.ntmps16
  go_wp2
  go_ret
  exact ⟨rfl, Fr.refl _ _⟩
theorem grow_nil (a : Int) (w : World) : Calls Try.prog 23 #[.pointer none, .int .u64 a] w fun e w' => e = .returned (.int .u64 4294967295) ∧ Fr No w w' := by
  go_enter Try.func23, Try.ntmps23
  go_wp2
  go_ret
  exact ⟨rfl, Fr.refl _ _⟩
/-- The zero memory. -/
def Zero (w : World) (p : Nat) : Prop := Blk w p 54 #[.int .i64 0, .int .i64 0, .bool false, .slice none 0 0]
theorem opwp_app00 {P : Program} {t tn e : TypeId} {z : Value} {kn kq : IntKind} {bytes : Nat} {w : World} {o : Oper} {a : Act} {K : Act → World → Prop} {Q : Exit → Act → World → Prop} {s d : Operand} {A : Option Addr}
    (E : ElemOk P t e 1 bytes z) (htn : P.underlying tn = some (.int kn)) (ho : o.op = .call { callee := .builtin .append, args := #[d, s], argTypes := #[t, tn] })
    (hd : a.eval d = .slice A 0 0) (hs : a.eval s = .int kq 0)
    (h : K (a.put o.dst (.slice A 0 0)) w) : o.wp P a w K Q := by
  obtain ⟨i, hi, hz0, _⟩ := E.info
  unfold Oper.wp execOp
  simp only [ho, resolve, invoke, builtin, Sem.run_bind, Sem.run_pure, Result.andThen_ok, List.map_toArray, List.map_cons, List.map_nil, hs, hd, run_app_none0 w t tn o.type e i z kq kn E.slice htn hi hz0 A 0 0 (Nat.le_refl _) (by decide)]
  exact h
theorem grow_zero (p : Nat) (w : World) (hZ : Zero w p) : Calls Try.prog 23 #[.pointer (some ⟨p, 0, none⟩), .int .u64 0] w fun e w' => e = .returned (.int .u64 0) ∧ Zero w' p ∧ Fr (One p) w w' := by
  have HN := hid (fun W => lo_any 0 W (by decide))
  rw [show lo 0 = 0 from rfl] at HN
  have c1 := hZ.cell 1
  have c2 := hZ.cell 2
  have c3 := hZ.cell 3
  have q3 := hZ.frozen 3
  have HP := hid (pages_any p none 0 0 w c3 (by omega))
  have HB := hid hZ
  go_enter Try.func23, Try.ntmps23
  go_wp2_with fail
  refine HP.out.mono ?_
  rintro e w' ⟨rfl, rfl⟩
  go_wp2_with fail
  refine (HN.out _).mono ?_
  rintro e w' ⟨rfl, rfl⟩
  go_wp2_with fail
  have hw1 : IntKind.i64.wrap ((0 : Nat) : Int) = 0 := by decide
  have hw2 : IntKind.i64.wrap (0 * 256) = 0 := by decide
  refine wp_region_ord (fun X => X.cell? ⟨p, 3, none⟩ = some (.slice none 0 0)) [12] [(0, true), (1, true), (2, true), (3, true), (4, true), (5, true), (6, false), (7, true), (8, true), (9, false), (10, true), (11, true), (12, false)] (by kernel_rfl) (by kernel_rfl) (by kernel_rfl) rfl c3 ?_
  repeat (first
    | (refine wpO_skip rfl rfl ?_; simp only [List.getElem_toArray, List.getElem_cons_succ, List.getElem_cons_zero, Act.put, List.setIfInBounds_toArray, List.set_cons_zero, List.set_cons_succ])
    | (refine wpO_call rfl rfl ?_; simp only [List.getElem_toArray, List.getElem_cons_succ, List.getElem_cons_zero]; apply Exists.intro; refine ⟨fun X hX => ?_, ?_⟩
       · (have s0 := hX; go_simp; exact stillUpon_value)
       simp only [Act.put, List.setIfInBounds_toArray, List.set_cons_zero, List.set_cons_succ]))
  refine wpO_eff rfl rfl (fun K hK => ?_)
  simp only [List.getElem_toArray, List.getElem_cons_succ, List.getElem_cons_zero]
  go_simp
  refine (HN.out _).mono ?_
  rintro e w' ⟨rfl, rfl⟩
  refine hK _ _ (fun _ => c3) ?_
  clear hK K
  repeat (first
    | (refine wpO_skip rfl rfl ?_; simp only [List.getElem_toArray, List.getElem_cons_succ, List.getElem_cons_zero, Act.put, List.setIfInBounds_toArray, List.set_cons_zero, List.set_cons_succ])
    | (refine wpO_call rfl rfl ?_; simp only [List.getElem_toArray, List.getElem_cons_succ, List.getElem_cons_zero]; apply Exists.intro; refine ⟨fun X hX => ?_, ?_⟩
       · (have s0 := hX; go_simp; exact stillUpon_value)
       simp only [Act.put, List.setIfInBounds_toArray, List.set_cons_zero, List.set_cons_succ]))
  refine wpO_eff rfl rfl (fun K hK => ?_)
  simp only [List.getElem_toArray, List.getElem_cons_succ, List.getElem_cons_zero]
  refine opwp_app00 elBs Try.underlying3 rfl rfl rfl ?_
  refine hK _ _ (fun _ => c3) ?_
  clear hK K
  simp only [Act.put, List.setIfInBounds_toArray, List.set_cons_zero, List.set_cons_succ]
  have HD := hid HB.out.drew
  have z3 := HD.out.cell 3
  have qd3 := HD.out.frozen 3
  have hlt := HD.out.lt
  repeat (first
    | (refine wpO_skip rfl rfl ?_; simp only [List.getElem_toArray, List.getElem_cons_succ, List.getElem_cons_zero, Act.put, List.setIfInBounds_toArray, List.set_cons_zero, List.set_cons_succ])
    | (refine wpO_call rfl rfl ?_; simp only [List.getElem_toArray, List.getElem_cons_succ, List.getElem_cons_zero]; apply Exists.intro; refine ⟨fun X hX => ?_, ?_⟩
       · (have s0 := hX; go_simp; exact stillUpon_value)
       simp only [Act.put, List.setIfInBounds_toArray, List.set_cons_zero, List.set_cons_succ]))
  refine wpO_eff rfl rfl (fun K hK => ?_)
  simp only [List.getElem_toArray, List.getElem_cons_succ, List.getElem_cons_zero]
  go_simp
  refine hK _ _ (fun h => by cases h) ?_
  clear hK K
  refine wpO_nil ?_
  have HFIN : Hid (Zero (w.drew.setCell ⟨p, 3, none⟩ (.slice none 0 0)) p) := by
    have := HD.out.set_ 3 (.slice none 0 0)
    exact hid (by simpa [Zero] using this)
  have F9 := hid ((Fr.refl (One p) w).drew.setCell ⟨p, 3, none⟩ (.slice none 0 0) (fun _ => rfl))
  clear z3 qd3
  go_wp2
  go_ret
  exact ⟨rfl, HFIN.out, F9.out⟩
end Go.Proofs.Ytpmnijjfadhocaa
