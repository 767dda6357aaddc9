/- Chapter 46: equality of places. -/
import Derived.Test.YtiafkakkbbclhaaSlK
import Derived.Test.YtiafkakkbbclhaaSlR
import Derived.Test.YtiafkakkbbclhaaEq
import Derived.ChangeKeysEq
namespace Go.Proofs.Ytiafkakkbbclhaa
open Go.RowKit

theorem eq_Pr (a b c d : Int) (w : World) : (Op.equalIn 10000 50 (.agg #[.int .i64 a, .int .i64 b]) (.agg #[.int .i64 c, .int .i64 d])).run Try.prog w = .ok (decide (a = c) && decide (b = d)) w := by
  obtain ⟨i, hi, _⟩ := Option.map_eq_some_iff.1 (show (Try.prog.info? 3).map (·.size) = some 1 by kernel_rfl)
  have hc : Try.prog.cellsOf 3 = 1 := by kernel_rfl
  have hp := fun (cs : Array Value) (off : Nat) (v : Value) (hv : cs[off]? = some v) => run_part1 (P := Try.prog) (t := 3) (w := w) (cs := cs) (off := off) (v := v) (isAgg_int Try.underlying3) hv
  rw [show (10000 : Nat) = 9999 + 1 from rfl, run_equalIn_array w 9999 _ _ Try.underlying50 hi, hc]
  simp only [show List.range 2 = [0, 1] from rfl, Op.eqItems, Sem.run_bind]
  rw [hp #[.int .i64 a, .int .i64 b] (0 * 1) (.int .i64 a) rfl]
  simp only [Result.andThen_ok]
  rw [hp #[.int .i64 c, .int .i64 d] (0 * 1) (.int .i64 c) rfl]
  simp only [Result.andThen_ok]
  rw [run_equalIn_int w 9998 _ _ _ _ _ Try.underlying3]
  simp only [Result.andThen_ok]
  by_cases h : a = c
  · subst h
    simp only [decide_true, Bool.not_true, Bool.false_eq_true, if_false, Bool.true_and, Sem.run_bind, beq_self_eq_true]
    rw [hp #[.int .i64 a, .int .i64 b] (1 * 1) (.int .i64 b) rfl]
    simp only [Result.andThen_ok]
    rw [hp #[.int .i64 a, .int .i64 d] (1 * 1) (.int .i64 d) rfl]
    simp only [Result.andThen_ok]
    rw [run_equalIn_int w 9998 _ _ _ _ _ Try.underlying3]
    by_cases h2 : b = d <;> simp [h2]
  · simp [h]
theorem run_eql_Pr (a b c d : Int) (w : World) : (binOp .eql 50 (.agg #[.int .i64 a, .int .i64 b]) (.agg #[.int .i64 c, .int .i64 d])).run Try.prog w = .ok (.bool (decide (a = c) && decide (b = d))) w := run_eql_ag (eq_Pr a b c d w)
theorem run_neq_Pr (a b : Int) (w : World) : (binOp .neq 50 (.agg #[.int .i64 a, .int .i64 b]) (.agg #[.int .i64 a, .int .i64 b])).run Try.prog w = .ok (.bool false) w := by
  have h := eq_Pr a b a b w
  simp only [decide_true, Bool.and_self] at h
  exact run_neq_ag (r := true) h
end Go.Proofs.Ytiafkakkbbclhaa
