/- Equality of structs and arrays, field by field, as run equations. No condition. -/
import Derived.Laws.StructEq
import Derived.KernelRfl
namespace Go.Proofs.Ythggdemiddjlgaa

section
variable {P : Program} {t : TypeId} {w : World}
theorem isAgg_int {k : IntKind} (h : P.underlying t = some (.int k)) : (isAgg t).run P w = .ok false w := by simp [isAgg, run_underlying h]
theorem isAgg_bool (h : P.underlying t = some .bool) : (isAgg t).run P w = .ok false w := by simp [isAgg, run_underlying h]
theorem isAgg_str (h : P.underlying t = some .string) : (isAgg t).run P w = .ok false w := by simp [isAgg, run_underlying h]
theorem run_part1 {cs : Array Value} {off : Nat} {v : Value} (h : (isAgg t).run P w = .ok false w) (hv : cs[off]? = some v) : (part t cs off).run P w = .ok v w := by
  simp [part, h, hv]
theorem isAgg_st {fs : Array Field} (h : P.underlying t = some (.struct fs)) : (isAgg t).run P w = .ok true w := by simp [isAgg, run_underlying h]
theorem run_partN {cs : Array Value} {off n : Nat} {i : TypeInfo} (h : (isAgg t).run P w = .ok true w) (hi : P.info? t = some i) (hn : i.size = n) : (part t cs off).run P w = .ok (.agg (cs.extract off (off + n))) w := by
  simp [part, h, sizeOf, typeInfo, hi, hn]
theorem eqf_nil {d : Nat} {xs ys : Array Value} : (Op.eqFields d xs ys []).run P w = .ok true w := rfl
theorem eqf_cons {d : Nat} {xs ys : Array Value} {f : Field} {fs : List Field} {a b : Value} {r s : Bool} (hn : f.name ≠ "_") (ha : (part f.type xs f.offset).run P w = .ok a w) (hb : (part f.type ys f.offset).run P w = .ok b w)
    (he : (Op.equalIn d f.type a b).run P w = .ok r w) (h : (Op.eqFields d xs ys fs).run P w = .ok s w) : (Op.eqFields d xs ys (f :: fs)).run P w = .ok (r && s) w := by
  rw [Op.eqFields, if_pos hn]
  simp only [Sem.run_bind, ha, hb, he, Result.andThen_ok]
  cases r <;> simp [h]
theorem eq_st {d : Nat} {xs ys : Array Value} {r : Bool} (ht : P.underlying t = some (.struct (P.fieldsOf t))) (hp : P.stoodInHeld t = false) (h : (Op.eqFields d xs ys (P.fieldsOf t).toList).run P w = .ok r w) :
    (Op.equalIn (d + 1) t (.agg xs) (.agg ys)).run P w = .ok r w := by rw [run_equalIn_struct w d t xs ys ht hp, h]
theorem run_neq_ag {xs ys : Array Value} {r : Bool} (h : (Op.equalIn 10000 t (.agg xs) (.agg ys)).run P w = .ok r w) : (binOp .neq t (.agg xs) (.agg ys)).run P w = .ok (.bool (!r)) w := by
  rw [run_neq_struct, h]; rfl
theorem run_eql_ag {xs ys : Array Value} {r : Bool} (h : (Op.equalIn 10000 t (.agg xs) (.agg ys)).run P w = .ok r w) : (binOp .eql t (.agg xs) (.agg ys)).run P w = .ok (.bool r) w := by
  rw [run_eql_struct, h]; rfl
end
end Go.Proofs.Ythggdemiddjlgaa
