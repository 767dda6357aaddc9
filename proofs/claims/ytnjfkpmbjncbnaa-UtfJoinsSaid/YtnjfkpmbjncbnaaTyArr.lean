/- Arrays that came in. No condition. -/
import Derived.Test.YtnjfkpmbjncbnaaTy
import Derived.WideShapes
import Derived.OpenShut
namespace Go.Proofs.Ytnjfkpmbjncbnaa
open Go.RowKit

theorem okWide_arr {P : Program} {w : World} {r : Reach} {base : Nat} {t : TypeId} {v : Value} {n : Nat} {e : TypeId} (ht : P.underlying t = some (.array n e)) (h : Value.okWide P w r base t v) : ∃ cs, v = .agg cs := by
  simp only [Value.okWide, ht] at h
  obtain ⟨cs, h1, _⟩ := h
  exact ⟨cs, h1⟩

theorem opens_array2 {α : Type} {P : Program} {t e : TypeId} {ty : Ty α} (hu : P.underlying t = some (.array 2 e)) (hsz : P.cellsOf e = ty.size) (ht : P.cellsOf t = ty.size + ty.size) (ho : Opens P e ty) : Opens P t (ty.pair ty) := by
  intro H enc w fuel cs x h
  obtain ⟨xs, m, _, hx, hl, hxl, hc⟩ := DataW.trod_array hu h
  rw [hsz] at hc
  rw [ht] at hl
  match xs, hxl with
  | [a, b], _ =>
    have h0 := hc 0 (by omega)
    have h1 := hc 1 (by omega)
    simp only [Nat.zero_mul, List.drop_zero, Nat.one_mul, List.getElem?_cons_zero, List.getElem?_cons_succ] at h0 h1
    obtain ⟨y, r1, r2⟩ := ho H enc w m _ _ h0
    obtain ⟨z, s1, s2⟩ := ho H enc w m _ _ h1
    rw [List.take_of_length_le (by simp; omega)] at s1
    refine ⟨(y, z), ⟨_, _, (List.take_append_drop ty.size cs).symm, r1, s1⟩, fun k hk => ?_⟩
    subst hx
    simp only [List.map_cons, List.map_nil, Rows.uptoBulk, Rows.uptoBulkAll] at hk
    exact ⟨r2 k (by omega), s2 k (by omega)⟩
theorem opens_array3 {α : Type} {P : Program} {t e : TypeId} {ty : Ty α} (hu : P.underlying t = some (.array 3 e)) (hsz : P.cellsOf e = ty.size) (ht : P.cellsOf t = ty.size + (ty.size + ty.size)) (ho : Opens P e ty) : Opens P t (ty.pair (ty.pair ty)) := by
  intro H enc w fuel cs x h
  obtain ⟨xs, m, _, hx, hl, hxl, hc⟩ := DataW.trod_array hu h
  rw [hsz] at hc
  rw [ht] at hl
  match xs, hxl with
  | [a, b, c], _ =>
    have h0 := hc 0 (by omega)
    have h1 := hc 1 (by omega)
    have h2 := hc 2 (by omega)
    simp only [Nat.zero_mul, List.drop_zero, Nat.one_mul, List.getElem?_cons_zero, List.getElem?_cons_succ] at h0 h1 h2
    obtain ⟨y, r1, r2⟩ := ho H enc w m _ _ h0
    obtain ⟨z, s1, s2⟩ := ho H enc w m _ _ h1
    obtain ⟨u, t1, t2⟩ := ho H enc w m _ _ h2
    rw [List.take_of_length_le (by simp; omega)] at t1
    refine ⟨(y, z, u), ⟨_, _, (List.take_append_drop ty.size cs).symm, r1, _, _, (List.take_append_drop ty.size (cs.drop ty.size)).symm, s1, ?_⟩, fun k hk => ?_⟩
    · rw [List.drop_drop]
      have e : 2 * ty.size = ty.size + ty.size := by omega
      rw [e] at t1
      exact t1
    · subst hx
      simp only [List.map_cons, List.map_nil, Rows.uptoBulk, Rows.uptoBulkAll] at hk
      exact ⟨r2 k (by omega), s2 k (by omega), t2 k (by omega)⟩
end Go.Proofs.Ytnjfkpmbjncbnaa
