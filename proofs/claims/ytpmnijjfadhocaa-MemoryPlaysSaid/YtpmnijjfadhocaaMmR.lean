/- Chapter 28: append of zeros. -/
import Derived.Test.YtpmnijjfadhocaaMmQ
import Derived.Lib.AppendZerosOnto
namespace Go.Proofs.Ytpmnijjfadhocaa
open Go.RowKit

theorem run_app_fit {P : Program} (w : World) (t tn ty e : TypeId) (i : TypeInfo) (z : Value) (kq kn : IntKind) (ht : P.underlying t = some (.slice e)) (htn : P.underlying tn = some (.int kn)) (hi : P.info? e = some i) (hz : i.zero = some z) (hs : i.size = 1) (hzc : z.cells = #[z]) (h1 : z.oneCell' = true)
    (q sLen sCap k : Nat) (h0 : 0 < k) (hfit : sLen + k ≤ sCap) (h63 : ((sLen + k : Nat) : Int) ≤ 9223372036854775807) (h48 : k * i.bytes ≤ 281474976710656)
    (hc : ∀ j, j < k → (w.cell? ⟨q, sLen + j, none⟩).isSome = true) (hf : ∀ j, j < k → w.frozen? ⟨q, sLen + j, none⟩ = false) :
    (Builtin.append_ #[t, tn] ty #[.slice (some ⟨q, 0, none⟩) sLen sCap, .int kq k]).run P w = .ok (.slice (some ⟨q, 0, none⟩) (sLen + k) sCap) (w.setCells q sLen (List.replicate k z)) := by
  have hk : k ≠ 0 := by omega
  have hw : IntKind.i64.wrap (k : Int) = k := by rw [IntKind.wrap_i64]; omega
  have h63' : ¬ (9223372036854775807 < ((sLen : Int) + (k : Int))) := by omega
  have h48i : ¬ (281474976710656 < (k : Int) * (i.bytes : Int)) := by
    rw [← Int.natCast_mul]
    omega
  have hneg : ¬ ((k : Int) < 0) := by omega
  have hzl : (Builtin.zeroCells z.cells k).toList = List.replicate k z := by
    rw [hzc]
    simp [Builtin.zeroCells]
    apply List.ext_getElem
    · simp
    · intro i h1 h2
      simp [Nat.mod_one]
  have hst := run_storeCells_cells (P := P) q sLen (List.replicate k z) 0 w (by simpa using hc) (by simpa using hf) (by intro v hv'; rw [List.eq_of_mem_replicate hv']; exact h1)
  simp only [Nat.add_zero] at hst
  simp [Builtin.append_, run_underlying ht, run_underlying htn, sizeOf, typeInfo, zeroValue, hi, hz, asInt, asIntOf, hw, hfit, hneg, h63', h48i, hs, hk, hzl]
  rw [add_lit', Nat.zero_add, hst]; rfl
theorem run_app_none0 {P : Program} (w : World) (t tn ty e : TypeId) (i : TypeInfo) (z : Value) (kq kn : IntKind) (ht : P.underlying t = some (.slice e)) (htn : P.underlying tn = some (.int kn)) (hi : P.info? e = some i) (hz : i.zero = some z)
    (a : Option Addr) (sLen sCap : Nat) (hfit : sLen ≤ sCap) (h63 : (sLen : Int) ≤ 9223372036854775807) :
    (Builtin.append_ #[t, tn] ty #[.slice a sLen sCap, .int kq 0]).run P w = .ok (.slice a sLen sCap) w := by
  have hw : IntKind.i64.wrap (0 : Int) = 0 := by decide
  cases a <;> simp [Builtin.append_, run_underlying ht, run_underlying htn, sizeOf, typeInfo, zeroValue, hi, hz, asInt, asIntOf, hw, hfit, Builtin.zeroCells, storeCells]
theorem owns_rebase {w : World} {base q n c : Nat} {e : TypeId} {xs : List Value} (h : w.ownsRow 0 e 1 (.slice (some ⟨q, 0, none⟩) n c) n xs) (hq : base ≤ q) : w.ownsRow base e 1 (.slice (some ⟨q, 0, none⟩) n c) n xs := by
  refine ⟨h.1, ?_⟩
  rcases h.2 with ⟨h', _⟩ | ⟨g, cap, cur, e1, _, rest⟩
  · cases h'
  · injection e1 with e2 _ e3
    injection e2 with e2
    injection e2 with e2
    subst e2 e3
    exact .inr ⟨q, c, cur, rfl, hq, rest⟩
theorem own_long {w : World} {q c k : Nat} {e : TypeId} {xs : List Value} (h : Own w q e c xs) (hk : xs.length + k ≤ c) : ∃ ys, ys.length = k ∧ Own w q e c (xs ++ ys) := by
  obtain ⟨cur, hb, h1, h2, h3, h4⟩ := h.cur
  refine ⟨(cur.toList.drop xs.length).take k, by simp; omega, Own.mk hb (by simp; omega) h2 h3 ?_⟩
  have e1 : (xs ++ (cur.toList.drop xs.length).take k).length = xs.length + k := by simp; omega
  rw [e1, List.take_add, h4]
theorem own_zeros {P : Program} {t tn e : TypeId} {z : Value} {kn : IntKind} {bytes : Nat} (E : ElemOk P t e 1 bytes z) (htn : P.underlying tn = some (.int kn)) (hzc : z.cells = #[z]) (hz1 : z.oneCell' = true) (w : World) (ty : TypeId) (kq : IntKind) {q c : Nat} {xs : List Value} (k : Nat) (hown : Own w q e c xs) (hx : xs.length ≤ 1000000) (hk : k ≤ 1000000) (hb : bytes ≤ 64) :
    ∃ (q' c' : Nat) (w' : World), (Builtin.append_ #[t, tn] ty #[.slice (some ⟨q, 0, none⟩) xs.length c, .int kq (k : Int)]).run P w = .ok (.slice (some ⟨q', 0, none⟩) (xs.length + k) c') w' ∧ Own w' q' e c' (xs ++ List.replicate k z) ∧ Fr (One q) w w' ∧ (q' = q ∨ q' = w.heap.size) := by
  obtain ⟨i, hi, hz0, hs, hbb⟩ := E.info
  obtain ⟨cur, hbk, l1, l2, l3, l4⟩ := hown.cur
  have hkb : k * i.bytes ≤ 281474976710656 := by rw [hbb]; exact Nat.le_trans (Nat.mul_le_mul hk hb) (by decide)
  rcases Nat.eq_zero_or_pos k with h0 | h0
  · subst h0
    exact ⟨q, c, w, run_app_none0 w t tn ty e i z kq kn E.slice htn hi hz0 _ _ _ l1 (by omega), by simpa using hown, Fr.refl _ _, .inl rfl⟩
  · by_cases hfit : xs.length + k ≤ c
    · obtain ⟨ys, hy, ho⟩ := own_long hown hfit
      have hlen : (xs ++ ys).length = xs.length + k := by simp [hy]
      have hrun := run_app_fit (P := P) w t tn ty e i z kq kn E.slice htn hi hz0 hs hzc hz1 q xs.length c k h0 hfit (by omega) hkb
        (fun j hj => by rw [ho.cell (xs.length + j) (by rw [hlen]; omega)]; rfl) (fun j _ => ho.frozen (xs.length + j))
      have h2 := own_setCells (List.replicate k z) xs.length w (xs ++ ys) ho (by rw [hlen]; simp)
      have e2 : splice (xs ++ ys) xs.length (List.replicate k z) = xs ++ List.replicate k z := by
        rw [splice, List.take_left, List.length_replicate, List.drop_eq_nil_of_le (by omega), List.append_nil]
      rw [e2] at h2
      exact ⟨q, c, _, hrun, h2, fr_setCells _ _ _ _ (Fr.refl _ w) (fun _ => rfl), .inl rfl⟩
    · have hcells : ∀ j v, xs[j]? = some v → w.drew.cell? ((⟨q, 0, none⟩ : Addr).add j) = some v := fun j v hv => by
        rw [add_lit', Nat.zero_add]
        obtain ⟨hj, rfl⟩ := List.getElem?_eq_some_iff.1 hv
        exact hown.cell j hj
      have hold := run_firstCells_some (P := P) (w := w.drew) i.size xs.length ⟨q, 0, none⟩ xs.length c xs (by rw [hs, Nat.mul_one]) hcells
      have hrun := Go.Lib.run_append_grow_zeros (P := P) w t tn ty e i z kq kn E.slice htn hi hz0 (some ⟨q, 0, none⟩) xs.length c xs hold k h0 (by rw [hs]; omega) (by omega) (by omega) hkb
        (growslice_fits (by omega) (by rw [hbb]; exact Nat.le_trans (Nat.mul_le_mul (show xs.length + k ≤ 2000000 by omega) hb) (by decide)))
      have hzl : ∀ m, (Builtin.zeroCells z.cells m) = (List.replicate m z).toArray := fun m => by
        rw [hzc]
        apply Array.ext'
        simp [Builtin.zeroCells]
        apply List.ext_getElem
        · simp
        · intro i h1 h2
          simp [Nat.mod_one]
      rw [hzl, hzl] at hrun
      have hge := grownCap_ge w (xs.length + k) c e
      have hle := grownCap_le_maxLen w (xs.length + k) c e (by simp only [maxLen]; omega)
      refine ⟨w.heap.size, _, _, hrun, Own.mk (Blk.new w.drew e _) (by simp; omega) hle (by simp; omega) ?_, (Fr.refl _ w).drew.alloc _, .inr rfl⟩
      have e3 : (xs ++ List.replicate k z).length = xs.length + k := by simp
      rw [e3]
      simp only [List.append_toArray]
      rw [List.take_append_of_le_length (by simp), List.take_of_length_le (by simp)]
end Go.Proofs.Ytpmnijjfadhocaa
