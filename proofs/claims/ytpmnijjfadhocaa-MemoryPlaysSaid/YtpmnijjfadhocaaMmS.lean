/- Chapter 28: Grow of the program. -/
import Derived.Test.YtpmnijjfadhocaaMmR
namespace Go.Proofs.Ytpmnijjfadhocaa
open Go.RowKit

theorem opwp_app0 {P : Program} {t tn e : TypeId} {z : Value} {kn kq : IntKind} {bytes : Nat} {w : World} {o : Oper} {a : Act} {K : Act → World → Prop} {Q : Exit → Act → World → Prop} {s x : Operand} {q c n k : Nat} {xs : List Value} (E : ElemOk P t e 1 bytes z) (htn : P.underlying tn = some (.int kn)) (hzc : z.cells = #[z]) (hz1 : z.oneCell' = true)
    (ho : o.op = .call { callee := .builtin .append, args := #[s, x], argTypes := #[t, tn] })
    (hs : a.eval s = .slice (some ⟨q, 0, none⟩) n c) (hx : a.eval x = .int kq (k : Int)) (hown : Own w q e c xs) (hn : xs.length = n) (hl : xs.length ≤ 1000000) (hk : k ≤ 1000000) (hb : bytes ≤ 64)
    (h : ∀ (q' c' : Nat) (w' : World), Own w' q' e c' (xs ++ List.replicate k z) → Fr (One q) w w' → (q' = q ∨ q' = w.heap.size) → K (a.put o.dst (.slice (some ⟨q', 0, none⟩) (xs.length + k) c')) w') : o.wp P a w K Q := by
  subst hn
  obtain ⟨q', c', w', hrun, h2, h3, h4⟩ := own_zeros E htn hzc hz1 w o.type kq k hown hl hk hb
  unfold Oper.wp execOp
  simp only [ho, resolve, invoke, builtin, Sem.run_bind, Sem.run_pure, Result.andThen_ok, List.map_toArray, List.map_cons, List.map_nil, hs, hx, hrun]
  exact h q' c' w' h2 h3 h4
def most (l : Lim) : Int := if l.has then l.max else 256
def growR (l : Lim) (B : List Int) (m : Nat) : List Int × Int := if (m : Int) ≤ most l - (B.length / 256 : Nat) then (B ++ List.replicate (m * 256) 0, ((B.length / 256 : Nat) : Int)) else (B, 4294967295)
def MgTo (p q : Nat) (l : Lim) (B : List Int) (r : Int) (w : World) (e : Ending) (w' : World) : Prop :=
  e = .returned (.int .u64 r) ∧ ∃ q' c', Mo w' p q' c' l B ∧ Fr (Two p q) w w' ∧ (q' = q ∨ w.heap.size ≤ q')
set_option maxRecDepth 100000 in
set_option maxHeartbeats 3200000 in
theorem mgrow_any (p q c : Nat) (l : Lim) (B : List Int) (xn : Int) (w : World) (hM : Mo w p q c l B) (hn : B.length ≤ 65536) (hw : ((B.length / 256 : Nat) : Int) ≤ most l) (hm : most l ≤ 256) (h3 : 0 ≤ xn ∧ xn < 18446744073709551616) :
    Calls Try.prog 23 #[.pointer (some ⟨p, 0, none⟩), .int .u64 xn] w (MgTo p q l (growR l B (lo xn)).1 (growR l B (lo xn)).2 w) := by
  have HN := hid (fun W => lo_any xn W h3)
  have b3 := lo_lt xn
  have HM := hid hM
  have c1 := hM.hp.cell 1
  have c2 := hM.hp.cell 2
  have c3 := hM.hp.cell 3
  have HP := hid (pages_any p (some ⟨q, 0, none⟩) B.length c w c3 (by omega))
  generalize lo xn = n at *
  have hb := hM.bts
  unfold growR
  have HBS := hid (rfl : B.length = B.length)
  generalize hwas : B.length / 256 = s at *
  have hs : s * 256 ≤ B.length := by omega
  clear hM h3 hwas HBS
  cases hhas : l.has with
  | false =>
    have hmo : most l = 256 := by rw [most, hhas]; rfl
    rw [hmo] at hw ⊢
    rw [hhas] at c2
    by_cases hg : (n : Int) ≤ 256 - s
    · rw [if_pos hg]
      go_enter Try.func23, Try.ntmps23
      go_wp2_with fail
      refine HP.out.mono ?_
      rintro e w' ⟨rfl, rfl⟩
      go_wp2_with fail
      refine (HN.out _).mono ?_
      rintro e w' ⟨rfl, rfl⟩
      go_wp2_with fail
      have hn9 : n * 256 ≤ 1000000 := by omega
      have hw1 : IntKind.i64.wrap (n : Int) = n := by rw [IntKind.wrap_i64]; omega
      have hw2 : IntKind.i64.wrap ((n : Int) * 256) = ((n * 256 : Nat) : Int) := by rw [IntKind.wrap_i64]; omega
      refine wp_region_ord (fun X => X.cell? ⟨p, 3, none⟩ = some (.slice (some ⟨q, 0, none⟩) B.length c)) [12] [(0, true), (1, true), (2, true), (3, true), (4, true), (5, true), (6, false), (7, true), (8, true), (9, false), (10, true), (11, true), (12, false)] (by kernel_rfl) (by kernel_rfl) (by kernel_rfl) rfl c3 ?_
      repeat (first
        | (refine wpO_skip rfl rfl ?_; simp only [List.getElem_toArray, List.getElem_cons_succ, List.getElem_cons_zero, Act.put, List.setIfInBounds_toArray, List.set_cons_zero, List.set_cons_succ])
        | (refine wpO_call rfl rfl ?_; simp only [List.getElem_toArray, List.getElem_cons_succ, List.getElem_cons_zero]; apply Exists.intro; refine ⟨fun X hX => ?_, ?_⟩
           · (have s0 := hX; go_simp; exact stillUpon_value)
           simp only [Act.put, List.setIfInBounds_toArray, List.set_cons_zero, List.set_cons_succ]))
      refine wpO_eff rfl rfl (fun K hK => ?_)
      simp only [List.getElem_toArray, List.getElem_cons_succ, List.getElem_cons_zero]
      go_simp
      refine (HN.out _).mono ?_
      rintro e w' ⟨rfl, rfl⟩
      refine hK _ _ (fun _ => c3) ?_
      clear hK K
      repeat (first
        | (refine wpO_skip rfl rfl ?_; simp only [List.getElem_toArray, List.getElem_cons_succ, List.getElem_cons_zero, Act.put, List.setIfInBounds_toArray, List.set_cons_zero, List.set_cons_succ])
        | (refine wpO_call rfl rfl ?_; simp only [List.getElem_toArray, List.getElem_cons_succ, List.getElem_cons_zero]; apply Exists.intro; refine ⟨fun X hX => ?_, ?_⟩
           · (have s0 := hX; go_simp; exact stillUpon_value)
           simp only [Act.put, List.setIfInBounds_toArray, List.set_cons_zero, List.set_cons_succ]))
      refine wpO_eff rfl rfl (fun K hK => ?_)
      simp only [List.getElem_toArray, List.getElem_cons_succ, List.getElem_cons_zero]
      refine opwp_app0 (xs := Ks .u8 B) (k := n * 256) elBs Try.underlying3 rfl rfl rfl rfl rfl (HM.out.frNo (Fr.refl No w).drew).own (by simp) (by simp; omega) hn9 (by omega) ?_
      intro q' c' w3 hown f hq
      have hne := HM.out.ne
      have HP3 := hid (HM.out.hp.drew.fr f (fun x => hne x))
      have e9 : Ks .u8 B ++ List.replicate (n * 256) (Value.int .u8 0) = Ks .u8 (B ++ List.replicate (n * 256) 0) := by simp [Ks]
      rw [e9] at hown
      have HO := hid hown
      have F3 := hid ((Fr.refl (One q) w).drew.trans f (fun _ _ h => h))
      have HQ := hid hq
      clear hown f hq e9
      refine hK _ _ (fun _ => HP3.out.cell 3) ?_
      clear hK K
      simp only [Act.put, List.setIfInBounds_toArray, List.set_cons_zero, List.set_cons_succ]
      repeat (first
        | (refine wpO_skip rfl rfl ?_; simp only [List.getElem_toArray, List.getElem_cons_succ, List.getElem_cons_zero, Act.put, List.setIfInBounds_toArray, List.set_cons_zero, List.set_cons_succ])
        | (refine wpO_call rfl rfl ?_; simp only [List.getElem_toArray, List.getElem_cons_succ, List.getElem_cons_zero]; apply Exists.intro; refine ⟨fun X hX => ?_, ?_⟩
           · (have s0 := hX; go_simp; exact stillUpon_value)
           simp only [Act.put, List.setIfInBounds_toArray, List.set_cons_zero, List.set_cons_succ]))
      have z3 := HP3.out.cell 3
      have q3 := HP3.out.frozen 3
      have hlt := HP3.out.lt
      refine wpO_eff rfl rfl (fun K hK => ?_)
      simp only [List.getElem_toArray, List.getElem_cons_succ, List.getElem_cons_zero]
      go_simp
      refine hK _ _ (fun h => by cases h) ?_
      clear hK K
      refine wpO_nil ?_
      have hlB : (Ks .u8 B).length = B.length := by simp
      have FZ := (Fr.refl (One p) w3).setCell ⟨p, 3, none⟩ (.slice (some ⟨q', 0, none⟩) (B.length + n * 256) c') (fun _ => rfl)
      have hpq : p ≠ q' := by
        rcases HQ.out with h | h
        · rw [h]; exact HM.out.ne
        · rw [h]; exact Nat.ne_of_lt HM.out.hp.lt
      have hfin : Mo (w3.setCell ⟨p, 3, none⟩ (.slice (some ⟨q', 0, none⟩) (B.length + n * 256) c')) p q' c' l (B ++ List.replicate (n * 256) 0) := by
        refine ⟨?_, HO.out.fr FZ (fun h => hpq h.symm), Bts.app HM.out.bts (zeros_bts _)⟩
        have := HP3.out.set_ 3 (.slice (some ⟨q', 0, none⟩) (B.length + n * 256) c')
        simpa using this
      have HFIN := hid hfin
      have F9 := hid ((F3.out.mono (M := Two p q) (fun _ _ h => .inr h)).trans FZ (fun _ _ h => .inl h))
      clear hfin FZ z3 q3
      go_wp2
      go_ret
      refine ⟨?_, q', c', by simpa using HFIN.out, by simpa using F9.out, ?_⟩
      · first | rfl | exact ret_int (by omega)
      · rcases HQ.out with h | h
        · exact .inl h
        · exact .inr (Nat.le_of_eq h.symm)
    · rw [if_neg hg]
      go_enter Try.func23, Try.ntmps23
      go_wp2_with fail
      refine HP.out.mono ?_
      rintro e w' ⟨rfl, rfl⟩
      go_wp2_with fail
      refine (HN.out _).mono ?_
      rintro e w' ⟨rfl, rfl⟩
      go_wp2
      go_ret
      exact ⟨rfl, q, c, HM.out, Fr.refl _ _, .inl rfl⟩
  | true =>
    have hmo : most l = l.max := by rw [most, hhas]; rfl
    rw [hmo] at hw hm ⊢
    rw [hhas] at c2
    generalize hmx : l.max = mx at *
    by_cases hg : (n : Int) ≤ mx - s
    · rw [if_pos hg]
      go_enter Try.func23, Try.ntmps23
      go_wp2_with fail
      refine HP.out.mono ?_
      rintro e w' ⟨rfl, rfl⟩
      go_wp2_with fail
      refine (HN.out _).mono ?_
      rintro e w' ⟨rfl, rfl⟩
      go_wp2_with fail
      have hn9 : n * 256 ≤ 1000000 := by omega
      have hw1 : IntKind.i64.wrap (n : Int) = n := by rw [IntKind.wrap_i64]; omega
      have hw2 : IntKind.i64.wrap ((n : Int) * 256) = ((n * 256 : Nat) : Int) := by rw [IntKind.wrap_i64]; omega
      refine wp_region_ord (fun X => X.cell? ⟨p, 3, none⟩ = some (.slice (some ⟨q, 0, none⟩) B.length c)) [12] [(0, true), (1, true), (2, true), (3, true), (4, true), (5, true), (6, false), (7, true), (8, true), (9, false), (10, true), (11, true), (12, false)] (by kernel_rfl) (by kernel_rfl) (by kernel_rfl) rfl c3 ?_
      repeat (first
        | (refine wpO_skip rfl rfl ?_; simp only [List.getElem_toArray, List.getElem_cons_succ, List.getElem_cons_zero, Act.put, List.setIfInBounds_toArray, List.set_cons_zero, List.set_cons_succ])
        | (refine wpO_call rfl rfl ?_; simp only [List.getElem_toArray, List.getElem_cons_succ, List.getElem_cons_zero]; apply Exists.intro; refine ⟨fun X hX => ?_, ?_⟩
           · (have s0 := hX; go_simp; exact stillUpon_value)
           simp only [Act.put, List.setIfInBounds_toArray, List.set_cons_zero, List.set_cons_succ]))
      refine wpO_eff rfl rfl (fun K hK => ?_)
      simp only [List.getElem_toArray, List.getElem_cons_succ, List.getElem_cons_zero]
      go_simp
      refine (HN.out _).mono ?_
      rintro e w' ⟨rfl, rfl⟩
      refine hK _ _ (fun _ => c3) ?_
      clear hK K
      repeat (first
        | (refine wpO_skip rfl rfl ?_; simp only [List.getElem_toArray, List.getElem_cons_succ, List.getElem_cons_zero, Act.put, List.setIfInBounds_toArray, List.set_cons_zero, List.set_cons_succ])
        | (refine wpO_call rfl rfl ?_; simp only [List.getElem_toArray, List.getElem_cons_succ, List.getElem_cons_zero]; apply Exists.intro; refine ⟨fun X hX => ?_, ?_⟩
           · (have s0 := hX; go_simp; exact stillUpon_value)
           simp only [Act.put, List.setIfInBounds_toArray, List.set_cons_zero, List.set_cons_succ]))
      refine wpO_eff rfl rfl (fun K hK => ?_)
      simp only [List.getElem_toArray, List.getElem_cons_succ, List.getElem_cons_zero]
      refine opwp_app0 (xs := Ks .u8 B) (k := n * 256) elBs Try.underlying3 rfl rfl rfl rfl rfl (HM.out.frNo (Fr.refl No w).drew).own (by simp) (by simp; omega) hn9 (by omega) ?_
      intro q' c' w3 hown f hq
      have hne := HM.out.ne
      have HP3 := hid (HM.out.hp.drew.fr f (fun x => hne x))
      have e9 : Ks .u8 B ++ List.replicate (n * 256) (Value.int .u8 0) = Ks .u8 (B ++ List.replicate (n * 256) 0) := by simp [Ks]
      rw [e9] at hown
      have HO := hid hown
      have F3 := hid ((Fr.refl (One q) w).drew.trans f (fun _ _ h => h))
      have HQ := hid hq
      clear hown f hq e9
      refine hK _ _ (fun _ => HP3.out.cell 3) ?_
      clear hK K
      simp only [Act.put, List.setIfInBounds_toArray, List.set_cons_zero, List.set_cons_succ]
      repeat (first
        | (refine wpO_skip rfl rfl ?_; simp only [List.getElem_toArray, List.getElem_cons_succ, List.getElem_cons_zero, Act.put, List.setIfInBounds_toArray, List.set_cons_zero, List.set_cons_succ])
        | (refine wpO_call rfl rfl ?_; simp only [List.getElem_toArray, List.getElem_cons_succ, List.getElem_cons_zero]; apply Exists.intro; refine ⟨fun X hX => ?_, ?_⟩
           · (have s0 := hX; go_simp; exact stillUpon_value)
           simp only [Act.put, List.setIfInBounds_toArray, List.set_cons_zero, List.set_cons_succ]))
      have z3 := HP3.out.cell 3
      have q3 := HP3.out.frozen 3
      have hlt := HP3.out.lt
      refine wpO_eff rfl rfl (fun K hK => ?_)
      simp only [List.getElem_toArray, List.getElem_cons_succ, List.getElem_cons_zero]
      go_simp
      refine hK _ _ (fun h => by cases h) ?_
      clear hK K
      refine wpO_nil ?_
      have hlB : (Ks .u8 B).length = B.length := by simp
      have FZ := (Fr.refl (One p) w3).setCell ⟨p, 3, none⟩ (.slice (some ⟨q', 0, none⟩) (B.length + n * 256) c') (fun _ => rfl)
      have hpq : p ≠ q' := by
        rcases HQ.out with h | h
        · rw [h]; exact HM.out.ne
        · rw [h]; exact Nat.ne_of_lt HM.out.hp.lt
      have hfin : Mo (w3.setCell ⟨p, 3, none⟩ (.slice (some ⟨q', 0, none⟩) (B.length + n * 256) c')) p q' c' l (B ++ List.replicate (n * 256) 0) := by
        refine ⟨?_, HO.out.fr FZ (fun h => hpq h.symm), Bts.app HM.out.bts (zeros_bts _)⟩
        have := HP3.out.set_ 3 (.slice (some ⟨q', 0, none⟩) (B.length + n * 256) c')
        simpa using this
      have HFIN := hid hfin
      have F9 := hid ((F3.out.mono (M := Two p q) (fun _ _ h => .inr h)).trans FZ (fun _ _ h => .inl h))
      clear hfin FZ z3 q3
      go_wp2
      go_ret
      refine ⟨?_, q', c', by simpa using HFIN.out, by simpa using F9.out, ?_⟩
      · first | rfl | exact ret_int (by omega)
      · rcases HQ.out with h | h
        · exact .inl h
        · exact .inr (Nat.le_of_eq h.symm)
    · rw [if_neg hg]
      go_enter Try.func23, Try.ntmps23
      go_wp2_with fail
      refine HP.out.mono ?_
      rintro e w' ⟨rfl, rfl⟩
      go_wp2_with fail
      refine (HN.out _).mono ?_
      rintro e w' ⟨rfl, rfl⟩
      go_wp2
      go_ret
      exact ⟨rfl, q, c, HM.out, Fr.refl _ _, .inl rfl⟩
end Go.Proofs.Ytpmnijjfadhocaa
