/- Chapter 28: the program's memory: Store. -/
import Derived.Test.YtpmnijjfadhocaaMmM
namespace Go.Proofs.Ytpmnijjfadhocaa
open Go.RowKit

theorem opwp_cp {P : Program} {t e : TypeId} {bytes : Nat} {z : Value} {w : World} {o : Oper} {a : Act} {K : Act → World → Prop} {Q : Exit → Act → World → Prop} {A : Option Addr} {B q c off dLen dCap sLen sCap : Nat} {s d : Operand} {xs cs : List Value} (E : ElemOk P t e 1 bytes z)
    (ho : o.op = .call { callee := .builtin .copy, args := #[d, s], argTypes := #[t, t] })
    (hd : a.eval d = .slice (some ⟨q, off, none⟩) dLen dCap) (hs : a.eval s = .slice A sLen sCap) (hown : Own w q e c xs)
    (hr : Rd w B A cs) (hn : cs.length = Nat.min sLen dLen) (hfit : off + cs.length ≤ xs.length) (h1 : ∀ u ∈ cs, u.oneCell' = true)
    (h : ∀ w', Own w' q e c (splice xs off cs) → Fr (One q) w w' → K (a.put o.dst (goInt cs.length)) w') : o.wp P a w K Q := by
  obtain ⟨w', hrun, h2, h3⟩ := run_cp E w o.type hown off dLen dCap sLen sCap hr hn hfit h1
  unfold Oper.wp execOp
  simp only [ho, resolve, invoke, builtin, Sem.run_bind, Sem.run_pure, Result.andThen_ok, List.map_toArray, List.map_cons, List.map_nil, hs, hd, hrun]
  exact h w' h2 h3
/-- A memory of the program. -/
structure Mo (w : World) (p q c : Nat) (l : Lim) (B : List Int) : Prop where
  hp : Blk w p 54 #[.int .i64 l.min, .int .i64 l.max, .bool l.has, .slice (some ⟨q, 0, none⟩) B.length c]
  own : Own w q 5 c (Ks .u8 B)
  bts : Bts B
theorem Mo.fr {w w' : World} {p q c : Nat} {l : Lim} {B : List Int} {M : Nat → Prop} (h : Mo w p q c l B) (f : Fr M w w') (hp : ¬ M p) (hq : ¬ M q) : Mo w' p q c l B := ⟨h.hp.fr f hp, h.own.fr f hq, h.bts⟩
theorem Mo.frNo {w w' : World} {p q c : Nat} {l : Lim} {B : List Int} (h : Mo w p q c l B) (f : Fr No w w') : Mo w' p q c l B := h.fr f (fun x => x) (fun x => x)
theorem Mo.ne {w : World} {p q c : Nat} {l : Lim} {B : List Int} (h : Mo w p q c l B) : p ≠ q := by
  obtain ⟨cur, hb, _⟩ := h.own.cur
  exact Blk.ne_ h.hp hb (by decide)
theorem Mo.cap {w : World} {p q c : Nat} {l : Lim} {B : List Int} (h : Mo w p q c l B) : B.length ≤ c := by
  obtain ⟨cur, hb, h1, _⟩ := h.own.cur
  simpa using h1
theorem Ks_splice (B bs : List Int) (a : Nat) : splice (Ks .u8 B) a (Ks .u8 bs) = Ks .u8 (splice B a bs) := by simp [splice, Ks]
theorem splice_bts {B bs : List Int} (a : Nat) (h : Bts B) (k : Bts bs) : Bts (splice B a bs) := fun b hb => by
  rw [splice, List.mem_append, List.mem_append] at hb
  rcases hb with hb | hb | hb
  · exact h b (List.mem_of_mem_take hb)
  · exact k b hb
  · exact h b (List.mem_of_mem_drop hb)
/-- The memory behind a copy into its bytes. -/
theorem Mo.put {w w' : World} {p q c a : Nat} {l : Lim} {B bs : List Int} (h : Mo w p q c l B) (f : Fr (One q) w w') (ho : Own w' q 5 c (splice (Ks .u8 B) a (Ks .u8 bs))) (hb : Bts bs) (hfit : a + bs.length ≤ B.length) : Mo w' p q c l (splice B a bs) := by
  refine ⟨?_, by rw [← Ks_splice]; exact ho, splice_bts a h.bts hb⟩
  have := h.hp.fr f (fun x => h.ne x)
  rwa [splice_len hfit]
def MoTo (p q c : Nat) (l : Lim) (B : List Int) (t : Int) (w : World) (e : Ending) (w' : World) : Prop := e = .returned (.int .i64 t) ∧ Mo w' p q c l B ∧ Fr (One q) w w'
theorem lo_any (x : Int) (w : World) (hx : 0 ≤ x ∧ x < 18446744073709551616) : Calls Try.prog 27 #[.int .u64 x] w fun e w' => e = .returned (.int .u64 (lo x)) ∧ w = w' := by
  rw [← lo_eq]; exact low_any x w hx
set_option maxRecDepth 100000 in
set_option maxHeartbeats 3200000 in
theorem mstore_any (p q c : Nat) (l : Lim) (B : List Int) (op addr off x : Int) (w : World) (hM : Mo w p q c l B) (hn : B.length ≤ 100000) (ha : 0 ≤ addr ∧ addr < 18446744073709551616) (ho : 0 ≤ off ∧ off < 18446744073709551616) (hx : 0 ≤ x ∧ x < 18446744073709551616) :
    Calls Try.prog 13 #[.pointer (some ⟨p, 0, none⟩), .int .i64 op, .int .u64 addr, .int .u64 off, .int .u64 x] w (MoTo p q c l (storeR op B addr off x).1 (storeR op B addr off x).2 w) := by
  have HS := hid (astore_any op x w hx)
  have HM := hid hM
  clear hM
  by_cases h0 : wst op = 0
  · rw [storeR, if_pos h0]
    rw [stD, if_pos h0] at HS
    clear h0
    go_enter Try.func13, Try.ntmps13
    go_wp2_with fail
    refine HS.out.mono ?_
    rintro e w1 ⟨D, d, rfl, hd, f⟩
    have F := hid f
    clear hd f
    go_wp2
    go_ret
    exact ⟨rfl, HM.out.frNo F.out, F.out.mono (fun _ _ h => h.elim)⟩
  · rw [storeR, if_neg h0]
    rw [stD, if_neg h0] at HS
    have hf := wst_form h0
    have hl8 : (leB (wst op) x).length = wst op := leB_len _ _
    have hbb := hid (leB_bts (wst op) x)
    cases hh : hasB B.length addr off (wst op) with
    | false =>
      simp only [Bool.false_eq_true, if_false]
      have HH := hid (fun W (h3 : W.cell? ⟨p, 3, none⟩ = some (.slice (some ⟨q, 0, none⟩) B.length c)) => has_any p _ B.length c addr off (wst op) W h3 (by omega) ha ho (by omega))
      rw [hh] at HH
      generalize wst op = m at *
      generalize leB m x = bs at *
      clear hh h0
      simp only [StTo, hl8] at HS
      go_enter Try.func13, Try.ntmps13
      go_wp2_with fail
      refine HS.out.mono ?_
      rintro e w1 ⟨D, d, rfl, hd, f⟩
      have F := hid f
      have h3 := (HM.out.frNo f).hp.cell 3
      clear hd f
      go_wp2_with fail
      refine (HH.out _ h3).mono ?_
      rintro e w2 ⟨rfl, rfl⟩
      go_wp2
      go_ret
      exact ⟨rfl, HM.out.frNo F.out, F.out.mono (fun _ _ h => h.elim)⟩
    | true =>
      simp only [if_true]
      have HH := hid (fun W (h3 : W.cell? ⟨p, 3, none⟩ = some (.slice (some ⟨q, 0, none⟩) B.length c)) => has_any p _ B.length c addr off (wst op) W h3 (by omega) ha ho (by omega))
      rw [hh] at HH
      have hd := of_decide_eq_true hh
      have HLO := hid (fun W => lo_any addr W ha)
      rw [lo_eq] at hd ⊢
      generalize lo addr = a at *
      obtain ⟨f', hff⟩ : ∃ f' : Nat, off = f' := ⟨off.toNat, by omega⟩
      subst hff
      have e1 : ((a : Int) + (f' : Int)).toNat = a + f' := by omega
      rw [e1]
      generalize wst op = m at *
      generalize leB m x = bs at *
      clear hh h0 e1
      simp only [StTo, hl8] at HS
      have hw2 : IntKind.u64.wrap ((a : Int) + f') = a + f' := by rw [IntKind.wrap_u64]; omega
      have hfit : a + f' + bs.length ≤ B.length := by omega
      have hcap := HM.out.cap
      have hsl : ∀ W, (Instr.slice 26 (.slice (some ⟨q, 0, none⟩) B.length c) (some (.int .u64 ((a : Int) + f'))) none none).run Try.prog W = .ok (.slice (some ⟨q, a + f', none⟩) (B.length - (a + f')) (c - (a + f'))) W := fun W => by
        have hrun := run_slice_l (P := Try.prog) (w := W) 26 (some ⟨q, 0, none⟩) B.length c (by kernel_rfl) .u64 ((a : Int) + f') (by omega) (by omega)
        have hs : (sizeOf (Try.prog.elem 26)).run Try.prog W = .ok 1 W := by kernel_rfl
        have e1 : ((a : Int) + (f' : Int)).toNat = a + f' := by omega
        rw [hrun, hs, e1]
        simp only [Result.andThen_ok, sliced]
        rw [if_neg (by omega), Option.map_some, Nat.mul_one, add_lit', Nat.zero_add]
      go_enter Try.func13, Try.ntmps13
      go_wp2_with fail
      refine HS.out.mono ?_
      rintro e w1 ⟨D, d, rfl, hdd, f⟩
      have F := hid f
      have HD := hid (rmIn_of_row hdd)
      have HM1 := hid (HM.out.frNo f)
      have h3 := HM1.out.hp.cell 3
      clear hdd f
      go_wp2_with fail
      refine (HH.out _ h3).mono ?_
      rintro e w2 ⟨rfl, rfl⟩
      go_wp2_with fail
      refine wp_region_ord (fun X => X.cell? ⟨p, 3, none⟩ = some (.slice (some ⟨q, 0, none⟩) B.length c)) [] [(0, true), (1, true), (2, true), (3, true), (4, true), (6, true), (9, true), (5, false), (7, true), (8, true), (10, false)] (by kernel_rfl) (by kernel_rfl) (by kernel_rfl) rfl h3 ?_
      repeat (first
        | (refine wpO_skip rfl rfl ?_; simp only [List.getElem_toArray, List.getElem_cons_succ, List.getElem_cons_zero, Act.put, List.setIfInBounds_toArray, List.set_cons_zero, List.set_cons_succ])
        | (refine wpO_call rfl rfl ?_; simp only [List.getElem_toArray, List.getElem_cons_succ, List.getElem_cons_zero]; apply Exists.intro; refine ⟨fun X hX => ?_, ?_⟩
           · (have s0 := hX; go_simp; exact stillUpon_value)
           simp only [Act.put, List.setIfInBounds_toArray, List.set_cons_zero, List.set_cons_succ]))
      refine wpO_eff rfl rfl (fun K hK => ?_)
      simp only [List.getElem_toArray, List.getElem_cons_succ, List.getElem_cons_zero]
      go_simp
      refine (HLO.out _).mono ?_
      rintro e w' ⟨rfl, rfl⟩
      refine hK _ _ (fun _ => h3) ?_
      clear hK K
      repeat (first
        | (refine wpO_skip rfl rfl ?_; simp only [List.getElem_toArray, List.getElem_cons_succ, List.getElem_cons_zero, Act.put, List.setIfInBounds_toArray, List.set_cons_zero, List.set_cons_succ])
        | (refine wpO_call rfl rfl ?_; simp only [List.getElem_toArray, List.getElem_cons_succ, List.getElem_cons_zero]; apply Exists.intro; refine ⟨fun X hX => ?_, ?_⟩
           · (have s0 := hX; go_simp; exact stillUpon_value)
           simp only [Act.put, List.setIfInBounds_toArray, List.set_cons_zero, List.set_cons_succ]))
      refine wpO_eff rfl rfl (fun K hK => ?_)
      simp only [List.getElem_toArray, List.getElem_cons_succ, List.getElem_cons_zero]
      refine opwp_cp (xs := Ks .u8 B) (cs := Ks .u8 bs) (B := w1.heap.size) elBs rfl rfl rfl HM1.out.own HD.out.rd (by rw [len_Ks, hl8]; exact (Nat.min_eq_left (by omega)).symm) (by simpa using hfit) (one_Ks _ _) ?_
      intro w3 hown fcp
      have HM3 := hid (Mo.put (HM1.out.frNo (Fr.refl No w1).drew) fcp hown HD.out.bts hfit)
      have F3 := hid ((F.out.drew.mono (M := One q) (fun _ _ h => h.elim)).trans fcp (fun _ _ h => h))
      have h3 := HM3.out.hp.cell 3
      rw [splice_len hfit] at h3
      clear hown fcp
      refine hK _ _ (fun _ => h3) ?_
      clear hK K
      repeat (first
        | (refine wpO_skip rfl rfl ?_; simp only [List.getElem_toArray, List.getElem_cons_succ, List.getElem_cons_zero, Act.put, List.setIfInBounds_toArray, List.set_cons_zero, List.set_cons_succ])
        | (refine wpO_call rfl rfl ?_; simp only [List.getElem_toArray, List.getElem_cons_succ, List.getElem_cons_zero]; apply Exists.intro; refine ⟨fun X hX => ?_, ?_⟩
           · (have s0 := hX; go_simp; exact stillUpon_value)
           simp only [Act.put, List.setIfInBounds_toArray, List.set_cons_zero, List.set_cons_succ]))
      refine wpO_nil ?_
      go_wp2
      go_ret
      exact ⟨rfl, HM3.out, F3.out⟩
end Go.Proofs.Ytpmnijjfadhocaa
