/- The law SpaceFuncs: turn, which writes numbers over numbers. -/
import Derived.Test.YtfngopoaegofhaaSqA
import Derived.Test.YtfngopoaegofhaaSpX
import Derived.HandedShaped
namespace Go.Proofs.Ytfngopoaegofhaa
open Go.RowKit

/-- A row of numbers that may be written. -/
def IntRow (w : World) (A : Option Addr) (n : Nat) : Prop :=
  n = 0 ∨ ∃ b o, A = some ⟨b, o, none⟩ ∧ b < w.heap.size ∧ ∀ i, i < n → (∃ v, w.cell? ⟨b, o + i, none⟩ = some (.int .i64 v)) ∧ w.frozen? ⟨b, o + i, none⟩ = false
/-- Between the worlds only numbers were written over numbers. -/
structure Tw (w w' : World) : Prop where
  size : w.heap.size ≤ w'.heap.size
  froz : ∀ p : Addr, p.block < w.heap.size → w'.frozen? p = w.frozen? p
  keep : ∀ (p : Addr) (u : Value), p.block < w.heap.size → w.cell? p = some u → (∀ v, u ≠ .int .i64 v) → w'.cell? p = some u
  num : ∀ (p : Addr), p.block < w.heap.size → (∃ v, w.cell? p = some (.int .i64 v)) → ∃ v, w'.cell? p = some (.int .i64 v)
theorem Tw.refl (w : World) : Tw w w := ⟨Nat.le_refl _, fun _ _ => rfl, fun _ _ _ h _ => h, fun _ _ h => h⟩
theorem Tw.trans {a b c : World} (h : Tw a b) (k : Tw b c) : Tw a c :=
  ⟨Nat.le_trans h.size k.size, fun p hp => (k.froz p (Nat.lt_of_lt_of_le hp h.size)).trans (h.froz p hp), fun p u hp hu hn => k.keep p u (Nat.lt_of_lt_of_le hp h.size) (h.keep p u hp hu hn) hn, fun p hp hn => k.num p (Nat.lt_of_lt_of_le hp h.size) (h.num p hp hn)⟩
theorem Tw.of_fr {w w' : World} (f : Fr No w w') : Tw w w' :=
  ⟨f.size, fun p hp => f.frozen hp (fun x => x), fun p u hp hu _ => (f.cell hp (fun x => x)).trans hu, fun p hp ⟨v, hv⟩ => ⟨v, (f.cell hp (fun x => x)).trans hv⟩⟩
theorem Tw.set {w : World} {q : Addr} {v x : Int} (h : w.cell? q = some (.int .i64 v)) : Tw w (w.setCell q (.int .i64 x)) := by
  refine ⟨by simp [World.setCell], fun p _ => World.frozen?_setCell _ _ _ _, fun p u _ hu hn => ?_, fun p _ ⟨m, hm⟩ => ?_⟩
  · have hne : q ≠ p := fun e => by subst e; rw [h] at hu; injection hu with hu; exact hn v hu.symm
    rw [World.cell?_setCell_other _ _ _ _ hne]; exact hu
  · by_cases e : q = p
    · subst e; exact ⟨x, World.cell?_setCell_same _ _ _ h⟩
    · exact ⟨m, by rw [World.cell?_setCell_other _ _ _ _ e]; exact hm⟩
theorem IntRow.tw {w w' : World} {A : Option Addr} {n : Nat} (h : IntRow w A n) (t : Tw w w') : IntRow w' A n := by
  rcases h with h | ⟨b, o, e, hb, h⟩
  · exact .inl h
  · exact .inr ⟨b, o, e, Nat.lt_of_lt_of_le hb t.size, fun i hi => ⟨t.num ⟨b, o + i, none⟩ hb (h i hi).1, (t.froz ⟨b, o + i, none⟩ hb).trans (h i hi).2⟩⟩
/-- A fresh list of numbers may be written. -/
theorem intRow_of {w : World} {base c : Nat} {A : Option Addr} {l : List Int} (h : tI.row w base Emp 50 (.slice A l.length c) l) : IntRow w A l.length := by
  have he := h.els' (S' := fun _ => True) (fun _ _ => trivial) (fun _ _ => trivial)
  obtain ⟨css, h1, h2, h3⟩ := h
  rcases h3 with ⟨_, h0⟩ | ⟨g, cap, cur, e1, hg, hb, rest⟩
  · exact .inl h0
  · injection e1 with e1 _ _
    subst e1
    have hB : Blk w g 50 cur := hb
    refine .inr ⟨g, 0, rfl, hB.lt, fun i hi => ⟨?_, hB.frozen (0 + i)⟩⟩
    obtain ⟨b, o, e, _, hc, _⟩ := ints_at he i hi
    injection e with e
    injection e with e1 e2 _
    subst e1 e2
    exact ⟨_, hc⟩
def InM (M : Nat → Prop) (A : Option Addr) (n : Nat) : Prop := n ≠ 0 → ∀ b o, A = some ⟨b, o, none⟩ → M b
set_option maxRecDepth 100000 in
set_option maxHeartbeats 1600000 in
theorem turn_any (A1 A2 : Option Addr) (n1 n2 c1 c2 : Nat) (M : Nat → Prop) (w : World) (h1 : IntRow w A1 n1) (h2 : IntRow w A2 n2) (m1 : InM M A1 n1) (m2 : InM M A2 n2) (l1 : n1 ≤ 140737488355328) (l2 : n2 ≤ 140737488355328) :
    Calls Try.prog 12 #[.agg #[.slice A1 n1 c1, .slice A2 n2 c2]] w fun e w' => e = .returned (.tuple #[]) ∧ Fr M w w' ∧ Tw w w' := by
  have F := hid (((Fr.refl No w).alloc (.cells #[.slice A1 n1 c1, .slice A2 n2 c2] 38)))
  have G := hid (Blk.new w 38 #[.slice A1 n1 c1, .slice A2 n2 c2])
  have H1 := hid (h1.tw (Tw.of_fr F.out))
  have H2 := hid (h2.tw (Tw.of_fr F.out))
  have M1 := hid m1
  have M2 := hid m2
  have hlt := G.out.lt
  clear h1 h2 m1 m2
  go_enter Try.func12, Try.ntmps12
  go_wp2_with fail
  generalize w.alloc (.cells #[.slice A1 n1 c1, .slice A2 n2 c2] 38) = W at *
  go_loopw [2] (fun i wr => ∃ k : Nat, k ≤ n1 ∧ i = .int .i64 k ∧ Hid (Fr M w wr) ∧ Hid (Tw W wr)) (fun i _ => n1 - (intOf i).toNat)
  case atStart => exact ⟨0, by omega, rfl, hid (F.out.mono (fun _ _ h => h.elim)), hid (Tw.refl W)⟩
  case round =>
    obtain ⟨k, hk, rfl, FR, TR⟩ := hrel
    have g0 := TR.out.keep ⟨w.heap.size, 0, none⟩ _ hlt (G.out.cell 0) (fun v h => by cases h)
    by_cases hgo : k < n1
    · rcases H1.out with h | ⟨b, o, rfl, hb, hr⟩
      · omega
      obtain ⟨⟨v, hv⟩, hf⟩ := hr k hgo
      obtain ⟨v', hv'⟩ := TR.out.num ⟨b, o + k, none⟩ hb ⟨v, hv⟩
      have hf' := (TR.out.froz ⟨b, o + k, none⟩ hb).trans hf
      have hbr := Nat.lt_of_lt_of_le hb TR.out.size
      have hMb := hid (M1.out (by omega) b o rfl)
      have i0 : (0 : Int) ≤ k := by omega
      have i1 : (k : Int) < n1 := by omega
      have HTW := hid (TR.out.trans (Tw.set (x := IntKind.i64.wrap (v' + 50)) hv'))
      clear hr hv hf hb
      go_wp2_with fail
      refine wp_region_ord (fun X => X.cell? ⟨w.heap.size, 0, none⟩ = some (.slice (some ⟨b, o, none⟩) n1 c1) ∧ X.cell? ⟨b, o + k, none⟩ = some (.int .i64 v')) [10] [(0, true), (1, true), (2, true), (3, true), (4, true), (5, true), (6, true), (7, true), (8, true), (9, true), (10, false)] (by kernel_rfl) (by kernel_rfl) (by kernel_rfl) rfl ⟨g0, hv'⟩ ?_
      repeat (first
        | (refine wpO_skip rfl rfl ?_; simp only [List.getElem_toArray, List.getElem_cons_succ, List.getElem_cons_zero, Act.put, List.setIfInBounds_toArray, List.set_cons_zero, List.set_cons_succ])
        | (refine wpO_call rfl rfl ?_; simp only [List.getElem_toArray, List.getElem_cons_succ, List.getElem_cons_zero]; apply Exists.intro; refine ⟨fun X hX => ?_, ?_⟩
           · (have s0 := hX.1; have s1 := hX.2; go_simp; exact stillUpon_value)
           simp only [Act.put, List.setIfInBounds_toArray, List.set_cons_zero, List.set_cons_succ]))
      refine wpO_eff rfl rfl (fun K hK => ?_)
      simp only [List.getElem_toArray, List.getElem_cons_succ, List.getElem_cons_zero]
      go_simp
      refine hK _ _ (fun h => by cases h) ?_
      clear hK K
      refine wpO_nil ?_
      have HFR := hid ((FR.out.setCell ⟨b, o + k, none⟩ (.int .i64 (IntKind.i64.wrap (v' + 50))) (fun _ => hMb.out)).drew)
      have HTD := hid (HTW.out.trans (Tw.of_fr (Fr.refl No _).drew))
      clear hv' hf'
      generalize (wr.setCell ⟨b, o + k, none⟩ (.int .i64 (IntKind.i64.wrap (v' + 50)))).drew = wz at *
      go_wp2
      go_round
      case rel => exact ⟨k + 1, by omega, by go_num, HFR, HTD⟩
      case measure => simp [intOf]; omega
    · have hkn : k = n1 := by omega
      subst hkn
      clear hgo
      go_wp2_with fail
      have HTQ := hid TR.out
      go_loopw [3] (fun i wr => ∃ k : Nat, k ≤ n2 ∧ i = .int .i64 k ∧ Hid (Fr M w wr) ∧ Hid (Tw W wr)) (fun i _ => n2 - (intOf i).toNat)
      case atStart => exact ⟨0, by omega, rfl, FR, TR⟩
      case round =>
        clear FR TR HTQ
        obtain ⟨k, hk, rfl, FR, TR⟩ := hrel
        have g0 := TR.out.keep ⟨w.heap.size, 1, none⟩ _ hlt (G.out.cell 1) (fun v h => by cases h)
        by_cases hgo : k < n2
        · rcases H2.out with h | ⟨b, o, rfl, hb, hr⟩
          · omega
          obtain ⟨⟨v, hv⟩, hf⟩ := hr k hgo
          obtain ⟨v', hv'⟩ := TR.out.num ⟨b, o + k, none⟩ hb ⟨v, hv⟩
          have hf' := (TR.out.froz ⟨b, o + k, none⟩ hb).trans hf
          have hbr := Nat.lt_of_lt_of_le hb TR.out.size
          have hMb := hid (M2.out (by omega) b o rfl)
          have i0 : (0 : Int) ≤ k := by omega
          have i1 : (k : Int) < n2 := by omega
          have HTW := hid (TR.out.trans (Tw.set (x := IntKind.i64.wrap (v' + 50)) hv'))
          clear hr hv hf hb
          go_wp2_with fail
          refine wp_region_ord (fun X => X.cell? ⟨w.heap.size, 1, none⟩ = some (.slice (some ⟨b, o, none⟩) n2 c2) ∧ X.cell? ⟨b, o + k, none⟩ = some (.int .i64 v')) [10] [(0, true), (1, true), (2, true), (3, true), (4, true), (5, true), (6, true), (7, true), (8, true), (9, true), (10, false)] (by kernel_rfl) (by kernel_rfl) (by kernel_rfl) rfl ⟨g0, hv'⟩ ?_
          repeat (first
            | (refine wpO_skip rfl rfl ?_; simp only [List.getElem_toArray, List.getElem_cons_succ, List.getElem_cons_zero, Act.put, List.setIfInBounds_toArray, List.set_cons_zero, List.set_cons_succ])
            | (refine wpO_call rfl rfl ?_; simp only [List.getElem_toArray, List.getElem_cons_succ, List.getElem_cons_zero]; apply Exists.intro; refine ⟨fun X hX => ?_, ?_⟩
               · (have s0 := hX.1; have s1 := hX.2; go_simp; exact stillUpon_value)
               simp only [Act.put, List.setIfInBounds_toArray, List.set_cons_zero, List.set_cons_succ]))
          refine wpO_eff rfl rfl (fun K hK => ?_)
          simp only [List.getElem_toArray, List.getElem_cons_succ, List.getElem_cons_zero]
          go_simp
          refine hK _ _ (fun h => by cases h) ?_
          clear hK K
          refine wpO_nil ?_
          have HFR := hid ((FR.out.setCell ⟨b, o + k, none⟩ (.int .i64 (IntKind.i64.wrap (v' + 50))) (fun _ => hMb.out)).drew)
          have HTD := hid (HTW.out.trans (Tw.of_fr (Fr.refl No _).drew))
          clear hv' hf'
          generalize (wr.setCell ⟨b, o + k, none⟩ (.int .i64 (IntKind.i64.wrap (v' + 50)))).drew = wz at *
          go_wp2
          go_round
          case rel => exact ⟨k + 1, by omega, by go_num, HFR, HTD⟩
          case measure => simp [intOf]; omega
        · have hkn : k = n2 := by omega
          subst hkn
          clear hgo
          go_wp2
          go_end0
          exact ⟨rfl, FR.out, (Tw.of_fr F.out).trans TR.out⟩
end Go.Proofs.Ytfngopoaegofhaa
