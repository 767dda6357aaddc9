/- Contracts: things[T].add. -/
import Derived.Test.YthggdemiddjlgaaStC
namespace Go.Proofs.Ythggdemiddjlgaa
open Go.RowKit

structure AddIn {α : Type} (t : Ty α) (el : TypeId) (w : World) (P off : Nat) (S : Nat → Prop) (v : Value) (xs : List α) (cs : List Value) (x : α) : Prop where
  cell : w.cell? ⟨P, off, none⟩ = some v
  fz : w.frozen? ⟨P, off, none⟩ = false
  row : t.row w 0 S el v xs
  rd : t.rd w S cs x
  lt : ∀ k, S k → k < w.heap.size
  own : ∀ k, S k → v.ownBlock ≠ some k ∧ k ≠ P
  ne : v.ownBlock ≠ some P
  len : xs.length ≤ 1000000
def AddedTo {α : Type} (t : Ty α) (el : TypeId) (P off : Nat) (S : Nat → Prop) (v : Value) (xs : List α) (x : α) (w : World) (e : Ending) (w' : World) : Prop :=
  ∃ v', e = .returned (.int .i64 xs.length) ∧ t.row w' 0 S el v' (xs ++ [x]) ∧ Fr (fun k => k = P ∨ v.ownBlock = some k) w w' ∧ (∀ T cs, Blk w P T cs → Blk w' P T (cs.setIfInBounds off v')) ∧
    (∀ k, v'.ownBlock = some k → v.ownBlock = some k ∨ w.heap.size ≤ k ∧ k < w'.heap.size)
theorem AddIn.fr {α : Type} {t : Ty α} [TyOk t] {el : TypeId} {w w' : World} {P off : Nat} {S : Nat → Prop} {v : Value} {xs : List α} {cs : List Value} {x : α} (h : AddIn t el w P off S v xs cs x) (f : Fr No w w') : AddIn t el w' P off S v xs cs x where
  cell := (f.cell (p := ⟨P, off, none⟩) (World.block_lt_of_cell? w _ h.cell) (fun x => x)).trans h.cell
  fz := (f.frozen (p := ⟨P, off, none⟩) (World.block_lt_of_cell? w _ h.cell) (fun x => x)).trans h.fz
  row := h.row.fr f (fun k hk => ⟨h.lt k hk, fun x => x⟩) (fun _ _ x => x)
  rd := TyOk.keep _ _ _ _ _ h.rd (fun p hp => f.cell (h.lt _ hp) (fun x => x))
  lt := fun k hk => Nat.lt_of_lt_of_le (h.lt k hk) f.size
  own := h.own
  ne := h.ne
  len := h.len
theorem wrap64_len {n : Nat} (h : n ≤ 1000000) : wrap64 (n : Int) = n := by simp only [wrap64]; omega
theorem blk_gone {w w' : World} {P : Nat} {T : TypeId} {cs : Array Value} {off : Nat} {v : Value} (h : Blk w P T cs) (f : Fr (fun k => some k = v.ownBlock) w w') (hn : v.ownBlock ≠ some P) (u : Value) : Blk (w'.setCell ⟨P, off, none⟩ u) P T (cs.setIfInBounds off u) :=
  (h.fr f (fun e => hn e.symm)).set_ off u

set_option maxRecDepth 100000 in
set_option maxHeartbeats 3200000 in
theorem addGg_any (P off : Nat) (S : Nat → Prop) (v : Value) (xs : List Rg) (cs : List Value) (x : Rg) (w : World) (h : AddIn tRg 106 w P off S v xs cs x) :
    Calls Try.prog 17 #[.pointer (some ⟨P, off, none⟩), .agg cs.toArray] w (AddedTo tRg 106 P off S v xs x w) := by
  obtain ⟨rfl, _, _, _⟩ := Rg_cells h.rd
  have HA := hid h
  have F0 := hid ((Fr.refl No w).alloc (.cells #[.int .i64 x.t.val, .bool x.t.mut_, .int .i64 x.v.t, .int .u64 x.v.n] 106))
  have G0 := hid (Blk.new w 106 #[.int .i64 x.t.val, .bool x.t.mut_, .int .i64 x.v.t, .int .u64 x.v.n])
  have hPl := World.block_lt_of_cell? w _ h.cell
  have hPl : P < w.heap.size := hPl
  clear h
  go_enter Try.func17, Try.ntmps17
  go_wp2
  generalize w.alloc (.cells #[.int .i64 x.t.val, .bool x.t.mut_, .int .i64 x.v.t, .int .u64 x.v.n] 106) = W at *
  have HI := hid (HA.out.fr F0.out)
  have hgW := G0.out.lt
  have HX : Hid (∀ X, Fr No W X → X.cell? ⟨P, off, none⟩ = some v ∧ X.cell? ⟨w.heap.size, 0, none⟩ = some (.int .i64 x.t.val) ∧ X.cell? ⟨w.heap.size, 1, none⟩ = some (.bool x.t.mut_) ∧ X.cell? ⟨w.heap.size, 2, none⟩ = some (.int .i64 x.v.t) ∧ X.cell? ⟨w.heap.size, 3, none⟩ = some (.int .u64 x.v.n)) := fun X f => ⟨(f.cell (p := ⟨P, off, none⟩) (Nat.lt_trans hPl hgW) (fun x => x)).trans HI.out.cell, (G0.out.fr f (fun x => x)).cell 0, (G0.out.fr f (fun x => x)).cell 1, (G0.out.fr f (fun x => x)).cell 2, (G0.out.fr f (fun x => x)).cell 3⟩
  obtain ⟨g, hg⟩ : ∃ g, g = w.heap.size := ⟨_, rfl⟩
  have HG := hid hg
  rw [← hg] at HX hgW ⊢
  have hPg : P < g := by omega
  clear hg
  refine wp_region_ord (fun X => X.cell? ⟨P, off, none⟩ = some v ∧ X.cell? ⟨g, 0, none⟩ = some (.int .i64 x.t.val) ∧ X.cell? ⟨g, 1, none⟩ = some (.bool x.t.mut_) ∧ X.cell? ⟨g, 2, none⟩ = some (.int .i64 x.v.t) ∧ X.cell? ⟨g, 3, none⟩ = some (.int .u64 x.v.n)) [10] [(0, true), (1, true), (2, true), (3, true), (4, true), (5, true), (6, false), (7, false), (8, true), (9, true), (10, false)] (by kernel_rfl) (by kernel_rfl) (by kernel_rfl) rfl (HX.out _ (Fr.refl _ _).drew) ?_
  repeat (first
    | (refine wpO_skip rfl rfl ?_; simp only [List.getElem_toArray, List.getElem_cons_succ, List.getElem_cons_zero, Act.put, List.setIfInBounds_toArray, List.set_cons_zero, List.set_cons_succ])
    | (refine wpO_call rfl rfl ?_; simp only [List.getElem_toArray, List.getElem_cons_succ, List.getElem_cons_zero]; apply Exists.intro; refine ⟨fun X hX => ?_, ?_⟩
       · (have s0 := hX.1; have s1 := hX.2.1; have s2 := hX.2.2.1; have s3 := hX.2.2.2.1; have s4 := hX.2.2.2.2; go_simp; exact stillUpon_value)
       simp only [Act.put, List.setIfInBounds_toArray, List.set_cons_zero, List.set_cons_succ]))
  refine wpO_eff rfl rfl (fun K hK => ?_)
  simp only [List.getElem_toArray, List.getElem_cons_succ, List.getElem_cons_zero]
  go_simp
  have F1 := hid ((Fr.refl No W).alloc (.cells #[.int .i64 x.t.val, .bool x.t.mut_, .int .i64 x.v.t, .int .u64 x.v.n] 106)).drew
  have G1 := hid (Blk.new W 106 #[.int .i64 x.t.val, .bool x.t.mut_, .int .i64 x.v.t, .int .u64 x.v.n]).drew
  refine hK _ _ (fun _ => HX.out _ F1.out) ?_
  clear hK K
  generalize (W.alloc (.cells #[.int .i64 x.t.val, .bool x.t.mut_, .int .i64 x.v.t, .int .u64 x.v.n] 106)).drew = W1 at *
  have HJ := hid (HI.out.fr F1.out)
  repeat (first
    | (refine wpO_skip rfl rfl ?_; simp only [List.getElem_toArray, List.getElem_cons_succ, List.getElem_cons_zero, Act.put, List.setIfInBounds_toArray, List.set_cons_zero, List.set_cons_succ])
    | (refine wpO_call rfl rfl ?_; simp only [List.getElem_toArray, List.getElem_cons_succ, List.getElem_cons_zero]; apply Exists.intro; refine ⟨fun X hX => ?_, ?_⟩
       · (have s0 := hX.1; have s1 := hX.2.1; have s2 := hX.2.2.1; have s3 := hX.2.2.2.1; have s4 := hX.2.2.2.2; go_simp; exact stillUpon_value)
       simp only [Act.put, List.setIfInBounds_toArray, List.set_cons_zero, List.set_cons_succ]))
  refine wpO_eff rfl rfl (fun K hK => ?_)
  simp only [List.getElem_toArray, List.getElem_cons_succ, List.getElem_cons_zero]
  refine opwp_appC (t := tRg) (P := Try.prog) (base := 0) (S := S) (v := v) (xs := xs) (ys := [x]) (dss := [[.int .i64 x.t.val, .bool x.t.mut_, .int .i64 x.v.t, .int .u64 x.v.n]]) (B2 := W1.heap.size) elGg rfl rfl rfl HJ.out.row (Css.one HJ.out.rd) (Rd.blk G1.out G1.out.lt 0 (fun k u hu => by rw [Nat.zero_add]; simpa using hu)) rfl (by have := HJ.out.len; simp; omega) (by have := HJ.out.len; simp; omega) (fun k hk => ⟨HJ.out.lt k hk, fun e => (HJ.out.own k hk).1 e.symm⟩) (Nat.zero_le _) ?_
  intro v1 w1 hr1 fr1 hv1
  have gw1 : W.heap.size < W1.heap.size := G1.out.lt
  have FR := hid fr1
  have R1 := hid hr1
  have hvl : ∀ k, v1.ownBlock = some k → v.ownBlock = some k ∨ w.heap.size ≤ k ∧ k < w1.heap.size := fun k hk => by
    rcases hv1 with e | e
    · exact .inl (e.symm.trans hk)
    · refine .inr ?_
      obtain ⟨_, cs1, hb1⟩ := hr1.own hk
      rw [e] at hk; injection hk with hk
      have := HG.out
      exact ⟨by omega, hb1.lt⟩
  have HV := hid hvl
  have HC : Hid (∀ X, Fr (fun k => some k = v.ownBlock) W1 X → X.cell? ⟨P, off, none⟩ = some v ∧ X.cell? ⟨g, 0, none⟩ = some (.int .i64 x.t.val) ∧ X.cell? ⟨g, 1, none⟩ = some (.bool x.t.mut_) ∧ X.cell? ⟨g, 2, none⟩ = some (.int .i64 x.v.t) ∧ X.cell? ⟨g, 3, none⟩ = some (.int .u64 x.v.n)) := fun X f => by
    have hgo : ¬ some g = v.ownBlock := fun e => by
      obtain ⟨_, csr, hbr⟩ := (HA.out.row).own e.symm
      have := hbr.lt
      have := HG.out
      omega
    have hY := HX.out W1 F1.out
    exact ⟨(f.cell (p := ⟨P, off, none⟩) (by show P < _; omega) (fun e => HA.out.ne e.symm)).trans hY.1, (f.cell (p := ⟨g, 0, none⟩) (by show g < _; omega) hgo).trans hY.2.1, (f.cell (p := ⟨g, 1, none⟩) (by show g < _; omega) hgo).trans hY.2.2.1, (f.cell (p := ⟨g, 2, none⟩) (by show g < _; omega) hgo).trans hY.2.2.2.1, (f.cell (p := ⟨g, 3, none⟩) (by show g < _; omega) hgo).trans hY.2.2.2.2⟩
  refine hK _ _ (fun _ => HC.out _ fr1) ?_
  clear hK K hr1 fr1 hv1 hvl
  simp only [Act.put, List.setIfInBounds_toArray, List.set_cons_zero, List.set_cons_succ]
  repeat (first
    | (refine wpO_skip rfl rfl ?_; simp only [List.getElem_toArray, List.getElem_cons_succ, List.getElem_cons_zero, Act.put, List.setIfInBounds_toArray, List.set_cons_zero, List.set_cons_succ])
    | (refine wpO_call rfl rfl ?_; simp only [List.getElem_toArray, List.getElem_cons_succ, List.getElem_cons_zero]; apply Exists.intro; refine ⟨fun X hX => ?_, ?_⟩
       · (have s0 := hX.1; have s1 := hX.2.1; have s2 := hX.2.2.1; have s3 := hX.2.2.2.1; have s4 := hX.2.2.2.2; go_simp; exact stillUpon_value)
       simp only [Act.put, List.setIfInBounds_toArray, List.set_cons_zero, List.set_cons_succ]))
  obtain ⟨A1, k1, e1, hk1, hm1, _⟩ := R1.out.els (S' := fun _ => True) (fun _ _ => trivial) (fun _ _ => trivial)
  subst e1
  rw [show (xs ++ [x]).length = xs.length + 1 by simp] at R1 HV
  have z0 : w1.cell? ⟨P, off, none⟩ = some v := (HC.out _ FR.out).1
  have z1 : w1.frozen? ⟨P, off, none⟩ = false := (FR.out.frozen (p := ⟨P, off, none⟩) (by show P < _; omega) (fun e => HA.out.ne e.symm)).trans HJ.out.fz
  refine wpO_eff rfl rfl (fun K hK => ?_)
  simp only [List.getElem_toArray, List.getElem_cons_succ, List.getElem_cons_zero]
  go_simp
  refine hK _ _ (fun h => by simp at h) ?_
  clear hK K
  refine wpO_nil ?_
  go_wp2
  go_ret
  have := HJ.out.len
  refine ⟨.slice A1 (xs.length + 1) k1, rt_int (wrap64_len HJ.out.len), ?_, ?_, ?_, ?_⟩
  · exact R1.out.fr ((Fr.refl (One P) w1).setCell ⟨P, off, none⟩ _ (fun _ => rfl)) (fun k hk => ⟨Nat.lt_of_lt_of_le (HJ.out.lt k hk) FR.out.size, fun e => (HA.out.own k hk).2 e⟩) (fun k hk e => by
      rcases HV.out k hk with h1 | h1
      · exact HA.out.ne (h1.trans (congrArg some e))
      · have e : k = P := e
        omega)
  · exact (((F0.out.trans F1.out (fun _ _ h => h)).mono (M := fun k => k = P ∨ v.ownBlock = some k) (fun _ _ h => h.elim)).trans FR.out (fun _ _ h => .inr h.symm)).setCell _ _ (fun _ => .inl rfl)
  · intro T cs hb
    exact blk_gone ((hb.fr F0.out (fun x => x)).fr F1.out (fun x => x)) FR.out HA.out.ne _
  · intro k hk
    rcases HV.out k hk with h1 | h1
    · exact .inl h1
    · exact .inr ⟨h1.1, by simpa [World.setCell] using h1.2⟩
set_option maxRecDepth 100000 in
set_option maxHeartbeats 3200000 in
theorem addPtM_any (P off : Nat) (S : Nat → Prop) (v : Value) (xs : List Nat) (x : Nat) (w : World) (h : AddIn tPt 107 w P off S v xs [.pointer (some ⟨x, 0, none⟩)] x) :
    Calls Try.prog 19 #[.pointer (some ⟨P, off, none⟩), .pointer (some ⟨x, 0, none⟩)] w (AddedTo tPt 107 P off S v xs x w) := by
  have HA := hid h
  have F0 := hid ((Fr.refl No w).alloc (.cells #[.pointer (some ⟨x, 0, none⟩)] 107))
  have G0 := hid (Blk.new w 107 #[.pointer (some ⟨x, 0, none⟩)])
  have hPl : P < w.heap.size := World.block_lt_of_cell? w _ h.cell
  have HJ := hid (h.fr F0.out)
  have z0 := h.cell
  clear h
  go_enter Try.func19, Try.ntmps19
  go_wp2_with (at_builtin; refine wpList_appC (t := tPt) (P := Try.prog) (base := 0) (S := S) (v := v) (xs := xs) (ys := [x]) (dss := [[.pointer (some ⟨x, 0, none⟩)]]) (B2 := (w.alloc (.cells #[.pointer (some ⟨x, 0, none⟩)] 107)).heap.size) elPtM rfl rfl rfl rfl HJ.out.row (Css.one HJ.out.rd) (Rd.blk G0.out G0.out.lt 0 (fun k u hu => by rw [Nat.zero_add]; simpa using hu)) rfl (by have := HJ.out.len; simp; omega) (by have := HJ.out.len; simp; omega) (fun k hk => ⟨HJ.out.lt k hk, fun e => (HJ.out.own k hk).1 e.symm⟩) (Nat.zero_le _) ?_; intro v1 w1 hr1 fr1 hv1; have FR := hid fr1; have R1 := hid hr1; have HV := hid hv1; clear hr1 fr1 hv1; obtain ⟨A1, k1, e1, hk1, hm1, _⟩ := R1.out.els (S' := fun _ => True) (fun _ _ => trivial) (fun _ _ => trivial); subst e1; rw [show (xs ++ [x]).length = xs.length + 1 by simp] at R1 HV; have y0 : w1.cell? ⟨P, off, none⟩ = some v := (FR.out.cell (p := ⟨P, off, none⟩) (Nat.lt_of_lt_of_le hPl F0.out.size) (fun e => HA.out.ne e.symm)).trans HJ.out.cell; have y1 : w1.frozen? ⟨P, off, none⟩ = false := (FR.out.frozen (p := ⟨P, off, none⟩) (Nat.lt_of_lt_of_le hPl F0.out.size) (fun e => HA.out.ne e.symm)).trans HJ.out.fz)
  go_ret
  have := HJ.out.len
  have gw1 : w.heap.size < (w.alloc (.cells #[.pointer (some ⟨x, 0, none⟩)] 107)).heap.size := G0.out.lt
  refine ⟨.slice A1 (xs.length + 1) k1, rt_int (wrap64_len HJ.out.len), ?_, ?_, ?_, ?_⟩
  · exact R1.out.fr ((Fr.refl (One P) w1).setCell ⟨P, off, none⟩ _ (fun _ => rfl)) (fun k hk => ⟨Nat.lt_of_lt_of_le (HJ.out.lt k hk) FR.out.size, fun e => (HA.out.own k hk).2 e⟩) (fun k hk e => by
      have e : k = P := e
      rcases HV.out with h1 | h1
      · rw [hk] at h1; exact HA.out.ne (h1.symm.trans (congrArg some e))
      · rw [hk] at h1; have := Option.some.inj h1; omega)
  · exact ((F0.out.mono (M := fun k => k = P ∨ v.ownBlock = some k) (fun _ _ h => h.elim)).trans FR.out (fun _ _ h => .inr h.symm)).setCell _ _ (fun _ => .inl rfl)
  · intro T cs hb
    exact blk_gone (hb.fr F0.out (fun x => x)) FR.out HA.out.ne _
  · intro k hk
    rcases HV.out with h1 | h1
    · exact .inl (h1.symm.trans hk)
    · refine .inr ?_
      obtain ⟨_, cs1, hb1⟩ := R1.out.own hk
      rw [hk] at h1
      have := Option.some.inj h1
      have := hb1.lt
      exact ⟨by omega, by simpa [World.setCell] using hb1.lt⟩
end Go.Proofs.Ythggdemiddjlgaa
