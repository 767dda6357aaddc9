/- For every input SplitRight returns true, part 7: what the proof rests on. Condition: the arguments are of bulk at most 1048576. -/
import Derived.Test.YtiafkakkbbclhaaGreatR6
import Derived.Test.YtiafkakkbbclhaaGreatR1
set_option maxRecDepth 100000
set_option maxHeartbeats 12800000
set_option linter.unusedVariables false
set_option linter.unusedSimpArgs false
set_option linter.unusedSectionVars false
namespace Go.Proofs.YtiafkakkbbclhaaGreat
open Go.RowKit
theorem fn05_fr (A B : Option Addr) (n c m d : Nat) (w : World) : Calls Tryz.prog 66 #[.slice A n c, .slice B m d] w fun e w' => e = .returned (.agg #[.slice A n c, .slice B m d]) ∧ Fr No w w' :=
  (fn05_any A B n c m d w).mono fun e w' ⟨h1, h2⟩ => ⟨h1, by rw [h2]; exact (Fr.refl No w).alloc _⟩
theorem fn_ret {fn : Func} {p t : Tmp} {R : Ending → World → Prop} {a : Act} {W : World} {q : Nat} {u v x : Value} (hf : fn.results = #[.cell p 36, .tmp t]) (hp : a.tmps.getD p undef = .pointer (some ⟨q, 0, none⟩)) (hx : a.tmps.getD t undef = x) (hB : Blk W q 36 #[u, v]) (hd : a.defers = [])
    (h : R (.returned (.tuple #[.agg #[u, v], x])) W) : bodyPost Tryz.prog fn R .ret a W :=
  bodyPost_ret (v := .tuple #[.agg #[u, v], x]) (by rw [← hx]; exact results_wide (P := Tryz.prog) hf a.tmps W q [u, v] _ hp (rangeAt_blk hB) Tryz.underlying36 rfl (by kernel_rfl)) hd h
theorem sig_fin {S : Nat → Prop} {o : Option Fn} {w w5 : World} {q n m : Nat} {A1 A2 : Option Addr} {c1 c2 : Nat} (u v : Value) (hS : ∀ k, S k → k < w.heap.size) (hq : w.heap.size ≤ q) (hA : FnAt S (q + 1) w5 A1 A2 (fnD o)) (hF : Fr No w w5) (hn : n = (fnD o).params.length) (hm : m = (fnD o).results.length) :
    SigTo S o w (.returned (.tuple #[.agg #[.slice A1 n c1, .slice A2 m c2], .bool o.isSome])) ((w5.setCell ⟨q, 0, none⟩ u).setCell ⟨q, 1, none⟩ v) := by
  subst hn hm
  have FZ := ((Fr.refl (One q) w5).setCell ⟨q, 0, none⟩ u (fun _ => rfl)).setCell ⟨q, 1, none⟩ v (fun _ => rfl)
  have hz := hF.size
  exact ⟨A1, c1, A2, c2, rfl, (hA.fr FZ (fun k hk => ⟨by have := hS k hk; omega, fun h => by have := hS k hk; simp only [One] at h; omega⟩) (fun k h1 _ h => by simp only [One] at h; omega)).more (fun _ h => h) (by omega), hF.trans FZ (fun i hi h => by simp only [One] at h; omega)⟩
theorem SigTo.alloc {S : Nat → Prop} {o : Option Fn} {w w' : World} {e : Ending} (h : SigTo S o w e w') (hS : ∀ k, S k → k < w.heap.size) (x : Obj) : SigTo S o w e (w'.alloc x) := by
  obtain ⟨A1, c1, A2, c2, e1, h1, h2⟩ := h
  exact ⟨A1, c1, A2, c2, e1, h1.frNo ((Fr.refl No w').alloc x) (fun k hk => Nat.lt_of_lt_of_le (hS k hk) h2.size), h2.alloc x⟩
def ldS : ByteArray := ⟨#[108, 111, 97, 100]⟩
def exS : ByteArray := ⟨#[101, 120, 116, 101, 110, 100]⟩
def regR (op k t : Int) (b1 b2 : Bool) : Option Fn :=
  if k = 17 then (if b1 = true then some ⟨[1], [t]⟩ else some ⟨[1, t], []⟩)
  else if op = 69 ∨ op = 80 then some ⟨[t], [1]⟩
  else if (69 < op ∧ op ≤ 79) ∨ (80 < op ∧ op ≤ 90) then some ⟨[t, t], [1]⟩
  else if (103 ≤ op ∧ op ≤ 105) ∨ (121 ≤ op ∧ op ≤ 123) ∨ b2 = true then some ⟨[t], [t]⟩
  else if (106 ≤ op ∧ op ≤ 120) ∨ (124 ≤ op ∧ op ≤ 138) then some ⟨[t, t], [t]⟩
  else none
def sigR (op : Int) : Option Fn := (plainR op).or (regR op (ofR op) (typR (nameR op)) (withinB (nameR op) ldS) (withinB (nameR op) exS))
theorem sig_any (op : Int) (w : World) : Calls Tryz.prog 54 #[.int .i64 op] w (SigTo Emp (sigR op) w) := by
  have F0 := hid ((Fr.refl No w).alloc (.cells #[.slice none 0 0, .slice none 0 0] 36))
  have G0 := hid (Blk.new w 36 #[.slice none 0 0, .slice none 0 0])
  have HP := hid (fun W => plain05_any op W)
  have HN := hid (fun W => name_any op W)
  have HO := hid (fun W => of_any op W)
  have hl := name_le op
  have HT := hid (fun W => typ_any (nameR op) W (by omega))
  have ht := typR_wf (nameR op)
  have HW1 := hid (fun W => within_any (nameR op) ldS W (by omega) (by decide))
  have HW2 := hid (fun W => within_any (nameR op) exS W (by omega) (by decide))
  unfold sigR
  generalize withinB (nameR op) ldS = b1 at *
  generalize withinB (nameR op) exS = b2 at *
  generalize typR (nameR op) = t at *
  generalize nameR op = s at *
  generalize ofR op = k at *
  generalize plainR op = pf at *
  generalize hZ : Option.or pf (regR op k t b1 b2) = Z
  have HZ := hid hZ
  clear hZ
  go_enter Tryz.func54, Tryz.ntmps54
  go_wp2_with fail
  refine (HP.out _).mono ?_
  rintro e w1 ⟨A1, c1, A2, c2, rfl, fa, f⟩
  have FA := hid fa
  have F1 := hid (F0.out.trans f (fun _ _ h => h))
  have G1 := hid (G0.out.fr f (fun x => x))
  have f00 := G1.out.frozen 0
  have f01 := G1.out.frozen 1
  have hq := G1.out.lt
  clear f fa HP
  have q0 := G1.out.cell 0
  have q1 := G1.out.cell 1
  cases pf with
  | some g =>
    have e := HZ.out
    simp only [fnD, Option.getD_some, Option.isSome_some, Option.or_some] at FA e ⊢
    subst e
    have GZ := hid ((G1.out.set_ 0 (.slice A1 g.params.length c1)).set_ 1 (.slice A2 g.results.length c2))
    have FZ := hid ((F1.out.setCell ⟨w.heap.size, 0, none⟩ (.slice A1 g.params.length c1) (fun h => absurd h (Nat.lt_irrefl _))).setCell ⟨w.heap.size, 1, none⟩ (.slice A2 g.results.length c2) (fun h => absurd h (Nat.lt_irrefl _)))
    go_wp2
    exact fn_ret rfl rfl rfl (((G1.out.set_ 0 _).set_ 1 _).alloc _) rfl ((sig_fin (o := some g) _ _ (fun _ h => h.elim) (Nat.le_refl _) (FA.out.more (fun _ h => h) (by simp)) F1.out rfl rfl).alloc (fun _ h => h.elim) _)
  | none =>
    have e := HZ.out
    simp only [fnD, Option.getD_none, Option.isSome_none, Option.none_or] at e ⊢
    replace HZ := hid e
    clear e FA
    go_wp2_with fail
    refine (HN.out _).mono ?_
    rintro e w2 ⟨rfl, f⟩
    have F2 := hid ((F1.out.alloc _).trans f (fun _ _ h => h))
    have G2 := hid ((G1.out.alloc _).fr f (fun x => x))
    clear f q0 q1 f00 f01 hq HN F1 G1 F0 G0
    go_wp2_with fail
    refine (HT.out _).mono ?_
    rintro e w' ⟨rfl, rfl⟩
    go_wp2_with fail
    refine (HO.out _).mono ?_
    rintro e w3 ⟨rfl, f⟩
    have F3 := hid (((F2.out.alloc _).alloc _).trans f (fun _ _ h => h))
    have G3 := hid (((G2.out.alloc _).alloc _).fr f (fun x => x))
    have B1 := hid (((Blk.new w2 59 #[.int .i64 t]).alloc _).fr f (fun x => x))
    have B2 := hid ((Blk.new1 w2 _ 59 #[.int .i64 t, .int .i64 t]).fr f (fun x => x))
    have hp3 := B2.out.lt
    have hp := G2.out.lt
    clear f F2 G2 HT
    generalize w2.heap.size = p at *
    by_cases hk : k = 17
    · subst hk
      go_wp2_with fail
      refine (HW1.out _).mono ?_
      rintro e w' ⟨rfl, rfl⟩
      cases b1 with
      | true =>
        have hz := HZ.out
        rw [regR, if_pos rfl, if_pos rfl] at hz
        subst hz
        clear HZ
        go_wp2_with fail
        refine (fn05_fr _ _ _ _ _ _ _).mono ?_
        rintro e w9 ⟨rfl, f⟩
        have G9 := hid (((G3.out.alloc _).alloc _).fr f (fun x => x))
        have F9 := hid (((F3.out.alloc _).alloc _).trans f (fun _ _ h => h))
        have g0 := G9.out.frozen 0
        have g1 := G9.out.frozen 1
        have g2 := G9.out.cell 0
        have g3 := G9.out.cell 1
        have FT : FnAt Emp (w.heap.size + 1) w9 _ _ (fnD (some ⟨[1], [t]⟩)) := ⟨lits_els (l := [1]) (((Blk.new w3 59 #[.int .i64 1]).alloc _).fr f (fun x => x)) (by omega) (by decide), lits_els (l := [t]) (((Blk.new1 w3 _ 59 #[.int .i64 t])).fr f (fun x => x)) (by omega) (by simp; exact wf_bool64 (by omega))⟩
        clear f
        go_wp2
        refine fn_ret (x := .bool true) rfl rfl rfl ((G9.out.set_ 0 _).set_ 1 _) rfl ?_
        exact sig_fin (o := some ⟨[1], [t]⟩) _ _ (fun _ h => h.elim) (Nat.le_refl _) FT F9.out rfl rfl
      | false =>
        go_wp2_with fail
        refine (HO.out _).mono ?_
        rintro e w4 ⟨rfl, f⟩
        have F4 := hid (F3.out.trans f (fun _ _ h => h))
        have G4 := hid (G3.out.fr f (fun x => x))
        replace B1 := hid (B1.out.fr f (fun x => x))
        replace B2 := hid (B2.out.fr f (fun x => x))
        have hp4 := B2.out.lt
        clear f
        have hz := HZ.out
        rw [regR, if_pos rfl, if_neg (by decide)] at hz
        subst hz
        clear HZ
        go_wp2_with fail
        refine (fn05_fr _ _ _ _ _ _ _).mono ?_
        rintro e w9 ⟨rfl, f⟩
        have G9 := hid ((G4.out.alloc _).fr f (fun x => x))
        have F9 := hid ((F4.out.alloc _).trans f (fun _ _ h => h))
        have g0 := G9.out.frozen 0
        have g1 := G9.out.frozen 1
        have g2 := G9.out.cell 0
        have g3 := G9.out.cell 1
        have FT : FnAt Emp (w.heap.size + 1) w9 _ none (fnD (some ⟨[1, t], []⟩)) := ⟨lits_els (l := [1, t]) (((Blk.new w4 59 #[.int .i64 1, .int .i64 t])).fr f (fun x => x)) (by omega) (by intro n hn; simp at hn; rcases hn with rfl | rfl <;> exact wf_bool64 (by omega)), .inl rfl⟩
        clear f
        go_wp2
        refine fn_ret (x := .bool true) rfl rfl rfl ((G9.out.set_ 0 _).set_ 1 _) rfl ?_
        exact sig_fin (o := some ⟨[1, t], []⟩) _ _ (fun _ h => h.elim) (Nat.le_refl _) FT F9.out rfl rfl
    · have d17 : (k == 17) = false := beq_eq_false_iff_ne.2 hk
      have hz := HZ.out
      rw [regR, if_neg hk] at hz
      replace HZ := hid hz
      clear hz hk
      go_wp2_with fail
      refine (HO.out _).mono ?_
      rintro e w4 ⟨rfl, f⟩
      have F4 := hid (F3.out.trans f (fun _ _ h => h))
      have G4 := hid (G3.out.fr f (fun x => x))
      replace B1 := hid (B1.out.fr f (fun x => x))
      replace B2 := hid (B2.out.fr f (fun x => x))
      have hp4 := B2.out.lt
      clear f
      clear F3 G3 hp3
      by_cases h69 : op = 69
      · subst h69
        have hz := HZ.out
        rw [if_pos (by omega)] at hz
        subst hz
        clear HZ
        go_wp2_with fail
        refine (fn05_fr _ _ _ _ _ _ _).mono ?_
        rintro e w9 ⟨rfl, f⟩
        have G9 := hid ((G4.out.alloc _).fr f (fun x => x))
        have F9 := hid ((F4.out.alloc _).trans f (fun _ _ h => h))
        have g0 := G9.out.frozen 0
        have g1 := G9.out.frozen 1
        have g2 := G9.out.cell 0
        have g3 := G9.out.cell 1
        have FT : FnAt Emp (w.heap.size + 1) w9 _ _ (fnD (some ⟨[t], [1]⟩)) := ⟨lits_els (l := [t]) ((B1.out.alloc _).fr f (fun x => x)) (by omega) (by simp; exact wf_bool64 (by omega)), lits_els (l := [1]) (((Blk.new w4 59 #[.int .i64 1])).fr f (fun x => x)) (by omega) (by decide)⟩
        clear f
        go_wp2
        refine fn_ret (x := .bool true) rfl rfl rfl ((G9.out.set_ 0 _).set_ 1 _) rfl ?_
        exact sig_fin (o := some ⟨[t], [1]⟩) _ _ (fun _ h => h.elim) (Nat.le_refl _) FT F9.out rfl rfl
      by_cases h80 : op = 80
      · subst h80
        have hz := HZ.out
        rw [if_pos (by omega)] at hz
        subst hz
        clear HZ
        go_wp2_with fail
        refine (fn05_fr _ _ _ _ _ _ _).mono ?_
        rintro e w9 ⟨rfl, f⟩
        have G9 := hid ((G4.out.alloc _).fr f (fun x => x))
        have F9 := hid ((F4.out.alloc _).trans f (fun _ _ h => h))
        have g0 := G9.out.frozen 0
        have g1 := G9.out.frozen 1
        have g2 := G9.out.cell 0
        have g3 := G9.out.cell 1
        have FT : FnAt Emp (w.heap.size + 1) w9 _ _ (fnD (some ⟨[t], [1]⟩)) := ⟨lits_els (l := [t]) ((B1.out.alloc _).fr f (fun x => x)) (by omega) (by simp; exact wf_bool64 (by omega)), lits_els (l := [1]) (((Blk.new w4 59 #[.int .i64 1])).fr f (fun x => x)) (by omega) (by decide)⟩
        clear f
        go_wp2
        refine fn_ret (x := .bool true) rfl rfl rfl ((G9.out.set_ 0 _).set_ 1 _) rfl ?_
        exact sig_fin (o := some ⟨[t], [1]⟩) _ _ (fun _ h => h.elim) (Nat.le_refl _) FT F9.out rfl rfl
      have d69 : (op == 69) = false := beq_eq_false_iff_ne.2 h69
      have d80 : (op == 80) = false := beq_eq_false_iff_ne.2 h80
      by_cases hr1 : 69 < op ∧ op ≤ 79
      · obtain ⟨hra, hrb⟩ := hr1
        have hz := HZ.out
        rw [if_neg (by omega), if_pos (by omega)] at hz
        subst hz
        clear HZ
        go_wp2_with fail
        refine (fn05_fr _ _ _ _ _ _ _).mono ?_
        rintro e w9 ⟨rfl, f⟩
        have G9 := hid ((G4.out.alloc _).fr f (fun x => x))
        have F9 := hid ((F4.out.alloc _).trans f (fun _ _ h => h))
        have g0 := G9.out.frozen 0
        have g1 := G9.out.frozen 1
        have g2 := G9.out.cell 0
        have g3 := G9.out.cell 1
        have FT : FnAt Emp (w.heap.size + 1) w9 _ _ (fnD (some ⟨[t, t], [1]⟩)) := ⟨lits_els (l := [t, t]) ((B2.out.alloc _).fr f (fun x => x)) (by omega) (by simp; exact wf_bool64 (by omega)), lits_els (l := [1]) (((Blk.new w4 59 #[.int .i64 1])).fr f (fun x => x)) (by omega) (by decide)⟩
        clear f
        go_wp2
        refine fn_ret (x := .bool true) rfl rfl rfl ((G9.out.set_ 0 _).set_ 1 _) rfl ?_
        exact sig_fin (o := some ⟨[t, t], [1]⟩) _ _ (fun _ h => h.elim) (Nat.le_refl _) FT F9.out rfl rfl
      by_cases hr2 : 80 < op ∧ op ≤ 90
      · obtain ⟨hra, hrb⟩ := hr2
        have hz := HZ.out
        rw [if_neg (by omega), if_pos (by omega)] at hz
        subst hz
        clear HZ
        go_wp2_with fail
        refine (fn05_fr _ _ _ _ _ _ _).mono ?_
        rintro e w9 ⟨rfl, f⟩
        have G9 := hid ((G4.out.alloc _).fr f (fun x => x))
        have F9 := hid ((F4.out.alloc _).trans f (fun _ _ h => h))
        have g0 := G9.out.frozen 0
        have g1 := G9.out.frozen 1
        have g2 := G9.out.cell 0
        have g3 := G9.out.cell 1
        have FT : FnAt Emp (w.heap.size + 1) w9 _ _ (fnD (some ⟨[t, t], [1]⟩)) := ⟨lits_els (l := [t, t]) ((B2.out.alloc _).fr f (fun x => x)) (by omega) (by simp; exact wf_bool64 (by omega)), lits_els (l := [1]) (((Blk.new w4 59 #[.int .i64 1])).fr f (fun x => x)) (by omega) (by decide)⟩
        clear f
        go_wp2
        refine fn_ret (x := .bool true) rfl rfl rfl ((G9.out.set_ 0 _).set_ 1 _) rfl ?_
        exact sig_fin (o := some ⟨[t, t], [1]⟩) _ _ (fun _ h => h.elim) (Nat.le_refl _) FT F9.out rfl rfl
      by_cases hr3 : 103 ≤ op ∧ op ≤ 105
      · obtain ⟨hra, hrb⟩ := hr3
        have hz := HZ.out
        rw [if_neg (by omega), if_neg (by omega), if_pos (by omega)] at hz
        subst hz
        clear HZ
        go_wp2_with fail
        refine (fn05_fr _ _ _ _ _ _ _).mono ?_
        rintro e w9 ⟨rfl, f⟩
        have G9 := hid ((G4.out.alloc _).fr f (fun x => x))
        have F9 := hid ((F4.out.alloc _).trans f (fun _ _ h => h))
        have g0 := G9.out.frozen 0
        have g1 := G9.out.frozen 1
        have g2 := G9.out.cell 0
        have g3 := G9.out.cell 1
        have FT : FnAt Emp (w.heap.size + 1) w9 _ _ (fnD (some ⟨[t], [t]⟩)) := ⟨lits_els (l := [t]) ((B1.out.alloc _).fr f (fun x => x)) (by omega) (by simp; exact wf_bool64 (by omega)), lits_els (l := [t]) (((Blk.new w4 59 #[.int .i64 t])).fr f (fun x => x)) (by omega) (by simp; exact wf_bool64 (by omega))⟩
        clear f
        go_wp2
        refine fn_ret (x := .bool true) rfl rfl rfl ((G9.out.set_ 0 _).set_ 1 _) rfl ?_
        exact sig_fin (o := some ⟨[t], [t]⟩) _ _ (fun _ h => h.elim) (Nat.le_refl _) FT F9.out rfl rfl
      by_cases hr4 : 121 ≤ op ∧ op ≤ 123
      · obtain ⟨hra, hrb⟩ := hr4
        have hz := HZ.out
        rw [if_neg (by omega), if_neg (by omega), if_pos (by omega)] at hz
        subst hz
        clear HZ
        go_wp2_with fail
        refine (fn05_fr _ _ _ _ _ _ _).mono ?_
        rintro e w9 ⟨rfl, f⟩
        have G9 := hid ((G4.out.alloc _).fr f (fun x => x))
        have F9 := hid ((F4.out.alloc _).trans f (fun _ _ h => h))
        have g0 := G9.out.frozen 0
        have g1 := G9.out.frozen 1
        have g2 := G9.out.cell 0
        have g3 := G9.out.cell 1
        have FT : FnAt Emp (w.heap.size + 1) w9 _ _ (fnD (some ⟨[t], [t]⟩)) := ⟨lits_els (l := [t]) ((B1.out.alloc _).fr f (fun x => x)) (by omega) (by simp; exact wf_bool64 (by omega)), lits_els (l := [t]) (((Blk.new w4 59 #[.int .i64 t])).fr f (fun x => x)) (by omega) (by simp; exact wf_bool64 (by omega))⟩
        clear f
        go_wp2
        refine fn_ret (x := .bool true) rfl rfl rfl ((G9.out.set_ 0 _).set_ 1 _) rfl ?_
        exact sig_fin (o := some ⟨[t], [t]⟩) _ _ (fun _ h => h.elim) (Nat.le_refl _) FT F9.out rfl rfl
      have pos : op < 69 ∨ (90 < op ∧ op < 103) ∨ (105 < op ∧ op < 121) ∨ 123 < op := by omega
      clear hr1 hr2 hr3 hr4 h69 h80
      rcases pos with pa | ⟨pa, pb⟩ | ⟨pa, pb⟩ | pa
      · go_wp2_with fail
        refine (HW2.out _).mono ?_
        rintro e w' ⟨rfl, rfl⟩
        cases b2 with
        | true =>
          have hz := HZ.out
          rw [if_neg (by omega), if_neg (by omega), if_pos (.inr (.inr rfl))] at hz
          subst hz
          clear HZ
          go_wp2_with fail
          refine (fn05_fr _ _ _ _ _ _ _).mono ?_
          rintro e w9 ⟨rfl, f⟩
          have G9 := hid ((G4.out.alloc _).fr f (fun x => x))
          have F9 := hid ((F4.out.alloc _).trans f (fun _ _ h => h))
          have g0 := G9.out.frozen 0
          have g1 := G9.out.frozen 1
          have g2 := G9.out.cell 0
          have g3 := G9.out.cell 1
          have FT : FnAt Emp (w.heap.size + 1) w9 _ _ (fnD (some ⟨[t], [t]⟩)) := ⟨lits_els (l := [t]) ((B1.out.alloc _).fr f (fun x => x)) (by omega) (by simp; exact wf_bool64 (by omega)), lits_els (l := [t]) (((Blk.new w4 59 #[.int .i64 t])).fr f (fun x => x)) (by omega) (by simp; exact wf_bool64 (by omega))⟩
          clear f
          go_wp2
          refine fn_ret (x := .bool true) rfl rfl rfl ((G9.out.set_ 0 _).set_ 1 _) rfl ?_
          exact sig_fin (o := some ⟨[t], [t]⟩) _ _ (fun _ h => h.elim) (Nat.le_refl _) FT F9.out rfl rfl
        | false =>
          have hz := HZ.out
          rw [if_neg (by omega), if_neg (by omega), if_neg (by simp; omega)] at hz
          replace HZ := hid hz
          clear hz
          have hz := HZ.out
          rw [if_neg (by omega)] at hz
          subst hz
          have g0 := G4.out.frozen 0
          have g1 := G4.out.frozen 1
          have g2 := G4.out.cell 0
          have g3 := G4.out.cell 1
          clear HZ HW1 HW2 HO
          go_wp2
          refine fn_ret (x := .bool false) rfl rfl rfl ((G4.out.set_ 0 _).set_ 1 _) rfl ?_
          exact sig_fin (o := none) (c1 := 0) (c2 := 0) _ _ (fun _ h => h.elim) (Nat.le_refl _) ⟨.inl rfl, .inl rfl⟩ F4.out rfl rfl
      · go_wp2_with fail
        refine (HW2.out _).mono ?_
        rintro e w' ⟨rfl, rfl⟩
        cases b2 with
        | true =>
          have hz := HZ.out
          rw [if_neg (by omega), if_neg (by omega), if_pos (.inr (.inr rfl))] at hz
          subst hz
          clear HZ
          go_wp2_with fail
          refine (fn05_fr _ _ _ _ _ _ _).mono ?_
          rintro e w9 ⟨rfl, f⟩
          have G9 := hid ((G4.out.alloc _).fr f (fun x => x))
          have F9 := hid ((F4.out.alloc _).trans f (fun _ _ h => h))
          have g0 := G9.out.frozen 0
          have g1 := G9.out.frozen 1
          have g2 := G9.out.cell 0
          have g3 := G9.out.cell 1
          have FT : FnAt Emp (w.heap.size + 1) w9 _ _ (fnD (some ⟨[t], [t]⟩)) := ⟨lits_els (l := [t]) ((B1.out.alloc _).fr f (fun x => x)) (by omega) (by simp; exact wf_bool64 (by omega)), lits_els (l := [t]) (((Blk.new w4 59 #[.int .i64 t])).fr f (fun x => x)) (by omega) (by simp; exact wf_bool64 (by omega))⟩
          clear f
          go_wp2
          refine fn_ret (x := .bool true) rfl rfl rfl ((G9.out.set_ 0 _).set_ 1 _) rfl ?_
          exact sig_fin (o := some ⟨[t], [t]⟩) _ _ (fun _ h => h.elim) (Nat.le_refl _) FT F9.out rfl rfl
        | false =>
          have hz := HZ.out
          rw [if_neg (by omega), if_neg (by omega), if_neg (by simp; omega)] at hz
          replace HZ := hid hz
          clear hz
          have hz := HZ.out
          rw [if_neg (by omega)] at hz
          subst hz
          have g0 := G4.out.frozen 0
          have g1 := G4.out.frozen 1
          have g2 := G4.out.cell 0
          have g3 := G4.out.cell 1
          clear HZ HW1 HW2 HO
          go_wp2
          refine fn_ret (x := .bool false) rfl rfl rfl ((G4.out.set_ 0 _).set_ 1 _) rfl ?_
          exact sig_fin (o := none) (c1 := 0) (c2 := 0) _ _ (fun _ h => h.elim) (Nat.le_refl _) ⟨.inl rfl, .inl rfl⟩ F4.out rfl rfl
      · go_wp2_with fail
        refine (HW2.out _).mono ?_
        rintro e w' ⟨rfl, rfl⟩
        cases b2 with
        | true =>
          have hz := HZ.out
          rw [if_neg (by omega), if_neg (by omega), if_pos (.inr (.inr rfl))] at hz
          subst hz
          clear HZ
          go_wp2_with fail
          refine (fn05_fr _ _ _ _ _ _ _).mono ?_
          rintro e w9 ⟨rfl, f⟩
          have G9 := hid ((G4.out.alloc _).fr f (fun x => x))
          have F9 := hid ((F4.out.alloc _).trans f (fun _ _ h => h))
          have g0 := G9.out.frozen 0
          have g1 := G9.out.frozen 1
          have g2 := G9.out.cell 0
          have g3 := G9.out.cell 1
          have FT : FnAt Emp (w.heap.size + 1) w9 _ _ (fnD (some ⟨[t], [t]⟩)) := ⟨lits_els (l := [t]) ((B1.out.alloc _).fr f (fun x => x)) (by omega) (by simp; exact wf_bool64 (by omega)), lits_els (l := [t]) (((Blk.new w4 59 #[.int .i64 t])).fr f (fun x => x)) (by omega) (by simp; exact wf_bool64 (by omega))⟩
          clear f
          go_wp2
          refine fn_ret (x := .bool true) rfl rfl rfl ((G9.out.set_ 0 _).set_ 1 _) rfl ?_
          exact sig_fin (o := some ⟨[t], [t]⟩) _ _ (fun _ h => h.elim) (Nat.le_refl _) FT F9.out rfl rfl
        | false =>
          have hz := HZ.out
          rw [if_neg (by omega), if_neg (by omega), if_neg (by simp; omega)] at hz
          replace HZ := hid hz
          clear hz
          have hz := HZ.out
          rw [if_pos (by omega)] at hz
          subst hz
          clear HZ
          go_wp2_with fail
          refine (fn05_fr _ _ _ _ _ _ _).mono ?_
          rintro e w9 ⟨rfl, f⟩
          have G9 := hid ((G4.out.alloc _).fr f (fun x => x))
          have F9 := hid ((F4.out.alloc _).trans f (fun _ _ h => h))
          have g0 := G9.out.frozen 0
          have g1 := G9.out.frozen 1
          have g2 := G9.out.cell 0
          have g3 := G9.out.cell 1
          have FT : FnAt Emp (w.heap.size + 1) w9 _ _ (fnD (some ⟨[t, t], [t]⟩)) := ⟨lits_els (l := [t, t]) ((B2.out.alloc _).fr f (fun x => x)) (by omega) (by simp; exact wf_bool64 (by omega)), lits_els (l := [t]) (((Blk.new w4 59 #[.int .i64 t])).fr f (fun x => x)) (by omega) (by simp; exact wf_bool64 (by omega))⟩
          clear f
          go_wp2
          refine fn_ret (x := .bool true) rfl rfl rfl ((G9.out.set_ 0 _).set_ 1 _) rfl ?_
          exact sig_fin (o := some ⟨[t, t], [t]⟩) _ _ (fun _ h => h.elim) (Nat.le_refl _) FT F9.out rfl rfl
      · go_wp2_with fail
        refine (HW2.out _).mono ?_
        rintro e w' ⟨rfl, rfl⟩
        cases b2 with
        | true =>
          have hz := HZ.out
          rw [if_neg (by omega), if_neg (by omega), if_pos (.inr (.inr rfl))] at hz
          subst hz
          clear HZ
          go_wp2_with fail
          refine (fn05_fr _ _ _ _ _ _ _).mono ?_
          rintro e w9 ⟨rfl, f⟩
          have G9 := hid ((G4.out.alloc _).fr f (fun x => x))
          have F9 := hid ((F4.out.alloc _).trans f (fun _ _ h => h))
          have g0 := G9.out.frozen 0
          have g1 := G9.out.frozen 1
          have g2 := G9.out.cell 0
          have g3 := G9.out.cell 1
          have FT : FnAt Emp (w.heap.size + 1) w9 _ _ (fnD (some ⟨[t], [t]⟩)) := ⟨lits_els (l := [t]) ((B1.out.alloc _).fr f (fun x => x)) (by omega) (by simp; exact wf_bool64 (by omega)), lits_els (l := [t]) (((Blk.new w4 59 #[.int .i64 t])).fr f (fun x => x)) (by omega) (by simp; exact wf_bool64 (by omega))⟩
          clear f
          go_wp2
          refine fn_ret (x := .bool true) rfl rfl rfl ((G9.out.set_ 0 _).set_ 1 _) rfl ?_
          exact sig_fin (o := some ⟨[t], [t]⟩) _ _ (fun _ h => h.elim) (Nat.le_refl _) FT F9.out rfl rfl
        | false =>
          have hz := HZ.out
          rw [if_neg (by omega), if_neg (by omega), if_neg (by simp; omega)] at hz
          replace HZ := hid hz
          clear hz
          by_cases hs : op ≤ 138
          · skip
            have hz := HZ.out
            rw [if_pos (by omega)] at hz
            subst hz
            clear HZ
            go_wp2_with fail
            refine (fn05_fr _ _ _ _ _ _ _).mono ?_
            rintro e w9 ⟨rfl, f⟩
            have G9 := hid ((G4.out.alloc _).fr f (fun x => x))
            have F9 := hid ((F4.out.alloc _).trans f (fun _ _ h => h))
            have g0 := G9.out.frozen 0
            have g1 := G9.out.frozen 1
            have g2 := G9.out.cell 0
            have g3 := G9.out.cell 1
            have FT : FnAt Emp (w.heap.size + 1) w9 _ _ (fnD (some ⟨[t, t], [t]⟩)) := ⟨lits_els (l := [t, t]) ((B2.out.alloc _).fr f (fun x => x)) (by omega) (by simp; exact wf_bool64 (by omega)), lits_els (l := [t]) (((Blk.new w4 59 #[.int .i64 t])).fr f (fun x => x)) (by omega) (by simp; exact wf_bool64 (by omega))⟩
            clear f
            go_wp2
            refine fn_ret (x := .bool true) rfl rfl rfl ((G9.out.set_ 0 _).set_ 1 _) rfl ?_
            exact sig_fin (o := some ⟨[t, t], [t]⟩) _ _ (fun _ h => h.elim) (Nat.le_refl _) FT F9.out rfl rfl
          · skip
            have hz := HZ.out
            rw [if_neg (by omega)] at hz
            subst hz
            have g0 := G4.out.frozen 0
            have g1 := G4.out.frozen 1
            have g2 := G4.out.cell 0
            have g3 := G4.out.cell 1
            clear HZ HW1 HW2 HO
            go_wp2
            refine fn_ret (x := .bool false) rfl rfl rfl ((G4.out.set_ 0 _).set_ 1 _) rfl ?_
            exact sig_fin (o := none) (c1 := 0) (c2 := 0) _ _ (fun _ h => h.elim) (Nat.le_refl _) ⟨.inl rfl, .inl rfl⟩ F4.out rfl rfl
end Go.Proofs.YtiafkakkbbclhaaGreat
namespace Go.Proofs.YtiafkakkbbclhaaGreat
open Go.RowKit
def idxB (n : Int) : Bool := decide (0 ≤ n) && decide (n < 4294967296)
theorem index_any (n : Int) (w : World) : Calls Tryz.prog 84 #[.int .i64 n] w fun e w' => e = .returned (.bool (idxB n)) ∧ w = w' := by
  unfold idxB
  cases h0 : decide (0 ≤ n) with
  | false =>
    go_enter Tryz.func84, Tryz.ntmps84
    go_wp2
    go_ret
    exact ⟨rt_bool (by simp), rfl⟩
  | true =>
    cases h1 : decide (n < 4294967296) with
    | false =>
      go_enter Tryz.func84, Tryz.ntmps84
      go_wp2
      go_ret
      exact ⟨rt_bool (by simp), rfl⟩
    | true =>
      go_enter Tryz.func84, Tryz.ntmps84
      go_wp2
      go_ret
      exact ⟨rt_bool (by simp), rfl⟩
theorem known_of {op : Int} (h : ofR op ≠ 0) : knownR op = true := by
  unfold ofR at h
  unfold knownR
  unfold fnd fndL at *
  cases hq : tbR.find? (fun x => x.op == op) with
  | none => rw [hq] at h; exact absurd rfl h
  | some x => rfl
theorem blk_eq (W : World) : (Op.equalIn 10000 137 (.agg #[.int .i64 0, .int .i64 0, .int .i64 0]) (.agg #[.int .i64 0, .int .i64 0, .int .i64 0])).run Tryz.prog W = .ok true W :=
  eq_st (r := true) (by kernel_rfl) (by kernel_rfl) (eqf_cons (r := true) (s := true) (by decide) (run_part1 (isAgg_int Tryz.underlying3) rfl) (run_part1 (isAgg_int Tryz.underlying3) rfl) (run_equalIn_int W 9998 _ _ _ _ _ Tryz.underlying3) (eqf_cons (r := true) (s := true) (by decide) (run_part1 (isAgg_int Tryz.underlying59) rfl) (run_part1 (isAgg_int Tryz.underlying59) rfl) (run_equalIn_int W 9998 _ _ _ _ _ Tryz.underlying59) (eqf_cons (r := true) (s := true) (by decide) (run_part1 (isAgg_int Tryz.underlying3) rfl) (run_part1 (isAgg_int Tryz.underlying3) rfl) (run_equalIn_int W 9998 _ _ _ _ _ Tryz.underlying3) eqf_nil)))
def plnB (K a b n : Int) : Bool :=
  if K = 17 then decide (0 ≤ a) && decide (a ≤ 63) && idxB b && decide (n < 4294967296)
  else if K = 13 then (a == 0) && idxB b && (n == 0)
  else if K = 5 ∨ K = 10 ∨ K = 11 ∨ K = 14 ∨ K = 15 then idxB a && idxB b && (n == 0)
  else idxB a && (b == 0) && (n == 0)
theorem plain_4 (op a b n : Int) (w : World) (hk : ofR op = 4) : Calls Tryz.prog 73 #[.agg #[.int .i64 op, .int .i64 a, .int .i64 b, .int .u64 n, .int .i64 0, .int .i64 0, .int .i64 0, .slice none 0 0, .slice none 0 0]] w fun e w' => e = .returned (.bool (plnB 4 a b n)) ∧ Fr No w w' := by
  have F0 := hid ((Fr.refl No w).alloc (.cells #[.int .i64 op, .int .i64 a, .int .i64 b, .int .u64 n, .int .i64 0, .int .i64 0, .int .i64 0, .slice none 0 0, .slice none 0 0] 139))
  have G0 := hid (Blk.new w 139 #[.int .i64 op, .int .i64 a, .int .i64 b, .int .u64 n, .int .i64 0, .int .i64 0, .int .i64 0, .slice none 0 0, .slice none 0 0])
  have HO := hid (fun W => of_any op W)
  have HK := hid (fun W => known_any op W)
  rw [known_of (by rw [hk]; decide)] at HK
  rw [hk] at HO
  clear hk
  rw [plnB, if_neg (by decide), if_neg (by decide), if_neg (by decide)]
  have HIa := hid (fun W => index_any a W)
  generalize idxB a = ia at *
  go_enter Tryz.func73, Tryz.ntmps73
  go_wp2_with fail
  refine (HO.out _).mono ?_
  rintro e w1 ⟨rfl, f⟩
  have F1 := hid (F0.out.trans f (fun _ _ h => h))
  have G1 := hid (G0.out.fr f (fun x => x))
  clear f HO F0 G0
  have q0 := G1.out.cell 0
  go_wp2_with fail
  refine (HK.out _).mono ?_
  rintro e w2 ⟨rfl, f⟩
  have F2 := hid (F1.out.trans f (fun _ _ h => h))
  have G2 := hid (G1.out.fr f (fun x => x))
  clear f HK F1 G1 q0
  have q0 := G2.out.cell 0
  have q1 := G2.out.cell 1
  have q2 := G2.out.cell 2
  have q3 := G2.out.cell 3
  have q4 := G2.out.cell 4
  have q5 := G2.out.cell 5
  have q6 := G2.out.cell 6
  have q7 := G2.out.cell 7
  have q8 := G2.out.cell 8
  have hbk := blk_eq w2
  go_wp2_with fail
  refine (HIa.out _).mono ?_
  rintro e w' ⟨rfl, rfl⟩
  cases ia with
  | false =>
    go_wp2
    go_ret
    exact ⟨rt_bool (by simp), F2.out⟩
  | true =>
    cases hb : (b == 0) with
    | false =>
      go_wp2
      go_ret
      exact ⟨rt_bool (by simp [hb]), F2.out⟩
    | true =>
      cases hn : (n == 0) with
      | false =>
        go_wp2
        go_ret
        exact ⟨rt_bool (by simp [hb, hn]), F2.out⟩
      | true =>
        go_wp2
        go_ret
        exact ⟨rt_bool (by simp [hb, hn]), F2.out⟩
theorem plain_5 (op a b n : Int) (w : World) (hk : ofR op = 5) : Calls Tryz.prog 73 #[.agg #[.int .i64 op, .int .i64 a, .int .i64 b, .int .u64 n, .int .i64 0, .int .i64 0, .int .i64 0, .slice none 0 0, .slice none 0 0]] w fun e w' => e = .returned (.bool (plnB 5 a b n)) ∧ Fr No w w' := by
  have F0 := hid ((Fr.refl No w).alloc (.cells #[.int .i64 op, .int .i64 a, .int .i64 b, .int .u64 n, .int .i64 0, .int .i64 0, .int .i64 0, .slice none 0 0, .slice none 0 0] 139))
  have G0 := hid (Blk.new w 139 #[.int .i64 op, .int .i64 a, .int .i64 b, .int .u64 n, .int .i64 0, .int .i64 0, .int .i64 0, .slice none 0 0, .slice none 0 0])
  have HO := hid (fun W => of_any op W)
  have HK := hid (fun W => known_any op W)
  rw [known_of (by rw [hk]; decide)] at HK
  rw [hk] at HO
  clear hk
  rw [plnB, if_neg (by decide), if_neg (by decide), if_pos (by decide)]
  have HIa := hid (fun W => index_any a W)
  generalize idxB a = ia at *
  have HIb := hid (fun W => index_any b W)
  generalize idxB b = ib at *
  go_enter Tryz.func73, Tryz.ntmps73
  go_wp2_with fail
  refine (HO.out _).mono ?_
  rintro e w1 ⟨rfl, f⟩
  have F1 := hid (F0.out.trans f (fun _ _ h => h))
  have G1 := hid (G0.out.fr f (fun x => x))
  clear f HO F0 G0
  have q0 := G1.out.cell 0
  go_wp2_with fail
  refine (HK.out _).mono ?_
  rintro e w2 ⟨rfl, f⟩
  have F2 := hid (F1.out.trans f (fun _ _ h => h))
  have G2 := hid (G1.out.fr f (fun x => x))
  clear f HK F1 G1 q0
  have q0 := G2.out.cell 0
  have q1 := G2.out.cell 1
  have q2 := G2.out.cell 2
  have q3 := G2.out.cell 3
  have q4 := G2.out.cell 4
  have q5 := G2.out.cell 5
  have q6 := G2.out.cell 6
  have q7 := G2.out.cell 7
  have q8 := G2.out.cell 8
  have hbk := blk_eq w2
  go_wp2_with fail
  refine (HIa.out _).mono ?_
  rintro e w' ⟨rfl, rfl⟩
  cases ia with
  | false =>
    go_wp2
    go_ret
    exact ⟨rt_bool (by simp), F2.out⟩
  | true =>
    go_wp2_with fail
    refine (HIb.out _).mono ?_
    rintro e w' ⟨rfl, rfl⟩
    cases ib with
    | false =>
      go_wp2
      go_ret
      exact ⟨rt_bool (by simp), F2.out⟩
    | true =>
      cases hn : (n == 0) with
      | false =>
        go_wp2
        go_ret
        exact ⟨rt_bool (by simp [hn]), F2.out⟩
      | true =>
        go_wp2
        go_ret
        exact ⟨rt_bool (by simp [hn]), F2.out⟩
theorem plain_8 (op a b n : Int) (w : World) (hk : ofR op = 8) : Calls Tryz.prog 73 #[.agg #[.int .i64 op, .int .i64 a, .int .i64 b, .int .u64 n, .int .i64 0, .int .i64 0, .int .i64 0, .slice none 0 0, .slice none 0 0]] w fun e w' => e = .returned (.bool (plnB 8 a b n)) ∧ Fr No w w' := by
  have F0 := hid ((Fr.refl No w).alloc (.cells #[.int .i64 op, .int .i64 a, .int .i64 b, .int .u64 n, .int .i64 0, .int .i64 0, .int .i64 0, .slice none 0 0, .slice none 0 0] 139))
  have G0 := hid (Blk.new w 139 #[.int .i64 op, .int .i64 a, .int .i64 b, .int .u64 n, .int .i64 0, .int .i64 0, .int .i64 0, .slice none 0 0, .slice none 0 0])
  have HO := hid (fun W => of_any op W)
  have HK := hid (fun W => known_any op W)
  rw [known_of (by rw [hk]; decide)] at HK
  rw [hk] at HO
  clear hk
  rw [plnB, if_neg (by decide), if_neg (by decide), if_neg (by decide)]
  have HIa := hid (fun W => index_any a W)
  generalize idxB a = ia at *
  go_enter Tryz.func73, Tryz.ntmps73
  go_wp2_with fail
  refine (HO.out _).mono ?_
  rintro e w1 ⟨rfl, f⟩
  have F1 := hid (F0.out.trans f (fun _ _ h => h))
  have G1 := hid (G0.out.fr f (fun x => x))
  clear f HO F0 G0
  have q0 := G1.out.cell 0
  go_wp2_with fail
  refine (HK.out _).mono ?_
  rintro e w2 ⟨rfl, f⟩
  have F2 := hid (F1.out.trans f (fun _ _ h => h))
  have G2 := hid (G1.out.fr f (fun x => x))
  clear f HK F1 G1 q0
  have q0 := G2.out.cell 0
  have q1 := G2.out.cell 1
  have q2 := G2.out.cell 2
  have q3 := G2.out.cell 3
  have q4 := G2.out.cell 4
  have q5 := G2.out.cell 5
  have q6 := G2.out.cell 6
  have q7 := G2.out.cell 7
  have q8 := G2.out.cell 8
  have hbk := blk_eq w2
  go_wp2_with fail
  refine (HIa.out _).mono ?_
  rintro e w' ⟨rfl, rfl⟩
  cases ia with
  | false =>
    go_wp2
    go_ret
    exact ⟨rt_bool (by simp), F2.out⟩
  | true =>
    cases hb : (b == 0) with
    | false =>
      go_wp2
      go_ret
      exact ⟨rt_bool (by simp [hb]), F2.out⟩
    | true =>
      cases hn : (n == 0) with
      | false =>
        go_wp2
        go_ret
        exact ⟨rt_bool (by simp [hb, hn]), F2.out⟩
      | true =>
        go_wp2
        go_ret
        exact ⟨rt_bool (by simp [hb, hn]), F2.out⟩
theorem plain_9 (op a b n : Int) (w : World) (hk : ofR op = 9) : Calls Tryz.prog 73 #[.agg #[.int .i64 op, .int .i64 a, .int .i64 b, .int .u64 n, .int .i64 0, .int .i64 0, .int .i64 0, .slice none 0 0, .slice none 0 0]] w fun e w' => e = .returned (.bool (plnB 9 a b n)) ∧ Fr No w w' := by
  have F0 := hid ((Fr.refl No w).alloc (.cells #[.int .i64 op, .int .i64 a, .int .i64 b, .int .u64 n, .int .i64 0, .int .i64 0, .int .i64 0, .slice none 0 0, .slice none 0 0] 139))
  have G0 := hid (Blk.new w 139 #[.int .i64 op, .int .i64 a, .int .i64 b, .int .u64 n, .int .i64 0, .int .i64 0, .int .i64 0, .slice none 0 0, .slice none 0 0])
  have HO := hid (fun W => of_any op W)
  have HK := hid (fun W => known_any op W)
  rw [known_of (by rw [hk]; decide)] at HK
  rw [hk] at HO
  clear hk
  rw [plnB, if_neg (by decide), if_neg (by decide), if_neg (by decide)]
  have HIa := hid (fun W => index_any a W)
  generalize idxB a = ia at *
  go_enter Tryz.func73, Tryz.ntmps73
  go_wp2_with fail
  refine (HO.out _).mono ?_
  rintro e w1 ⟨rfl, f⟩
  have F1 := hid (F0.out.trans f (fun _ _ h => h))
  have G1 := hid (G0.out.fr f (fun x => x))
  clear f HO F0 G0
  have q0 := G1.out.cell 0
  go_wp2_with fail
  refine (HK.out _).mono ?_
  rintro e w2 ⟨rfl, f⟩
  have F2 := hid (F1.out.trans f (fun _ _ h => h))
  have G2 := hid (G1.out.fr f (fun x => x))
  clear f HK F1 G1 q0
  have q0 := G2.out.cell 0
  have q1 := G2.out.cell 1
  have q2 := G2.out.cell 2
  have q3 := G2.out.cell 3
  have q4 := G2.out.cell 4
  have q5 := G2.out.cell 5
  have q6 := G2.out.cell 6
  have q7 := G2.out.cell 7
  have q8 := G2.out.cell 8
  have hbk := blk_eq w2
  go_wp2_with fail
  refine (HIa.out _).mono ?_
  rintro e w' ⟨rfl, rfl⟩
  cases ia with
  | false =>
    go_wp2
    go_ret
    exact ⟨rt_bool (by simp), F2.out⟩
  | true =>
    cases hb : (b == 0) with
    | false =>
      go_wp2
      go_ret
      exact ⟨rt_bool (by simp [hb]), F2.out⟩
    | true =>
      cases hn : (n == 0) with
      | false =>
        go_wp2
        go_ret
        exact ⟨rt_bool (by simp [hb, hn]), F2.out⟩
      | true =>
        go_wp2
        go_ret
        exact ⟨rt_bool (by simp [hb, hn]), F2.out⟩
theorem plain_10 (op a b n : Int) (w : World) (hk : ofR op = 10) : Calls Tryz.prog 73 #[.agg #[.int .i64 op, .int .i64 a, .int .i64 b, .int .u64 n, .int .i64 0, .int .i64 0, .int .i64 0, .slice none 0 0, .slice none 0 0]] w fun e w' => e = .returned (.bool (plnB 10 a b n)) ∧ Fr No w w' := by
  have F0 := hid ((Fr.refl No w).alloc (.cells #[.int .i64 op, .int .i64 a, .int .i64 b, .int .u64 n, .int .i64 0, .int .i64 0, .int .i64 0, .slice none 0 0, .slice none 0 0] 139))
  have G0 := hid (Blk.new w 139 #[.int .i64 op, .int .i64 a, .int .i64 b, .int .u64 n, .int .i64 0, .int .i64 0, .int .i64 0, .slice none 0 0, .slice none 0 0])
  have HO := hid (fun W => of_any op W)
  have HK := hid (fun W => known_any op W)
  rw [known_of (by rw [hk]; decide)] at HK
  rw [hk] at HO
  clear hk
  rw [plnB, if_neg (by decide), if_neg (by decide), if_pos (by decide)]
  have HIa := hid (fun W => index_any a W)
  generalize idxB a = ia at *
  have HIb := hid (fun W => index_any b W)
  generalize idxB b = ib at *
  go_enter Tryz.func73, Tryz.ntmps73
  go_wp2_with fail
  refine (HO.out _).mono ?_
  rintro e w1 ⟨rfl, f⟩
  have F1 := hid (F0.out.trans f (fun _ _ h => h))
  have G1 := hid (G0.out.fr f (fun x => x))
  clear f HO F0 G0
  have q0 := G1.out.cell 0
  go_wp2_with fail
  refine (HK.out _).mono ?_
  rintro e w2 ⟨rfl, f⟩
  have F2 := hid (F1.out.trans f (fun _ _ h => h))
  have G2 := hid (G1.out.fr f (fun x => x))
  clear f HK F1 G1 q0
  have q0 := G2.out.cell 0
  have q1 := G2.out.cell 1
  have q2 := G2.out.cell 2
  have q3 := G2.out.cell 3
  have q4 := G2.out.cell 4
  have q5 := G2.out.cell 5
  have q6 := G2.out.cell 6
  have q7 := G2.out.cell 7
  have q8 := G2.out.cell 8
  have hbk := blk_eq w2
  go_wp2_with fail
  refine (HIa.out _).mono ?_
  rintro e w' ⟨rfl, rfl⟩
  cases ia with
  | false =>
    go_wp2
    go_ret
    exact ⟨rt_bool (by simp), F2.out⟩
  | true =>
    go_wp2_with fail
    refine (HIb.out _).mono ?_
    rintro e w' ⟨rfl, rfl⟩
    cases ib with
    | false =>
      go_wp2
      go_ret
      exact ⟨rt_bool (by simp), F2.out⟩
    | true =>
      cases hn : (n == 0) with
      | false =>
        go_wp2
        go_ret
        exact ⟨rt_bool (by simp [hn]), F2.out⟩
      | true =>
        go_wp2
        go_ret
        exact ⟨rt_bool (by simp [hn]), F2.out⟩
theorem plain_11 (op a b n : Int) (w : World) (hk : ofR op = 11) : Calls Tryz.prog 73 #[.agg #[.int .i64 op, .int .i64 a, .int .i64 b, .int .u64 n, .int .i64 0, .int .i64 0, .int .i64 0, .slice none 0 0, .slice none 0 0]] w fun e w' => e = .returned (.bool (plnB 11 a b n)) ∧ Fr No w w' := by
  have F0 := hid ((Fr.refl No w).alloc (.cells #[.int .i64 op, .int .i64 a, .int .i64 b, .int .u64 n, .int .i64 0, .int .i64 0, .int .i64 0, .slice none 0 0, .slice none 0 0] 139))
  have G0 := hid (Blk.new w 139 #[.int .i64 op, .int .i64 a, .int .i64 b, .int .u64 n, .int .i64 0, .int .i64 0, .int .i64 0, .slice none 0 0, .slice none 0 0])
  have HO := hid (fun W => of_any op W)
  have HK := hid (fun W => known_any op W)
  rw [known_of (by rw [hk]; decide)] at HK
  rw [hk] at HO
  clear hk
  rw [plnB, if_neg (by decide), if_neg (by decide), if_pos (by decide)]
  have HIa := hid (fun W => index_any a W)
  generalize idxB a = ia at *
  have HIb := hid (fun W => index_any b W)
  generalize idxB b = ib at *
  go_enter Tryz.func73, Tryz.ntmps73
  go_wp2_with fail
  refine (HO.out _).mono ?_
  rintro e w1 ⟨rfl, f⟩
  have F1 := hid (F0.out.trans f (fun _ _ h => h))
  have G1 := hid (G0.out.fr f (fun x => x))
  clear f HO F0 G0
  have q0 := G1.out.cell 0
  go_wp2_with fail
  refine (HK.out _).mono ?_
  rintro e w2 ⟨rfl, f⟩
  have F2 := hid (F1.out.trans f (fun _ _ h => h))
  have G2 := hid (G1.out.fr f (fun x => x))
  clear f HK F1 G1 q0
  have q0 := G2.out.cell 0
  have q1 := G2.out.cell 1
  have q2 := G2.out.cell 2
  have q3 := G2.out.cell 3
  have q4 := G2.out.cell 4
  have q5 := G2.out.cell 5
  have q6 := G2.out.cell 6
  have q7 := G2.out.cell 7
  have q8 := G2.out.cell 8
  have hbk := blk_eq w2
  go_wp2_with fail
  refine (HIa.out _).mono ?_
  rintro e w' ⟨rfl, rfl⟩
  cases ia with
  | false =>
    go_wp2
    go_ret
    exact ⟨rt_bool (by simp), F2.out⟩
  | true =>
    go_wp2_with fail
    refine (HIb.out _).mono ?_
    rintro e w' ⟨rfl, rfl⟩
    cases ib with
    | false =>
      go_wp2
      go_ret
      exact ⟨rt_bool (by simp), F2.out⟩
    | true =>
      cases hn : (n == 0) with
      | false =>
        go_wp2
        go_ret
        exact ⟨rt_bool (by simp [hn]), F2.out⟩
      | true =>
        go_wp2
        go_ret
        exact ⟨rt_bool (by simp [hn]), F2.out⟩
theorem plain_12 (op a b n : Int) (w : World) (hk : ofR op = 12) : Calls Tryz.prog 73 #[.agg #[.int .i64 op, .int .i64 a, .int .i64 b, .int .u64 n, .int .i64 0, .int .i64 0, .int .i64 0, .slice none 0 0, .slice none 0 0]] w fun e w' => e = .returned (.bool (plnB 12 a b n)) ∧ Fr No w w' := by
  have F0 := hid ((Fr.refl No w).alloc (.cells #[.int .i64 op, .int .i64 a, .int .i64 b, .int .u64 n, .int .i64 0, .int .i64 0, .int .i64 0, .slice none 0 0, .slice none 0 0] 139))
  have G0 := hid (Blk.new w 139 #[.int .i64 op, .int .i64 a, .int .i64 b, .int .u64 n, .int .i64 0, .int .i64 0, .int .i64 0, .slice none 0 0, .slice none 0 0])
  have HO := hid (fun W => of_any op W)
  have HK := hid (fun W => known_any op W)
  rw [known_of (by rw [hk]; decide)] at HK
  rw [hk] at HO
  clear hk
  rw [plnB, if_neg (by decide), if_neg (by decide), if_neg (by decide)]
  have HIa := hid (fun W => index_any a W)
  generalize idxB a = ia at *
  go_enter Tryz.func73, Tryz.ntmps73
  go_wp2_with fail
  refine (HO.out _).mono ?_
  rintro e w1 ⟨rfl, f⟩
  have F1 := hid (F0.out.trans f (fun _ _ h => h))
  have G1 := hid (G0.out.fr f (fun x => x))
  clear f HO F0 G0
  have q0 := G1.out.cell 0
  go_wp2_with fail
  refine (HK.out _).mono ?_
  rintro e w2 ⟨rfl, f⟩
  have F2 := hid (F1.out.trans f (fun _ _ h => h))
  have G2 := hid (G1.out.fr f (fun x => x))
  clear f HK F1 G1 q0
  have q0 := G2.out.cell 0
  have q1 := G2.out.cell 1
  have q2 := G2.out.cell 2
  have q3 := G2.out.cell 3
  have q4 := G2.out.cell 4
  have q5 := G2.out.cell 5
  have q6 := G2.out.cell 6
  have q7 := G2.out.cell 7
  have q8 := G2.out.cell 8
  have hbk := blk_eq w2
  go_wp2_with fail
  refine (HIa.out _).mono ?_
  rintro e w' ⟨rfl, rfl⟩
  cases ia with
  | false =>
    go_wp2
    go_ret
    exact ⟨rt_bool (by simp), F2.out⟩
  | true =>
    cases hb : (b == 0) with
    | false =>
      go_wp2
      go_ret
      exact ⟨rt_bool (by simp [hb]), F2.out⟩
    | true =>
      cases hn : (n == 0) with
      | false =>
        go_wp2
        go_ret
        exact ⟨rt_bool (by simp [hb, hn]), F2.out⟩
      | true =>
        go_wp2
        go_ret
        exact ⟨rt_bool (by simp [hb, hn]), F2.out⟩
theorem plain_13 (op a b n : Int) (w : World) (hk : ofR op = 13) : Calls Tryz.prog 73 #[.agg #[.int .i64 op, .int .i64 a, .int .i64 b, .int .u64 n, .int .i64 0, .int .i64 0, .int .i64 0, .slice none 0 0, .slice none 0 0]] w fun e w' => e = .returned (.bool (plnB 13 a b n)) ∧ Fr No w w' := by
  have F0 := hid ((Fr.refl No w).alloc (.cells #[.int .i64 op, .int .i64 a, .int .i64 b, .int .u64 n, .int .i64 0, .int .i64 0, .int .i64 0, .slice none 0 0, .slice none 0 0] 139))
  have G0 := hid (Blk.new w 139 #[.int .i64 op, .int .i64 a, .int .i64 b, .int .u64 n, .int .i64 0, .int .i64 0, .int .i64 0, .slice none 0 0, .slice none 0 0])
  have HO := hid (fun W => of_any op W)
  have HK := hid (fun W => known_any op W)
  rw [known_of (by rw [hk]; decide)] at HK
  rw [hk] at HO
  clear hk
  rw [plnB, if_neg (by decide), if_pos rfl]
  have HIb := hid (fun W => index_any b W)
  generalize idxB b = ib at *
  go_enter Tryz.func73, Tryz.ntmps73
  go_wp2_with fail
  refine (HO.out _).mono ?_
  rintro e w1 ⟨rfl, f⟩
  have F1 := hid (F0.out.trans f (fun _ _ h => h))
  have G1 := hid (G0.out.fr f (fun x => x))
  clear f HO F0 G0
  have q0 := G1.out.cell 0
  go_wp2_with fail
  refine (HK.out _).mono ?_
  rintro e w2 ⟨rfl, f⟩
  have F2 := hid (F1.out.trans f (fun _ _ h => h))
  have G2 := hid (G1.out.fr f (fun x => x))
  clear f HK F1 G1 q0
  have q0 := G2.out.cell 0
  have q1 := G2.out.cell 1
  have q2 := G2.out.cell 2
  have q3 := G2.out.cell 3
  have q4 := G2.out.cell 4
  have q5 := G2.out.cell 5
  have q6 := G2.out.cell 6
  have q7 := G2.out.cell 7
  have q8 := G2.out.cell 8
  have hbk := blk_eq w2
  cases ha : (a == 0) with
  | false =>
    go_wp2
    go_ret
    exact ⟨rt_bool (by simp [ha]), F2.out⟩
  | true =>
    go_wp2_with fail
    refine (HIb.out _).mono ?_
    rintro e w' ⟨rfl, rfl⟩
    cases ib with
    | false =>
      go_wp2
      go_ret
      exact ⟨rt_bool (by simp [ha]), F2.out⟩
    | true =>
      cases hn : (n == 0) with
      | false =>
        go_wp2
        go_ret
        exact ⟨rt_bool (by simp [ha, hn]), F2.out⟩
      | true =>
        go_wp2
        go_ret
        exact ⟨rt_bool (by simp [ha, hn]), F2.out⟩
theorem plain_14 (op a b n : Int) (w : World) (hk : ofR op = 14) : Calls Tryz.prog 73 #[.agg #[.int .i64 op, .int .i64 a, .int .i64 b, .int .u64 n, .int .i64 0, .int .i64 0, .int .i64 0, .slice none 0 0, .slice none 0 0]] w fun e w' => e = .returned (.bool (plnB 14 a b n)) ∧ Fr No w w' := by
  have F0 := hid ((Fr.refl No w).alloc (.cells #[.int .i64 op, .int .i64 a, .int .i64 b, .int .u64 n, .int .i64 0, .int .i64 0, .int .i64 0, .slice none 0 0, .slice none 0 0] 139))
  have G0 := hid (Blk.new w 139 #[.int .i64 op, .int .i64 a, .int .i64 b, .int .u64 n, .int .i64 0, .int .i64 0, .int .i64 0, .slice none 0 0, .slice none 0 0])
  have HO := hid (fun W => of_any op W)
  have HK := hid (fun W => known_any op W)
  rw [known_of (by rw [hk]; decide)] at HK
  rw [hk] at HO
  clear hk
  rw [plnB, if_neg (by decide), if_neg (by decide), if_pos (by decide)]
  have HIa := hid (fun W => index_any a W)
  generalize idxB a = ia at *
  have HIb := hid (fun W => index_any b W)
  generalize idxB b = ib at *
  go_enter Tryz.func73, Tryz.ntmps73
  go_wp2_with fail
  refine (HO.out _).mono ?_
  rintro e w1 ⟨rfl, f⟩
  have F1 := hid (F0.out.trans f (fun _ _ h => h))
  have G1 := hid (G0.out.fr f (fun x => x))
  clear f HO F0 G0
  have q0 := G1.out.cell 0
  go_wp2_with fail
  refine (HK.out _).mono ?_
  rintro e w2 ⟨rfl, f⟩
  have F2 := hid (F1.out.trans f (fun _ _ h => h))
  have G2 := hid (G1.out.fr f (fun x => x))
  clear f HK F1 G1 q0
  have q0 := G2.out.cell 0
  have q1 := G2.out.cell 1
  have q2 := G2.out.cell 2
  have q3 := G2.out.cell 3
  have q4 := G2.out.cell 4
  have q5 := G2.out.cell 5
  have q6 := G2.out.cell 6
  have q7 := G2.out.cell 7
  have q8 := G2.out.cell 8
  have hbk := blk_eq w2
  go_wp2_with fail
  refine (HIa.out _).mono ?_
  rintro e w' ⟨rfl, rfl⟩
  cases ia with
  | false =>
    go_wp2
    go_ret
    exact ⟨rt_bool (by simp), F2.out⟩
  | true =>
    go_wp2_with fail
    refine (HIb.out _).mono ?_
    rintro e w' ⟨rfl, rfl⟩
    cases ib with
    | false =>
      go_wp2
      go_ret
      exact ⟨rt_bool (by simp), F2.out⟩
    | true =>
      cases hn : (n == 0) with
      | false =>
        go_wp2
        go_ret
        exact ⟨rt_bool (by simp [hn]), F2.out⟩
      | true =>
        go_wp2
        go_ret
        exact ⟨rt_bool (by simp [hn]), F2.out⟩
theorem plain_15 (op a b n : Int) (w : World) (hk : ofR op = 15) : Calls Tryz.prog 73 #[.agg #[.int .i64 op, .int .i64 a, .int .i64 b, .int .u64 n, .int .i64 0, .int .i64 0, .int .i64 0, .slice none 0 0, .slice none 0 0]] w fun e w' => e = .returned (.bool (plnB 15 a b n)) ∧ Fr No w w' := by
  have F0 := hid ((Fr.refl No w).alloc (.cells #[.int .i64 op, .int .i64 a, .int .i64 b, .int .u64 n, .int .i64 0, .int .i64 0, .int .i64 0, .slice none 0 0, .slice none 0 0] 139))
  have G0 := hid (Blk.new w 139 #[.int .i64 op, .int .i64 a, .int .i64 b, .int .u64 n, .int .i64 0, .int .i64 0, .int .i64 0, .slice none 0 0, .slice none 0 0])
  have HO := hid (fun W => of_any op W)
  have HK := hid (fun W => known_any op W)
  rw [known_of (by rw [hk]; decide)] at HK
  rw [hk] at HO
  clear hk
  rw [plnB, if_neg (by decide), if_neg (by decide), if_pos (by decide)]
  have HIa := hid (fun W => index_any a W)
  generalize idxB a = ia at *
  have HIb := hid (fun W => index_any b W)
  generalize idxB b = ib at *
  go_enter Tryz.func73, Tryz.ntmps73
  go_wp2_with fail
  refine (HO.out _).mono ?_
  rintro e w1 ⟨rfl, f⟩
  have F1 := hid (F0.out.trans f (fun _ _ h => h))
  have G1 := hid (G0.out.fr f (fun x => x))
  clear f HO F0 G0
  have q0 := G1.out.cell 0
  go_wp2_with fail
  refine (HK.out _).mono ?_
  rintro e w2 ⟨rfl, f⟩
  have F2 := hid (F1.out.trans f (fun _ _ h => h))
  have G2 := hid (G1.out.fr f (fun x => x))
  clear f HK F1 G1 q0
  have q0 := G2.out.cell 0
  have q1 := G2.out.cell 1
  have q2 := G2.out.cell 2
  have q3 := G2.out.cell 3
  have q4 := G2.out.cell 4
  have q5 := G2.out.cell 5
  have q6 := G2.out.cell 6
  have q7 := G2.out.cell 7
  have q8 := G2.out.cell 8
  have hbk := blk_eq w2
  go_wp2_with fail
  refine (HIa.out _).mono ?_
  rintro e w' ⟨rfl, rfl⟩
  cases ia with
  | false =>
    go_wp2
    go_ret
    exact ⟨rt_bool (by simp), F2.out⟩
  | true =>
    go_wp2_with fail
    refine (HIb.out _).mono ?_
    rintro e w' ⟨rfl, rfl⟩
    cases ib with
    | false =>
      go_wp2
      go_ret
      exact ⟨rt_bool (by simp), F2.out⟩
    | true =>
      cases hn : (n == 0) with
      | false =>
        go_wp2
        go_ret
        exact ⟨rt_bool (by simp [hn]), F2.out⟩
      | true =>
        go_wp2
        go_ret
        exact ⟨rt_bool (by simp [hn]), F2.out⟩
theorem plain_16 (op a b n : Int) (w : World) (hk : ofR op = 16) : Calls Tryz.prog 73 #[.agg #[.int .i64 op, .int .i64 a, .int .i64 b, .int .u64 n, .int .i64 0, .int .i64 0, .int .i64 0, .slice none 0 0, .slice none 0 0]] w fun e w' => e = .returned (.bool (plnB 16 a b n)) ∧ Fr No w w' := by
  have F0 := hid ((Fr.refl No w).alloc (.cells #[.int .i64 op, .int .i64 a, .int .i64 b, .int .u64 n, .int .i64 0, .int .i64 0, .int .i64 0, .slice none 0 0, .slice none 0 0] 139))
  have G0 := hid (Blk.new w 139 #[.int .i64 op, .int .i64 a, .int .i64 b, .int .u64 n, .int .i64 0, .int .i64 0, .int .i64 0, .slice none 0 0, .slice none 0 0])
  have HO := hid (fun W => of_any op W)
  have HK := hid (fun W => known_any op W)
  rw [known_of (by rw [hk]; decide)] at HK
  rw [hk] at HO
  clear hk
  rw [plnB, if_neg (by decide), if_neg (by decide), if_neg (by decide)]
  have HIa := hid (fun W => index_any a W)
  generalize idxB a = ia at *
  go_enter Tryz.func73, Tryz.ntmps73
  go_wp2_with fail
  refine (HO.out _).mono ?_
  rintro e w1 ⟨rfl, f⟩
  have F1 := hid (F0.out.trans f (fun _ _ h => h))
  have G1 := hid (G0.out.fr f (fun x => x))
  clear f HO F0 G0
  have q0 := G1.out.cell 0
  go_wp2_with fail
  refine (HK.out _).mono ?_
  rintro e w2 ⟨rfl, f⟩
  have F2 := hid (F1.out.trans f (fun _ _ h => h))
  have G2 := hid (G1.out.fr f (fun x => x))
  clear f HK F1 G1 q0
  have q0 := G2.out.cell 0
  have q1 := G2.out.cell 1
  have q2 := G2.out.cell 2
  have q3 := G2.out.cell 3
  have q4 := G2.out.cell 4
  have q5 := G2.out.cell 5
  have q6 := G2.out.cell 6
  have q7 := G2.out.cell 7
  have q8 := G2.out.cell 8
  have hbk := blk_eq w2
  go_wp2_with fail
  refine (HIa.out _).mono ?_
  rintro e w' ⟨rfl, rfl⟩
  cases ia with
  | false =>
    go_wp2
    go_ret
    exact ⟨rt_bool (by simp), F2.out⟩
  | true =>
    cases hb : (b == 0) with
    | false =>
      go_wp2
      go_ret
      exact ⟨rt_bool (by simp [hb]), F2.out⟩
    | true =>
      cases hn : (n == 0) with
      | false =>
        go_wp2
        go_ret
        exact ⟨rt_bool (by simp [hb, hn]), F2.out⟩
      | true =>
        go_wp2
        go_ret
        exact ⟨rt_bool (by simp [hb, hn]), F2.out⟩
theorem plain_17 (op a b n : Int) (w : World) (hk : ofR op = 17) : Calls Tryz.prog 73 #[.agg #[.int .i64 op, .int .i64 a, .int .i64 b, .int .u64 n, .int .i64 0, .int .i64 0, .int .i64 0, .slice none 0 0, .slice none 0 0]] w fun e w' => e = .returned (.bool (plnB 17 a b n)) ∧ Fr No w w' := by
  have F0 := hid ((Fr.refl No w).alloc (.cells #[.int .i64 op, .int .i64 a, .int .i64 b, .int .u64 n, .int .i64 0, .int .i64 0, .int .i64 0, .slice none 0 0, .slice none 0 0] 139))
  have G0 := hid (Blk.new w 139 #[.int .i64 op, .int .i64 a, .int .i64 b, .int .u64 n, .int .i64 0, .int .i64 0, .int .i64 0, .slice none 0 0, .slice none 0 0])
  have HO := hid (fun W => of_any op W)
  have HK := hid (fun W => known_any op W)
  rw [known_of (by rw [hk]; decide)] at HK
  rw [hk] at HO
  clear hk
  rw [plnB, if_pos rfl]
  have HIb := hid (fun W => index_any b W)
  generalize idxB b = ib at *
  go_enter Tryz.func73, Tryz.ntmps73
  go_wp2_with fail
  refine (HO.out _).mono ?_
  rintro e w1 ⟨rfl, f⟩
  have F1 := hid (F0.out.trans f (fun _ _ h => h))
  have G1 := hid (G0.out.fr f (fun x => x))
  clear f HO F0 G0
  have q0 := G1.out.cell 0
  go_wp2_with fail
  refine (HK.out _).mono ?_
  rintro e w2 ⟨rfl, f⟩
  have F2 := hid (F1.out.trans f (fun _ _ h => h))
  have G2 := hid (G1.out.fr f (fun x => x))
  clear f HK F1 G1 q0
  have q0 := G2.out.cell 0
  have q1 := G2.out.cell 1
  have q2 := G2.out.cell 2
  have q3 := G2.out.cell 3
  have q4 := G2.out.cell 4
  have q5 := G2.out.cell 5
  have q6 := G2.out.cell 6
  have q7 := G2.out.cell 7
  have q8 := G2.out.cell 8
  have hbk := blk_eq w2
  cases hd0 : decide (0 ≤ a) with
  | false =>
    go_wp2
    go_ret
    exact ⟨rt_bool (by simp [hd0]), F2.out⟩
  | true =>
    cases hd1 : decide (a ≤ 63) with
    | false =>
      go_wp2
      go_ret
      exact ⟨rt_bool (by simp [hd0, hd1]), F2.out⟩
    | true =>
      go_wp2_with fail
      refine (HIb.out _).mono ?_
      rintro e w' ⟨rfl, rfl⟩
      cases ib with
      | false =>
        go_wp2
        go_ret
        exact ⟨rt_bool (by simp [hd0, hd1]), F2.out⟩
      | true =>
        cases hd2 : decide (n < 4294967296) with
        | false =>
          go_wp2
          go_ret
          exact ⟨rt_bool (by simp [hd0, hd1, hd2]), F2.out⟩
        | true =>
          go_wp2
          go_ret
          exact ⟨rt_bool (by simp [hd0, hd1, hd2]), F2.out⟩
def KOk (K : Int) : Prop := K = 4 ∨ K = 5 ∨ K = 8 ∨ K = 9 ∨ K = 10 ∨ K = 11 ∨ K = 12 ∨ K = 13 ∨ K = 14 ∨ K = 15 ∨ K = 16 ∨ K = 17
theorem plain_any (op a b n : Int) (w : World) (hk : KOk (ofR op)) : Calls Tryz.prog 73 #[.agg #[.int .i64 op, .int .i64 a, .int .i64 b, .int .u64 n, .int .i64 0, .int .i64 0, .int .i64 0, .slice none 0 0, .slice none 0 0]] w fun e w' => e = .returned (.bool (plnB (ofR op) a b n)) ∧ Fr No w w' := by
  rcases hk with h | h | h | h | h | h | h | h | h | h | h | h
  · rw [h]; exact plain_4 op a b n w h
  · rw [h]; exact plain_5 op a b n w h
  · rw [h]; exact plain_8 op a b n w h
  · rw [h]; exact plain_9 op a b n w h
  · rw [h]; exact plain_10 op a b n w h
  · rw [h]; exact plain_11 op a b n w h
  · rw [h]; exact plain_12 op a b n w h
  · rw [h]; exact plain_13 op a b n w h
  · rw [h]; exact plain_14 op a b n w h
  · rw [h]; exact plain_15 op a b n w h
  · rw [h]; exact plain_16 op a b n w h
  · rw [h]; exact plain_17 op a b n w h
end Go.Proofs.YtiafkakkbbclhaaGreat
namespace Go.Proofs.YtiafkakkbbclhaaGreat
open Go.RowKit
def tabD (m : Md) (i : Int) : Tb × Bool := atD zTb ((ofKind m.imports 1).map (·.table) ++ m.tables) i
def memD (m : Md) (i : Int) : Lim × Bool := atD zLim ((ofKind m.imports 2).map (·.mem) ++ m.mems) i
def globD (m : Md) (i : Int) : Gl × Bool := atD zGl ((ofKind m.imports 3).map (·.glob) ++ (m.globals.map (·.type))) i
def elemD (m : Md) (i : Int) : Int × Bool := atD 0 (m.elems.map (·.type)) i
def optD (p : Fn × Bool) : Option Fn := if p.2 = true then some p.1 else none
def funcO (m : Md) (i : Int) : Option Fn := optD (funcD m i)
def typeO (m : Md) (i : Int) : Option Fn := optD (atD zFn m.types i)
structure MdB (m : Md) : Prop where
  lt : m.types.length ≤ 100
  li : m.imports.length ≤ 101
  lf : m.funcs.length ≤ 100
  lta : m.tables.length ≤ 50
  lm : m.mems.length ≤ 50
  lg : m.globals.length ≤ 100
  le : m.exports.length ≤ 200
  lel : m.elems.length ≤ 50
  gi : ∀ g ∈ m.globals, g.init.length ≤ 140737488351232
  it : ∀ e ∈ m.elems, e.items.length ≤ 500
  ii : ∀ e ∈ m.elems, ∀ l ∈ e.items, l.length ≤ 140737488351232
  wg : ∀ i, (Lit.int .i64 (globD m i).1.val).wf = true
  wt : ∀ i, (Lit.int .i64 (tabD m i).1.elem).wf = true
  lp : ∀ f ∈ m.types, f.params.length * 8 ≤ 140737488351232 ∧ f.results.length * 8 ≤ 140737488351232
structure MW (w : World) (S : Nat → Prop) (mc : List Value) (m : Md) : Prop where
  rd : tMd.rd w S mc m
  lt : ∀ k, S k → k < w.heap.size
theorem MW.fr {w w' : World} {S : Nat → Prop} {mc : List Value} {m : Md} (h : MW w S mc m) (f : Fr No w w') : MW w' S mc m :=
  ⟨(inferInstance : TyOk tMd).keep _ _ _ _ _ h.rd (fun _ hp => f.cell (h.lt _ hp) (fun x => x)), fun k hk => Nat.lt_of_lt_of_le (h.lt k hk) f.size⟩
theorem MW.len {w : World} {S : Nat → Prop} {mc : List Value} {m : Md} (h : MW w S mc m) : mc.length = 12 := (inferInstance : TyOk tMd).len _ _ _ _ h.rd
theorem MW.one {w : World} {S : Nat → Prop} {mc : List Value} {m : Md} (h : MW w S mc m) : ∀ u ∈ mc, u.oneCell' = true := (inferInstance : TyOne tMd).one _ _ _ _ h.rd
section
variable {w : World} {S : Nat → Prop} {mc : List Value} {m : Md}
theorem oTable (h : MW w S mc m) (B : MdB m) (i : Int) (hi : -9223372036854775808 ≤ i ∧ i ≤ 9223372036854775807) : Calls Tryz.prog 101 #[.agg mc.toArray, .int .i64 i] w fun e w' => e = .returned (.tuple #[cTb (tabD m i).1, .bool (tabD m i).2]) ∧ Fr No w w' := by
  obtain ⟨At, ct, Ai, ci, Af, cf, Ata, cta, Am, cm, Ag, cg, Ae, ce, Ael, cel, Ad, cd, Ac, cc, rfl, _, _, h1, _, _, h2, _, _, h3, _, _, h4, _, _, h5, _, _, h6, _, _, h7, _, _, _, h8, _⟩ := Md_cells h.rd
  exact rTable_any _ _ _ _ _ _ _ _ _ _ ct ci cf cta cm cg ce cel cd cc At Ai Af Ata Am Ag Ae Ael Ad Ac _ _ w m.imports m.tables i S h2 h4 h.lt rfl rfl B.li B.lta hi
theorem oMem (h : MW w S mc m) (B : MdB m) (i : Int) (hi : -9223372036854775808 ≤ i ∧ i ≤ 9223372036854775807) : Calls Tryz.prog 59 #[.agg mc.toArray, .int .i64 i] w fun e w' => e = .returned (.tuple #[cLim (memD m i).1, .bool (memD m i).2]) ∧ Fr No w w' := by
  obtain ⟨At, ct, Ai, ci, Af, cf, Ata, cta, Am, cm, Ag, cg, Ae, ce, Ael, cel, Ad, cd, Ac, cc, rfl, _, _, h1, _, _, h2, _, _, h3, _, _, h4, _, _, h5, _, _, h6, _, _, h7, _, _, _, h8, _⟩ := Md_cells h.rd
  exact rMem_any _ _ _ _ _ _ _ _ _ _ ct ci cf cta cm cg ce cel cd cc At Ai Af Ata Am Ag Ae Ael Ad Ac _ _ w m.imports m.mems i S h2 h5 h.lt rfl rfl B.li B.lm hi
theorem oGlobal (h : MW w S mc m) (B : MdB m) (i : Int) (hi : -9223372036854775808 ≤ i ∧ i ≤ 9223372036854775807) : Calls Tryz.prog 102 #[.agg mc.toArray, .int .i64 i] w fun e w' => e = .returned (.tuple #[cGl (globD m i).1, .bool (globD m i).2]) ∧ Fr No w w' := by
  obtain ⟨At, ct, Ai, ci, Af, cf, Ata, cta, Am, cm, Ag, cg, Ae, ce, Ael, cel, Ad, cd, Ac, cc, rfl, _, _, h1, _, _, h2, _, _, h3, _, _, h4, _, _, h5, _, _, h6, _, _, h7, _, _, _, h8, _⟩ := Md_cells h.rd
  exact rGlobal_any _ _ _ _ _ _ _ _ _ _ ct ci cf cta cm cg ce cel cd cc At Ai Af Ata Am Ag Ae Ael Ad Ac _ _ w m.imports m.globals i S h2 h6 h.lt rfl rfl B.li B.lg hi
theorem oElem (h : MW w S mc m) (B : MdB m) (i : Int) : Calls Tryz.prog 96 #[.agg mc.toArray, .int .i64 i] w fun e w' => e = .returned (.tuple #[.int .i64 (elemD m i).1, .bool (elemD m i).2]) ∧ Fr No w w' := by
  obtain ⟨At, ct, Ai, ci, Af, cf, Ata, cta, Am, cm, Ag, cg, Ae, ce, Ael, cel, Ad, cd, Ac, cc, rfl, _, _, h1, _, _, h2, _, _, h3, _, _, h4, _, _, h5, _, _, h6, _, _, h7, _, _, _, h8, _⟩ := Md_cells h.rd
  exact rElem_any _ _ _ _ _ _ _ _ _ _ ct ci cf cta cm cg ce cel cd cc At Ai Af Ata Am Ag Ae Ael Ad Ac _ _ w m.elems i S h8 h.lt rfl B.lel
theorem oDatas (h : MW w S mc m) : Calls Tryz.prog 98 #[.agg mc.toArray] w fun e w' => e = .returned (.int .i64 m.datas) ∧ Fr No w w' := by
  obtain ⟨At, ct, Ai, ci, Af, cf, Ata, cta, Am, cm, Ag, cg, Ae, ce, Ael, cel, Ad, cd, Ac, cc, rfl, _⟩ := Md_cells h.rd
  exact rDatas_any _ _ _ _ _ _ _ _ _ _ ct ci cf cta cm cg ce cel cd cc At Ai Af Ata Am Ag Ae Ael Ad Ac _ _ w
theorem at_opt (l : List Fn) (i : Int) : (atD zFn l i).1 = fnD (optD (atD zFn l i)) ∧ (atD zFn l i).2 = (optD (atD zFn l i)).isSome := by
  rcases at_cases l i with ⟨k, hk, rfl⟩ | hi | ⟨hi0, hi⟩
  · rw [atD_yes hk]; exact ⟨rfl, rfl⟩
  · rw [atD_no (.inl hi)]; exact ⟨rfl, rfl⟩
  · rw [atD_no (.inr hi)]; exact ⟨rfl, rfl⟩
theorem AtFn.sig {o : Option Fn} {f : Fn} {ok : Bool} {e : Ending} {w' : World} (h : AtFn f ok S w e w') (h1 : f = fnD o) (h2 : ok = o.isSome) : SigTo S o w e w' := by
  subst h1 h2
  obtain ⟨A1, c1, A2, c2, e1, a, b, f⟩ := h
  exact ⟨A1, c1, A2, c2, e1, ⟨a.more (fun _ h => .inl h), b.more (fun _ h => .inl h)⟩, f⟩
theorem oType (h : MW w S mc m) (B : MdB m) (i : Int) : Calls Tryz.prog 71 #[.agg mc.toArray, .int .i64 i] w (SigTo S (typeO m i) w) := by
  obtain ⟨At, ct, Ai, ci, Af, cf, Ata, cta, Am, cm, Ag, cg, Ae, ce, Ael, cel, Ad, cd, Ac, cc, rfl, _, _, h1, _, _, h2, _⟩ := Md_cells h.rd
  exact (rType_any _ _ _ _ _ _ _ _ _ _ ct ci cf cta cm cg ce cel cd cc At Ai Af Ata Am Ag Ae Ael Ad Ac _ _ w m.types i S h1 h.lt rfl B.lt).mono fun e w' k => k.sig (at_opt m.types i).1 (at_opt m.types i).2
theorem oFunc (h : MW w S mc m) (B : MdB m) (i : Int) (hi : -9223372036854775808 ≤ i ∧ i ≤ 9223372036854775807) : Calls Tryz.prog 60 #[.agg mc.toArray, .int .i64 i] w (SigTo S (funcO m i) w) := by
  obtain ⟨At, ct, Ai, ci, Af, cf, Ata, cta, Am, cm, Ag, cg, Ae, ce, Ael, cel, Ad, cd, Ac, cc, rfl, _, _, h1, _, _, h2, _, _, h3, _⟩ := Md_cells h.rd
  have ho : (funcD m i).1 = fnD (funcO m i) ∧ (funcD m i).2 = (funcO m i).isSome := by
    unfold funcO funcD
    split
    · exact at_opt _ _
    · exact ⟨rfl, rfl⟩
  exact (rFunc_any _ _ _ _ _ _ _ _ _ _ ct ci cf cta cm cg ce cel cd cc At Ai Af Ata Am Ag Ae Ael Ad Ac _ _ w m i S h2 h3 h1 h.lt rfl rfl rfl B.li B.lf B.lt hi).mono fun e w' k => k.sig ho.1 ho.2
end
theorem results_wide1 {P : Program} {fn : Func} {p : Tmp} {ty : TypeId} (h : fn.results = #[.cell p ty]) (tmps : Array Value) (w : World) (g : Nat) (ds : List Value) (d : TypeDesc)
    (hp : tmps.getD p undef = .pointer (some ⟨g, 0, none⟩)) (hr : w.rangeAt g 0 ds) (hu : P.underlying ty = some d) (hd : d.isRow = true) (hi : (P.info? ty).map (·.size) = some ds.length) :
    (results fn tmps).run P w = .ok (.agg ds.toArray) w := by
  have hp' : tmps[p]?.getD undef = .pointer (some ⟨g, 0, none⟩) := by simpa using hp
  simp [results, h, hp', asAddr, run_loadVar_mid w g 0 ty ds d hr hu hd hi]
def WantTo (S : Nat → Prop) (r : Fn × Int) (w : World) (e : Ending) (w' : World) : Prop :=
  ∃ (A1 : Option Addr) (c1 : Nat) (A2 : Option Addr) (c2 : Nat), e = .returned (.agg #[.slice A1 r.1.params.length c1, .slice A2 r.1.results.length c2, .int .i64 r.2]) ∧ FnAt S w.heap.size w' A1 A2 r.1 ∧ Fr No w w'
theorem want_ret {fn : Func} {p : Tmp} {R : Ending → World → Prop} {a : Act} {W : World} {q : Nat} {u v x : Value} (hf : fn.results = #[.cell p 156]) (hp : a.tmps.getD p undef = .pointer (some ⟨q, 0, none⟩)) (hB : Blk W q 156 #[u, v, x]) (hd : a.defers = [])
    (h : R (.returned (.agg #[u, v, x])) W) : bodyPost Tryz.prog fn R .ret a W :=
  bodyPost_ret (v := .agg #[u, v, x]) (results_wide1 (P := Tryz.prog) hf a.tmps W q [u, v, x] _ hp (rangeAt_blk hB) Tryz.underlying156 rfl (by kernel_rfl)) hd h
theorem want_fin {S : Nat → Prop} {r : Fn × Int} {w w5 : World} {q n m : Nat} {k : Int} {A1 A2 : Option Addr} {c1 c2 : Nat} (u v x : Value) (hS : ∀ k, S k → k < w.heap.size) (hq : w.heap.size ≤ q) (hA : FnAt S (q + 1) w5 A1 A2 r.1) (hF : Fr No w w5) (hn : n = r.1.params.length) (hm : m = r.1.results.length) (hk : k = r.2) :
    WantTo S r w (.returned (.agg #[.slice A1 n c1, .slice A2 m c2, .int .i64 k])) (((w5.setCell ⟨q, 0, none⟩ u).setCell ⟨q, 1, none⟩ v).setCell ⟨q, 2, none⟩ x) := by
  subst hn hm hk
  have FZ := (((Fr.refl (One q) w5).setCell ⟨q, 0, none⟩ u (fun _ => rfl)).setCell ⟨q, 1, none⟩ v (fun _ => rfl)).setCell ⟨q, 2, none⟩ x (fun _ => rfl)
  have hz := hF.size
  exact ⟨A1, c1, A2, c2, rfl, (hA.fr FZ (fun k hk => ⟨by have := hS k hk; omega, fun h => by have := hS k hk; simp only [One] at h; omega⟩) (fun k h1 _ h => by simp only [One] at h; omega)).more (fun _ h => h) (by omega), hF.trans FZ (fun i hi h => by simp only [One] at h; omega)⟩
theorem WantTo.alloc {S : Nat → Prop} {r : Fn × Int} {w w' : World} {e : Ending} (h : WantTo S r w e w') (hS : ∀ k, S k → k < w.heap.size) (x : Obj) : WantTo S r w e (w'.alloc x) := by
  obtain ⟨A1, c1, A2, c2, e1, h1, h2⟩ := h
  exact ⟨A1, c1, A2, c2, e1, h1.frNo ((Fr.refl No w').alloc x) (fun k hk => Nat.lt_of_lt_of_le (hS k hk) h2.size), h2.alloc x⟩
def badW (e : Int) : Fn × Int := (zFn, e)
theorem bad_any (k : Int) (w : World) : Calls Tryz.prog 87 #[.int .i64 k] w fun e w' => e = .returned (.agg #[.slice none 0 0, .slice none 0 0, .int .i64 k]) ∧ Fr No w w' := by
  have G0 := hid (Blk.new w 156 #[.slice none 0 0, .slice none 0 0, .int .i64 k])
  have F0 := hid ((Fr.refl No w).alloc (.cells #[.slice none 0 0, .slice none 0 0, .int .i64 k] 156))
  go_enter Tryz.func87, Tryz.ntmps87
  go_wp2
  exact want_ret rfl rfl G0.out rfl ⟨rfl, F0.out⟩
theorem gives_any (A B : Option Addr) (n c k d : Nat) (w : World) : Calls Tryz.prog 90 #[.slice A n c, .slice B k d] w fun e w' => e = .returned (.agg #[.slice A n c, .slice B k d, .int .i64 0]) ∧ Fr No w w' := by
  have G0 := hid (Blk.new w 156 #[.slice A n c, .slice B k d, .int .i64 0])
  have F0 := hid ((Fr.refl No w).alloc (.cells #[.slice A n c, .slice B k d, .int .i64 0] 156))
  go_enter Tryz.func90, Tryz.ntmps90
  go_wp2
  exact want_ret rfl rfl G0.out rfl ⟨rfl, F0.out⟩
theorem list_any (A : Option Addr) (n c : Nat) (w : World) : Calls Tryz.prog 91 #[.slice A n c] w fun e w' => e = .returned (.slice A n c) ∧ w = w' := by
  go_enter Tryz.func91, Tryz.ntmps91
  go_wp2
  go_ret
  exact ⟨rfl, rfl⟩
def sigW (op : Int) : Fn × Int := match sigR op with
  | some f => (f, 0)
  | none => (zFn, 1)
theorem sig23_any (op : Int) (w : World) : Calls Tryz.prog 99 #[.int .i64 op] w (WantTo Emp (sigW op) w) := by
  have F0 := hid ((Fr.refl No w).alloc (.cells #[.slice none 0 0, .slice none 0 0, .int .i64 0] 156))
  have G0 := hid (Blk.new w 156 #[.slice none 0 0, .slice none 0 0, .int .i64 0])
  have HS := hid (fun W => sig_any op W)
  generalize hP : sigW op = P
  rw [sigW] at hP
  have HP := hid hP
  clear hP
  generalize sigR op = o at *
  go_enter Tryz.func99, Tryz.ntmps99
  go_wp2_with fail
  refine (HS.out _).mono ?_
  rintro e w1 ⟨A1, c1, A2, c2, rfl, fa, f⟩
  have FA := hid (fa.more (fun _ h => h) (Nat.le_refl _))
  have F1 := hid (F0.out.trans f (fun _ _ h => h))
  have G1 := hid (G0.out.fr f (fun x => x))
  clear f fa HS
  have q0 := G1.out.cell 0
  have q1 := G1.out.cell 1
  have q2 := G1.out.cell 2
  have f0 := G1.out.frozen 0
  have f1 := G1.out.frozen 1
  have f2 := G1.out.frozen 2
  have hq := G1.out.lt
  cases o with
  | some g =>
    have hp := HP.out
    simp only [fnD, Option.getD_some, Option.isSome_some] at FA hp ⊢
    subst hp
    clear HP
    go_wp2
    refine want_ret rfl rfl ((((G1.out.set_ 0 _).set_ 1 _).set_ 2 _).alloc _) rfl ?_
    exact (want_fin (r := (g, 0)) _ _ _ (fun _ h => h.elim) (Nat.le_refl _) (FA.out.more (fun _ h => h) (by simp)) F1.out rfl rfl rfl).alloc (fun _ h => h.elim) _
  | none =>
    have hp := HP.out
    simp only [fnD, Option.getD_none, Option.isSome_none] at FA hp ⊢
    subst hp
    clear HP q0 q1 q2 f0 f1 f2
    go_wp2_with fail
    refine (bad_any _ _).mono ?_
    rintro e w2 ⟨rfl, f⟩
    have F2 := hid ((F1.out.alloc _).trans f (fun _ _ h => h))
    have G2 := hid ((G1.out.alloc _).fr f (fun x => x))
    clear f
    have q0 := G2.out.cell 0
    have q1 := G2.out.cell 1
    have q2 := G2.out.cell 2
    have f0 := G2.out.frozen 0
    have f1 := G2.out.frozen 1
    have f2 := G2.out.frozen 2
    go_wp2
    refine want_ret rfl rfl (((G2.out.set_ 0 _).set_ 1 _).set_ 2 _) rfl ?_
    exact want_fin (r := (zFn, 1)) (c1 := 0) (c2 := 0) _ _ _ (fun _ h => h.elim) (Nat.le_refl _) ⟨.inl rfl, .inl rfl⟩ F2.out rfl rfl rfl
end Go.Proofs.YtiafkakkbbclhaaGreat
namespace Go.Proofs.YtiafkakkbbclhaaGreat
open Go.RowKit
section
variable {ops : Array Oper} {rest : List Oper} {op : Oper} {a : Act} {Q : Exit → Act → World → Prop} {w : World} {T : TypeId} {p q n : Nat} {ds : List Value} {d : TypeDesc}
theorem ldG (hu : Tryz.prog.underlying T = some d) (hi : (Tryz.prog.info? T).map (·.size) = some n) (r : w.rangeAt p q ds) (hl : ds.length = n) (h : wpList Tryz.prog ops Q rest (a.put op.dst (.agg ds.toArray)) w)
    (hd : d.isRow = true := by rfl) (hgd : op.guard = none := by rfl) {o : Operand} (ho : op.op = .load T o := by rfl) (hx : a.eval o = .pointer (some ⟨p, q, none⟩) := by rfl) : wpList Tryz.prog ops Q (op :: rest) a w :=
  wpList_load_mid hgd T o ho p q hx ds _ r hu hd (by rw [hl]; exact hi) h
end
theorem rangeL {w : World} {p : Nat} {t : TypeId} {cs : List Value} (h : Blk w p t cs.toArray) : w.rangeAt p 0 cs := rangeAt_blk h
theorem bx23 (w : World) (mc : List Value) (op a b n : Int) : Hid (Fr No w (((w.alloc (.cells mc.toArray 33)).alloc (.cells #[.int .i64 op, .int .i64 a, .int .i64 b, .int .u64 n, .int .i64 0, .int .i64 0, .int .i64 0, .slice none 0 0, .slice none 0 0] 139)).alloc (.cells #[.slice none 0 0, .slice none 0 0, .int .i64 0] 156))) ∧ Hid (Blk (((w.alloc (.cells mc.toArray 33)).alloc (.cells #[.int .i64 op, .int .i64 a, .int .i64 b, .int .u64 n, .int .i64 0, .int .i64 0, .int .i64 0, .slice none 0 0, .slice none 0 0] 139)).alloc (.cells #[.slice none 0 0, .slice none 0 0, .int .i64 0] 156)) w.heap.size 33 mc.toArray) ∧ Hid (Blk (((w.alloc (.cells mc.toArray 33)).alloc (.cells #[.int .i64 op, .int .i64 a, .int .i64 b, .int .u64 n, .int .i64 0, .int .i64 0, .int .i64 0, .slice none 0 0, .slice none 0 0] 139)).alloc (.cells #[.slice none 0 0, .slice none 0 0, .int .i64 0] 156)) (w.heap.size + 1) 139 #[.int .i64 op, .int .i64 a, .int .i64 b, .int .u64 n, .int .i64 0, .int .i64 0, .int .i64 0, .slice none 0 0, .slice none 0 0]) ∧ Hid (Blk (((w.alloc (.cells mc.toArray 33)).alloc (.cells #[.int .i64 op, .int .i64 a, .int .i64 b, .int .u64 n, .int .i64 0, .int .i64 0, .int .i64 0, .slice none 0 0, .slice none 0 0] 139)).alloc (.cells #[.slice none 0 0, .slice none 0 0, .int .i64 0] 156)) (w.heap.size + 1 + 1) 156 #[.slice none 0 0, .slice none 0 0, .int .i64 0]) :=
  ⟨(((Fr.refl No w).alloc _).alloc _).alloc _, ((Blk.new w _ _).alloc _).alloc _, (Blk.new1 w _ _ _).alloc _, blk_n2 w _ _ _ _⟩
def globW (m : Md) (op a : Int) : Fn × Int :=
  if (globD m a).2 = false then badW 11 else if op = 35 then (⟨[], [(globD m a).1.val]⟩, 0) else if (globD m a).1.mut_ = false then badW 18 else (⟨[(globD m a).1.val], []⟩, 0)
theorem global23_any {w : World} {S : Nat → Prop} {mc : List Value} {m : Md} (h : MW w S mc m) (B : MdB m) (op a b n : Int) (ha : 0 ≤ a ∧ a < 4294967296) (hb : 0 ≤ b ∧ b < 4294967296) : Calls Tryz.prog 93 #[.agg mc.toArray, .agg #[.int .i64 op, .int .i64 a, .int .i64 b, .int .u64 n, .int .i64 0, .int .i64 0, .int .i64 0, .slice none 0 0, .slice none 0 0]] w (WantTo S (globW m op a) w) := by
  have hv := hid (B.wg a)
  have HG := hid (fun W (k : MW W S mc m) => oGlobal k B a (by omega))
  generalize hP : globW m op a = P
  rw [globW] at hP
  have HP := hid hP
  clear hP
  generalize globD m a = g at *
  obtain ⟨⟨v, mu⟩, ok⟩ := g
  dsimp only [cGl] at HG hv HP
  obtain ⟨F0, GM0, GX0, GW0⟩ := bx23 w mc op a b n
  have HIM : Hid ((Tryz.prog.info? 33).map (·.size) = some 12) := by unfold Hid; kernel_rfl
  have HLM := hid h.len
  have HW0 := hid (h.fr F0.out)
  have HS := hid h.lt
  have HB := hid B
  clear h B
  go_enter Tryz.func93, Tryz.ntmps93
  go_upto_region 1 with fail
  generalize (((w.alloc (.cells mc.toArray 33)).alloc (.cells #[.int .i64 op, .int .i64 a, .int .i64 b, .int .u64 n, .int .i64 0, .int .i64 0, .int .i64 0, .slice none 0 0, .slice none 0 0] 139)).alloc (.cells #[.slice none 0 0, .slice none 0 0, .int .i64 0] 156)) = W0 at *
  have hxl := GX0.out.lt
  have x1 := GX0.out.cell 1
  go_wp2_with (refine ldG Tryz.underlying33 HIM.out (rangeL GM0.out) HLM.out ?_)
  refine (HG.out _ HW0.out).mono ?_
  rintro e W1 ⟨rfl, f⟩
  have F1 := hid (F0.out.trans f (fun _ _ h => h))
  have GM1 := hid (GM0.out.fr f (fun x => x))
  have GX1 := hid (GX0.out.fr f (fun x => x))
  have GW1 := hid (GW0.out.fr f (fun x => x))
  have HW1 := hid (HW0.out.fr f)
  clear f F0 GM0 GX0 GW0 HW0 HG x1
  cases ok with
  | false =>
    have hp := HP.out
    rw [if_pos rfl] at hp
    subst hp
    go_wp2_with fail
    refine (bad_any _ _).mono ?_
    rintro e W2 ⟨rfl, f⟩
    have F2 := hid ((F1.out.alloc _).trans f (fun _ _ h => h))
    have GM2 := hid ((GM1.out.alloc _).fr f (fun x => x))
    have GX2 := hid ((GX1.out.alloc _).fr f (fun x => x))
    have GW2 := hid ((GW1.out.alloc _).fr f (fun x => x))
    have HW2 := hid ((HW1.out.fr (((Fr.refl No W1).alloc _))).fr f)
    have q0 := GW2.out.cell 0
    have q1 := GW2.out.cell 1
    have q2 := GW2.out.cell 2
    have f0 := GW2.out.frozen 0
    have f1 := GW2.out.frozen 1
    have f2 := GW2.out.frozen 2
    clear f
    go_wp2
    refine want_ret rfl rfl (((GW2.out.set_ 0 _).set_ 1 _).set_ 2 _) rfl ?_
    exact want_fin (r := badW 11) (c1 := 0) (c2 := 0) _ _ _ HS.out (by omega) ⟨.inl rfl, .inl rfl⟩ F2.out rfl rfl rfl
  | true =>
    have hp := HP.out
    rw [if_neg (by decide)] at hp
    have hxl := GX1.out.lt
    have x0 := GX1.out.cell 0
    by_cases h35 : op = 35
    · subst h35
      rw [if_pos rfl] at hp
      subst hp
      have hq := GW1.out.lt
      go_wp2_with fail
      refine (gives_any _ _ _ _ _ _ _).mono ?_
      rintro e W2 ⟨rfl, f⟩
      have F2 := hid (((F1.out.alloc _).alloc _).trans f (fun _ _ h => h))
      have GM2 := hid (((GM1.out.alloc _).alloc _).fr f (fun x => x))
      have GX2 := hid (((GX1.out.alloc _).alloc _).fr f (fun x => x))
      have GW2 := hid (((GW1.out.alloc _).alloc _).fr f (fun x => x))
      have HW2 := hid ((HW1.out.fr ((((Fr.refl No W1).alloc _).alloc _))).fr f)
      have q0 := GW2.out.cell 0
      have q1 := GW2.out.cell 1
      have q2 := GW2.out.cell 2
      have f0 := GW2.out.frozen 0
      have f1 := GW2.out.frozen 1
      have f2 := GW2.out.frozen 2
      have FT : FnAt S ((w.heap.size + 1 + 1) + 1) W2 none _ ⟨[], [v]⟩ := ⟨.inl rfl, lits_els (l := [v]) ((Blk.new1 _ _ 59 #[.int .i64 v]).fr f (fun x => x)) (by omega) (by intro y hy; simp only [List.mem_cons, List.not_mem_nil, or_false] at hy; rcases hy with rfl <;> first | decide | exact hv.out)⟩
      clear f
      go_wp2
      refine want_ret rfl rfl (((GW2.out.set_ 0 _).set_ 1 _).set_ 2 _) rfl ?_
      exact want_fin (r := (⟨[], [v]⟩, 0)) _ _ _ HS.out (by omega) FT F2.out rfl rfl rfl
    · have d35 : (op == 35) = false := beq_eq_false_iff_ne.2 h35
      rw [if_neg h35] at hp
      cases mu with
      | false =>
        rw [if_pos rfl] at hp
        subst hp
        go_wp2_with fail
        refine (bad_any _ _).mono ?_
        rintro e W2 ⟨rfl, f⟩
        have F2 := hid ((F1.out.alloc _).trans f (fun _ _ h => h))
        have GM2 := hid ((GM1.out.alloc _).fr f (fun x => x))
        have GX2 := hid ((GX1.out.alloc _).fr f (fun x => x))
        have GW2 := hid ((GW1.out.alloc _).fr f (fun x => x))
        have HW2 := hid ((HW1.out.fr (((Fr.refl No W1).alloc _))).fr f)
        have q0 := GW2.out.cell 0
        have q1 := GW2.out.cell 1
        have q2 := GW2.out.cell 2
        have f0 := GW2.out.frozen 0
        have f1 := GW2.out.frozen 1
        have f2 := GW2.out.frozen 2
        clear f
        go_wp2
        refine want_ret rfl rfl (((GW2.out.set_ 0 _).set_ 1 _).set_ 2 _) rfl ?_
        exact want_fin (r := badW 18) (c1 := 0) (c2 := 0) _ _ _ HS.out (by omega) ⟨.inl rfl, .inl rfl⟩ F2.out rfl rfl rfl
      | true =>
        rw [if_neg (by decide)] at hp
        subst hp
        have hq := GW1.out.lt
        go_wp2_with fail
        refine (list_any _ _ _ _).mono ?_
        rintro e w' ⟨rfl, rfl⟩
        go_wp2_with fail
        refine (gives_any _ _ _ _ _ _ _).mono ?_
        rintro e W2 ⟨rfl, f⟩
        have F2 := hid (((F1.out.alloc _).alloc _).trans f (fun _ _ h => h))
        have GM2 := hid (((GM1.out.alloc _).alloc _).fr f (fun x => x))
        have GX2 := hid (((GX1.out.alloc _).alloc _).fr f (fun x => x))
        have GW2 := hid (((GW1.out.alloc _).alloc _).fr f (fun x => x))
        have HW2 := hid ((HW1.out.fr ((((Fr.refl No W1).alloc _).alloc _))).fr f)
        have q0 := GW2.out.cell 0
        have q1 := GW2.out.cell 1
        have q2 := GW2.out.cell 2
        have f0 := GW2.out.frozen 0
        have f1 := GW2.out.frozen 1
        have f2 := GW2.out.frozen 2
        have FT : FnAt S ((w.heap.size + 1 + 1) + 1) W2 _ none ⟨[v], []⟩ := ⟨lits_els (l := [v]) ((Blk.new1 _ _ 59 #[.int .i64 v]).fr f (fun x => x)) (by omega) (by intro y hy; simp only [List.mem_cons, List.not_mem_nil, or_false] at hy; rcases hy with rfl <;> first | decide | exact hv.out), .inl rfl⟩
        clear f
        go_wp2
        refine want_ret rfl rfl (((GW2.out.set_ 0 _).set_ 1 _).set_ 2 _) rfl ?_
        exact want_fin (r := (⟨[v], []⟩, 0)) _ _ _ HS.out (by omega) FT F2.out rfl rfl rfl
def tableW (m : Md) (op a : Int) : Fn × Int :=
  if (tabD m a).2 = false then badW 11 else if op = 37 then (⟨[1], [(tabD m a).1.elem]⟩, 0) else if op = 38 then (⟨[1, (tabD m a).1.elem], []⟩, 0) else if op = 64528 then (⟨[], [1]⟩, 0)
  else if op = 64527 then (⟨[(tabD m a).1.elem, 1], [1]⟩, 0) else (⟨[1, (tabD m a).1.elem, 1], []⟩, 0)
theorem table23_any {w : World} {S : Nat → Prop} {mc : List Value} {m : Md} (h : MW w S mc m) (B : MdB m) (op a b n : Int) (ha : 0 ≤ a ∧ a < 4294967296) (hb : 0 ≤ b ∧ b < 4294967296) (ho : op = 37 ∨ op = 38 ∨ op = 64528 ∨ op = 64527 ∨ op = 64529) : Calls Tryz.prog 94 #[.agg mc.toArray, .agg #[.int .i64 op, .int .i64 a, .int .i64 b, .int .u64 n, .int .i64 0, .int .i64 0, .int .i64 0, .slice none 0 0, .slice none 0 0]] w (WantTo S (tableW m op a) w) := by
  have hv := hid (B.wt a)
  have HG := hid (fun W (k : MW W S mc m) => oTable k B a (by omega))
  generalize hP : tableW m op a = P
  rw [tableW] at hP
  have HP := hid hP
  clear hP
  generalize tabD m a = g at *
  obtain ⟨⟨v, ⟨l1, l2, l3⟩⟩, ok⟩ := g
  dsimp only [cTb] at HG hv HP
  obtain ⟨F0, GM0, GX0, GW0⟩ := bx23 w mc op a b n
  have HIM : Hid ((Tryz.prog.info? 33).map (·.size) = some 12) := by unfold Hid; kernel_rfl
  have HLM := hid h.len
  have HW0 := hid (h.fr F0.out)
  have HS := hid h.lt
  have HB := hid B
  clear h B
  go_enter Tryz.func94, Tryz.ntmps94
  go_upto_region 1 with fail
  generalize (((w.alloc (.cells mc.toArray 33)).alloc (.cells #[.int .i64 op, .int .i64 a, .int .i64 b, .int .u64 n, .int .i64 0, .int .i64 0, .int .i64 0, .slice none 0 0, .slice none 0 0] 139)).alloc (.cells #[.slice none 0 0, .slice none 0 0, .int .i64 0] 156)) = W0 at *
  have hxl := GX0.out.lt
  have x1 := GX0.out.cell 1
  go_wp2_with (refine ldG Tryz.underlying33 HIM.out (rangeL GM0.out) HLM.out ?_)
  refine (HG.out _ HW0.out).mono ?_
  rintro e W1 ⟨rfl, f⟩
  have F1 := hid (F0.out.trans f (fun _ _ h => h))
  have GM1 := hid (GM0.out.fr f (fun x => x))
  have GX1 := hid (GX0.out.fr f (fun x => x))
  have GW1 := hid (GW0.out.fr f (fun x => x))
  have HW1 := hid (HW0.out.fr f)
  clear f F0 GM0 GX0 GW0 HW0 HG x1
  cases ok with
  | false =>
    have hp := HP.out
    rw [if_pos rfl] at hp
    subst hp
    go_wp2_with fail
    refine (bad_any _ _).mono ?_
    rintro e W2 ⟨rfl, f⟩
    have F2 := hid ((F1.out.alloc _).trans f (fun _ _ h => h))
    have GM2 := hid ((GM1.out.alloc _).fr f (fun x => x))
    have GX2 := hid ((GX1.out.alloc _).fr f (fun x => x))
    have GW2 := hid ((GW1.out.alloc _).fr f (fun x => x))
    have HW2 := hid ((HW1.out.fr (((Fr.refl No W1).alloc _))).fr f)
    have q0 := GW2.out.cell 0
    have q1 := GW2.out.cell 1
    have q2 := GW2.out.cell 2
    have f0 := GW2.out.frozen 0
    have f1 := GW2.out.frozen 1
    have f2 := GW2.out.frozen 2
    clear f
    go_wp2
    refine want_ret rfl rfl (((GW2.out.set_ 0 _).set_ 1 _).set_ 2 _) rfl ?_
    exact want_fin (r := badW 11) (c1 := 0) (c2 := 0) _ _ _ HS.out (by omega) ⟨.inl rfl, .inl rfl⟩ F2.out rfl rfl rfl
  | true =>
    have hp := HP.out
    rw [if_neg (by decide)] at hp
    have hxl := GX1.out.lt
    have x0 := GX1.out.cell 0
    rcases ho with rfl | rfl | rfl | rfl | rfl
    · rw [if_pos rfl] at hp
      subst hp
      go_upto_region 6 with fail
      have F2 := hid (F1.out.alloc (.cells #[.int .i64 v, .int .i64 l1, .int .i64 l2, .bool l3] 142))
      have G2 := hid (GW1.out.alloc (.cells #[.int .i64 v, .int .i64 l1, .int .i64 l2, .bool l3] 142))
      have BG := hid (Blk.new W1 142 #[.int .i64 v, .int .i64 l1, .int .i64 l2, .bool l3])
      have hql := GW1.out.lt
      clear F1 GW1 GM1 GX1 HW1 x0 hxl
      generalize W1.alloc (.cells #[.int .i64 v, .int .i64 l1, .int .i64 l2, .bool l3] 142) = W2 at *
      have HX : Hid (∀ X, Fr (One (w.heap.size + 1 + 1)) W2 X → X.cell? ⟨W1.heap.size, 0, none⟩ = some (.int .i64 v)) := hid fun X f => (BG.out.fr f (fun h => by simp only [One] at h; omega)).cell 0
      refine wp_region_ort (Fr (One (w.heap.size + 1 + 1)) W2) (.rd 2 (.rd 3 (.alt 0 (.rd 1 (.eff 4 (.eff 5 (.eff 6 .nil)))) 4 (.eff 0 (.rd 1 (.eff 5 (.eff 6 .nil))))))) (by kernel_rfl) (by kernel_rfl) (by kernel_rfl) rfl ((Fr.refl _ W2).drew) ?_
      have FD := hid (Fr.refl No W2).drew
      have hq2 : (w.heap.size + 1 + 1) + 1 ≤ W2.drew.heap.size := by have := FD.out.size; have := BG.out.lt; omega
      generalize W2.drew = wd at *
      repeat (first | refine tS ?_ | refine tX HX.out ?_)
      refine wpT_alt ?_ ?_
      · skip
        refine wpT_eff rfl rfl (fun K hK => ?_)
        simp only [zA]
        go_simp
        refine hK _ _ (((FD.out.mono (fun _ _ h => h.elim)).alloc _)) ?_
        clear hK K
        refine wpT_call rfl rfl ⟨.slice (some ⟨wd.heap.size, 0, none⟩) 1 1, fun X hX => ?_, ?_⟩
        · simp only [zA]
          go_simp
          exact ⟨rfl, (list_any _ _ _ X).mono fun e w' h => ⟨h.1, h.2.symm⟩⟩
        simp only [zC, Act.put]
        refine wpT_eff rfl rfl (fun K hK => ?_)
        simp only [zA]
        go_simp
        refine hK _ _ ((((FD.out.mono (fun _ _ h => h.elim)).alloc _).alloc _)) ?_
        clear hK K
        refine wpT_eff rfl rfl (fun K hK => ?_)
        simp only [zA]
        go_simp
        refine (gives_any _ _ _ _ _ _ _).mono ?_
        rintro e w9 ⟨rfl, f⟩
        have F9 := hid (((FD.out.alloc _).alloc _).trans f (fun _ _ h => h))
        have G9 := hid (G2.out.fr F9.out (fun x => x))
        have FT : FnAt S ((w.heap.size + 1 + 1) + 1) w9 _ _ ⟨[1], [v]⟩ := ⟨lits_els (l := [1]) (((Blk.new wd 59 #[.int .i64 1]).alloc _).fr f (fun x => x)) (by omega) (by decide), lits_els (l := [v]) ((Blk.new1 wd _ 59 #[.int .i64 v]).fr f (fun x => x)) (by omega) (by intro y hy; simp only [List.mem_cons, List.not_mem_nil, or_false] at hy; rcases hy with rfl <;> first | decide | exact hv.out)⟩
        have hsz := FD.out.size
        have FF := hid (F2.out.trans F9.out (fun _ _ h => h))
        clear f
        refine hK _ _ ((F9.out.mono (fun _ _ h => h.elim))) ?_
        clear hK K
        have q0 := G9.out.cell 0
        have q1 := G9.out.cell 1
        have q2 := G9.out.cell 2
        have f0 := G9.out.frozen 0
        have f1 := G9.out.frozen 1
        have f2 := G9.out.frozen 2
        refine wpT_eff rfl rfl (fun K hK => ?_)
        simp only [zA]
        go_simp
        refine hK _ _ ?_ ?_
        · refine Fr.setCell ?_ _ _ (fun _ => rfl)
          refine Fr.setCell ?_ _ _ (fun _ => rfl)
          refine Fr.setCell ?_ _ _ (fun _ => rfl)
          exact F9.out.mono (fun _ _ h => h.elim)
        clear hK K
        refine wpT_nil ?_
        go_wp2
        refine want_ret rfl rfl (((G9.out.set_ 0 _).set_ 1 _).set_ 2 _) rfl ?_
        exact want_fin (r := (⟨[1], [v]⟩, 0)) _ _ _ HS.out (by omega) FT FF.out rfl rfl rfl
      · skip
        refine wpT_eff rfl rfl (fun K hK => ?_)
        simp only [zA]
        go_simp
        refine hK _ _ (((FD.out.mono (fun _ _ h => h.elim)).alloc _)) ?_
        clear hK K
        refine wpT_eff rfl rfl (fun K hK => ?_)
        simp only [zA]
        go_simp
        refine hK _ _ ((((FD.out.mono (fun _ _ h => h.elim)).alloc _).alloc _)) ?_
        clear hK K
        refine wpT_call rfl rfl ⟨.slice (some ⟨wd.heap.size + 1, 0, none⟩) 1 1, fun X hX => ?_, ?_⟩
        · simp only [zA]
          go_simp
          exact ⟨rfl, (list_any _ _ _ X).mono fun e w' h => ⟨h.1, h.2.symm⟩⟩
        simp only [zC, Act.put]
        refine wpT_eff rfl rfl (fun K hK => ?_)
        simp only [zA]
        go_simp
        refine (gives_any _ _ _ _ _ _ _).mono ?_
        rintro e w9 ⟨rfl, f⟩
        have F9 := hid (((FD.out.alloc _).alloc _).trans f (fun _ _ h => h))
        have G9 := hid (G2.out.fr F9.out (fun x => x))
        have FT : FnAt S ((w.heap.size + 1 + 1) + 1) w9 _ _ ⟨[1], [v]⟩ := ⟨lits_els (l := [1]) ((Blk.new1 wd _ 59 #[.int .i64 1]).fr f (fun x => x)) (by omega) (by decide), lits_els (l := [v]) (((Blk.new wd 59 #[.int .i64 v]).alloc _).fr f (fun x => x)) (by omega) (by intro y hy; simp only [List.mem_cons, List.not_mem_nil, or_false] at hy; rcases hy with rfl <;> first | decide | exact hv.out)⟩
        have hsz := FD.out.size
        have FF := hid (F2.out.trans F9.out (fun _ _ h => h))
        clear f
        refine hK _ _ ((F9.out.mono (fun _ _ h => h.elim))) ?_
        clear hK K
        have q0 := G9.out.cell 0
        have q1 := G9.out.cell 1
        have q2 := G9.out.cell 2
        have f0 := G9.out.frozen 0
        have f1 := G9.out.frozen 1
        have f2 := G9.out.frozen 2
        refine wpT_eff rfl rfl (fun K hK => ?_)
        simp only [zA]
        go_simp
        refine hK _ _ ?_ ?_
        · refine Fr.setCell ?_ _ _ (fun _ => rfl)
          refine Fr.setCell ?_ _ _ (fun _ => rfl)
          refine Fr.setCell ?_ _ _ (fun _ => rfl)
          exact F9.out.mono (fun _ _ h => h.elim)
        clear hK K
        refine wpT_nil ?_
        go_wp2
        refine want_ret rfl rfl (((G9.out.set_ 0 _).set_ 1 _).set_ 2 _) rfl ?_
        exact want_fin (r := (⟨[1], [v]⟩, 0)) _ _ _ HS.out (by omega) FT FF.out rfl rfl rfl
    · rw [if_neg (by decide), if_pos rfl] at hp
      subst hp
      have hq := GW1.out.lt
      go_wp2_with fail
      refine (list_any _ _ _ _).mono ?_
      rintro e w' ⟨rfl, rfl⟩
      go_wp2_with fail
      refine (gives_any _ _ _ _ _ _ _).mono ?_
      rintro e W2 ⟨rfl, f⟩
      have F2 := hid (((F1.out.alloc _).alloc _).trans f (fun _ _ h => h))
      have GM2 := hid (((GM1.out.alloc _).alloc _).fr f (fun x => x))
      have GX2 := hid (((GX1.out.alloc _).alloc _).fr f (fun x => x))
      have GW2 := hid (((GW1.out.alloc _).alloc _).fr f (fun x => x))
      have HW2 := hid ((HW1.out.fr ((((Fr.refl No W1).alloc _).alloc _))).fr f)
      have q0 := GW2.out.cell 0
      have q1 := GW2.out.cell 1
      have q2 := GW2.out.cell 2
      have f0 := GW2.out.frozen 0
      have f1 := GW2.out.frozen 1
      have f2 := GW2.out.frozen 2
      have FT : FnAt S ((w.heap.size + 1 + 1) + 1) W2 _ none ⟨[1, v], []⟩ := ⟨lits_els (l := [1, v]) ((Blk.new1 _ _ 59 #[.int .i64 1, .int .i64 v]).fr f (fun x => x)) (by omega) (by intro y hy; simp only [List.mem_cons, List.not_mem_nil, or_false] at hy; rcases hy with rfl | rfl <;> first | decide | exact hv.out), .inl rfl⟩
      clear f
      go_wp2
      refine want_ret rfl rfl (((GW2.out.set_ 0 _).set_ 1 _).set_ 2 _) rfl ?_
      exact want_fin (r := (⟨[1, v], []⟩, 0)) _ _ _ HS.out (by omega) FT F2.out rfl rfl rfl
    · rw [if_neg (by decide), if_neg (by decide), if_pos rfl] at hp
      subst hp
      have hq := GW1.out.lt
      go_wp2_with fail
      refine (gives_any _ _ _ _ _ _ _).mono ?_
      rintro e W2 ⟨rfl, f⟩
      have F2 := hid (((F1.out.alloc _).alloc _).trans f (fun _ _ h => h))
      have GM2 := hid (((GM1.out.alloc _).alloc _).fr f (fun x => x))
      have GX2 := hid (((GX1.out.alloc _).alloc _).fr f (fun x => x))
      have GW2 := hid (((GW1.out.alloc _).alloc _).fr f (fun x => x))
      have HW2 := hid ((HW1.out.fr ((((Fr.refl No W1).alloc _).alloc _))).fr f)
      have q0 := GW2.out.cell 0
      have q1 := GW2.out.cell 1
      have q2 := GW2.out.cell 2
      have f0 := GW2.out.frozen 0
      have f1 := GW2.out.frozen 1
      have f2 := GW2.out.frozen 2
      have FT : FnAt S ((w.heap.size + 1 + 1) + 1) W2 none _ ⟨[], [1]⟩ := ⟨.inl rfl, lits_els (l := [1]) ((Blk.new1 _ _ 59 #[.int .i64 1]).fr f (fun x => x)) (by omega) (by intro y hy; simp only [List.mem_cons, List.not_mem_nil, or_false] at hy; rcases hy with rfl <;> first | decide | exact hv.out)⟩
      clear f
      go_wp2
      refine want_ret rfl rfl (((GW2.out.set_ 0 _).set_ 1 _).set_ 2 _) rfl ?_
      exact want_fin (r := (⟨[], [1]⟩, 0)) _ _ _ HS.out (by omega) FT F2.out rfl rfl rfl
    · rw [if_neg (by decide), if_neg (by decide), if_neg (by decide), if_pos rfl] at hp
      subst hp
      have hq := GW1.out.lt
      go_wp2_with fail
      refine (list_any _ _ _ _).mono ?_
      rintro e w' ⟨rfl, rfl⟩
      go_wp2_with fail
      refine (gives_any _ _ _ _ _ _ _).mono ?_
      rintro e W2 ⟨rfl, f⟩
      have F2 := hid ((((F1.out.alloc _).alloc _).alloc _).trans f (fun _ _ h => h))
      have GM2 := hid ((((GM1.out.alloc _).alloc _).alloc _).fr f (fun x => x))
      have GX2 := hid ((((GX1.out.alloc _).alloc _).alloc _).fr f (fun x => x))
      have GW2 := hid ((((GW1.out.alloc _).alloc _).alloc _).fr f (fun x => x))
      have HW2 := hid ((HW1.out.fr (((((Fr.refl No W1).alloc _).alloc _).alloc _))).fr f)
      have q0 := GW2.out.cell 0
      have q1 := GW2.out.cell 1
      have q2 := GW2.out.cell 2
      have f0 := GW2.out.frozen 0
      have f1 := GW2.out.frozen 1
      have f2 := GW2.out.frozen 2
      have FT : FnAt S ((w.heap.size + 1 + 1) + 1) W2 _ _ ⟨[v, 1], [1]⟩ := ⟨lits_els (l := [v, 1]) (((Blk.new1 _ _ 59 #[.int .i64 v, .int .i64 1]).alloc _).fr f (fun x => x)) (by omega) (by intro y hy; simp only [List.mem_cons, List.not_mem_nil, or_false] at hy; rcases hy with rfl | rfl <;> first | decide | exact hv.out), lits_els (l := [1]) ((blk_n2 _ _ _ 59 #[.int .i64 1]).fr f (fun x => x)) (by omega) (by intro y hy; simp only [List.mem_cons, List.not_mem_nil, or_false] at hy; rcases hy with rfl <;> first | decide | exact hv.out)⟩
      clear f
      go_wp2
      refine want_ret rfl rfl (((GW2.out.set_ 0 _).set_ 1 _).set_ 2 _) rfl ?_
      exact want_fin (r := (⟨[v, 1], [1]⟩, 0)) _ _ _ HS.out (by omega) FT F2.out rfl rfl rfl
    · rw [if_neg (by decide), if_neg (by decide), if_neg (by decide), if_neg (by decide)] at hp
      subst hp
      have hq := GW1.out.lt
      go_wp2_with fail
      refine (list_any _ _ _ _).mono ?_
      rintro e w' ⟨rfl, rfl⟩
      go_wp2_with fail
      refine (gives_any _ _ _ _ _ _ _).mono ?_
      rintro e W2 ⟨rfl, f⟩
      have F2 := hid (((F1.out.alloc _).alloc _).trans f (fun _ _ h => h))
      have GM2 := hid (((GM1.out.alloc _).alloc _).fr f (fun x => x))
      have GX2 := hid (((GX1.out.alloc _).alloc _).fr f (fun x => x))
      have GW2 := hid (((GW1.out.alloc _).alloc _).fr f (fun x => x))
      have HW2 := hid ((HW1.out.fr ((((Fr.refl No W1).alloc _).alloc _))).fr f)
      have q0 := GW2.out.cell 0
      have q1 := GW2.out.cell 1
      have q2 := GW2.out.cell 2
      have f0 := GW2.out.frozen 0
      have f1 := GW2.out.frozen 1
      have f2 := GW2.out.frozen 2
      have FT : FnAt S ((w.heap.size + 1 + 1) + 1) W2 _ none ⟨[1, v, 1], []⟩ := ⟨lits_els (l := [1, v, 1]) ((Blk.new1 _ _ 59 #[.int .i64 1, .int .i64 v, .int .i64 1]).fr f (fun x => x)) (by omega) (by intro y hy; simp only [List.mem_cons, List.not_mem_nil, or_false] at hy; rcases hy with rfl | rfl | rfl <;> first | decide | exact hv.out), .inl rfl⟩
      clear f
      go_wp2
      refine want_ret rfl rfl (((GW2.out.set_ 0 _).set_ 1 _).set_ 2 _) rfl ?_
      exact want_fin (r := (⟨[1, v, 1], []⟩, 0)) _ _ _ HS.out (by omega) FT F2.out rfl rfl rfl
end Go.Proofs.YtiafkakkbbclhaaGreat
