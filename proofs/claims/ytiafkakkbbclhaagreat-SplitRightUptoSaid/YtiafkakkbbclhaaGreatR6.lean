/- For every input SplitRight returns true, part 6: what the proof rests on. Condition: the arguments are of bulk at most 1048576. -/
import Derived.Test.YtiafkakkbbclhaaGreatR5
import Derived.Test.YtiafkakkbbclhaaGreatR3
set_option maxRecDepth 100000
set_option maxHeartbeats 12800000
set_option linter.unusedVariables false
set_option linter.unusedSimpArgs false
set_option linter.unusedSectionVars false
namespace Go.Proofs.YtiafkakkbbclhaaGreat
open Go.RowKit
theorem fn05_any (A B : Option Addr) (n c m d : Nat) (w : World) : Calls Tryz.prog 66 #[.slice A n c, .slice B m d] w fun e w' => e = .returned (.agg #[.slice A n c, .slice B m d]) ∧ w' = w.alloc (.cells #[.slice A n c, .slice B m d] 36) := by
  go_enter Tryz.func66, Tryz.ntmps66
  go_wp2
  exact bodyPost_ret (v := .agg #[.slice A n c, .slice B m d]) (by simp [results, Tryz.results66, go_sem]) rfl ⟨rfl, rfl⟩
def FnAt (S : Nat → Prop) (B : Nat) (w' : World) (A1 : Option Addr) (A2 : Option Addr) (f : Fn) : Prop := tI.els w' (fun k => S k ∨ (B ≤ k ∧ k < w'.heap.size)) A1 f.params ∧ tI.els w' (fun k => S k ∨ (B ≤ k ∧ k < w'.heap.size)) A2 f.results
theorem FnAt.fr {S : Nat → Prop} {B : Nat} {w w' : World} {M : Nat → Prop} {A1 A2 : Option Addr} {f : Fn} (h : FnAt S B w A1 A2 f) (F : Fr M w w') (hS : ∀ k, S k → k < w.heap.size ∧ ¬ M k) (hM : ∀ k, B ≤ k → k < w.heap.size → ¬ M k) : FnAt S B w' A1 A2 f :=
  have hk : ∀ k, (S k ∨ (B ≤ k ∧ k < w.heap.size)) → k < w.heap.size ∧ ¬ M k := fun k hk => hk.elim (hS k) (fun h => ⟨h.2, hM k h.1 h.2⟩)
  have hm : ∀ k, (S k ∨ (B ≤ k ∧ k < w.heap.size)) → (S k ∨ (B ≤ k ∧ k < w'.heap.size)) := fun k hk => hk.imp id (fun h => ⟨h.1, Nat.lt_of_lt_of_le h.2 F.size⟩)
  ⟨(h.1.fr F hk).more hm, (h.2.fr F hk).more hm⟩
theorem FnAt.frNo {S : Nat → Prop} {B : Nat} {w w' : World} {A1 A2 : Option Addr} {f : Fn} (h : FnAt S B w A1 A2 f) (F : Fr No w w') (hS : ∀ k, S k → k < w.heap.size) : FnAt S B w' A1 A2 f := h.fr F (fun k hk => ⟨hS k hk, fun x => x⟩) (fun _ _ _ x => x)
theorem FnAt.more {S S' : Nat → Prop} {B B' : Nat} {w : World} {A1 A2 : Option Addr} {f : Fn} (h : FnAt S B w A1 A2 f) (hS : ∀ k, S k → S' k) (hB : B' ≤ B) : FnAt S' B' w A1 A2 f :=
  have hm : ∀ k, (S k ∨ (B ≤ k ∧ k < w.heap.size)) → (S' k ∨ (B' ≤ k ∧ k < w.heap.size)) := fun k hk => hk.imp (hS k) (fun h => ⟨Nat.le_trans hB h.1, h.2⟩)
  ⟨h.1.more hm, h.2.more hm⟩
def fnD (o : Option Fn) : Fn := o.getD zFn
def SigTo (S : Nat → Prop) (o : Option Fn) (w : World) (e : Ending) (w' : World) : Prop :=
  ∃ (A1 : Option Addr) (c1 : Nat) (A2 : Option Addr) (c2 : Nat), e = .returned (.tuple #[.agg #[.slice A1 (fnD o).params.length c1, .slice A2 (fnD o).results.length c2], .bool o.isSome]) ∧ FnAt S w.heap.size w' A1 A2 (fnD o) ∧ Fr No w w'
def plainR (op : Int) : Option Fn :=
  if op = 1 ∨ op = 64525 ∨ op = 64521 then some ⟨[], []⟩
  else if op = 65 ∨ op = 63 ∨ op = 64528 then some ⟨[], [1]⟩
  else if op = 66 then some ⟨[], [2]⟩
  else if op = 210 then some ⟨[], [3]⟩
  else if op = 64 then some ⟨[1], [1]⟩
  else if op = 64523 ∨ op = 64522 ∨ op = 64520 ∨ op = 64526 ∨ op = 64524 then some ⟨[1, 1, 1], []⟩
  else if op = 167 then some ⟨[2], [1]⟩
  else if op = 172 ∨ op = 173 then some ⟨[1], [2]⟩
  else none
theorem lits_els {W : World} {p B : Nat} {S : Nat → Prop} {l : List Int} (h : Blk W p 59 (l.map fun n => [Value.int .i64 n]).flatten.toArray) (hB : B ≤ p) (hw : ∀ n ∈ l, (Lit.int .i64 n).wf = true) : tI.els W (fun k => S k ∨ (B ≤ k ∧ k < W.heap.size)) (some ⟨p, 0, none⟩) l :=
  blk_els (t := tI) h (.inr ⟨hB, h.lt⟩) (css_map fun x hx => int_mk (hw x hx))
theorem blk_n1 (w : World) (a : Obj) (t : TypeId) (cs : Array Value) : Blk ((w.alloc a).alloc (.cells cs t)) (w.heap.size + 1) t cs := Blk.new1 w a t cs
theorem blk_n2 (w : World) (a b : Obj) (t : TypeId) (cs : Array Value) : Blk (((w.alloc a).alloc b).alloc (.cells cs t)) (w.heap.size + 1 + 1) t cs := by simpa using Blk.new1 (w.alloc a) b t cs
theorem blk_n3 (w : World) (a b c : Obj) (t : TypeId) (cs : Array Value) : Blk ((((w.alloc a).alloc b).alloc c).alloc (.cells cs t)) (w.heap.size + 1 + 1 + 1) t cs := by simpa using Blk.new1 ((w.alloc a).alloc b) c t cs
theorem plain05_1 (w : World) : Calls Tryz.prog 62 #[.int .i64 1] w (SigTo Emp (some ⟨[], []⟩) w) := by
  go_enter Tryz.func62, Tryz.ntmps62
  go_wp2
  exact bodyPost_ret (v := .tuple #[.agg #[.slice none 0 0, .slice none 0 0], .bool true]) (by simp [results, Tryz.results62, go_sem]) rfl ⟨_, _, _, _, rfl, ⟨.inl rfl, .inl rfl⟩, by repeat (first | exact Fr.refl _ _ | refine Fr.alloc ?_ _)⟩
theorem plain05_64525 (w : World) : Calls Tryz.prog 62 #[.int .i64 64525] w (SigTo Emp (some ⟨[], []⟩) w) := by
  go_enter Tryz.func62, Tryz.ntmps62
  go_wp2
  exact bodyPost_ret (v := .tuple #[.agg #[.slice none 0 0, .slice none 0 0], .bool true]) (by simp [results, Tryz.results62, go_sem]) rfl ⟨_, _, _, _, rfl, ⟨.inl rfl, .inl rfl⟩, by repeat (first | exact Fr.refl _ _ | refine Fr.alloc ?_ _)⟩
theorem plain05_64521 (w : World) : Calls Tryz.prog 62 #[.int .i64 64521] w (SigTo Emp (some ⟨[], []⟩) w) := by
  go_enter Tryz.func62, Tryz.ntmps62
  go_wp2
  exact bodyPost_ret (v := .tuple #[.agg #[.slice none 0 0, .slice none 0 0], .bool true]) (by simp [results, Tryz.results62, go_sem]) rfl ⟨_, _, _, _, rfl, ⟨.inl rfl, .inl rfl⟩, by repeat (first | exact Fr.refl _ _ | refine Fr.alloc ?_ _)⟩
theorem plain05_65 (w : World) : Calls Tryz.prog 62 #[.int .i64 65] w (SigTo Emp (some ⟨[], [1]⟩) w) := by
  go_enter Tryz.func62, Tryz.ntmps62
  go_wp2_with fail
  refine (fn05_any _ _ _ _ _ _ _).mono ?_
  rintro e w' ⟨rfl, rfl⟩
  go_wp2
  exact bodyPost_ret (v := .tuple #[.agg #[.slice none 0 0, .slice (some ⟨w.heap.size + 1 + 1, 0, none⟩) 1 1], .bool true]) (by simp [results, Tryz.results62, go_sem]) rfl ⟨_, _, _, _, rfl, ⟨.inl rfl, lits_els ((blk_n2 _ _ _ _ _).alloc _) (by omega) (by decide)⟩, by repeat (first | exact Fr.refl _ _ | refine Fr.alloc ?_ _)⟩
theorem plain05_63 (w : World) : Calls Tryz.prog 62 #[.int .i64 63] w (SigTo Emp (some ⟨[], [1]⟩) w) := by
  go_enter Tryz.func62, Tryz.ntmps62
  go_wp2_with fail
  refine (fn05_any _ _ _ _ _ _ _).mono ?_
  rintro e w' ⟨rfl, rfl⟩
  go_wp2
  exact bodyPost_ret (v := .tuple #[.agg #[.slice none 0 0, .slice (some ⟨w.heap.size + 1 + 1, 0, none⟩) 1 1], .bool true]) (by simp [results, Tryz.results62, go_sem]) rfl ⟨_, _, _, _, rfl, ⟨.inl rfl, lits_els ((blk_n2 _ _ _ _ _).alloc _) (by omega) (by decide)⟩, by repeat (first | exact Fr.refl _ _ | refine Fr.alloc ?_ _)⟩
theorem plain05_64528 (w : World) : Calls Tryz.prog 62 #[.int .i64 64528] w (SigTo Emp (some ⟨[], [1]⟩) w) := by
  go_enter Tryz.func62, Tryz.ntmps62
  go_wp2_with fail
  refine (fn05_any _ _ _ _ _ _ _).mono ?_
  rintro e w' ⟨rfl, rfl⟩
  go_wp2
  exact bodyPost_ret (v := .tuple #[.agg #[.slice none 0 0, .slice (some ⟨w.heap.size + 1 + 1, 0, none⟩) 1 1], .bool true]) (by simp [results, Tryz.results62, go_sem]) rfl ⟨_, _, _, _, rfl, ⟨.inl rfl, lits_els ((blk_n2 _ _ _ _ _).alloc _) (by omega) (by decide)⟩, by repeat (first | exact Fr.refl _ _ | refine Fr.alloc ?_ _)⟩
theorem plain05_66 (w : World) : Calls Tryz.prog 62 #[.int .i64 66] w (SigTo Emp (some ⟨[], [2]⟩) w) := by
  go_enter Tryz.func62, Tryz.ntmps62
  go_wp2_with fail
  refine (fn05_any _ _ _ _ _ _ _).mono ?_
  rintro e w' ⟨rfl, rfl⟩
  go_wp2
  exact bodyPost_ret (v := .tuple #[.agg #[.slice none 0 0, .slice (some ⟨w.heap.size + 1 + 1, 0, none⟩) 1 1], .bool true]) (by simp [results, Tryz.results62, go_sem]) rfl ⟨_, _, _, _, rfl, ⟨.inl rfl, lits_els ((blk_n2 _ _ _ _ _).alloc _) (by omega) (by decide)⟩, by repeat (first | exact Fr.refl _ _ | refine Fr.alloc ?_ _)⟩
theorem plain05_210 (w : World) : Calls Tryz.prog 62 #[.int .i64 210] w (SigTo Emp (some ⟨[], [3]⟩) w) := by
  go_enter Tryz.func62, Tryz.ntmps62
  go_wp2_with fail
  refine (fn05_any _ _ _ _ _ _ _).mono ?_
  rintro e w' ⟨rfl, rfl⟩
  go_wp2
  exact bodyPost_ret (v := .tuple #[.agg #[.slice none 0 0, .slice (some ⟨w.heap.size + 1 + 1, 0, none⟩) 1 1], .bool true]) (by simp [results, Tryz.results62, go_sem]) rfl ⟨_, _, _, _, rfl, ⟨.inl rfl, lits_els ((blk_n2 _ _ _ _ _).alloc _) (by omega) (by decide)⟩, by repeat (first | exact Fr.refl _ _ | refine Fr.alloc ?_ _)⟩
theorem plain05_64 (w : World) : Calls Tryz.prog 62 #[.int .i64 64] w (SigTo Emp (some ⟨[1], [1]⟩) w) := by
  go_enter Tryz.func62, Tryz.ntmps62
  go_wp2_with fail
  refine (fn05_any _ _ _ _ _ _ _).mono ?_
  rintro e w' ⟨rfl, rfl⟩
  go_wp2
  exact bodyPost_ret (v := .tuple #[.agg #[.slice (some ⟨w.heap.size + 1 + 1, 0, none⟩) 1 1, .slice (some ⟨w.heap.size + 1 + 1 + 1, 0, none⟩) 1 1], .bool true]) (by simp [results, Tryz.results62, go_sem]) rfl ⟨_, _, _, _, rfl, ⟨lits_els (((blk_n2 _ _ _ _ _).alloc _).alloc _) (by omega) (by decide), lits_els ((blk_n3 _ _ _ _ _ _).alloc _) (by omega) (by decide)⟩, by repeat (first | exact Fr.refl _ _ | refine Fr.alloc ?_ _)⟩
theorem plain05_64523 (w : World) : Calls Tryz.prog 62 #[.int .i64 64523] w (SigTo Emp (some ⟨[1, 1, 1], []⟩) w) := by
  go_enter Tryz.func62, Tryz.ntmps62
  go_wp2_with fail
  refine (fn05_any _ _ _ _ _ _ _).mono ?_
  rintro e w' ⟨rfl, rfl⟩
  go_wp2
  exact bodyPost_ret (v := .tuple #[.agg #[.slice (some ⟨w.heap.size + 1, 0, none⟩) 3 3, .slice none 0 0], .bool true]) (by simp [results, Tryz.results62, go_sem]) rfl ⟨_, _, _, _, rfl, ⟨lits_els ((blk_n1 _ _ _ _).alloc _) (by omega) (by decide), .inl rfl⟩, by repeat (first | exact Fr.refl _ _ | refine Fr.alloc ?_ _)⟩
theorem plain05_64522 (w : World) : Calls Tryz.prog 62 #[.int .i64 64522] w (SigTo Emp (some ⟨[1, 1, 1], []⟩) w) := by
  go_enter Tryz.func62, Tryz.ntmps62
  go_wp2_with fail
  refine (fn05_any _ _ _ _ _ _ _).mono ?_
  rintro e w' ⟨rfl, rfl⟩
  go_wp2
  exact bodyPost_ret (v := .tuple #[.agg #[.slice (some ⟨w.heap.size + 1, 0, none⟩) 3 3, .slice none 0 0], .bool true]) (by simp [results, Tryz.results62, go_sem]) rfl ⟨_, _, _, _, rfl, ⟨lits_els ((blk_n1 _ _ _ _).alloc _) (by omega) (by decide), .inl rfl⟩, by repeat (first | exact Fr.refl _ _ | refine Fr.alloc ?_ _)⟩
theorem plain05_64520 (w : World) : Calls Tryz.prog 62 #[.int .i64 64520] w (SigTo Emp (some ⟨[1, 1, 1], []⟩) w) := by
  go_enter Tryz.func62, Tryz.ntmps62
  go_wp2_with fail
  refine (fn05_any _ _ _ _ _ _ _).mono ?_
  rintro e w' ⟨rfl, rfl⟩
  go_wp2
  exact bodyPost_ret (v := .tuple #[.agg #[.slice (some ⟨w.heap.size + 1, 0, none⟩) 3 3, .slice none 0 0], .bool true]) (by simp [results, Tryz.results62, go_sem]) rfl ⟨_, _, _, _, rfl, ⟨lits_els ((blk_n1 _ _ _ _).alloc _) (by omega) (by decide), .inl rfl⟩, by repeat (first | exact Fr.refl _ _ | refine Fr.alloc ?_ _)⟩
theorem plain05_64526 (w : World) : Calls Tryz.prog 62 #[.int .i64 64526] w (SigTo Emp (some ⟨[1, 1, 1], []⟩) w) := by
  go_enter Tryz.func62, Tryz.ntmps62
  go_wp2_with fail
  refine (fn05_any _ _ _ _ _ _ _).mono ?_
  rintro e w' ⟨rfl, rfl⟩
  go_wp2
  exact bodyPost_ret (v := .tuple #[.agg #[.slice (some ⟨w.heap.size + 1, 0, none⟩) 3 3, .slice none 0 0], .bool true]) (by simp [results, Tryz.results62, go_sem]) rfl ⟨_, _, _, _, rfl, ⟨lits_els ((blk_n1 _ _ _ _).alloc _) (by omega) (by decide), .inl rfl⟩, by repeat (first | exact Fr.refl _ _ | refine Fr.alloc ?_ _)⟩
theorem plain05_64524 (w : World) : Calls Tryz.prog 62 #[.int .i64 64524] w (SigTo Emp (some ⟨[1, 1, 1], []⟩) w) := by
  go_enter Tryz.func62, Tryz.ntmps62
  go_wp2_with fail
  refine (fn05_any _ _ _ _ _ _ _).mono ?_
  rintro e w' ⟨rfl, rfl⟩
  go_wp2
  exact bodyPost_ret (v := .tuple #[.agg #[.slice (some ⟨w.heap.size + 1, 0, none⟩) 3 3, .slice none 0 0], .bool true]) (by simp [results, Tryz.results62, go_sem]) rfl ⟨_, _, _, _, rfl, ⟨lits_els ((blk_n1 _ _ _ _).alloc _) (by omega) (by decide), .inl rfl⟩, by repeat (first | exact Fr.refl _ _ | refine Fr.alloc ?_ _)⟩
theorem plain05_167 (w : World) : Calls Tryz.prog 62 #[.int .i64 167] w (SigTo Emp (some ⟨[2], [1]⟩) w) := by
  go_enter Tryz.func62, Tryz.ntmps62
  go_wp2_with fail
  refine (fn05_any _ _ _ _ _ _ _).mono ?_
  rintro e w' ⟨rfl, rfl⟩
  go_wp2
  exact bodyPost_ret (v := .tuple #[.agg #[.slice (some ⟨w.heap.size + 1 + 1, 0, none⟩) 1 1, .slice (some ⟨w.heap.size + 1 + 1 + 1, 0, none⟩) 1 1], .bool true]) (by simp [results, Tryz.results62, go_sem]) rfl ⟨_, _, _, _, rfl, ⟨lits_els (((blk_n2 _ _ _ _ _).alloc _).alloc _) (by omega) (by decide), lits_els ((blk_n3 _ _ _ _ _ _).alloc _) (by omega) (by decide)⟩, by repeat (first | exact Fr.refl _ _ | refine Fr.alloc ?_ _)⟩
theorem plain05_172 (w : World) : Calls Tryz.prog 62 #[.int .i64 172] w (SigTo Emp (some ⟨[1], [2]⟩) w) := by
  go_enter Tryz.func62, Tryz.ntmps62
  go_wp2_with fail
  refine (fn05_any _ _ _ _ _ _ _).mono ?_
  rintro e w' ⟨rfl, rfl⟩
  go_wp2
  exact bodyPost_ret (v := .tuple #[.agg #[.slice (some ⟨w.heap.size + 1 + 1, 0, none⟩) 1 1, .slice (some ⟨w.heap.size + 1 + 1 + 1, 0, none⟩) 1 1], .bool true]) (by simp [results, Tryz.results62, go_sem]) rfl ⟨_, _, _, _, rfl, ⟨lits_els (((blk_n2 _ _ _ _ _).alloc _).alloc _) (by omega) (by decide), lits_els ((blk_n3 _ _ _ _ _ _).alloc _) (by omega) (by decide)⟩, by repeat (first | exact Fr.refl _ _ | refine Fr.alloc ?_ _)⟩
theorem plain05_173 (w : World) : Calls Tryz.prog 62 #[.int .i64 173] w (SigTo Emp (some ⟨[1], [2]⟩) w) := by
  go_enter Tryz.func62, Tryz.ntmps62
  go_wp2_with fail
  refine (fn05_any _ _ _ _ _ _ _).mono ?_
  rintro e w' ⟨rfl, rfl⟩
  go_wp2
  exact bodyPost_ret (v := .tuple #[.agg #[.slice (some ⟨w.heap.size + 1 + 1, 0, none⟩) 1 1, .slice (some ⟨w.heap.size + 1 + 1 + 1, 0, none⟩) 1 1], .bool true]) (by simp [results, Tryz.results62, go_sem]) rfl ⟨_, _, _, _, rfl, ⟨lits_els (((blk_n2 _ _ _ _ _).alloc _).alloc _) (by omega) (by decide), lits_els ((blk_n3 _ _ _ _ _ _).alloc _) (by omega) (by decide)⟩, by repeat (first | exact Fr.refl _ _ | refine Fr.alloc ?_ _)⟩
theorem plain05_any (op : Int) (w : World) : Calls Tryz.prog 62 #[.int .i64 op] w (SigTo Emp (plainR op) w) := by
  by_cases h1 : op = 1
  · subst h1; exact plain05_1 w
  by_cases h64525 : op = 64525
  · subst h64525; exact plain05_64525 w
  by_cases h64521 : op = 64521
  · subst h64521; exact plain05_64521 w
  by_cases h65 : op = 65
  · subst h65; exact plain05_65 w
  by_cases h63 : op = 63
  · subst h63; exact plain05_63 w
  by_cases h64528 : op = 64528
  · subst h64528; exact plain05_64528 w
  by_cases h66 : op = 66
  · subst h66; exact plain05_66 w
  by_cases h210 : op = 210
  · subst h210; exact plain05_210 w
  by_cases h64 : op = 64
  · subst h64; exact plain05_64 w
  by_cases h64523 : op = 64523
  · subst h64523; exact plain05_64523 w
  by_cases h64522 : op = 64522
  · subst h64522; exact plain05_64522 w
  by_cases h64520 : op = 64520
  · subst h64520; exact plain05_64520 w
  by_cases h64526 : op = 64526
  · subst h64526; exact plain05_64526 w
  by_cases h64524 : op = 64524
  · subst h64524; exact plain05_64524 w
  by_cases h167 : op = 167
  · subst h167; exact plain05_167 w
  by_cases h172 : op = 172
  · subst h172; exact plain05_172 w
  by_cases h173 : op = 173
  · subst h173; exact plain05_173 w
  have hz : plainR op = none := by
    unfold plainR
    rw [if_neg (by omega)]
    rw [if_neg (by omega)]
    rw [if_neg (by omega)]
    rw [if_neg (by omega)]
    rw [if_neg (by omega)]
    rw [if_neg (by omega)]
    rw [if_neg (by omega)]
    rw [if_neg (by omega)]
  rw [hz]
  clear hz
  have d1 : (op == 1) = false := beq_eq_false_iff_ne.2 h1
  have d64525 : (op == 64525) = false := beq_eq_false_iff_ne.2 h64525
  have d64521 : (op == 64521) = false := beq_eq_false_iff_ne.2 h64521
  have d65 : (op == 65) = false := beq_eq_false_iff_ne.2 h65
  have d63 : (op == 63) = false := beq_eq_false_iff_ne.2 h63
  have d64528 : (op == 64528) = false := beq_eq_false_iff_ne.2 h64528
  have d66 : (op == 66) = false := beq_eq_false_iff_ne.2 h66
  have d210 : (op == 210) = false := beq_eq_false_iff_ne.2 h210
  have d64 : (op == 64) = false := beq_eq_false_iff_ne.2 h64
  have d64523 : (op == 64523) = false := beq_eq_false_iff_ne.2 h64523
  have d64522 : (op == 64522) = false := beq_eq_false_iff_ne.2 h64522
  have d64520 : (op == 64520) = false := beq_eq_false_iff_ne.2 h64520
  have d64526 : (op == 64526) = false := beq_eq_false_iff_ne.2 h64526
  have d64524 : (op == 64524) = false := beq_eq_false_iff_ne.2 h64524
  have d167 : (op == 167) = false := beq_eq_false_iff_ne.2 h167
  have d172 : (op == 172) = false := beq_eq_false_iff_ne.2 h172
  have d173 : (op == 173) = false := beq_eq_false_iff_ne.2 h173
  clear h1 h64525 h64521 h65 h63 h64528 h66 h210 h64 h64523 h64522 h64520 h64526 h64524 h167 h172 h173
  go_enter Tryz.func62, Tryz.ntmps62
  go_wp2
  exact bodyPost_ret (v := .tuple #[.agg #[.slice none 0 0, .slice none 0 0], .bool false]) (by simp [results, Tryz.results62, go_sem]) rfl ⟨none, 0, none, 0, rfl, ⟨.inl rfl, .inl rfl⟩, by repeat (first | exact Fr.refl _ _ | refine Fr.alloc ?_ _)⟩
end Go.Proofs.YtiafkakkbbclhaaGreat
namespace Go.Proofs.YtiafkakkbbclhaaGreat
open Go.RowKit
def imv (im : Im) : Value := .agg #[.string im.mod, .string im.name, .int .i64 im.kind, .int .i64 im.func, .int .i64 im.table.elem, .int .i64 im.table.lim.min, .int .i64 im.table.lim.max, .bool im.table.lim.has, .int .i64 im.mem.min, .int .i64 im.mem.max, .bool im.mem.has, .int .i64 im.glob.val, .bool im.glob.mut_]
def cTb (z : Tb) : Value := .agg #[.int .i64 z.elem, .int .i64 z.lim.min, .int .i64 z.lim.max, .bool z.lim.has]
def cLim (z : Lim) : Value := .agg #[.int .i64 z.min, .int .i64 z.max, .bool z.has]
def cGl (z : Gl) : Value := .agg #[.int .i64 z.val, .bool z.mut_]
theorem lists_at {α : Type} {t : Ty α} {w : World} {S : Nat → Prop} {A : Option Addr} {ls : List (List α)} (h : t.slice.els w S A ls) (k : Nat) (hk : k < ls.length) : ∃ (b o : Nat) (A' : Option Addr) (c' : Nat), A = some ⟨b, o, none⟩ ∧ S b ∧ w.cell? ⟨b, o + k, none⟩ = some (.slice A' ls[k].length c') ∧ t.els w S A' ls[k] := by
  obtain ⟨b, o, ds, rfl, hb, hc, A', c', rfl, _, _, he⟩ := h.at_ k hk
  have := hc 0 _ rfl
  have e : (Ty.slice t).size = 1 := rfl
  rw [e, Nat.mul_one, Nat.add_zero] at this
  exact ⟨b, o, A', c', rfl, hb, this, he⟩
def impN (ims : List Im) (kd : Int) : Nat := ims.countP (fun im => im.kind == kd)
theorem impN_yes {ims : List Im} {kd : Int} {k : Nat} (hk : k < ims.length) (h : ims[k].kind = kd) : impN (ims.take (k + 1)) kd = impN (ims.take k) kd + 1 := by
  rw [impN, impN, List.take_succ_eq_append_getElem hk, List.countP_append]; simp [h]
theorem impN_no {ims : List Im} {kd : Int} {k : Nat} (hk : k < ims.length) (h : ¬ ims[k].kind = kd) : impN (ims.take (k + 1)) kd = impN (ims.take k) kd := by
  rw [impN, impN, List.take_succ_eq_append_getElem hk, List.countP_append]; simp [h]
theorem impN_le (ims : List Im) (kd : Int) : impN ims kd ≤ ims.length := List.countP_le_length
theorem rDatas_any (nt ni nf nta nm ng ne nel nd nc ct ci cf cta cm cg ce cel cd cc : Nat) (At Ai Af Ata Am Ag Ae Ael Ad Ac : Option Addr) (bst : Bool) (vst : Int) (w : World) :
    Calls Tryz.prog 98 #[.agg #[.slice At nt ct, .slice Ai ni ci, .slice Af nf cf, .slice Ata nta cta, .slice Am nm cm, .slice Ag ng cg, .slice Ae ne ce, .bool bst, .int .i64 vst, .slice Ael nel cel, .slice Ad nd cd, .slice Ac nc cc]] w fun e w' => e = .returned (.int .i64 nd) ∧ Fr No w w' := by
  have F0 := hid ((Fr.refl No w).alloc (.cells #[.slice At nt ct, .slice Ai ni ci, .slice Af nf cf, .slice Ata nta cta, .slice Am nm cm, .slice Ag ng cg, .slice Ae ne ce, .bool bst, .int .i64 vst, .slice Ael nel cel, .slice Ad nd cd, .slice Ac nc cc] 33))
  go_enter Tryz.func98, Tryz.ntmps98
  go_wp2
  go_ret
  exact ⟨rfl, F0.out⟩
theorem rImp_any (nt ni nf nta nm ng ne nel nd nc ct ci cf cta cm cg ce cel cd cc : Nat) (At Ai Af Ata Am Ag Ae Ael Ad Ac : Option Addr) (bst : Bool) (vst : Int) (w : World) (ims : List Im) (kd : Int) (S : Nat → Prop) (h : tIm.els w S Ai ims) (hS : ∀ k, S k → k < w.heap.size) (hn : Hid (ims.length = ni)) (hl : ni ≤ 101) :
    Calls Tryz.prog 75 #[.agg #[.slice At nt ct, .slice Ai ni ci, .slice Af nf cf, .slice Ata nta cta, .slice Am nm cm, .slice Ag ng cg, .slice Ae ne ce, .bool bst, .int .i64 vst, .slice Ael nel cel, .slice Ad nd cd, .slice Ac nc cc], .int .i64 kd] w fun e w' => e = .returned (.int .i64 (impN ims kd)) ∧ Fr No w w' := by
  have F0 := hid ((Fr.refl No w).alloc (.cells #[.slice At nt ct, .slice Ai ni ci, .slice Af nf cf, .slice Ata nta cta, .slice Am nm cm, .slice Ag ng cg, .slice Ae ne ce, .bool bst, .int .i64 vst, .slice Ael nel cel, .slice Ad nd cd, .slice Ac nc cc] 33))
  go_enter Tryz.func75, Tryz.ntmps75
  go_wp2
  go_loop [5, 6] (fun n i => ∃ k m : Nat, k ≤ ni ∧ m ≤ k ∧ i = .int .i64 k ∧ n = .int .i64 m ∧ Hid (impN (ims.take k) kd = m)) (fun _ i => ni - (intOf i).toNat)
  case atStart => exact ⟨0, 0, by omega, by omega, rfl, rfl, by simp [Hid, impN]⟩
  case round =>
    obtain ⟨k, m, hk, hm, rfl, rfl, HA⟩ := hrel
    by_cases hlt : k < ni
    · have hlk : k < ims.length := by have := hn.out; omega
      obtain ⟨b, o, rfl, hb, _, _, c2, _⟩ := Im_at h k hlk
      have hbl := hS b hb
      by_cases he : ims[k].kind = kd
      · have HE := hid (impN_yes hlk he)
        rw [he] at c2
        clear he h hS
        go_wp2
        go_round
        case rel => exact ⟨k + 1, m + 1, by omega, by omega, by go_num, by go_num, by rw [Hid, HE.out, HA.out]⟩
        case measure => simp [intOf]; omega
      · have HE := hid (impN_no hlk he)
        have hq : (ims[k].kind == kd) = false := by simpa using he
        clear he h hS
        go_wp2
        go_round
        case rel => exact ⟨k + 1, m, by omega, by omega, by go_num, rfl, by rw [Hid, HE.out, HA.out]⟩
        case measure => simp [intOf]; omega
    · go_wp2
      go_ret
      refine ⟨rt_int ?_, F0.out⟩
      have h1 := HA.out
      have h2 := hn.out
      rw [List.take_of_length_le (by omega)] at h1
      rw [h1]
def ownI (N n : Nat) (i : Int) : Int := if i < 0 then -1 else if i - N < 0 then -1 else if i - N ≥ n then -1 else i - N
theorem rOwn_any (nt ni nf nta nm ng ne nel nd nc ct ci cf cta cm cg ce cel cd cc : Nat) (At Ai Af Ata Am Ag Ae Ael Ad Ac : Option Addr) (bst : Bool) (vst : Int) (w : World) (ims : List Im) (kd : Int) (i : Int) (n : Nat) (S : Nat → Prop) (h : tIm.els w S Ai ims) (hS : ∀ k, S k → k < w.heap.size) (hn : Hid (ims.length = ni)) (hl : ni ≤ 101) (hi1 : i ≤ 9223372036854775807) :
    Calls Tryz.prog 70 #[.agg #[.slice At nt ct, .slice Ai ni ci, .slice Af nf cf, .slice Ata nta cta, .slice Am nm cm, .slice Ag ng cg, .slice Ae ne ce, .bool bst, .int .i64 vst, .slice Ael nel cel, .slice Ad nd cd, .slice Ac nc cc], .int .i64 kd, .int .i64 i, .int .i64 n] w fun e w' => e = .returned (.int .i64 (ownI (impN ims kd) n i)) ∧ Fr No w w' := by
  have F0 := hid ((Fr.refl No w).alloc (.cells #[.slice At nt ct, .slice Ai ni ci, .slice Af nf cf, .slice Ata nta cta, .slice Am nm cm, .slice Ag ng cg, .slice Ae ne ce, .bool bst, .int .i64 vst, .slice Ael nel cel, .slice Ad nd cd, .slice Ac nc cc] 33))
  have h' := h.fr F0.out (fun k hk => ⟨hS k hk, fun x => x⟩)
  have HI := hid (rImp_any nt ni nf nta nm ng ne nel nd nc ct ci cf cta cm cg ce cel cd cc At Ai Af Ata Am Ag Ae Ael Ad Ac bst vst _ ims kd S h' (fun k hk => Nat.lt_of_lt_of_le (hS k hk) F0.out.size) hn hl)
  have hN := hid (impN_le ims kd)
  have hN2 : impN ims kd ≤ 101 := by have := hN.out; have := hn.out; omega
  unfold ownI
  generalize impN ims kd = N at *
  clear h h' hS
  by_cases h0 : i < 0
  · go_enter Tryz.func70, Tryz.ntmps70
    go_wp2
    go_ret
    exact ⟨rt_int rfl, F0.out⟩
  · go_enter Tryz.func70, Tryz.ntmps70
    go_wp2_with fail
    refine HI.out.mono ?_
    rintro e w' ⟨rfl, f1⟩
    have F1 := hid (F0.out.trans f1 (fun _ _ h => h))
    clear f1 HI
    by_cases h1 : i - N < 0
    · go_wp2
      go_ret
      exact ⟨rt_int rfl, F1.out⟩
    · by_cases h2 : i - N ≥ n
      · go_wp2
        go_ret
        exact ⟨rt_int rfl, F1.out⟩
      · go_wp2
        go_ret
        exact ⟨rt_int rfl, F1.out⟩
theorem rType_any (nt ni nf nta nm ng ne nel nd nc ct ci cf cta cm cg ce cel cd cc : Nat) (At Ai Af Ata Am Ag Ae Ael Ad Ac : Option Addr) (bst : Bool) (vst : Int) (w : World) (tys : List Fn) (i : Int) (S : Nat → Prop) (h : tFn.els w S At tys) (hS : ∀ k, S k → k < w.heap.size) (hn : Hid (tys.length = nt)) (hl : nt ≤ 100) :
    Calls Tryz.prog 71 #[.agg #[.slice At nt ct, .slice Ai ni ci, .slice Af nf cf, .slice Ata nta cta, .slice Am nm cm, .slice Ag ng cg, .slice Ae ne ce, .bool bst, .int .i64 vst, .slice Ael nel cel, .slice Ad nd cd, .slice Ac nc cc], .int .i64 i] w (AtFn (atD zFn tys i).1 (atD zFn tys i).2 S w) := by
  have F1 := hid (((Fr.refl No w).alloc (.cells #[.slice At nt ct, .slice Ai ni ci, .slice Af nf cf, .slice Ata nta cta, .slice Am nm cm, .slice Ag ng cg, .slice Ae ne ce, .bool bst, .int .i64 vst, .slice Ael nel cel, .slice Ad nd cd, .slice Ac nc cc] 33)).alloc (.cells #[.slice none 0 0, .slice none 0 0] 36))
  rcases at_cases tys i with ⟨k, hk, rfl⟩ | hi | ⟨hi0, hi⟩
  · obtain ⟨b, o, A1, c1, A2, c2, rfl, hb, y0, y1, _, _, e1, _, _, e2⟩ := Fn_at h k hk
    have hbx := hS b hb
    rw [atD_yes hk]
    have i0 : (0 : Int) ≤ k := by omega
    have i1 : (k : Int) < nt := by have := hn.out; omega
    have HS := hid hS
    have E1 := hid e1
    have E2 := hid e2
    generalize tys[k] = y at *
    clear h hS e1 e2 hk
    go_enter Tryz.func71, Tryz.ntmps71
    go_wp2
    refine bodyPost_ret (v := .tuple #[.agg #[.slice A1 y.params.length c1, .slice A2 y.results.length c2], .bool true]) (by simp [results, Tryz.results71, go_sem]) rfl ⟨A1, c1, A2, c2, rfl, ?_, ?_, ?_⟩
    · exact E1.out.fr (((Fr.refl No w).alloc _).alloc _) (fun k hk => ⟨HS.out k hk, fun x => x⟩)
    · exact E2.out.fr (((Fr.refl No w).alloc _).alloc _) (fun k hk => ⟨HS.out k hk, fun x => x⟩)
    · exact ((Fr.refl No w).alloc _).alloc _
  · rw [atD_no (.inl hi)]
    clear h hS
    go_enter Tryz.func71, Tryz.ntmps71
    go_wp2
    exact bodyPost_ret (v := .tuple #[.agg #[.slice none 0 0, .slice none 0 0], .bool false]) (by simp [results, Tryz.results71, go_sem]) rfl ⟨none, 0, none, 0, rfl, .inl rfl, .inl rfl, F1.out⟩
  · rw [atD_no (.inr hi)]
    have hi1 : (nt : Int) ≤ i := by have := hn.out; omega
    clear h hS hi
    go_enter Tryz.func71, Tryz.ntmps71
    go_wp2
    exact bodyPost_ret (v := .tuple #[.agg #[.slice none 0 0, .slice none 0 0], .bool false]) (by simp [results, Tryz.results71, go_sem]) rfl ⟨none, 0, none, 0, rfl, .inl rfl, .inl rfl, F1.out⟩
theorem rElem_any (nt ni nf nta nm ng ne nel nd nc ct ci cf cta cm cg ce cel cd cc : Nat) (At Ai Af Ata Am Ag Ae Ael Ad Ac : Option Addr) (bst : Bool) (vst : Int) (w : World) (els : List El) (i : Int) (S : Nat → Prop) (h : tEl.els w S Ael els) (hS : ∀ k, S k → k < w.heap.size) (hn : Hid (els.length = nel)) (hl : nel ≤ 50) :
    Calls Tryz.prog 96 #[.agg #[.slice At nt ct, .slice Ai ni ci, .slice Af nf cf, .slice Ata nta cta, .slice Am nm cm, .slice Ag ng cg, .slice Ae ne ce, .bool bst, .int .i64 vst, .slice Ael nel cel, .slice Ad nd cd, .slice Ac nc cc], .int .i64 i] w fun e w' => e = .returned (.tuple #[.int .i64 (atD 0 (els.map (·.type)) i).1, .bool (atD 0 (els.map (·.type)) i).2]) ∧ Fr No w w' := by
  have F1 := hid ((Fr.refl No w).alloc (.cells #[.slice At nt ct, .slice Ai ni ci, .slice Af nf cf, .slice Ata nta cta, .slice Am nm cm, .slice Ag ng cg, .slice Ae ne ce, .bool bst, .int .i64 vst, .slice Ael nel cel, .slice Ad nd cd, .slice Ac nc cc] 33))
  have hm : els.length = (els.map (·.type)).length := by simp
  rcases at_cases els i with ⟨k, hk, rfl⟩ | hi | ⟨hi0, hi⟩
  · have HX := hid (El_at h k hk)
    obtain ⟨b, o, _, _, _, _, rfl, hb, _, _, _, c3, _⟩ := HX.out
    have hbx := hS b hb
    rw [atD_yes (hm ▸ hk), List.getElem_map]
    have i0 : (0 : Int) ≤ k := by omega
    have i1 : (k : Int) < nel := by have := hn.out; omega
    generalize els[k].type = y at *
    clear h hS HX hm
    go_enter Tryz.func96, Tryz.ntmps96
    go_wp2
    go_ret2
    exact ⟨rfl, F1.out⟩
  · rw [atD_no (.inl hi)]
    clear h hS hm
    go_enter Tryz.func96, Tryz.ntmps96
    go_wp2
    go_ret2
    exact ⟨rfl, F1.out⟩
  · rw [atD_no (.inr (hm ▸ hi))]
    have hi1 : (nel : Int) ≤ i := by have := hn.out; omega
    clear h hS hi hm
    go_enter Tryz.func96, Tryz.ntmps96
    go_wp2
    go_ret2
    exact ⟨rfl, F1.out⟩
def ofKind (ims : List Im) (kd : Int) : List Im := ims.filter (fun im => im.kind == kd)
theorem ofKind_len (ims : List Im) (kd : Int) : (ofKind ims kd).length = impN ims kd := by rw [ofKind, impN, List.countP_eq_length_filter]
theorem ofKind_get {ims : List Im} {kd : Int} {k : Nat} (hk : k < ims.length) (h : ims[k].kind = kd) : (ofKind ims kd)[impN (ims.take k) kd]? = some ims[k] := by
  have e : ims = ims.take k ++ ims[k] :: ims.drop (k + 1) := by rw [List.getElem_cons_drop, List.take_append_drop]
  have this : ofKind (ims.take k ++ ims[k] :: ims.drop (k + 1)) kd = ofKind (ims.take k) kd ++ ims[k] :: ofKind (ims.drop (k + 1)) kd := by
    simp only [ofKind, List.filter_append, List.filter_cons, h, beq_self_eq_true, if_true]
  rw [← e] at this
  rw [this, List.getElem?_append_right (by rw [ofKind_len]; exact Nat.le_refl _), ofKind_len]; simp
def zIm : Im := ⟨⟨#[]⟩, ⟨#[]⟩, 0, 0, zTb, zLim, zGl⟩
def downTo (i j : Int) (m : Nat) : Prop := j = i - m ∨ j = i - m + 18446744073709551616
theorem atD_get {α : Type} {d a : α} {l : List α} {k : Nat} (h : l[k]? = some a) : atD d l (k : Int) = (a, true) := by
  obtain ⟨h1, h2⟩ := List.getElem?_eq_some_iff.1 h
  rw [atD_yes h1, h2]
def noneOf (i : Int) (m : Nat) : Prop := i < 0 ∨ (m : Int) ≤ i
theorem rNth_any (nt ni nf nta nm ng ne nel nd nc ct ci cf cta cm cg ce cel cd cc : Nat) (At Ai Af Ata Am Ag Ae Ael Ad Ac : Option Addr) (bst : Bool) (vst : Int) (w : World) (ims : List Im) (kd i : Int) (S : Nat → Prop) (h : tIm.els w S Ai ims) (hS : ∀ k, S k → k < w.heap.size) (hn : Hid (ims.length = ni)) (hl : ni ≤ 101) (hi : -9223372036854775808 ≤ i ∧ i ≤ 9223372036854775807) :
    Calls Tryz.prog 69 #[.agg #[.slice At nt ct, .slice Ai ni ci, .slice Af nf cf, .slice Ata nta cta, .slice Am nm cm, .slice Ag ng cg, .slice Ae ne ce, .bool bst, .int .i64 vst, .slice Ael nel cel, .slice Ad nd cd, .slice Ac nc cc], .int .i64 kd, .int .i64 i] w fun e w' => e = .returned (.tuple #[imv (atD zIm (ofKind ims kd) i).1, .bool (atD zIm (ofKind ims kd) i).2]) ∧ Fr No w w' := by
  generalize hP : atD zIm (ofKind ims kd) i = P
  have HP := hid hP
  clear hP
  obtain ⟨x, ok⟩ := P
  go_enter Tryz.func69, Tryz.ntmps69
  go_wp2
  go_loop [2, 8] (fun it ix => ∃ (k m : Nat) (j : Int), k ≤ ni ∧ m ≤ k ∧ ix = .int .i64 k ∧ it = .int .i64 j ∧ (-9223372036854775808 ≤ j ∧ j ≤ 9223372036854775807) ∧ Hid (downTo i j m) ∧ Hid (noneOf i m) ∧ Hid (impN (ims.take k) kd = m)) (fun _ ix => ni - (intOf ix).toNat)
  case atStart => exact ⟨0, 0, i, by omega, by omega, rfl, rfl, hi, .inl (by simp), by simp only [Hid, noneOf]; omega, by simp [Hid, impN]⟩
  case round =>
    obtain ⟨k, m, j, hk, hm, rfl, rfl, hj, HD, HQ, HA⟩ := hrel
    by_cases hlt : k < ni
    · have hlk : k < ims.length := by have := hn.out; omega
      obtain ⟨b, o, rfl, hb, c0, c1, c2, c3, c4, c5, c6, c7, c8, c9, c10, c11, c12, _⟩ := Im_at h k hlk
      have hbl := hS b hb
      have i0 : (0 : Int) ≤ k := by omega
      have i1 : (k : Int) < ni := by omega
      by_cases he : ims[k].kind = kd
      · have HE := hid (impN_yes hlk he)
        by_cases h0 : j = 0
        · subst h0
          have hR := hid (ofKind_get hlk he)
          rw [HA.out] at hR
          have hi' : i = m := by rcases HD.out with h | h <;> omega
          subst hi'
          have hR2 := HP.out
          rw [atD_get hR.out] at hR2
          injection hR2 with e1 e2
          subst e1 e2
          have hkk : (ims[k].kind == kd) = true := by simpa using he
          clear he h hS HE hR HP
          go_wp2
          exact bodyPost_ret (v := .tuple #[imv ims[k], .bool true]) (by simp [results, Tryz.results69, go_sem, imv]) rfl ⟨rfl, ((Fr.refl No w).alloc _).alloc _⟩
        · have hkk : (ims[k].kind == kd) = true := by simpa using he
          have hj0 : (j == 0) = false := by simpa using h0
          have hw : wrap64 (j - 1) = if j = -9223372036854775808 then 9223372036854775807 else j - 1 := by
            simp only [wrap64]; split <;> omega
          clear he h hS
          generalize ims[k].kind = y at *
          go_wp2
          go_round
          case rel => exact ⟨k + 1, m + 1, wrap64 (j - 1), by omega, by omega, by go_num, rfl, by split at hw <;> omega, by (have := HD.out; simp only [Hid, downTo] at *; split at hw <;> omega), by (have := HD.out; have := HQ.out; simp only [Hid, noneOf, downTo] at *; omega), by rw [Hid, HE.out, HA.out]⟩
          case measure => simp [intOf]; omega
      · have HE := hid (impN_no hlk he)
        have hkk : (ims[k].kind == kd) = false := by simpa using he
        clear he h hS
        generalize ims[k].kind = y at *
        clear HP
        go_wp2
        go_round
        case rel => exact ⟨k + 1, m, j, by omega, by omega, by go_num, rfl, hj, HD, HQ, by rw [Hid, HE.out, HA.out]⟩
        case measure => simp [intOf]; omega
    · have hR : Hid (atD zIm (ofKind ims kd) i = (zIm, false)) := by
        have h1 := HA.out
        have h2 := hn.out
        have h3 := HQ.out
        rw [List.take_of_length_le (by omega)] at h1
        refine atD_no ?_
        rw [ofKind_len, h1]
        exact h3
      have hR2 := HP.out
      rw [hR.out] at hR2
      injection hR2 with e1 e2
      subst e1 e2
      go_wp2
      exact bodyPost_ret (v := .tuple #[imv zIm, .bool false]) (by simp [results, Tryz.results69, go_sem, imv, zIm, zTb, zLim, zGl]) rfl ⟨rfl, ((Fr.refl No w).alloc _).alloc _⟩
end Go.Proofs.YtiafkakkbbclhaaGreat
namespace Go.Proofs.YtiafkakkbbclhaaGreat
open Go.RowKit
theorem num_cases {α : Type} (ims : List Im) (kd : Int) (f : Im → α) (d : α) (l : List α) (i : Int) :
    (∃ x, atD zIm (ofKind ims kd) i = (x, true) ∧ atD d ((ofKind ims kd).map f ++ l) i = (f x, true)) ∨
    (atD zIm (ofKind ims kd) i = (zIm, false) ∧ ((∃ k : Nat, ∃ h : k < l.length, ownI (impN ims kd) l.length i = k ∧ atD d ((ofKind ims kd).map f ++ l) i = (l[k], true)) ∨
      (ownI (impN ims kd) l.length i = -1 ∧ atD d ((ofKind ims kd).map f ++ l) i = (d, false)))) := by
  rw [← ofKind_len]
  generalize ofKind ims kd = o
  rcases at_cases o i with ⟨k, hk, rfl⟩ | hi | ⟨hi0, hi⟩
  · refine .inl ⟨o[k], atD_yes hk, ?_⟩
    rw [atD_yes (by simp; omega), List.getElem_append_left (by simpa using hk), List.getElem_map]
  · refine .inr ⟨atD_no (.inl hi), .inr ⟨by rw [ownI, if_pos hi], atD_no (.inl hi)⟩⟩
  · refine .inr ⟨atD_no (.inr hi), ?_⟩
    by_cases hk : i - o.length < l.length
    · refine .inl ⟨(i - o.length).toNat, by omega, ?_, ?_⟩
      · rw [ownI, if_neg hi0, if_neg (by omega), if_neg (by omega)]; omega
      · obtain ⟨q, rfl⟩ : ∃ q : Nat, i = q := ⟨i.toNat, by omega⟩
        rw [atD_yes (by simp; omega), List.getElem_append_right (by simp; omega)]
        congr 2
        simp
    · refine .inr ⟨by rw [ownI, if_neg hi0, if_neg (by omega), if_pos (by omega)], atD_no (.inr (by simp; omega))⟩
theorem rTable_any (nt ni nf nta nm ng ne nel nd nc ct ci cf cta cm cg ce cel cd cc : Nat) (At Ai Af Ata Am Ag Ae Ael Ad Ac : Option Addr) (bst : Bool) (vst : Int) (w : World) (ims : List Im) (l : List Tb) (i : Int) (S : Nat → Prop) (h : tIm.els w S Ai ims) (h2 : tTb.els w S Ata l) (hS : ∀ k, S k → k < w.heap.size) (hn : Hid (ims.length = ni)) (hn2 : Hid (l.length = nta)) (hl : ni ≤ 101) (hl2 : nta ≤ 50) (hi : -9223372036854775808 ≤ i ∧ i ≤ 9223372036854775807) :
    Calls Tryz.prog 101 #[.agg #[.slice At nt ct, .slice Ai ni ci, .slice Af nf cf, .slice Ata nta cta, .slice Am nm cm, .slice Ag ng cg, .slice Ae ne ce, .bool bst, .int .i64 vst, .slice Ael nel cel, .slice Ad nd cd, .slice Ac nc cc], .int .i64 i] w fun e w' => e = .returned (.tuple #[cTb (atD zTb ((ofKind ims 1).map (·.table) ++ l) i).1, .bool (atD zTb ((ofKind ims 1).map (·.table) ++ l) i).2]) ∧ Fr No w w' := by
  have F0 := hid (((Fr.refl No w).alloc (.cells #[.slice At nt ct, .slice Ai ni ci, .slice Af nf cf, .slice Ata nta cta, .slice Am nm cm, .slice Ag ng cg, .slice Ae ne ce, .bool bst, .int .i64 vst, .slice Ael nel cel, .slice Ad nd cd, .slice Ac nc cc] 33)).alloc (.cells #[.int .i64 0, .int .i64 0, .int .i64 0, .bool false] 142))
  have G0 := hid ((Blk.new w 33 #[.slice At nt ct, .slice Ai ni ci, .slice Af nf cf, .slice Ata nta cta, .slice Am nm cm, .slice Ag ng cg, .slice Ae ne ce, .bool bst, .int .i64 vst, .slice Ael nel cel, .slice Ad nd cd, .slice Ac nc cc]).alloc (.cells #[.int .i64 0, .int .i64 0, .int .i64 0, .bool false] 142))
  have G1 := hid (Blk.new (w.alloc (.cells #[.slice At nt ct, .slice Ai ni ci, .slice Af nf cf, .slice Ata nta cta, .slice Am nm cm, .slice Ag ng cg, .slice Ae ne ce, .bool bst, .int .i64 vst, .slice Ael nel cel, .slice Ad nd cd, .slice Ac nc cc] 33)) 142 #[.int .i64 0, .int .i64 0, .int .i64 0, .bool false])
  have hsz : (w.alloc (.cells #[.slice At nt ct, .slice Ai ni ci, .slice Af nf cf, .slice Ata nta cta, .slice Am nm cm, .slice Ag ng cg, .slice Ae ne ce, .bool bst, .int .i64 vst, .slice Ael nel cel, .slice Ad nd cd, .slice Ac nc cc] 33)).heap.size = w.heap.size + 1 := by simp
  rw [hsz] at G1
  have HNT := hid (fun W (F : Fr No w W) => rNth_any nt ni nf nta nm ng ne nel nd nc ct ci cf cta cm cg ce cel cd cc At Ai Af Ata Am Ag Ae Ael Ad Ac bst vst W ims 1 i S (h.fr F (fun k hk => ⟨hS k hk, fun x => x⟩)) (fun k hk => Nat.lt_of_lt_of_le (hS k hk) F.size) hn hl hi)
  have HOW := hid (fun W (F : Fr No w W) => rOwn_any nt ni nf nta nm ng ne nel nd nc ct ci cf cta cm cg ce cel cd cc At Ai Af Ata Am Ag Ae Ael Ad Ac bst vst W ims 1 i nta S (h.fr F (fun k hk => ⟨hS k hk, fun x => x⟩)) (fun k hk => Nat.lt_of_lt_of_le (hS k hk) F.size) hn hl hi.2)
  have HEL := hid (fun W (F : Fr No w W) => h2.fr F (fun k hk => ⟨hS k hk, fun x => x⟩))
  have hn3 : l.length = nta := by have := hn2.out; simpa using this
  have HC := num_cases ims 1 (·.table) zTb l i
  rcases HC with ⟨x, e1, e2⟩ | ⟨e1, ⟨k, hk, e2, e3⟩ | ⟨e2, e3⟩⟩
  · rw [e1] at HNT
    rw [e2]
    simp only [imv] at HNT
    clear h h2 hS hn hn2 HOW HEL hsz e1 e2 hn3
    go_enter Tryz.func101, Tryz.ntmps101
    go_wp2_with fail
    generalize (w.alloc (.cells #[.slice At nt ct, .slice Ai ni ci, .slice Af nf cf, .slice Ata nta cta, .slice Am nm cm, .slice Ag ng cg, .slice Ae ne ce, .bool bst, .int .i64 vst, .slice Ael nel cel, .slice Ad nd cd, .slice Ac nc cc] 33)).alloc (.cells #[.int .i64 0, .int .i64 0, .int .i64 0, .bool false] 142) = W0 at *
    refine (HNT.out _ F0.out).mono ?_
    rintro e w1 ⟨rfl, f1⟩
    have F1 := hid f1
    have G2 := hid (G1.out.fr f1 (fun x => x))
    have hw1 : w.heap.size + 1 < w1.heap.size := G2.out.lt
    have z0 : w1.cell? ⟨w.heap.size + 1, 0, none⟩ = some (.int .i64 0) := G2.out.cell 0
    have z1 : w1.cell? ⟨w.heap.size + 1, 1, none⟩ = some (.int .i64 0) := G2.out.cell 1
    have z2 : w1.cell? ⟨w.heap.size + 1, 2, none⟩ = some (.int .i64 0) := G2.out.cell 2
    have z3 : w1.cell? ⟨w.heap.size + 1, 3, none⟩ = some (.bool false) := G2.out.cell 3
    have q0 : w1.frozen? ⟨w.heap.size + 1, 0, none⟩ = false := G2.out.frozen 0
    have q1 : w1.frozen? ⟨w.heap.size + 1, 1, none⟩ = false := G2.out.frozen 1
    have q2 : w1.frozen? ⟨w.heap.size + 1, 2, none⟩ = false := G2.out.frozen 2
    have q3 : w1.frozen? ⟨w.heap.size + 1, 3, none⟩ = false := G2.out.frozen 3
    have hal : ∀ (Y : World) (o : Obj) (j : Nat), w.heap.size + 1 < Y.heap.size → (Y.alloc o).cell? ⟨w.heap.size + 1, j, none⟩ = Y.cell? ⟨w.heap.size + 1, j, none⟩ := fun Y o j h => ((Fr.refl No Y).alloc o).cell h (fun x => x)
    clear f1 HNT
    go_wp2
    refine bodyPost_ret (v := .tuple #[cTb x.table, .bool true]) (by simp [results, Tryz.results101, go_sem, cTb, z0, z1, z2, z3, hal, hw1]) rfl ⟨rfl, ?_⟩
    exact (F0.out.trans F1.out (fun _ _ h => h)).trans (((((((Fr.refl (One (w.heap.size + 1)) w1).setCell ⟨w.heap.size + 1, 0, none⟩ (.int .i64 x.table.elem) (fun _ => rfl)).setCell ⟨w.heap.size + 1, 1, none⟩ (.int .i64 x.table.lim.min) (fun _ => rfl)).setCell ⟨w.heap.size + 1, 2, none⟩ (.int .i64 x.table.lim.max) (fun _ => rfl)).setCell ⟨w.heap.size + 1, 3, none⟩ (.bool x.table.lim.has) (fun _ => rfl))).alloc _) (fun i hi h => by simp only [One] at h; omega)
  · have hkl : k < l.length := by simpa using hk
    rw [e1] at HNT
    rw [hn3] at e2
    rw [e2] at HOW
    rw [e3]
    simp only [imv, zIm, zTb, zLim, zGl] at HNT
    have hky : l[k] = l[k] := by simp
    rw [hky]
    have i0 : (0 : Int) ≤ k := by omega
    have i1 : (k : Int) < nta := by have := hn2.out; omega
    have HAT := hid (fun W (F : Fr No w W) => Tb_at (HEL.out W F) k hkl)
    generalize l[k] = y at *
    clear h h2 hn hn2 HEL hsz e1 e2 e3 hn3 hky
    go_enter Tryz.func101, Tryz.ntmps101
    go_wp2_with fail
    generalize (w.alloc (.cells #[.slice At nt ct, .slice Ai ni ci, .slice Af nf cf, .slice Ata nta cta, .slice Am nm cm, .slice Ag ng cg, .slice Ae ne ce, .bool bst, .int .i64 vst, .slice Ael nel cel, .slice Ad nd cd, .slice Ac nc cc] 33)).alloc (.cells #[.int .i64 0, .int .i64 0, .int .i64 0, .bool false] 142) = W0 at *
    refine (HNT.out _ F0.out).mono ?_
    rintro e w1 ⟨rfl, f1⟩
    have F1 := hid f1
    have G2 := hid (G1.out.fr f1 (fun x => x))
    have G3 := hid (G0.out.fr f1 (fun x => x))
    have hw1 : w.heap.size + 1 < w1.heap.size := G2.out.lt
    obtain ⟨x0, x1, x2, x3, x4, x5, x6, x7, x8, x9, x10, x11⟩ : w1.cell? ⟨w.heap.size, 0, none⟩ = some (.slice At nt ct) ∧ w1.cell? ⟨w.heap.size, 1, none⟩ = some (.slice Ai ni ci) ∧ w1.cell? ⟨w.heap.size, 2, none⟩ = some (.slice Af nf cf) ∧ w1.cell? ⟨w.heap.size, 3, none⟩ = some (.slice Ata nta cta) ∧ w1.cell? ⟨w.heap.size, 4, none⟩ = some (.slice Am nm cm) ∧ w1.cell? ⟨w.heap.size, 5, none⟩ = some (.slice Ag ng cg) ∧ w1.cell? ⟨w.heap.size, 6, none⟩ = some (.slice Ae ne ce) ∧ w1.cell? ⟨w.heap.size, 7, none⟩ = some (.bool bst) ∧ w1.cell? ⟨w.heap.size, 8, none⟩ = some (.int .i64 vst) ∧ w1.cell? ⟨w.heap.size, 9, none⟩ = some (.slice Ael nel cel) ∧ w1.cell? ⟨w.heap.size, 10, none⟩ = some (.slice Ad nd cd) ∧ w1.cell? ⟨w.heap.size, 11, none⟩ = some (.slice Ac nc cc) := ⟨G3.out.cell 0, G3.out.cell 1, G3.out.cell 2, G3.out.cell 3, G3.out.cell 4, G3.out.cell 5, G3.out.cell 6, G3.out.cell 7, G3.out.cell 8, G3.out.cell 9, G3.out.cell 10, G3.out.cell 11⟩
    have hw0 : w.heap.size < w1.heap.size := G3.out.lt
    clear f1 HNT
    go_wp2_with fail
    refine (HOW.out _ ((F0.out.trans F1.out (fun _ _ h => h)).alloc _)).mono ?_
    rintro e w2 ⟨rfl, f2⟩
    have F2 := hid f2
    have G4 := hid ((G2.out.alloc _).fr f2 (fun x => x))
    have G5 := hid ((G3.out.alloc _).fr f2 (fun x => x))
    have hw2 : w.heap.size + 1 < w2.heap.size := G4.out.lt
    clear x0 x1 x2 x3 x4 x5 x6 x7 x8 x9 x10 x11
    obtain ⟨x0, x1, x2, x3, x4, x5, x6, x7, x8, x9, x10, x11⟩ : w2.cell? ⟨w.heap.size, 0, none⟩ = some (.slice At nt ct) ∧ w2.cell? ⟨w.heap.size, 1, none⟩ = some (.slice Ai ni ci) ∧ w2.cell? ⟨w.heap.size, 2, none⟩ = some (.slice Af nf cf) ∧ w2.cell? ⟨w.heap.size, 3, none⟩ = some (.slice Ata nta cta) ∧ w2.cell? ⟨w.heap.size, 4, none⟩ = some (.slice Am nm cm) ∧ w2.cell? ⟨w.heap.size, 5, none⟩ = some (.slice Ag ng cg) ∧ w2.cell? ⟨w.heap.size, 6, none⟩ = some (.slice Ae ne ce) ∧ w2.cell? ⟨w.heap.size, 7, none⟩ = some (.bool bst) ∧ w2.cell? ⟨w.heap.size, 8, none⟩ = some (.int .i64 vst) ∧ w2.cell? ⟨w.heap.size, 9, none⟩ = some (.slice Ael nel cel) ∧ w2.cell? ⟨w.heap.size, 10, none⟩ = some (.slice Ad nd cd) ∧ w2.cell? ⟨w.heap.size, 11, none⟩ = some (.slice Ac nc cc) := ⟨G5.out.cell 0, G5.out.cell 1, G5.out.cell 2, G5.out.cell 3, G5.out.cell 4, G5.out.cell 5, G5.out.cell 6, G5.out.cell 7, G5.out.cell 8, G5.out.cell 9, G5.out.cell 10, G5.out.cell 11⟩
    have z0 : w2.cell? ⟨w.heap.size + 1, 0, none⟩ = some (.int .i64 0) := G4.out.cell 0
    have z1 : w2.cell? ⟨w.heap.size + 1, 1, none⟩ = some (.int .i64 0) := G4.out.cell 1
    have z2 : w2.cell? ⟨w.heap.size + 1, 2, none⟩ = some (.int .i64 0) := G4.out.cell 2
    have z3 : w2.cell? ⟨w.heap.size + 1, 3, none⟩ = some (.bool false) := G4.out.cell 3
    have q0 : w2.frozen? ⟨w.heap.size + 1, 0, none⟩ = false := G4.out.frozen 0
    have q1 : w2.frozen? ⟨w.heap.size + 1, 1, none⟩ = false := G4.out.frozen 1
    have q2 : w2.frozen? ⟨w.heap.size + 1, 2, none⟩ = false := G4.out.frozen 2
    have q3 : w2.frozen? ⟨w.heap.size + 1, 3, none⟩ = false := G4.out.frozen 3
    obtain ⟨b, o, rfl, hb, s0, s1, s2, s3, _⟩ := HAT.out w2 (((F0.out.trans F1.out (fun _ _ h => h)).alloc _).trans F2.out (fun _ _ h => h))
    clear f2 HOW HAT hb
    go_wp2
    refine bodyPost_ret (v := .tuple #[cTb y, .bool true]) (by simp [results, Tryz.results101, go_sem, cTb, z0, z1, z2, z3]) rfl ⟨rfl, ?_⟩
    exact (((F0.out.trans F1.out (fun _ _ h => h)).alloc _).trans F2.out (fun _ _ h => h)).trans ((((((Fr.refl (One (w.heap.size + 1)) w2).setCell ⟨w.heap.size + 1, 0, none⟩ (.int .i64 y.elem) (fun _ => rfl)).setCell ⟨w.heap.size + 1, 1, none⟩ (.int .i64 y.lim.min) (fun _ => rfl)).setCell ⟨w.heap.size + 1, 2, none⟩ (.int .i64 y.lim.max) (fun _ => rfl)).setCell ⟨w.heap.size + 1, 3, none⟩ (.bool y.lim.has) (fun _ => rfl))) (fun i hi h => by simp only [One] at h; omega)
  · rw [e1] at HNT
    rw [hn3] at e2
    rw [e2] at HOW
    rw [e3]
    simp only [imv, zIm, zTb, zLim, zGl] at HNT
    clear h h2 hS hn hn2 HEL hsz e1 e2 e3 hn3
    go_enter Tryz.func101, Tryz.ntmps101
    go_wp2_with fail
    generalize (w.alloc (.cells #[.slice At nt ct, .slice Ai ni ci, .slice Af nf cf, .slice Ata nta cta, .slice Am nm cm, .slice Ag ng cg, .slice Ae ne ce, .bool bst, .int .i64 vst, .slice Ael nel cel, .slice Ad nd cd, .slice Ac nc cc] 33)).alloc (.cells #[.int .i64 0, .int .i64 0, .int .i64 0, .bool false] 142) = W0 at *
    refine (HNT.out _ F0.out).mono ?_
    rintro e w1 ⟨rfl, f1⟩
    have F1 := hid f1
    have G2 := hid (G1.out.fr f1 (fun x => x))
    have G3 := hid (G0.out.fr f1 (fun x => x))
    have hw1 : w.heap.size + 1 < w1.heap.size := G2.out.lt
    obtain ⟨x0, x1, x2, x3, x4, x5, x6, x7, x8, x9, x10, x11⟩ : w1.cell? ⟨w.heap.size, 0, none⟩ = some (.slice At nt ct) ∧ w1.cell? ⟨w.heap.size, 1, none⟩ = some (.slice Ai ni ci) ∧ w1.cell? ⟨w.heap.size, 2, none⟩ = some (.slice Af nf cf) ∧ w1.cell? ⟨w.heap.size, 3, none⟩ = some (.slice Ata nta cta) ∧ w1.cell? ⟨w.heap.size, 4, none⟩ = some (.slice Am nm cm) ∧ w1.cell? ⟨w.heap.size, 5, none⟩ = some (.slice Ag ng cg) ∧ w1.cell? ⟨w.heap.size, 6, none⟩ = some (.slice Ae ne ce) ∧ w1.cell? ⟨w.heap.size, 7, none⟩ = some (.bool bst) ∧ w1.cell? ⟨w.heap.size, 8, none⟩ = some (.int .i64 vst) ∧ w1.cell? ⟨w.heap.size, 9, none⟩ = some (.slice Ael nel cel) ∧ w1.cell? ⟨w.heap.size, 10, none⟩ = some (.slice Ad nd cd) ∧ w1.cell? ⟨w.heap.size, 11, none⟩ = some (.slice Ac nc cc) := ⟨G3.out.cell 0, G3.out.cell 1, G3.out.cell 2, G3.out.cell 3, G3.out.cell 4, G3.out.cell 5, G3.out.cell 6, G3.out.cell 7, G3.out.cell 8, G3.out.cell 9, G3.out.cell 10, G3.out.cell 11⟩
    have hw0 : w.heap.size < w1.heap.size := G3.out.lt
    clear f1 HNT
    go_wp2_with fail
    refine (HOW.out _ ((F0.out.trans F1.out (fun _ _ h => h)).alloc _)).mono ?_
    rintro e w2 ⟨rfl, f2⟩
    have F2 := hid f2
    have G4 := hid ((G2.out.alloc _).fr f2 (fun x => x))
    have hw2 : w.heap.size + 1 < w2.heap.size := G4.out.lt
    clear x0 x1 x2 x3 x4 x5 x6 x7 x8 x9 x10 x11
    have z0 : w2.cell? ⟨w.heap.size + 1, 0, none⟩ = some (.int .i64 0) := G4.out.cell 0
    have z1 : w2.cell? ⟨w.heap.size + 1, 1, none⟩ = some (.int .i64 0) := G4.out.cell 1
    have z2 : w2.cell? ⟨w.heap.size + 1, 2, none⟩ = some (.int .i64 0) := G4.out.cell 2
    have z3 : w2.cell? ⟨w.heap.size + 1, 3, none⟩ = some (.bool false) := G4.out.cell 3
    have q0 : w2.frozen? ⟨w.heap.size + 1, 0, none⟩ = false := G4.out.frozen 0
    have q1 : w2.frozen? ⟨w.heap.size + 1, 1, none⟩ = false := G4.out.frozen 1
    have q2 : w2.frozen? ⟨w.heap.size + 1, 2, none⟩ = false := G4.out.frozen 2
    have q3 : w2.frozen? ⟨w.heap.size + 1, 3, none⟩ = false := G4.out.frozen 3
    clear f2 HOW
    go_wp2
    refine bodyPost_ret (v := .tuple #[cTb zTb, .bool false]) (by simp [results, Tryz.results101, go_sem, cTb, z0, z1, z2, z3, zTb, zLim, zGl]) rfl ⟨rfl, ?_⟩
    exact (((F0.out.trans F1.out (fun _ _ h => h)).alloc _).trans F2.out (fun _ _ h => h)).trans ((((((Fr.refl (One (w.heap.size + 1)) w2).setCell ⟨w.heap.size + 1, 0, none⟩ (.int .i64 0) (fun _ => rfl)).setCell ⟨w.heap.size + 1, 1, none⟩ (.int .i64 0) (fun _ => rfl)).setCell ⟨w.heap.size + 1, 2, none⟩ (.int .i64 0) (fun _ => rfl)).setCell ⟨w.heap.size + 1, 3, none⟩ (.bool false) (fun _ => rfl))) (fun i hi h => by simp only [One] at h; omega)
theorem rMem_any (nt ni nf nta nm ng ne nel nd nc ct ci cf cta cm cg ce cel cd cc : Nat) (At Ai Af Ata Am Ag Ae Ael Ad Ac : Option Addr) (bst : Bool) (vst : Int) (w : World) (ims : List Im) (l : List Lim) (i : Int) (S : Nat → Prop) (h : tIm.els w S Ai ims) (h2 : tLim.els w S Am l) (hS : ∀ k, S k → k < w.heap.size) (hn : Hid (ims.length = ni)) (hn2 : Hid (l.length = nm)) (hl : ni ≤ 101) (hl2 : nm ≤ 50) (hi : -9223372036854775808 ≤ i ∧ i ≤ 9223372036854775807) :
    Calls Tryz.prog 59 #[.agg #[.slice At nt ct, .slice Ai ni ci, .slice Af nf cf, .slice Ata nta cta, .slice Am nm cm, .slice Ag ng cg, .slice Ae ne ce, .bool bst, .int .i64 vst, .slice Ael nel cel, .slice Ad nd cd, .slice Ac nc cc], .int .i64 i] w fun e w' => e = .returned (.tuple #[cLim (atD zLim ((ofKind ims 2).map (·.mem) ++ l) i).1, .bool (atD zLim ((ofKind ims 2).map (·.mem) ++ l) i).2]) ∧ Fr No w w' := by
  have F0 := hid (((Fr.refl No w).alloc (.cells #[.slice At nt ct, .slice Ai ni ci, .slice Af nf cf, .slice Ata nta cta, .slice Am nm cm, .slice Ag ng cg, .slice Ae ne ce, .bool bst, .int .i64 vst, .slice Ael nel cel, .slice Ad nd cd, .slice Ac nc cc] 33)).alloc (.cells #[.int .i64 0, .int .i64 0, .bool false] 121))
  have G0 := hid ((Blk.new w 33 #[.slice At nt ct, .slice Ai ni ci, .slice Af nf cf, .slice Ata nta cta, .slice Am nm cm, .slice Ag ng cg, .slice Ae ne ce, .bool bst, .int .i64 vst, .slice Ael nel cel, .slice Ad nd cd, .slice Ac nc cc]).alloc (.cells #[.int .i64 0, .int .i64 0, .bool false] 121))
  have G1 := hid (Blk.new (w.alloc (.cells #[.slice At nt ct, .slice Ai ni ci, .slice Af nf cf, .slice Ata nta cta, .slice Am nm cm, .slice Ag ng cg, .slice Ae ne ce, .bool bst, .int .i64 vst, .slice Ael nel cel, .slice Ad nd cd, .slice Ac nc cc] 33)) 121 #[.int .i64 0, .int .i64 0, .bool false])
  have hsz : (w.alloc (.cells #[.slice At nt ct, .slice Ai ni ci, .slice Af nf cf, .slice Ata nta cta, .slice Am nm cm, .slice Ag ng cg, .slice Ae ne ce, .bool bst, .int .i64 vst, .slice Ael nel cel, .slice Ad nd cd, .slice Ac nc cc] 33)).heap.size = w.heap.size + 1 := by simp
  rw [hsz] at G1
  have HNT := hid (fun W (F : Fr No w W) => rNth_any nt ni nf nta nm ng ne nel nd nc ct ci cf cta cm cg ce cel cd cc At Ai Af Ata Am Ag Ae Ael Ad Ac bst vst W ims 2 i S (h.fr F (fun k hk => ⟨hS k hk, fun x => x⟩)) (fun k hk => Nat.lt_of_lt_of_le (hS k hk) F.size) hn hl hi)
  have HOW := hid (fun W (F : Fr No w W) => rOwn_any nt ni nf nta nm ng ne nel nd nc ct ci cf cta cm cg ce cel cd cc At Ai Af Ata Am Ag Ae Ael Ad Ac bst vst W ims 2 i nm S (h.fr F (fun k hk => ⟨hS k hk, fun x => x⟩)) (fun k hk => Nat.lt_of_lt_of_le (hS k hk) F.size) hn hl hi.2)
  have HEL := hid (fun W (F : Fr No w W) => h2.fr F (fun k hk => ⟨hS k hk, fun x => x⟩))
  have hn3 : l.length = nm := by have := hn2.out; simpa using this
  have HC := num_cases ims 2 (·.mem) zLim l i
  rcases HC with ⟨x, e1, e2⟩ | ⟨e1, ⟨k, hk, e2, e3⟩ | ⟨e2, e3⟩⟩
  · rw [e1] at HNT
    rw [e2]
    simp only [imv] at HNT
    clear h h2 hS hn hn2 HOW HEL hsz e1 e2 hn3
    go_enter Tryz.func59, Tryz.ntmps59
    go_wp2_with fail
    generalize (w.alloc (.cells #[.slice At nt ct, .slice Ai ni ci, .slice Af nf cf, .slice Ata nta cta, .slice Am nm cm, .slice Ag ng cg, .slice Ae ne ce, .bool bst, .int .i64 vst, .slice Ael nel cel, .slice Ad nd cd, .slice Ac nc cc] 33)).alloc (.cells #[.int .i64 0, .int .i64 0, .bool false] 121) = W0 at *
    refine (HNT.out _ F0.out).mono ?_
    rintro e w1 ⟨rfl, f1⟩
    have F1 := hid f1
    have G2 := hid (G1.out.fr f1 (fun x => x))
    have hw1 : w.heap.size + 1 < w1.heap.size := G2.out.lt
    have z0 : w1.cell? ⟨w.heap.size + 1, 0, none⟩ = some (.int .i64 0) := G2.out.cell 0
    have z1 : w1.cell? ⟨w.heap.size + 1, 1, none⟩ = some (.int .i64 0) := G2.out.cell 1
    have z2 : w1.cell? ⟨w.heap.size + 1, 2, none⟩ = some (.bool false) := G2.out.cell 2
    have q0 : w1.frozen? ⟨w.heap.size + 1, 0, none⟩ = false := G2.out.frozen 0
    have q1 : w1.frozen? ⟨w.heap.size + 1, 1, none⟩ = false := G2.out.frozen 1
    have q2 : w1.frozen? ⟨w.heap.size + 1, 2, none⟩ = false := G2.out.frozen 2
    have hal : ∀ (Y : World) (o : Obj) (j : Nat), w.heap.size + 1 < Y.heap.size → (Y.alloc o).cell? ⟨w.heap.size + 1, j, none⟩ = Y.cell? ⟨w.heap.size + 1, j, none⟩ := fun Y o j h => ((Fr.refl No Y).alloc o).cell h (fun x => x)
    clear f1 HNT
    go_wp2
    refine bodyPost_ret (v := .tuple #[cLim x.mem, .bool true]) (by simp [results, Tryz.results59, go_sem, cLim, z0, z1, z2, hal, hw1]) rfl ⟨rfl, ?_⟩
    exact (F0.out.trans F1.out (fun _ _ h => h)).trans ((((((Fr.refl (One (w.heap.size + 1)) w1).setCell ⟨w.heap.size + 1, 0, none⟩ (.int .i64 x.mem.min) (fun _ => rfl)).setCell ⟨w.heap.size + 1, 1, none⟩ (.int .i64 x.mem.max) (fun _ => rfl)).setCell ⟨w.heap.size + 1, 2, none⟩ (.bool x.mem.has) (fun _ => rfl))).alloc _) (fun i hi h => by simp only [One] at h; omega)
  · have hkl : k < l.length := by simpa using hk
    rw [e1] at HNT
    rw [hn3] at e2
    rw [e2] at HOW
    rw [e3]
    simp only [imv, zIm, zTb, zLim, zGl] at HNT
    have hky : l[k] = l[k] := by simp
    rw [hky]
    have i0 : (0 : Int) ≤ k := by omega
    have i1 : (k : Int) < nm := by have := hn2.out; omega
    have HAT := hid (fun W (F : Fr No w W) => Lim_at (HEL.out W F) k hkl)
    generalize l[k] = y at *
    clear h h2 hn hn2 HEL hsz e1 e2 e3 hn3 hky
    go_enter Tryz.func59, Tryz.ntmps59
    go_wp2_with fail
    generalize (w.alloc (.cells #[.slice At nt ct, .slice Ai ni ci, .slice Af nf cf, .slice Ata nta cta, .slice Am nm cm, .slice Ag ng cg, .slice Ae ne ce, .bool bst, .int .i64 vst, .slice Ael nel cel, .slice Ad nd cd, .slice Ac nc cc] 33)).alloc (.cells #[.int .i64 0, .int .i64 0, .bool false] 121) = W0 at *
    refine (HNT.out _ F0.out).mono ?_
    rintro e w1 ⟨rfl, f1⟩
    have F1 := hid f1
    have G2 := hid (G1.out.fr f1 (fun x => x))
    have G3 := hid (G0.out.fr f1 (fun x => x))
    have hw1 : w.heap.size + 1 < w1.heap.size := G2.out.lt
    obtain ⟨x0, x1, x2, x3, x4, x5, x6, x7, x8, x9, x10, x11⟩ : w1.cell? ⟨w.heap.size, 0, none⟩ = some (.slice At nt ct) ∧ w1.cell? ⟨w.heap.size, 1, none⟩ = some (.slice Ai ni ci) ∧ w1.cell? ⟨w.heap.size, 2, none⟩ = some (.slice Af nf cf) ∧ w1.cell? ⟨w.heap.size, 3, none⟩ = some (.slice Ata nta cta) ∧ w1.cell? ⟨w.heap.size, 4, none⟩ = some (.slice Am nm cm) ∧ w1.cell? ⟨w.heap.size, 5, none⟩ = some (.slice Ag ng cg) ∧ w1.cell? ⟨w.heap.size, 6, none⟩ = some (.slice Ae ne ce) ∧ w1.cell? ⟨w.heap.size, 7, none⟩ = some (.bool bst) ∧ w1.cell? ⟨w.heap.size, 8, none⟩ = some (.int .i64 vst) ∧ w1.cell? ⟨w.heap.size, 9, none⟩ = some (.slice Ael nel cel) ∧ w1.cell? ⟨w.heap.size, 10, none⟩ = some (.slice Ad nd cd) ∧ w1.cell? ⟨w.heap.size, 11, none⟩ = some (.slice Ac nc cc) := ⟨G3.out.cell 0, G3.out.cell 1, G3.out.cell 2, G3.out.cell 3, G3.out.cell 4, G3.out.cell 5, G3.out.cell 6, G3.out.cell 7, G3.out.cell 8, G3.out.cell 9, G3.out.cell 10, G3.out.cell 11⟩
    have hw0 : w.heap.size < w1.heap.size := G3.out.lt
    clear f1 HNT
    go_wp2_with fail
    refine (HOW.out _ ((F0.out.trans F1.out (fun _ _ h => h)).alloc _)).mono ?_
    rintro e w2 ⟨rfl, f2⟩
    have F2 := hid f2
    have G4 := hid ((G2.out.alloc _).fr f2 (fun x => x))
    have G5 := hid ((G3.out.alloc _).fr f2 (fun x => x))
    have hw2 : w.heap.size + 1 < w2.heap.size := G4.out.lt
    clear x0 x1 x2 x3 x4 x5 x6 x7 x8 x9 x10 x11
    obtain ⟨x0, x1, x2, x3, x4, x5, x6, x7, x8, x9, x10, x11⟩ : w2.cell? ⟨w.heap.size, 0, none⟩ = some (.slice At nt ct) ∧ w2.cell? ⟨w.heap.size, 1, none⟩ = some (.slice Ai ni ci) ∧ w2.cell? ⟨w.heap.size, 2, none⟩ = some (.slice Af nf cf) ∧ w2.cell? ⟨w.heap.size, 3, none⟩ = some (.slice Ata nta cta) ∧ w2.cell? ⟨w.heap.size, 4, none⟩ = some (.slice Am nm cm) ∧ w2.cell? ⟨w.heap.size, 5, none⟩ = some (.slice Ag ng cg) ∧ w2.cell? ⟨w.heap.size, 6, none⟩ = some (.slice Ae ne ce) ∧ w2.cell? ⟨w.heap.size, 7, none⟩ = some (.bool bst) ∧ w2.cell? ⟨w.heap.size, 8, none⟩ = some (.int .i64 vst) ∧ w2.cell? ⟨w.heap.size, 9, none⟩ = some (.slice Ael nel cel) ∧ w2.cell? ⟨w.heap.size, 10, none⟩ = some (.slice Ad nd cd) ∧ w2.cell? ⟨w.heap.size, 11, none⟩ = some (.slice Ac nc cc) := ⟨G5.out.cell 0, G5.out.cell 1, G5.out.cell 2, G5.out.cell 3, G5.out.cell 4, G5.out.cell 5, G5.out.cell 6, G5.out.cell 7, G5.out.cell 8, G5.out.cell 9, G5.out.cell 10, G5.out.cell 11⟩
    have z0 : w2.cell? ⟨w.heap.size + 1, 0, none⟩ = some (.int .i64 0) := G4.out.cell 0
    have z1 : w2.cell? ⟨w.heap.size + 1, 1, none⟩ = some (.int .i64 0) := G4.out.cell 1
    have z2 : w2.cell? ⟨w.heap.size + 1, 2, none⟩ = some (.bool false) := G4.out.cell 2
    have q0 : w2.frozen? ⟨w.heap.size + 1, 0, none⟩ = false := G4.out.frozen 0
    have q1 : w2.frozen? ⟨w.heap.size + 1, 1, none⟩ = false := G4.out.frozen 1
    have q2 : w2.frozen? ⟨w.heap.size + 1, 2, none⟩ = false := G4.out.frozen 2
    obtain ⟨b, o, rfl, hb, s0, s1, s2, _⟩ := HAT.out w2 (((F0.out.trans F1.out (fun _ _ h => h)).alloc _).trans F2.out (fun _ _ h => h))
    clear f2 HOW HAT hb
    go_wp2
    refine bodyPost_ret (v := .tuple #[cLim y, .bool true]) (by simp [results, Tryz.results59, go_sem, cLim, z0, z1, z2]) rfl ⟨rfl, ?_⟩
    exact (((F0.out.trans F1.out (fun _ _ h => h)).alloc _).trans F2.out (fun _ _ h => h)).trans (((((Fr.refl (One (w.heap.size + 1)) w2).setCell ⟨w.heap.size + 1, 0, none⟩ (.int .i64 y.min) (fun _ => rfl)).setCell ⟨w.heap.size + 1, 1, none⟩ (.int .i64 y.max) (fun _ => rfl)).setCell ⟨w.heap.size + 1, 2, none⟩ (.bool y.has) (fun _ => rfl))) (fun i hi h => by simp only [One] at h; omega)
  · rw [e1] at HNT
    rw [hn3] at e2
    rw [e2] at HOW
    rw [e3]
    simp only [imv, zIm, zTb, zLim, zGl] at HNT
    clear h h2 hS hn hn2 HEL hsz e1 e2 e3 hn3
    go_enter Tryz.func59, Tryz.ntmps59
    go_wp2_with fail
    generalize (w.alloc (.cells #[.slice At nt ct, .slice Ai ni ci, .slice Af nf cf, .slice Ata nta cta, .slice Am nm cm, .slice Ag ng cg, .slice Ae ne ce, .bool bst, .int .i64 vst, .slice Ael nel cel, .slice Ad nd cd, .slice Ac nc cc] 33)).alloc (.cells #[.int .i64 0, .int .i64 0, .bool false] 121) = W0 at *
    refine (HNT.out _ F0.out).mono ?_
    rintro e w1 ⟨rfl, f1⟩
    have F1 := hid f1
    have G2 := hid (G1.out.fr f1 (fun x => x))
    have G3 := hid (G0.out.fr f1 (fun x => x))
    have hw1 : w.heap.size + 1 < w1.heap.size := G2.out.lt
    obtain ⟨x0, x1, x2, x3, x4, x5, x6, x7, x8, x9, x10, x11⟩ : w1.cell? ⟨w.heap.size, 0, none⟩ = some (.slice At nt ct) ∧ w1.cell? ⟨w.heap.size, 1, none⟩ = some (.slice Ai ni ci) ∧ w1.cell? ⟨w.heap.size, 2, none⟩ = some (.slice Af nf cf) ∧ w1.cell? ⟨w.heap.size, 3, none⟩ = some (.slice Ata nta cta) ∧ w1.cell? ⟨w.heap.size, 4, none⟩ = some (.slice Am nm cm) ∧ w1.cell? ⟨w.heap.size, 5, none⟩ = some (.slice Ag ng cg) ∧ w1.cell? ⟨w.heap.size, 6, none⟩ = some (.slice Ae ne ce) ∧ w1.cell? ⟨w.heap.size, 7, none⟩ = some (.bool bst) ∧ w1.cell? ⟨w.heap.size, 8, none⟩ = some (.int .i64 vst) ∧ w1.cell? ⟨w.heap.size, 9, none⟩ = some (.slice Ael nel cel) ∧ w1.cell? ⟨w.heap.size, 10, none⟩ = some (.slice Ad nd cd) ∧ w1.cell? ⟨w.heap.size, 11, none⟩ = some (.slice Ac nc cc) := ⟨G3.out.cell 0, G3.out.cell 1, G3.out.cell 2, G3.out.cell 3, G3.out.cell 4, G3.out.cell 5, G3.out.cell 6, G3.out.cell 7, G3.out.cell 8, G3.out.cell 9, G3.out.cell 10, G3.out.cell 11⟩
    have hw0 : w.heap.size < w1.heap.size := G3.out.lt
    clear f1 HNT
    go_wp2_with fail
    refine (HOW.out _ ((F0.out.trans F1.out (fun _ _ h => h)).alloc _)).mono ?_
    rintro e w2 ⟨rfl, f2⟩
    have F2 := hid f2
    have G4 := hid ((G2.out.alloc _).fr f2 (fun x => x))
    have hw2 : w.heap.size + 1 < w2.heap.size := G4.out.lt
    clear x0 x1 x2 x3 x4 x5 x6 x7 x8 x9 x10 x11
    have z0 : w2.cell? ⟨w.heap.size + 1, 0, none⟩ = some (.int .i64 0) := G4.out.cell 0
    have z1 : w2.cell? ⟨w.heap.size + 1, 1, none⟩ = some (.int .i64 0) := G4.out.cell 1
    have z2 : w2.cell? ⟨w.heap.size + 1, 2, none⟩ = some (.bool false) := G4.out.cell 2
    have q0 : w2.frozen? ⟨w.heap.size + 1, 0, none⟩ = false := G4.out.frozen 0
    have q1 : w2.frozen? ⟨w.heap.size + 1, 1, none⟩ = false := G4.out.frozen 1
    have q2 : w2.frozen? ⟨w.heap.size + 1, 2, none⟩ = false := G4.out.frozen 2
    clear f2 HOW
    go_wp2
    refine bodyPost_ret (v := .tuple #[cLim zLim, .bool false]) (by simp [results, Tryz.results59, go_sem, cLim, z0, z1, z2, zTb, zLim, zGl]) rfl ⟨rfl, ?_⟩
    exact (((F0.out.trans F1.out (fun _ _ h => h)).alloc _).trans F2.out (fun _ _ h => h)).trans (((((Fr.refl (One (w.heap.size + 1)) w2).setCell ⟨w.heap.size + 1, 0, none⟩ (.int .i64 0) (fun _ => rfl)).setCell ⟨w.heap.size + 1, 1, none⟩ (.int .i64 0) (fun _ => rfl)).setCell ⟨w.heap.size + 1, 2, none⟩ (.bool false) (fun _ => rfl))) (fun i hi h => by simp only [One] at h; omega)
theorem rGlobal_any (nt ni nf nta nm ng ne nel nd nc ct ci cf cta cm cg ce cel cd cc : Nat) (At Ai Af Ata Am Ag Ae Ael Ad Ac : Option Addr) (bst : Bool) (vst : Int) (w : World) (ims : List Im) (l : List Gd) (i : Int) (S : Nat → Prop) (h : tIm.els w S Ai ims) (h2 : tGd.els w S Ag l) (hS : ∀ k, S k → k < w.heap.size) (hn : Hid (ims.length = ni)) (hn2 : Hid (l.length = ng)) (hl : ni ≤ 101) (hl2 : ng ≤ 100) (hi : -9223372036854775808 ≤ i ∧ i ≤ 9223372036854775807) :
    Calls Tryz.prog 102 #[.agg #[.slice At nt ct, .slice Ai ni ci, .slice Af nf cf, .slice Ata nta cta, .slice Am nm cm, .slice Ag ng cg, .slice Ae ne ce, .bool bst, .int .i64 vst, .slice Ael nel cel, .slice Ad nd cd, .slice Ac nc cc], .int .i64 i] w fun e w' => e = .returned (.tuple #[cGl (atD zGl ((ofKind ims 3).map (·.glob) ++ (l.map (·.type))) i).1, .bool (atD zGl ((ofKind ims 3).map (·.glob) ++ (l.map (·.type))) i).2]) ∧ Fr No w w' := by
  have F0 := hid (((Fr.refl No w).alloc (.cells #[.slice At nt ct, .slice Ai ni ci, .slice Af nf cf, .slice Ata nta cta, .slice Am nm cm, .slice Ag ng cg, .slice Ae ne ce, .bool bst, .int .i64 vst, .slice Ael nel cel, .slice Ad nd cd, .slice Ac nc cc] 33)).alloc (.cells #[.int .i64 0, .bool false] 144))
  have G0 := hid ((Blk.new w 33 #[.slice At nt ct, .slice Ai ni ci, .slice Af nf cf, .slice Ata nta cta, .slice Am nm cm, .slice Ag ng cg, .slice Ae ne ce, .bool bst, .int .i64 vst, .slice Ael nel cel, .slice Ad nd cd, .slice Ac nc cc]).alloc (.cells #[.int .i64 0, .bool false] 144))
  have G1 := hid (Blk.new (w.alloc (.cells #[.slice At nt ct, .slice Ai ni ci, .slice Af nf cf, .slice Ata nta cta, .slice Am nm cm, .slice Ag ng cg, .slice Ae ne ce, .bool bst, .int .i64 vst, .slice Ael nel cel, .slice Ad nd cd, .slice Ac nc cc] 33)) 144 #[.int .i64 0, .bool false])
  have hsz : (w.alloc (.cells #[.slice At nt ct, .slice Ai ni ci, .slice Af nf cf, .slice Ata nta cta, .slice Am nm cm, .slice Ag ng cg, .slice Ae ne ce, .bool bst, .int .i64 vst, .slice Ael nel cel, .slice Ad nd cd, .slice Ac nc cc] 33)).heap.size = w.heap.size + 1 := by simp
  rw [hsz] at G1
  have HNT := hid (fun W (F : Fr No w W) => rNth_any nt ni nf nta nm ng ne nel nd nc ct ci cf cta cm cg ce cel cd cc At Ai Af Ata Am Ag Ae Ael Ad Ac bst vst W ims 3 i S (h.fr F (fun k hk => ⟨hS k hk, fun x => x⟩)) (fun k hk => Nat.lt_of_lt_of_le (hS k hk) F.size) hn hl hi)
  have HOW := hid (fun W (F : Fr No w W) => rOwn_any nt ni nf nta nm ng ne nel nd nc ct ci cf cta cm cg ce cel cd cc At Ai Af Ata Am Ag Ae Ael Ad Ac bst vst W ims 3 i ng S (h.fr F (fun k hk => ⟨hS k hk, fun x => x⟩)) (fun k hk => Nat.lt_of_lt_of_le (hS k hk) F.size) hn hl hi.2)
  have HEL := hid (fun W (F : Fr No w W) => h2.fr F (fun k hk => ⟨hS k hk, fun x => x⟩))
  have hn3 : (l.map (·.type)).length = ng := by have := hn2.out; simpa using this
  have HC := num_cases ims 3 (·.glob) zGl (l.map (·.type)) i
  rcases HC with ⟨x, e1, e2⟩ | ⟨e1, ⟨k, hk, e2, e3⟩ | ⟨e2, e3⟩⟩
  · rw [e1] at HNT
    rw [e2]
    simp only [imv] at HNT
    clear h h2 hS hn hn2 HOW HEL hsz e1 e2 hn3
    go_enter Tryz.func102, Tryz.ntmps102
    go_wp2_with fail
    generalize (w.alloc (.cells #[.slice At nt ct, .slice Ai ni ci, .slice Af nf cf, .slice Ata nta cta, .slice Am nm cm, .slice Ag ng cg, .slice Ae ne ce, .bool bst, .int .i64 vst, .slice Ael nel cel, .slice Ad nd cd, .slice Ac nc cc] 33)).alloc (.cells #[.int .i64 0, .bool false] 144) = W0 at *
    refine (HNT.out _ F0.out).mono ?_
    rintro e w1 ⟨rfl, f1⟩
    have F1 := hid f1
    have G2 := hid (G1.out.fr f1 (fun x => x))
    have hw1 : w.heap.size + 1 < w1.heap.size := G2.out.lt
    have z0 : w1.cell? ⟨w.heap.size + 1, 0, none⟩ = some (.int .i64 0) := G2.out.cell 0
    have z1 : w1.cell? ⟨w.heap.size + 1, 1, none⟩ = some (.bool false) := G2.out.cell 1
    have q0 : w1.frozen? ⟨w.heap.size + 1, 0, none⟩ = false := G2.out.frozen 0
    have q1 : w1.frozen? ⟨w.heap.size + 1, 1, none⟩ = false := G2.out.frozen 1
    have hal : ∀ (Y : World) (o : Obj) (j : Nat), w.heap.size + 1 < Y.heap.size → (Y.alloc o).cell? ⟨w.heap.size + 1, j, none⟩ = Y.cell? ⟨w.heap.size + 1, j, none⟩ := fun Y o j h => ((Fr.refl No Y).alloc o).cell h (fun x => x)
    clear f1 HNT
    go_wp2
    refine bodyPost_ret (v := .tuple #[cGl x.glob, .bool true]) (by simp [results, Tryz.results102, go_sem, cGl, z0, z1, hal, hw1]) rfl ⟨rfl, ?_⟩
    exact (F0.out.trans F1.out (fun _ _ h => h)).trans (((((Fr.refl (One (w.heap.size + 1)) w1).setCell ⟨w.heap.size + 1, 0, none⟩ (.int .i64 x.glob.val) (fun _ => rfl)).setCell ⟨w.heap.size + 1, 1, none⟩ (.bool x.glob.mut_) (fun _ => rfl))).alloc _) (fun i hi h => by simp only [One] at h; omega)
  · have hkl : k < l.length := by simpa using hk
    rw [e1] at HNT
    rw [hn3] at e2
    rw [e2] at HOW
    rw [e3]
    simp only [imv, zIm, zTb, zLim, zGl] at HNT
    have hky : (l.map (·.type))[k] = l[k].type := by simp
    rw [hky]
    have i0 : (0 : Int) ≤ k := by omega
    have i1 : (k : Int) < ng := by have := hn2.out; omega
    have HAT := hid (fun W (F : Fr No w W) => Gd_at (HEL.out W F) k hkl)
    generalize l[k] = y at *
    clear h h2 hn hn2 HEL hsz e1 e2 e3 hn3 hky
    go_enter Tryz.func102, Tryz.ntmps102
    go_wp2_with fail
    generalize (w.alloc (.cells #[.slice At nt ct, .slice Ai ni ci, .slice Af nf cf, .slice Ata nta cta, .slice Am nm cm, .slice Ag ng cg, .slice Ae ne ce, .bool bst, .int .i64 vst, .slice Ael nel cel, .slice Ad nd cd, .slice Ac nc cc] 33)).alloc (.cells #[.int .i64 0, .bool false] 144) = W0 at *
    refine (HNT.out _ F0.out).mono ?_
    rintro e w1 ⟨rfl, f1⟩
    have F1 := hid f1
    have G2 := hid (G1.out.fr f1 (fun x => x))
    have G3 := hid (G0.out.fr f1 (fun x => x))
    have hw1 : w.heap.size + 1 < w1.heap.size := G2.out.lt
    obtain ⟨x0, x1, x2, x3, x4, x5, x6, x7, x8, x9, x10, x11⟩ : w1.cell? ⟨w.heap.size, 0, none⟩ = some (.slice At nt ct) ∧ w1.cell? ⟨w.heap.size, 1, none⟩ = some (.slice Ai ni ci) ∧ w1.cell? ⟨w.heap.size, 2, none⟩ = some (.slice Af nf cf) ∧ w1.cell? ⟨w.heap.size, 3, none⟩ = some (.slice Ata nta cta) ∧ w1.cell? ⟨w.heap.size, 4, none⟩ = some (.slice Am nm cm) ∧ w1.cell? ⟨w.heap.size, 5, none⟩ = some (.slice Ag ng cg) ∧ w1.cell? ⟨w.heap.size, 6, none⟩ = some (.slice Ae ne ce) ∧ w1.cell? ⟨w.heap.size, 7, none⟩ = some (.bool bst) ∧ w1.cell? ⟨w.heap.size, 8, none⟩ = some (.int .i64 vst) ∧ w1.cell? ⟨w.heap.size, 9, none⟩ = some (.slice Ael nel cel) ∧ w1.cell? ⟨w.heap.size, 10, none⟩ = some (.slice Ad nd cd) ∧ w1.cell? ⟨w.heap.size, 11, none⟩ = some (.slice Ac nc cc) := ⟨G3.out.cell 0, G3.out.cell 1, G3.out.cell 2, G3.out.cell 3, G3.out.cell 4, G3.out.cell 5, G3.out.cell 6, G3.out.cell 7, G3.out.cell 8, G3.out.cell 9, G3.out.cell 10, G3.out.cell 11⟩
    have hw0 : w.heap.size < w1.heap.size := G3.out.lt
    clear f1 HNT
    go_wp2_with fail
    refine (HOW.out _ ((F0.out.trans F1.out (fun _ _ h => h)).alloc _)).mono ?_
    rintro e w2 ⟨rfl, f2⟩
    have F2 := hid f2
    have G4 := hid ((G2.out.alloc _).fr f2 (fun x => x))
    have G5 := hid ((G3.out.alloc _).fr f2 (fun x => x))
    have hw2 : w.heap.size + 1 < w2.heap.size := G4.out.lt
    clear x0 x1 x2 x3 x4 x5 x6 x7 x8 x9 x10 x11
    obtain ⟨x0, x1, x2, x3, x4, x5, x6, x7, x8, x9, x10, x11⟩ : w2.cell? ⟨w.heap.size, 0, none⟩ = some (.slice At nt ct) ∧ w2.cell? ⟨w.heap.size, 1, none⟩ = some (.slice Ai ni ci) ∧ w2.cell? ⟨w.heap.size, 2, none⟩ = some (.slice Af nf cf) ∧ w2.cell? ⟨w.heap.size, 3, none⟩ = some (.slice Ata nta cta) ∧ w2.cell? ⟨w.heap.size, 4, none⟩ = some (.slice Am nm cm) ∧ w2.cell? ⟨w.heap.size, 5, none⟩ = some (.slice Ag ng cg) ∧ w2.cell? ⟨w.heap.size, 6, none⟩ = some (.slice Ae ne ce) ∧ w2.cell? ⟨w.heap.size, 7, none⟩ = some (.bool bst) ∧ w2.cell? ⟨w.heap.size, 8, none⟩ = some (.int .i64 vst) ∧ w2.cell? ⟨w.heap.size, 9, none⟩ = some (.slice Ael nel cel) ∧ w2.cell? ⟨w.heap.size, 10, none⟩ = some (.slice Ad nd cd) ∧ w2.cell? ⟨w.heap.size, 11, none⟩ = some (.slice Ac nc cc) := ⟨G5.out.cell 0, G5.out.cell 1, G5.out.cell 2, G5.out.cell 3, G5.out.cell 4, G5.out.cell 5, G5.out.cell 6, G5.out.cell 7, G5.out.cell 8, G5.out.cell 9, G5.out.cell 10, G5.out.cell 11⟩
    have z0 : w2.cell? ⟨w.heap.size + 1, 0, none⟩ = some (.int .i64 0) := G4.out.cell 0
    have z1 : w2.cell? ⟨w.heap.size + 1, 1, none⟩ = some (.bool false) := G4.out.cell 1
    have q0 : w2.frozen? ⟨w.heap.size + 1, 0, none⟩ = false := G4.out.frozen 0
    have q1 : w2.frozen? ⟨w.heap.size + 1, 1, none⟩ = false := G4.out.frozen 1
    obtain ⟨b, o, _, _, rfl, hb, s0, s1, _⟩ := HAT.out w2 (((F0.out.trans F1.out (fun _ _ h => h)).alloc _).trans F2.out (fun _ _ h => h))
    clear f2 HOW HAT hb
    go_wp2
    refine bodyPost_ret (v := .tuple #[cGl y.type, .bool true]) (by simp [results, Tryz.results102, go_sem, cGl, z0, z1]) rfl ⟨rfl, ?_⟩
    exact (((F0.out.trans F1.out (fun _ _ h => h)).alloc _).trans F2.out (fun _ _ h => h)).trans ((((Fr.refl (One (w.heap.size + 1)) w2).setCell ⟨w.heap.size + 1, 0, none⟩ (.int .i64 y.type.val) (fun _ => rfl)).setCell ⟨w.heap.size + 1, 1, none⟩ (.bool y.type.mut_) (fun _ => rfl))) (fun i hi h => by simp only [One] at h; omega)
  · rw [e1] at HNT
    rw [hn3] at e2
    rw [e2] at HOW
    rw [e3]
    simp only [imv, zIm, zTb, zLim, zGl] at HNT
    clear h h2 hS hn hn2 HEL hsz e1 e2 e3 hn3
    go_enter Tryz.func102, Tryz.ntmps102
    go_wp2_with fail
    generalize (w.alloc (.cells #[.slice At nt ct, .slice Ai ni ci, .slice Af nf cf, .slice Ata nta cta, .slice Am nm cm, .slice Ag ng cg, .slice Ae ne ce, .bool bst, .int .i64 vst, .slice Ael nel cel, .slice Ad nd cd, .slice Ac nc cc] 33)).alloc (.cells #[.int .i64 0, .bool false] 144) = W0 at *
    refine (HNT.out _ F0.out).mono ?_
    rintro e w1 ⟨rfl, f1⟩
    have F1 := hid f1
    have G2 := hid (G1.out.fr f1 (fun x => x))
    have G3 := hid (G0.out.fr f1 (fun x => x))
    have hw1 : w.heap.size + 1 < w1.heap.size := G2.out.lt
    obtain ⟨x0, x1, x2, x3, x4, x5, x6, x7, x8, x9, x10, x11⟩ : w1.cell? ⟨w.heap.size, 0, none⟩ = some (.slice At nt ct) ∧ w1.cell? ⟨w.heap.size, 1, none⟩ = some (.slice Ai ni ci) ∧ w1.cell? ⟨w.heap.size, 2, none⟩ = some (.slice Af nf cf) ∧ w1.cell? ⟨w.heap.size, 3, none⟩ = some (.slice Ata nta cta) ∧ w1.cell? ⟨w.heap.size, 4, none⟩ = some (.slice Am nm cm) ∧ w1.cell? ⟨w.heap.size, 5, none⟩ = some (.slice Ag ng cg) ∧ w1.cell? ⟨w.heap.size, 6, none⟩ = some (.slice Ae ne ce) ∧ w1.cell? ⟨w.heap.size, 7, none⟩ = some (.bool bst) ∧ w1.cell? ⟨w.heap.size, 8, none⟩ = some (.int .i64 vst) ∧ w1.cell? ⟨w.heap.size, 9, none⟩ = some (.slice Ael nel cel) ∧ w1.cell? ⟨w.heap.size, 10, none⟩ = some (.slice Ad nd cd) ∧ w1.cell? ⟨w.heap.size, 11, none⟩ = some (.slice Ac nc cc) := ⟨G3.out.cell 0, G3.out.cell 1, G3.out.cell 2, G3.out.cell 3, G3.out.cell 4, G3.out.cell 5, G3.out.cell 6, G3.out.cell 7, G3.out.cell 8, G3.out.cell 9, G3.out.cell 10, G3.out.cell 11⟩
    have hw0 : w.heap.size < w1.heap.size := G3.out.lt
    clear f1 HNT
    go_wp2_with fail
    refine (HOW.out _ ((F0.out.trans F1.out (fun _ _ h => h)).alloc _)).mono ?_
    rintro e w2 ⟨rfl, f2⟩
    have F2 := hid f2
    have G4 := hid ((G2.out.alloc _).fr f2 (fun x => x))
    have hw2 : w.heap.size + 1 < w2.heap.size := G4.out.lt
    clear x0 x1 x2 x3 x4 x5 x6 x7 x8 x9 x10 x11
    have z0 : w2.cell? ⟨w.heap.size + 1, 0, none⟩ = some (.int .i64 0) := G4.out.cell 0
    have z1 : w2.cell? ⟨w.heap.size + 1, 1, none⟩ = some (.bool false) := G4.out.cell 1
    have q0 : w2.frozen? ⟨w.heap.size + 1, 0, none⟩ = false := G4.out.frozen 0
    have q1 : w2.frozen? ⟨w.heap.size + 1, 1, none⟩ = false := G4.out.frozen 1
    clear f2 HOW
    go_wp2
    refine bodyPost_ret (v := .tuple #[cGl zGl, .bool false]) (by simp [results, Tryz.results102, go_sem, cGl, z0, z1, zTb, zLim, zGl]) rfl ⟨rfl, ?_⟩
    exact (((F0.out.trans F1.out (fun _ _ h => h)).alloc _).trans F2.out (fun _ _ h => h)).trans ((((Fr.refl (One (w.heap.size + 1)) w2).setCell ⟨w.heap.size + 1, 0, none⟩ (.int .i64 0) (fun _ => rfl)).setCell ⟨w.heap.size + 1, 1, none⟩ (.bool false) (fun _ => rfl))) (fun i hi h => by simp only [One] at h; omega)
end Go.Proofs.YtiafkakkbbclhaaGreat
namespace Go.Proofs.YtiafkakkbbclhaaGreat
open Go.RowKit
def funcD (m : Md) (i : Int) : Fn × Bool := if (atD 0 ((ofKind m.imports 0).map (·.func) ++ m.funcs.map (·.type)) i).2 then atD zFn m.types (atD 0 ((ofKind m.imports 0).map (·.func) ++ m.funcs.map (·.type)) i).1 else (zFn, false)
theorem fnSet_els {X : World} {S : Nat → Prop} {q : Nat} {f : Fn} {A1 A2 : Option Addr} (u v : Value) (h1 : tI.els X S A1 f.params) (h2 : tI.els X S A2 f.results) (hS : ∀ k, S k → k < X.heap.size ∧ k ≠ q) :
    tI.els ((X.setCell ⟨q, 0, none⟩ u).setCell ⟨q, 1, none⟩ v) S A1 f.params ∧ tI.els ((X.setCell ⟨q, 0, none⟩ u).setCell ⟨q, 1, none⟩ v) S A2 f.results := by
  have FZ := ((Fr.refl (One q) X).setCell ⟨q, 0, none⟩ u (fun _ => rfl)).setCell ⟨q, 1, none⟩ v (fun _ => rfl)
  exact ⟨h1.fr FZ (fun k hk => ⟨(hS k hk).1, (hS k hk).2⟩), h2.fr FZ (fun k hk => ⟨(hS k hk).1, (hS k hk).2⟩)⟩
theorem rFunc_any (nt ni nf nta nm ng ne nel nd nc ct ci cf cta cm cg ce cel cd cc : Nat) (At Ai Af Ata Am Ag Ae Ael Ad Ac : Option Addr) (bst : Bool) (vst : Int) (w : World) (m : Md) (i : Int) (S : Nat → Prop) (h : tIm.els w S Ai m.imports) (h2 : tCd.els w S Af m.funcs) (h3 : tFn.els w S At m.types) (hS : ∀ k, S k → k < w.heap.size) (hn : Hid (m.imports.length = ni)) (hn2 : Hid (m.funcs.length = nf)) (hnt : Hid (m.types.length = nt)) (hl : ni ≤ 101) (hl2 : nf ≤ 100) (hl3 : nt ≤ 100) (hi : -9223372036854775808 ≤ i ∧ i ≤ 9223372036854775807) :
    Calls Tryz.prog 60 #[.agg #[.slice At nt ct, .slice Ai ni ci, .slice Af nf cf, .slice Ata nta cta, .slice Am nm cm, .slice Ag ng cg, .slice Ae ne ce, .bool bst, .int .i64 vst, .slice Ael nel cel, .slice Ad nd cd, .slice Ac nc cc], .int .i64 i] w (AtFn (funcD m i).1 (funcD m i).2 S w) := by
  have F0 := hid (((Fr.refl No w).alloc (.cells #[.slice At nt ct, .slice Ai ni ci, .slice Af nf cf, .slice Ata nta cta, .slice Am nm cm, .slice Ag ng cg, .slice Ae ne ce, .bool bst, .int .i64 vst, .slice Ael nel cel, .slice Ad nd cd, .slice Ac nc cc] 33)).alloc (.cells #[.slice none 0 0, .slice none 0 0] 36))
  have G0 := hid ((Blk.new w 33 #[.slice At nt ct, .slice Ai ni ci, .slice Af nf cf, .slice Ata nta cta, .slice Am nm cm, .slice Ag ng cg, .slice Ae ne ce, .bool bst, .int .i64 vst, .slice Ael nel cel, .slice Ad nd cd, .slice Ac nc cc]).alloc (.cells #[.slice none 0 0, .slice none 0 0] 36))
  have G1 := hid (Blk.new (w.alloc (.cells #[.slice At nt ct, .slice Ai ni ci, .slice Af nf cf, .slice Ata nta cta, .slice Am nm cm, .slice Ag ng cg, .slice Ae ne ce, .bool bst, .int .i64 vst, .slice Ael nel cel, .slice Ad nd cd, .slice Ac nc cc] 33)) 36 #[.slice none 0 0, .slice none 0 0])
  have hsz : (w.alloc (.cells #[.slice At nt ct, .slice Ai ni ci, .slice Af nf cf, .slice Ata nta cta, .slice Am nm cm, .slice Ag ng cg, .slice Ae ne ce, .bool bst, .int .i64 vst, .slice Ael nel cel, .slice Ad nd cd, .slice Ac nc cc] 33)).heap.size = w.heap.size + 1 := by simp
  rw [hsz] at G1
  have HNT := hid (fun W (F : Fr No w W) => rNth_any nt ni nf nta nm ng ne nel nd nc ct ci cf cta cm cg ce cel cd cc At Ai Af Ata Am Ag Ae Ael Ad Ac bst vst W m.imports 0 i S (h.fr F (fun k hk => ⟨hS k hk, fun x => x⟩)) (fun k hk => Nat.lt_of_lt_of_le (hS k hk) F.size) hn hl hi)
  have HOW := hid (fun W (F : Fr No w W) => rOwn_any nt ni nf nta nm ng ne nel nd nc ct ci cf cta cm cg ce cel cd cc At Ai Af Ata Am Ag Ae Ael Ad Ac bst vst W m.imports 0 i nf S (h.fr F (fun k hk => ⟨hS k hk, fun x => x⟩)) (fun k hk => Nat.lt_of_lt_of_le (hS k hk) F.size) hn hl hi.2)
  have HEL := hid (fun W (F : Fr No w W) => h2.fr F (fun k hk => ⟨hS k hk, fun x => x⟩))
  have HTY := hid (fun (j : Int) W (F : Fr No w W) => rType_any nt ni nf nta nm ng ne nel nd nc ct ci cf cta cm cg ce cel cd cc At Ai Af Ata Am Ag Ae Ael Ad Ac bst vst W m.types j S (h3.fr F (fun k hk => ⟨hS k hk, fun x => x⟩)) (fun k hk => Nat.lt_of_lt_of_le (hS k hk) F.size) hnt hl3)
  have HS := hid hS
  have hn3 : m.funcs.length = nf := by have := hn2.out; simpa using this
  have HC := num_cases m.imports 0 (·.func) 0 (m.funcs.map (·.type)) i
  simp only [funcD]
  rcases HC with ⟨x, e1, e2⟩ | ⟨e1, ⟨k, hk, e2, e3⟩ | ⟨e2, e3⟩⟩
  · rw [e1] at HNT
    rw [e2]
    simp only [imv, if_true] at HNT ⊢
    have HT := hid (HTY.out x.func)
    generalize atD zFn m.types x.func = qq at *
    obtain ⟨y, ok⟩ := qq
    clear h h2 h3 hS hn hn2 HOW HEL hsz e1 e2 hn3 HTY hnt
    go_enter Tryz.func60, Tryz.ntmps60
    go_wp2_with fail
    generalize (w.alloc (.cells #[.slice At nt ct, .slice Ai ni ci, .slice Af nf cf, .slice Ata nta cta, .slice Am nm cm, .slice Ag ng cg, .slice Ae ne ce, .bool bst, .int .i64 vst, .slice Ael nel cel, .slice Ad nd cd, .slice Ac nc cc] 33)).alloc (.cells #[.slice none 0 0, .slice none 0 0] 36) = W0 at *
    refine (HNT.out _ F0.out).mono ?_
    rintro e w1 ⟨rfl, f1⟩
    have F1 := hid f1
    have G2 := hid (G1.out.fr f1 (fun x => x))
    have G3 := hid (G0.out.fr f1 (fun x => x))
    have hw0 : w.heap.size < w1.heap.size := G3.out.lt
    obtain ⟨x0, x1, x2, x3, x4, x5, x6, x7, x8, x9, x10, x11⟩ : w1.cell? ⟨w.heap.size, 0, none⟩ = some (.slice At nt ct) ∧ w1.cell? ⟨w.heap.size, 1, none⟩ = some (.slice Ai ni ci) ∧ w1.cell? ⟨w.heap.size, 2, none⟩ = some (.slice Af nf cf) ∧ w1.cell? ⟨w.heap.size, 3, none⟩ = some (.slice Ata nta cta) ∧ w1.cell? ⟨w.heap.size, 4, none⟩ = some (.slice Am nm cm) ∧ w1.cell? ⟨w.heap.size, 5, none⟩ = some (.slice Ag ng cg) ∧ w1.cell? ⟨w.heap.size, 6, none⟩ = some (.slice Ae ne ce) ∧ w1.cell? ⟨w.heap.size, 7, none⟩ = some (.bool bst) ∧ w1.cell? ⟨w.heap.size, 8, none⟩ = some (.int .i64 vst) ∧ w1.cell? ⟨w.heap.size, 9, none⟩ = some (.slice Ael nel cel) ∧ w1.cell? ⟨w.heap.size, 10, none⟩ = some (.slice Ad nd cd) ∧ w1.cell? ⟨w.heap.size, 11, none⟩ = some (.slice Ac nc cc) := by
      have h := G3.out
      exact ⟨h.cell 0, h.cell 1, h.cell 2, h.cell 3, h.cell 4, h.cell 5, h.cell 6, h.cell 7, h.cell 8, h.cell 9, h.cell 10, h.cell 11⟩
    clear f1 HNT
    go_wp2_with fail
    refine (HT.out _ ((F0.out.trans F1.out (fun _ _ h => h)).alloc _)).mono ?_
    rintro e w2 ⟨D1, g1, D2, g2, rfl, r1, r2, f2⟩
    have F2 := hid f2
    have R1 := hid r1
    have R2 := hid r2
    have G4 := hid ((G2.out.alloc _).fr f2 (fun x => x))
    have hw2 : w.heap.size + 1 < w2.heap.size := G4.out.lt
    clear x0 x1 x2 x3 x4 x5 x6 x7 x8 x9 x10 x11
    clear f2 r1 r2 HT
    have z0 : w2.cell? ⟨w.heap.size + 1, 0, none⟩ = some (.slice none 0 0) := G4.out.cell 0
    have z1 : w2.cell? ⟨w.heap.size + 1, 1, none⟩ = some (.slice none 0 0) := G4.out.cell 1
    have q0 : w2.frozen? ⟨w.heap.size + 1, 0, none⟩ = false := G4.out.frozen 0
    have q1 : w2.frozen? ⟨w.heap.size + 1, 1, none⟩ = false := G4.out.frozen 1
    go_wp2
    refine bodyPost_ret (v := .tuple #[.agg #[.slice D1 y.params.length g1, .slice D2 y.results.length g2], .bool ok]) (by simp [results, Tryz.results60, go_sem, z0, z1]) rfl ?_
    have FZ := ((Fr.refl (One (w.heap.size + 1)) w2).setCell ⟨w.heap.size + 1, 0, none⟩ (.slice D1 y.params.length g1) (fun _ => rfl)).setCell ⟨w.heap.size + 1, 1, none⟩ (.slice D2 y.results.length g2) (fun _ => rfl)
    have hrr := fnSet_els (f := y) (q := w.heap.size + 1) (.slice D1 y.params.length g1) (.slice D2 y.results.length g2) R1.out R2.out (fun k hk => ⟨by have := HS.out k hk; omega, by have := HS.out k hk; omega⟩)
    exact ⟨D1, g1, D2, g2, rfl, hrr.1, hrr.2, (((F0.out.trans F1.out (fun _ _ h => h)).alloc _).trans F2.out (fun _ _ h => h)).trans FZ (fun i hi h => by simp only [One] at h; omega)⟩
  · have hkl : k < m.funcs.length := by simpa using hk
    rw [e1] at HNT
    simp only [List.length_map] at e2
    rw [hn3] at e2
    rw [e2] at HOW
    rw [e3]
    simp only [imv, zIm, zTb, zLim, zGl] at HNT
    have hky : (m.funcs.map (·.type))[k] = m.funcs[k].type := by simp
    simp only [hky, if_true]
    have i0 : (0 : Int) ≤ k := by omega
    have i1 : (k : Int) < nf := by have := hn2.out; omega
    have HAT := hid (fun W (F : Fr No w W) => Cd_at (HEL.out W F) k hkl)
    generalize m.funcs[k] = c at *
    have HT := hid (HTY.out c.type)
    generalize atD zFn m.types c.type = qq at *
    obtain ⟨y, ok⟩ := qq
    clear h h2 h3 hS hn hn2 HEL hsz e1 e2 e3 hn3 hky HTY hnt
    go_enter Tryz.func60, Tryz.ntmps60
    go_wp2_with fail
    generalize (w.alloc (.cells #[.slice At nt ct, .slice Ai ni ci, .slice Af nf cf, .slice Ata nta cta, .slice Am nm cm, .slice Ag ng cg, .slice Ae ne ce, .bool bst, .int .i64 vst, .slice Ael nel cel, .slice Ad nd cd, .slice Ac nc cc] 33)).alloc (.cells #[.slice none 0 0, .slice none 0 0] 36) = W0 at *
    refine (HNT.out _ F0.out).mono ?_
    rintro e w1 ⟨rfl, f1⟩
    have F1 := hid f1
    have G2 := hid (G1.out.fr f1 (fun x => x))
    have G3 := hid (G0.out.fr f1 (fun x => x))
    have hw0 : w.heap.size < w1.heap.size := G3.out.lt
    obtain ⟨x0, x1, x2, x3, x4, x5, x6, x7, x8, x9, x10, x11⟩ : w1.cell? ⟨w.heap.size, 0, none⟩ = some (.slice At nt ct) ∧ w1.cell? ⟨w.heap.size, 1, none⟩ = some (.slice Ai ni ci) ∧ w1.cell? ⟨w.heap.size, 2, none⟩ = some (.slice Af nf cf) ∧ w1.cell? ⟨w.heap.size, 3, none⟩ = some (.slice Ata nta cta) ∧ w1.cell? ⟨w.heap.size, 4, none⟩ = some (.slice Am nm cm) ∧ w1.cell? ⟨w.heap.size, 5, none⟩ = some (.slice Ag ng cg) ∧ w1.cell? ⟨w.heap.size, 6, none⟩ = some (.slice Ae ne ce) ∧ w1.cell? ⟨w.heap.size, 7, none⟩ = some (.bool bst) ∧ w1.cell? ⟨w.heap.size, 8, none⟩ = some (.int .i64 vst) ∧ w1.cell? ⟨w.heap.size, 9, none⟩ = some (.slice Ael nel cel) ∧ w1.cell? ⟨w.heap.size, 10, none⟩ = some (.slice Ad nd cd) ∧ w1.cell? ⟨w.heap.size, 11, none⟩ = some (.slice Ac nc cc) := by
      have h := G3.out
      exact ⟨h.cell 0, h.cell 1, h.cell 2, h.cell 3, h.cell 4, h.cell 5, h.cell 6, h.cell 7, h.cell 8, h.cell 9, h.cell 10, h.cell 11⟩
    clear f1 HNT
    go_wp2_with fail
    refine (HOW.out _ ((F0.out.trans F1.out (fun _ _ h => h)).alloc _)).mono ?_
    rintro e wm ⟨rfl, f2⟩
    have FM := hid f2
    have GM := hid ((G2.out.alloc _).fr f2 (fun x => x))
    have GMM := hid ((G3.out.alloc _).fr f2 (fun x => x))
    have FW := hid (((F0.out.trans F1.out (fun _ _ h => h)).alloc _).trans f2 (fun _ _ h => h))
    clear x0 x1 x2 x3 x4 x5 x6 x7 x8 x9 x10 x11 f2 HOW
    obtain ⟨b, o, _, _, _, _, rfl, hb, _⟩ := HAT.out wm FW.out
    have HX : Hid (∀ X, Fr (One (w.heap.size + 1)) wm X → X.cell? ⟨w.heap.size, 0, none⟩ = some (.slice At nt ct) ∧ X.cell? ⟨w.heap.size, 1, none⟩ = some (.slice Ai ni ci) ∧ X.cell? ⟨w.heap.size, 2, none⟩ = some (.slice (some ⟨b, o, none⟩) nf cf) ∧ X.cell? ⟨w.heap.size, 3, none⟩ = some (.slice Ata nta cta) ∧ X.cell? ⟨w.heap.size, 4, none⟩ = some (.slice Am nm cm) ∧ X.cell? ⟨w.heap.size, 5, none⟩ = some (.slice Ag ng cg) ∧ X.cell? ⟨w.heap.size, 6, none⟩ = some (.slice Ae ne ce) ∧ X.cell? ⟨w.heap.size, 7, none⟩ = some (.bool bst) ∧ X.cell? ⟨w.heap.size, 8, none⟩ = some (.int .i64 vst) ∧ X.cell? ⟨w.heap.size, 9, none⟩ = some (.slice Ael nel cel) ∧ X.cell? ⟨w.heap.size, 10, none⟩ = some (.slice Ad nd cd) ∧ X.cell? ⟨w.heap.size, 11, none⟩ = some (.slice Ac nc cc) ∧ X.cell? ⟨b, o + k * 3, none⟩ = some (.int .i64 c.type)) := fun X f => by
      have h := GMM.out.fr f (fun x => by simp only [One] at x; omega)
      obtain ⟨b', o', _, _, _, _, e', _, h'', _⟩ := HAT.out wm FW.out
      cases e'
      have hbw := HS.out _ hb
      have hc := (f.cell (p := ⟨b, o + k * 3, none⟩) (Nat.lt_of_lt_of_le hbw FW.out.size) (fun x => by simp only [One] at x; omega)).trans h''
      exact ⟨h.cell 0, h.cell 1, h.cell 2, h.cell 3, h.cell 4, h.cell 5, h.cell 6, h.cell 7, h.cell 8, h.cell 9, h.cell 10, h.cell 11, hc⟩
    clear hb HAT
    go_wp2_with fail
    refine wp_region_ord (fun X => X.cell? ⟨w.heap.size, 0, none⟩ = some (.slice At nt ct) ∧ X.cell? ⟨w.heap.size, 1, none⟩ = some (.slice Ai ni ci) ∧ X.cell? ⟨w.heap.size, 2, none⟩ = some (.slice (some ⟨b, o, none⟩) nf cf) ∧ X.cell? ⟨w.heap.size, 3, none⟩ = some (.slice Ata nta cta) ∧ X.cell? ⟨w.heap.size, 4, none⟩ = some (.slice Am nm cm) ∧ X.cell? ⟨w.heap.size, 5, none⟩ = some (.slice Ag ng cg) ∧ X.cell? ⟨w.heap.size, 6, none⟩ = some (.slice Ae ne ce) ∧ X.cell? ⟨w.heap.size, 7, none⟩ = some (.bool bst) ∧ X.cell? ⟨w.heap.size, 8, none⟩ = some (.int .i64 vst) ∧ X.cell? ⟨w.heap.size, 9, none⟩ = some (.slice Ael nel cel) ∧ X.cell? ⟨w.heap.size, 10, none⟩ = some (.slice Ad nd cd) ∧ X.cell? ⟨w.heap.size, 11, none⟩ = some (.slice Ac nc cc) ∧ X.cell? ⟨b, o + k * 3, none⟩ = some (.int .i64 c.type)) [] [(0, true), (1, true), (2, true), (3, true), (4, true), (5, true), (6, true), (7, false), (8, true), (9, true), (10, false), (11, true)] (by kernel_rfl) (by kernel_rfl) (by kernel_rfl) rfl (HX.out _ (Fr.refl _ _).drew) ?_
    repeat (first | refine oS ?_ | refine oC ?_)
    refine wpO_eff rfl rfl (fun K hK => ?_)
    simp only [zA]
    go_simp
    refine (HT.out _ FW.out.drew).mono ?_
    rintro e w2 ⟨D1, g1, D2, g2, rfl, r1, r2, f2⟩
    have F2 := hid f2
    have R1 := hid r1
    have R2 := hid r2
    have G4 := hid (GM.out.drew.fr f2 (fun x => x))
    have hw2 : w.heap.size + 1 < w2.heap.size := G4.out.lt
    clear f2 r1 r2 HT
    refine hK _ _ (fun _ => HX.out _ ((Fr.refl (One (w.heap.size + 1)) wm).drew.trans (F2.out.mono (fun _ _ x => x.elim)) (fun _ _ h => h))) ?_
    clear hK K
    repeat (first | refine oS ?_ | refine oC ?_)
    have z0 : w2.cell? ⟨w.heap.size + 1, 0, none⟩ = some (.slice none 0 0) := G4.out.cell 0
    have z1 : w2.cell? ⟨w.heap.size + 1, 1, none⟩ = some (.slice none 0 0) := G4.out.cell 1
    have q0 : w2.frozen? ⟨w.heap.size + 1, 0, none⟩ = false := G4.out.frozen 0
    have q1 : w2.frozen? ⟨w.heap.size + 1, 1, none⟩ = false := G4.out.frozen 1
    refine wpO_eff rfl rfl (fun K hK => ?_)
    simp only [zA]
    go_simp
    refine hK _ _ (fun _ => HX.out _ ((((Fr.refl (One (w.heap.size + 1)) wm).drew.trans (F2.out.mono (fun _ _ x => x.elim)) (fun _ _ h => h)).setCell ⟨w.heap.size + 1, 0, none⟩ _ (fun _ => rfl)).setCell ⟨w.heap.size + 1, 1, none⟩ _ (fun _ => rfl))) ?_
    clear hK K
    repeat (first | refine oS ?_ | refine oC ?_)
    refine wpO_nil ?_
    go_wp2
    refine bodyPost_ret (v := .tuple #[.agg #[.slice D1 y.params.length g1, .slice D2 y.results.length g2], .bool ok]) (by simp [results, Tryz.results60, go_sem, z0, z1]) rfl ?_
    have FZ := ((Fr.refl (One (w.heap.size + 1)) w2).setCell ⟨w.heap.size + 1, 0, none⟩ (.slice D1 y.params.length g1) (fun _ => rfl)).setCell ⟨w.heap.size + 1, 1, none⟩ (.slice D2 y.results.length g2) (fun _ => rfl)
    have hrr := fnSet_els (f := y) (q := w.heap.size + 1) (.slice D1 y.params.length g1) (.slice D2 y.results.length g2) R1.out R2.out (fun k hk => ⟨by have := HS.out k hk; omega, by have := HS.out k hk; omega⟩)
    exact ⟨D1, g1, D2, g2, rfl, hrr.1, hrr.2, (FW.out.drew.trans F2.out (fun _ _ h => h)).trans FZ (fun i hi h => by simp only [One] at h; omega)⟩
  · rw [e1] at HNT
    simp only [List.length_map] at e2
    rw [hn3] at e2
    rw [e2] at HOW
    rw [e3]
    simp only [imv, zIm, zTb, zLim, zGl] at HNT
    simp only [Bool.false_eq_true, if_false]
    clear h h2 h3 hS hn hn2 HEL hsz e1 e2 e3 hn3 HTY hnt
    go_enter Tryz.func60, Tryz.ntmps60
    go_wp2_with fail
    generalize (w.alloc (.cells #[.slice At nt ct, .slice Ai ni ci, .slice Af nf cf, .slice Ata nta cta, .slice Am nm cm, .slice Ag ng cg, .slice Ae ne ce, .bool bst, .int .i64 vst, .slice Ael nel cel, .slice Ad nd cd, .slice Ac nc cc] 33)).alloc (.cells #[.slice none 0 0, .slice none 0 0] 36) = W0 at *
    refine (HNT.out _ F0.out).mono ?_
    rintro e w1 ⟨rfl, f1⟩
    have F1 := hid f1
    have G2 := hid (G1.out.fr f1 (fun x => x))
    have G3 := hid (G0.out.fr f1 (fun x => x))
    have hw0 : w.heap.size < w1.heap.size := G3.out.lt
    obtain ⟨x0, x1, x2, x3, x4, x5, x6, x7, x8, x9, x10, x11⟩ : w1.cell? ⟨w.heap.size, 0, none⟩ = some (.slice At nt ct) ∧ w1.cell? ⟨w.heap.size, 1, none⟩ = some (.slice Ai ni ci) ∧ w1.cell? ⟨w.heap.size, 2, none⟩ = some (.slice Af nf cf) ∧ w1.cell? ⟨w.heap.size, 3, none⟩ = some (.slice Ata nta cta) ∧ w1.cell? ⟨w.heap.size, 4, none⟩ = some (.slice Am nm cm) ∧ w1.cell? ⟨w.heap.size, 5, none⟩ = some (.slice Ag ng cg) ∧ w1.cell? ⟨w.heap.size, 6, none⟩ = some (.slice Ae ne ce) ∧ w1.cell? ⟨w.heap.size, 7, none⟩ = some (.bool bst) ∧ w1.cell? ⟨w.heap.size, 8, none⟩ = some (.int .i64 vst) ∧ w1.cell? ⟨w.heap.size, 9, none⟩ = some (.slice Ael nel cel) ∧ w1.cell? ⟨w.heap.size, 10, none⟩ = some (.slice Ad nd cd) ∧ w1.cell? ⟨w.heap.size, 11, none⟩ = some (.slice Ac nc cc) := by
      have h := G3.out
      exact ⟨h.cell 0, h.cell 1, h.cell 2, h.cell 3, h.cell 4, h.cell 5, h.cell 6, h.cell 7, h.cell 8, h.cell 9, h.cell 10, h.cell 11⟩
    clear f1 HNT
    go_wp2_with fail
    refine (HOW.out _ ((F0.out.trans F1.out (fun _ _ h => h)).alloc _)).mono ?_
    rintro e w2 ⟨rfl, f2⟩
    have F2 := hid f2
    have G4 := hid ((G2.out.alloc _).fr f2 (fun x => x))
    have hw2 : w.heap.size + 1 < w2.heap.size := G4.out.lt
    clear x0 x1 x2 x3 x4 x5 x6 x7 x8 x9 x10 x11
    have z0 : w2.cell? ⟨w.heap.size + 1, 0, none⟩ = some (.slice none 0 0) := G4.out.cell 0
    have z1 : w2.cell? ⟨w.heap.size + 1, 1, none⟩ = some (.slice none 0 0) := G4.out.cell 1
    have q0 : w2.frozen? ⟨w.heap.size + 1, 0, none⟩ = false := G4.out.frozen 0
    have q1 : w2.frozen? ⟨w.heap.size + 1, 1, none⟩ = false := G4.out.frozen 1
    clear f2 HOW
    go_wp2
    refine bodyPost_ret (v := .tuple #[.agg #[.slice none 0 0, .slice none 0 0], .bool false]) (by simp [results, Tryz.results60, go_sem, z0, z1]) rfl ?_
    have FZ := ((Fr.refl (One (w.heap.size + 1)) w2).setCell ⟨w.heap.size + 1, 0, none⟩ (.slice none 0 0) (fun _ => rfl)).setCell ⟨w.heap.size + 1, 1, none⟩ (.slice none 0 0) (fun _ => rfl)
    exact ⟨none, 0, none, 0, rfl, .inl rfl, .inl rfl, (((F0.out.trans F1.out (fun _ _ h => h)).alloc _).trans F2.out (fun _ _ h => h)).trans FZ (fun i hi h => by simp only [One] at h; omega)⟩
end Go.Proofs.YtiafkakkbbclhaaGreat
namespace Go.Proofs.YtiafkakkbbclhaaGreat
open Go.RowKit
structure FewOk (els : List El) (nt ni nf nta nm ng ne nel nd : Nat) : Prop where
  lt : nt ≤ 100
  li : ni ≤ 100
  lf : nf ≤ 100
  lta : nta ≤ 50
  lm : nm ≤ 50
  lg : ng ≤ 100
  le : ne ≤ 200
  lel : nel ≤ 50
  ld : nd ≤ 50
  it : ∀ e ∈ els, e.items.length ≤ 500
def Few8To (els : List El) (nt ni nf nta nm ng ne nel nd : Nat) (w : World) (e : Ending) (w' : World) : Prop :=
  (∃ r : Bool, e = .returned (.bool r) ∧ (r = true → FewOk els nt ni nf nta nm ng ne nel nd)) ∧ Fr No w w'
def sums (els : List El) : Nat := els.foldl (fun n e => n + e.items.length) 0
theorem sums_mono (els : List El) (a : Nat) : a ≤ els.foldl (fun n e => n + e.items.length) a := by
  induction els generalizing a with
  | nil => exact Nat.le_refl _
  | cons x l ih => exact Nat.le_trans (Nat.le_add_right _ _) (ih _)
theorem sums_mem (els : List El) (a : Nat) : ∀ e ∈ els, e.items.length ≤ els.foldl (fun n e => n + e.items.length) a := by
  induction els generalizing a with
  | nil => intro e h; cases h
  | cons x l ih =>
    intro e h
    cases h with
    | head => exact Nat.le_trans (Nat.le_add_left _ _) (sums_mono _ _)
    | tail _ h => exact ih _ e h
theorem sums_step {els : List El} {k : Nat} (hk : k < els.length) : sums (els.take (k + 1)) = sums (els.take k) + els[k].items.length := by
  rw [sums, sums, List.take_succ_eq_append_getElem hk, List.foldl_append]; rfl
theorem few8_any (nt ni nf nta nm ng ne nel nd nc ct ci cf cta cm cg ce cel cd cc : Nat) (At Ai Af Ata Am Ag Ae Ael Ad Ac : Option Addr) (bst : Bool) (vst : Int) (w : World) (els : List El) (S : Nat → Prop) (h : tEl.els w S Ael els) (hS : ∀ k, S k → k < w.heap.size) (hn : Hid (els.length = nel)) (hi : Hid (∀ e ∈ els, e.items.length ≤ 140737488351232)) :
    Calls Tryz.prog 5 #[.agg #[.slice At nt ct, .slice Ai ni ci, .slice Af nf cf, .slice Ata nta cta, .slice Am nm cm, .slice Ag ng cg, .slice Ae ne ce, .bool bst, .int .i64 vst, .slice Ael nel cel, .slice Ad nd cd, .slice Ac nc cc]] w (Few8To els nt ni nf nta nm ng ne nel nd w) := by
  have F0 := hid ((Fr.refl No w).alloc (.cells #[.slice At nt ct, .slice Ai ni ci, .slice Af nf cf, .slice Ata nta cta, .slice Am nm cm, .slice Ag ng cg, .slice Ae ne ce, .bool bst, .int .i64 vst, .slice Ael nel cel, .slice Ad nd cd, .slice Ac nc cc] 33))
  go_enter Tryz.func5, Tryz.ntmps5
  go_wp2
  go_loop [3, 4] (fun n i => ∃ k m : Nat, k ≤ nel ∧ k ≤ 100 ∧ i = .int .i64 k ∧ n = .int .i64 m ∧ m ≤ 1000000000000000 ∧ Hid (sums (els.take k) = m)) (fun _ i => nel - (intOf i).toNat)
  case atStart => exact ⟨0, 0, by omega, by omega, rfl, rfl, by omega, rfl⟩
  case round =>
    obtain ⟨k, m, hk, hk1, rfl, rfl, hm, HA⟩ := hrel
    by_cases hgo : k < nel ∧ k < 100 ∧ m ≤ 500
    · obtain ⟨g0, g1, g2⟩ := hgo
      have hlk : k < els.length := by have := hn.out; omega
      have HX := hid (El_at h k hlk)
      obtain ⟨b, o, _, _, _, _, rfl, hb, _, _, _, _, c4, _⟩ := HX.out
      have hbl := hS b hb
      have HE := hid (sums_step hlk)
      have hle := hi.out _ (List.getElem_mem hlk)
      generalize els[k].items.length = q at *
      have i0 : (0 : Int) ≤ k := by omega
      have i1 : (k : Int) < nel := by omega
      clear h hS HX
      go_wp2
      go_round
      case rel => exact ⟨k + 1, m + q, by omega, by omega, by go_num, by go_num, by omega, by rw [Hid, HE.out, HA.out]⟩
      case measure => simp [intOf]; omega
    · have HG := hid hgo
      clear h hS
      by_cases g0 : k < nel
      · by_cases g1 : k < 100
        · have g2 : 500 < m := by omega
          clear hgo
          go_wp2
          exact bodyPost_ret (v := .bool false) (by simp [results, Tryz.results5, go_sem]) rfl ⟨⟨false, rfl, fun h => by cases h⟩, F0.out⟩
        · clear hgo
          by_cases c0 : m ≤ 500
          case neg =>
            go_wp2
            exact bodyPost_ret (v := .bool false) (by simp [results, Tryz.results5, go_sem]) rfl ⟨⟨false, rfl, fun h => by cases h⟩, F0.out⟩
          by_cases c1 : nt ≤ 100
          case neg =>
            go_wp2
            exact bodyPost_ret (v := .bool false) (by simp [results, Tryz.results5, go_sem]) rfl ⟨⟨false, rfl, fun h => by cases h⟩, F0.out⟩
          by_cases c2 : ni ≤ 100
          case neg =>
            go_wp2
            exact bodyPost_ret (v := .bool false) (by simp [results, Tryz.results5, go_sem]) rfl ⟨⟨false, rfl, fun h => by cases h⟩, F0.out⟩
          by_cases c3 : nf ≤ 100
          case neg =>
            go_wp2
            exact bodyPost_ret (v := .bool false) (by simp [results, Tryz.results5, go_sem]) rfl ⟨⟨false, rfl, fun h => by cases h⟩, F0.out⟩
          by_cases c4 : nta ≤ 50
          case neg =>
            go_wp2
            exact bodyPost_ret (v := .bool false) (by simp [results, Tryz.results5, go_sem]) rfl ⟨⟨false, rfl, fun h => by cases h⟩, F0.out⟩
          by_cases c5 : nm ≤ 50
          case neg =>
            go_wp2
            exact bodyPost_ret (v := .bool false) (by simp [results, Tryz.results5, go_sem]) rfl ⟨⟨false, rfl, fun h => by cases h⟩, F0.out⟩
          by_cases c6 : ng ≤ 100
          case neg =>
            go_wp2
            exact bodyPost_ret (v := .bool false) (by simp [results, Tryz.results5, go_sem]) rfl ⟨⟨false, rfl, fun h => by cases h⟩, F0.out⟩
          by_cases c7 : ne ≤ 200
          case neg =>
            go_wp2
            exact bodyPost_ret (v := .bool false) (by simp [results, Tryz.results5, go_sem]) rfl ⟨⟨false, rfl, fun h => by cases h⟩, F0.out⟩
          by_cases c8 : nel ≤ 50
          case neg =>
            go_wp2
            exact bodyPost_ret (v := .bool false) (by simp [results, Tryz.results5, go_sem]) rfl ⟨⟨false, rfl, fun h => by cases h⟩, F0.out⟩
          exact absurd c8 (by omega)
      · clear hgo
        by_cases c0 : m ≤ 500
        case neg =>
          go_wp2
          exact bodyPost_ret (v := .bool false) (by simp [results, Tryz.results5, go_sem]) rfl ⟨⟨false, rfl, fun h => by cases h⟩, F0.out⟩
        by_cases c1 : nt ≤ 100
        case neg =>
          go_wp2
          exact bodyPost_ret (v := .bool false) (by simp [results, Tryz.results5, go_sem]) rfl ⟨⟨false, rfl, fun h => by cases h⟩, F0.out⟩
        by_cases c2 : ni ≤ 100
        case neg =>
          go_wp2
          exact bodyPost_ret (v := .bool false) (by simp [results, Tryz.results5, go_sem]) rfl ⟨⟨false, rfl, fun h => by cases h⟩, F0.out⟩
        by_cases c3 : nf ≤ 100
        case neg =>
          go_wp2
          exact bodyPost_ret (v := .bool false) (by simp [results, Tryz.results5, go_sem]) rfl ⟨⟨false, rfl, fun h => by cases h⟩, F0.out⟩
        by_cases c4 : nta ≤ 50
        case neg =>
          go_wp2
          exact bodyPost_ret (v := .bool false) (by simp [results, Tryz.results5, go_sem]) rfl ⟨⟨false, rfl, fun h => by cases h⟩, F0.out⟩
        by_cases c5 : nm ≤ 50
        case neg =>
          go_wp2
          exact bodyPost_ret (v := .bool false) (by simp [results, Tryz.results5, go_sem]) rfl ⟨⟨false, rfl, fun h => by cases h⟩, F0.out⟩
        by_cases c6 : ng ≤ 100
        case neg =>
          go_wp2
          exact bodyPost_ret (v := .bool false) (by simp [results, Tryz.results5, go_sem]) rfl ⟨⟨false, rfl, fun h => by cases h⟩, F0.out⟩
        by_cases c7 : ne ≤ 200
        case neg =>
          go_wp2
          exact bodyPost_ret (v := .bool false) (by simp [results, Tryz.results5, go_sem]) rfl ⟨⟨false, rfl, fun h => by cases h⟩, F0.out⟩
        by_cases c8 : nel ≤ 50
        case neg =>
          go_wp2
          exact bodyPost_ret (v := .bool false) (by simp [results, Tryz.results5, go_sem]) rfl ⟨⟨false, rfl, fun h => by cases h⟩, F0.out⟩
        by_cases c9 : nd ≤ 50
        case neg =>
          go_wp2
          exact bodyPost_ret (v := .bool false) (by simp [results, Tryz.results5, go_sem]; omega) rfl ⟨⟨false, rfl, fun h => by cases h⟩, F0.out⟩
        go_wp2
        refine bodyPost_ret (v := .bool true) (by simp [results, Tryz.results5, go_sem]; omega) rfl ⟨⟨true, rfl, fun _ => ⟨c1, c2, c3, c4, c5, c6, c7, c8, c9, ?_⟩⟩, F0.out⟩
        have h1 := HA.out
        have h2 := hn.out
        rw [List.take_of_length_le (by omega)] at h1
        intro e he
        have := sums_mem els 0 e he
        rw [← sums, h1] at this
        omega
end Go.Proofs.YtiafkakkbbclhaaGreat
