/- Contracts: copyType. -/
import Derived.Test.YthggdemiddjlgaaStE
namespace Go.Proofs.Ythggdemiddjlgaa
open Go.RowKit

/-- The blocks made between two worlds. -/
def Nw (w w' : World) (k : Nat) : Prop := w.heap.size ≤ k ∧ k < w'.heap.size
theorem Nw.up {w w1 w2 w3 : World} (h1 : w.heap.size ≤ w1.heap.size) (h2 : w2.heap.size ≤ w3.heap.size) {k : Nat} (h : Nw w1 w2 k) : Nw w w3 k := ⟨Nat.le_trans h1 h.1, Nat.lt_of_lt_of_le h.2 h2⟩
/-- A struct that reads as x and rests on new blocks alone. -/
def FreshTo {α : Type} (t : Ty α) (x : α) (w : World) (e : Ending) (w' : World) : Prop := ∃ cs, e = .returned (.agg cs.toArray) ∧ t.rd w' (Nw w w') cs x ∧ Fr No w w'
theorem Ty.row.flat {α : Type} {t : Ty α} [TyFlat t] {w : World} {base : Nat} {S : Nat → Prop} {e : TypeId} {v : Value} {xs : List α} (h : t.row w base S e v xs) (S' : Nat → Prop) : t.row w base S' e v xs := by
  obtain ⟨css, h1, h2⟩ := h
  exact ⟨css, h1.flat w S', h2⟩
theorem fresh_els {α : Type} {t : Ty α} [TyOk t] [TyMore t] [TyFlat t] {w w1 w2 w' : World} {S : Nat → Prop} {el : TypeId} {l : List α} {A : Option Addr} {c : Nat} {M : Nat → Prop} (h : t.row w2 w1.heap.size S el (.slice A l.length c) l) (h0 : w.heap.size ≤ w1.heap.size) (f : Fr M w2 w') (hM : ∀ k, w1.heap.size ≤ k → k < w2.heap.size → ¬ M k) :
    l.length ≤ c ∧ c ≤ maxLen ∧ t.els w' (Nw w w') A l := by
  obtain ⟨h1, h2, h3⟩ := row_els (h.flat Emp)
  refine ⟨h1, h2, (h3.fr f (fun k hk => ?_)).more (fun k hk => ?_)⟩
  · rcases hk with hk | hk
    · exact hk.elim
    · exact ⟨hk.2, hM k hk.1 hk.2⟩
  · rcases hk with hk | hk
    · exact hk.elim
    · exact ⟨Nat.le_trans h0 hk.1, Nat.lt_of_lt_of_le hk.2 f.size⟩
theorem fr_els {α : Type} {t : Ty α} [TyOk t] {w w' : World} {S : Nat → Prop} {A : Option Addr} {xs : List α} (h : t.els w S A xs) (f : Fr No w w') (hS : ∀ k, S k → k < w.heap.size) : t.els w' S A xs := h.fr f fun k hk => ⟨hS k hk, fun x => x⟩

set_option maxRecDepth 100000 in
set_option maxHeartbeats 1600000 in
theorem copyType_any (f : Fn) (A1 A2 : Option Addr) (c1 c2 : Nat) (S : Nat → Prop) (w : World) (hS : ∀ k, S k → k < w.heap.size) (h1 : tI.els w S A1 f.params) (h2 : tI.els w S A2 f.results) (b1 : f.params.length * 8 ≤ 140737488351232) (b2 : f.results.length * 8 ≤ 140737488351232) :
    Calls Try.prog 26 #[.agg #[.slice A1 f.params.length c1, .slice A2 f.results.length c2]] w (FreshTo tFn f w) := by
  have F0 := hid (((Fr.refl No w).alloc (.cells #[.slice A1 f.params.length c1, .slice A2 f.results.length c2] 96)).alloc (.cells #[.slice none 0 0, .slice none 0 0] 96))
  have G0 := hid ((Blk.new w 96 #[.slice A1 f.params.length c1, .slice A2 f.results.length c2]).alloc (.cells #[.slice none 0 0, .slice none 0 0] 96))
  have G1 := hid (Blk.new1 w (.cells #[.slice A1 f.params.length c1, .slice A2 f.results.length c2] 96) 96 #[.slice none 0 0, .slice none 0 0])
  have H1 := hid h1
  have H2 := hid h2
  have HB1 := hid b1
  have HB2 := hid b2
  have HS := hid hS
  clear h1 h2 b1 b2 hS
  go_enter Try.func26, Try.ntmps26
  go_wp2
  generalize (w.alloc (.cells #[.slice A1 f.params.length c1, .slice A2 f.results.length c2] 96)).alloc (.cells #[.slice none 0 0, .slice none 0 0] 96) = W at *
  have hW : w.heap.size + 1 < W.heap.size := G1.out.lt
  have HSW : Hid (∀ k, S k → k < W.heap.size) := fun k hk => Nat.lt_of_lt_of_le (HS.out k hk) F0.out.size
  have HX : Hid (∀ X, Fr No W X → X.cell? ⟨w.heap.size, 0, none⟩ = some (.slice A1 f.params.length c1) ∧ X.cell? ⟨w.heap.size, 1, none⟩ = some (.slice A2 f.results.length c2)) := fun X g => ⟨(G0.out.fr g (fun x => x)).cell 0, (G0.out.fr g (fun x => x)).cell 1⟩
  refine wp_region_ord (fun X => X.cell? ⟨w.heap.size, 0, none⟩ = some (.slice A1 f.params.length c1) ∧ X.cell? ⟨w.heap.size, 1, none⟩ = some (.slice A2 f.results.length c2)) [7] [(0, true), (1, true), (3, true), (4, true), (2, false), (5, false), (6, true), (7, false)] (by kernel_rfl) (by kernel_rfl) (by kernel_rfl) rfl (HX.out _ (Fr.refl _ _).drew) ?_
  repeat (first
    | (refine wpO_skip rfl rfl ?_; simp only [List.getElem_toArray, List.getElem_cons_succ, List.getElem_cons_zero, Act.put, List.setIfInBounds_toArray, List.set_cons_zero, List.set_cons_succ])
    | (refine wpO_call rfl rfl ?_; simp only [List.getElem_toArray, List.getElem_cons_succ, List.getElem_cons_zero]; apply Exists.intro; refine ⟨fun X hX => ?_, ?_⟩
       · (have s0 := hX.1; have s1 := hX.2; go_simp; exact stillUpon_value)
       simp only [Act.put, List.setIfInBounds_toArray, List.set_cons_zero, List.set_cons_succ]))
  refine wpO_eff rfl rfl (fun K hK => ?_)
  simp only [List.getElem_toArray, List.getElem_cons_succ, List.getElem_cons_zero]
  go_simp
  refine (cloneV_any A1 c1 f.params S _ (fr_els H1.out (F0.out.drew) HS.out) HSW.out HB1.out).mono ?_
  rintro e w1 ⟨B1, d1, rfl, hr1, f1⟩
  have F1 := hid ((Fr.refl No W).drew.trans f1 (fun _ _ h => h))
  have R1 := hid hr1
  clear hr1 f1
  refine hK _ _ (fun _ => HX.out _ F1.out) ?_
  clear hK K
  repeat (first
    | (refine wpO_skip rfl rfl ?_; simp only [List.getElem_toArray, List.getElem_cons_succ, List.getElem_cons_zero, Act.put, List.setIfInBounds_toArray, List.set_cons_zero, List.set_cons_succ])
    | (refine wpO_call rfl rfl ?_; simp only [List.getElem_toArray, List.getElem_cons_succ, List.getElem_cons_zero]; apply Exists.intro; refine ⟨fun X hX => ?_, ?_⟩
       · (have s0 := hX.1; have s1 := hX.2; go_simp; exact stillUpon_value)
       simp only [Act.put, List.setIfInBounds_toArray, List.set_cons_zero, List.set_cons_succ]))
  refine wpO_eff rfl rfl (fun K hK => ?_)
  simp only [List.getElem_toArray, List.getElem_cons_succ, List.getElem_cons_zero]
  go_simp
  refine (cloneV_any A2 c2 f.results S _ (fr_els H2.out (F0.out.trans F1.out (fun _ _ h => h)) HS.out) (fun k hk => Nat.lt_of_lt_of_le (HSW.out k hk) F1.out.size) HB2.out).mono ?_
  rintro e w2 ⟨B2, d2, rfl, hr2, f2⟩
  have F2 := hid f2
  have R2 := hid hr2
  clear hr2 f2
  refine hK _ _ (fun _ => HX.out _ (F1.out.trans F2.out (fun _ _ h => h))) ?_
  clear hK K
  repeat (first
    | (refine wpO_skip rfl rfl ?_; simp only [List.getElem_toArray, List.getElem_cons_succ, List.getElem_cons_zero, Act.put, List.setIfInBounds_toArray, List.set_cons_zero, List.set_cons_succ])
    | (refine wpO_call rfl rfl ?_; simp only [List.getElem_toArray, List.getElem_cons_succ, List.getElem_cons_zero]; apply Exists.intro; refine ⟨fun X hX => ?_, ?_⟩
       · (have s0 := hX.1; have s1 := hX.2; go_simp; exact stillUpon_value)
       simp only [Act.put, List.setIfInBounds_toArray, List.set_cons_zero, List.set_cons_succ]))
  have GZ := hid ((G1.out.fr F1.out (fun x => x)).fr F2.out (fun x => x))
  have u0 : w2.cell? ⟨w.heap.size + 1, 0, none⟩ = some (.slice none 0 0) := GZ.out.cell 0
  have u1 : w2.cell? ⟨w.heap.size + 1, 1, none⟩ = some (.slice none 0 0) := GZ.out.cell 1
  have u2 : w2.frozen? ⟨w.heap.size + 1, 0, none⟩ = false := GZ.out.frozen 0
  have u3 : w2.frozen? ⟨w.heap.size + 1, 1, none⟩ = false := GZ.out.frozen 1
  refine wpO_eff rfl rfl (fun K hK => ?_)
  simp only [List.getElem_toArray, List.getElem_cons_succ, List.getElem_cons_zero]
  go_simp
  have FZ := hid (((Fr.refl (One (w.heap.size + 1)) w2).setCell ⟨w.heap.size + 1, 0, none⟩ (.slice B1 f.params.length d1) (fun _ => rfl)).setCell ⟨w.heap.size + 1, 1, none⟩ (.slice B2 f.results.length d2) (fun _ => rfl))
  have GY := hid ((GZ.out.set_ 0 (.slice B1 f.params.length d1)).set_ 1 (.slice B2 f.results.length d2))
  generalize (w2.setCell ⟨w.heap.size + 1, 0, none⟩ (.slice B1 f.params.length d1)).setCell ⟨w.heap.size + 1, 1, none⟩ (.slice B2 f.results.length d2) = X at *
  refine hK _ _ (fun h => by simp at h) ?_
  clear hK K
  refine wpO_nil ?_
  have y0 : X.cell? ⟨w.heap.size + 1, 0, none⟩ = some (.slice B1 f.params.length d1) := GY.out.cell 0
  have y1 : X.cell? ⟨w.heap.size + 1, 1, none⟩ = some (.slice B2 f.results.length d2) := GY.out.cell 1
  clear u0 u1 u2 u3
  go_wp2
  have s0 := F0.out.size
  have s1 := F1.out.size
  have s2 := F2.out.size
  obtain ⟨p1, p2, p3⟩ := fresh_els (w := w) R1.out (by show w.heap.size ≤ W.heap.size; omega) ((F2.out.mono (M := One (w.heap.size + 1)) (fun _ _ h => h.elim)).trans FZ.out (fun _ _ h => h)) (fun k h1 _ h => by have h1 : W.heap.size ≤ k := h1; have h : k = w.heap.size + 1 := h; omega)
  obtain ⟨q1, q2, q3⟩ := fresh_els (w := w) R2.out (by omega) FZ.out (fun k h1 _ h => by have h : k = w.heap.size + 1 := h; omega)
  refine bodyPost_ret (v := .agg #[.slice B1 f.params.length d1, .slice B2 f.results.length d2]) (by simp [results, Try.results26, go_sem, y0, y1]) rfl ⟨[.slice B1 f.params.length d1, .slice B2 f.results.length d2], rfl, Fn_mk p1 p2 p3 q1 q2 q3, ?_⟩
  exact F0.out.trans (((F1.out.trans F2.out (fun _ _ h => h)).mono (M := One (w.heap.size + 1)) (fun _ _ h => h.elim)).trans FZ.out (fun _ _ h => h)) (fun i hi h => by have h : i = w.heap.size + 1 := h; omega)
end Go.Proofs.Ythggdemiddjlgaa
