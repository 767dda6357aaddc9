/- Contracts: Act. -/
import Derived.Test.YtdckghiipijobaaGreatShH
import Derived.Test.YtdckghiipijobaaGreatStB
import Derived.IntWalk
namespace Go.Proofs.YtdckghiipijobaaGreat
open Go.RowKit

instance : TyFlat tVl := by unfold tVl tVl0; infer_instance
/-- The act a, as a value whose list lies where it may. -/
def ActTo (a : Ac) (w : World) (e : Ending) (w' : World) : Prop :=
  ∃ (A : Option Addr) (c : Nat), e = .returned (.tuple #[.agg #[.int .i64 a.kind, .slice A a.vals.length c, .int .i64 a.mem, .int .i64 a.at_, .int .u8 a.byte], .bool true]) ∧ a.vals.length ≤ c ∧ tVl.els w' (fun k => w.heap.size ≤ k ∧ k < w'.heap.size) A a.vals ∧ Fr No w w'
/-- The same, the list where the host function has it. -/
def RactTo (a : Ac) (S : Nat → Prop) (w : World) (e : Ending) (w' : World) : Prop :=
  ∃ (A : Option Addr) (c : Nat), e = .returned (.tuple #[.agg #[.int .i64 a.kind, .slice A a.vals.length c, .int .i64 a.mem, .int .i64 a.at_, .int .u8 a.byte], .bool true]) ∧ a.vals.length ≤ c ∧ tVl.els w' S A a.vals ∧ Fr No w w'
def ActNo (w : World) (e : Ending) (w' : World) : Prop :=
  e = .returned (.tuple #[.agg #[.int .i64 0, .slice none 0 0, .int .i64 0, .int .i64 0, .int .u8 0], .bool false]) ∧ Fr No w w'

set_option maxHeartbeats 1600000 in
theorem act_some (h : Ho) (A1 A2 A3 : Option Addr) (c1 c2 c3 : Nat) (S : Nat → Prop) (n : Int) (k : Nat) (w : World) (hS : ∀ k, S k → k < w.heap.size) (ha : tAc.els w S A3 h.acts) (hla : h.acts.length ≤ 140737488351232) (hn : 0 ≤ n) (hn' : n ≤ 9223372036854775807) (hk : k < h.acts.length) (hnk : n.tmod h.acts.length = k) (hv : h.acts[k].vals.length ≤ 500) :
    Calls Tryz.prog 91 #[.agg #[.string h.mod, .string h.name, .slice A1 h.ty.params.length c1, .slice A2 h.ty.results.length c2, .slice A3 h.acts.length c3], .int .i64 n] w (ActTo h.acts[k] w) := by
  obtain ⟨b, o, LA, c, rfl, hb, y0, y1, y2, y3, y4, j0, hc, hcm, hvl, j2, j3, j4⟩ := Ac_at ha k hk
  have e0 : (((h.acts.length : Nat) : Int) == 0) = false := by simp; intro e; simp [e] at hk
  have hl0 : (1 : Int) ≤ h.acts.length := by omega
  generalize h.acts[k] = a at *
  generalize h.acts.length = L at *
  clear ha j0 j2 j3 j4
  have hne : IntKind.i64.wrap (n.tmod (L : Int)) = (k : Int) := by rw [hnk]; exact IntWalk.i64_in _ (by omega)
  have hnm : n % (L : Int) = (k : Int) := by rw [← hnk, Int.tmod_eq_emod_of_nonneg hn]
  have hk0 : (0 : Int) ≤ k := by omega
  have hL0 : ¬ L = 0 := by omega
  have hk1 : (k : Int) < L := by omega
  have F0 := hid (((Fr.refl No w).alloc (.cells #[.string h.mod, .string h.name, .slice A1 h.ty.params.length c1, .slice A2 h.ty.results.length c2, .slice (some ⟨b, o, none⟩) L c3] 108)).alloc (.cells #[.int .i64 0, .slice none 0 0, .int .i64 0, .int .i64 0, .int .u8 0] 110))
  have HB1 := hid ((Blk.new w 108 #[.string h.mod, .string h.name, .slice A1 h.ty.params.length c1, .slice A2 h.ty.results.length c2, .slice (some ⟨b, o, none⟩) L c3]).alloc (.cells #[.int .i64 0, .slice none 0 0, .int .i64 0, .int .i64 0, .int .u8 0] 110))
  have HB2 := hid (Blk.new1 w (.cells #[.string h.mod, .string h.name, .slice A1 h.ty.params.length c1, .slice A2 h.ty.results.length c2, .slice (some ⟨b, o, none⟩) L c3] 108) 110 #[.int .i64 0, .slice none 0 0, .int .i64 0, .int .i64 0, .int .u8 0])
  have HY : Hid (∀ X, Fr No w X → X.cell? ⟨b, o + k * 5, none⟩ = some (.int .i64 a.kind) ∧ X.cell? ⟨b, o + k * 5 + 1, none⟩ = some (.slice LA a.vals.length c) ∧ X.cell? ⟨b, o + k * 5 + 2, none⟩ = some (.int .i64 a.mem) ∧
      X.cell? ⟨b, o + k * 5 + 3, none⟩ = some (.int .i64 a.at_) ∧ X.cell? ⟨b, o + k * 5 + 4, none⟩ = some (.int .u8 a.byte)) := fun X f => by
    have hbW : b < w.heap.size := hS _ hb
    exact ⟨(f.cell (p := ⟨b, _, none⟩) hbW (fun x => x)).trans y0, (f.cell (p := ⟨b, _, none⟩) hbW (fun x => x)).trans y1, (f.cell (p := ⟨b, _, none⟩) hbW (fun x => x)).trans y2, (f.cell (p := ⟨b, _, none⟩) hbW (fun x => x)).trans y3, (f.cell (p := ⟨b, _, none⟩) hbW (fun x => x)).trans y4⟩
  obtain ⟨css, hcs, hrd⟩ := els_flat hvl hS
  have HC := hid hcs
  have HV := hid hrd
  clear hcs hrd
  have HN := hid hnk
  clear y0 y1 y2 y3 y4 hvl
  go_enter Tryz.func91, Tryz.ntmps91
  go_wp2
  generalize hW : (w.alloc (.cells #[.string h.mod, .string h.name, .slice A1 h.ty.params.length c1, .slice A2 h.ty.results.length c2, .slice (some ⟨b, o, none⟩) L c3] 108)).alloc (.cells #[.int .i64 0, .slice none 0 0, .int .i64 0, .int .i64 0, .int .u8 0] 110) = W at *
  have hWs : W.heap.size = w.heap.size + 2 := by rw [← hW]; simp
  clear hW
  have HW := hid hWs
  have hWl : w.heap.size < W.heap.size := by omega
  clear hWs
  have HS : Hid (∀ X, Fr No W X → X.cell? ⟨w.heap.size, 4, none⟩ = some (.slice (some ⟨b, o, none⟩) L c3) ∧ X.cell? ⟨b, o + k * 5, none⟩ = some (.int .i64 a.kind) ∧ X.cell? ⟨b, o + k * 5 + 1, none⟩ = some (.slice LA a.vals.length c) ∧ X.cell? ⟨b, o + k * 5 + 2, none⟩ = some (.int .i64 a.mem) ∧
      X.cell? ⟨b, o + k * 5 + 3, none⟩ = some (.int .i64 a.at_) ∧ X.cell? ⟨b, o + k * 5 + 4, none⟩ = some (.int .u8 a.byte)) := fun X f => ⟨(HB1.out.fr f (fun x => x)).cell 4, HY.out X (F0.out.trans f (fun _ _ h => h))⟩
  refine wp_region_ord (fun X => X.cell? ⟨w.heap.size, 4, none⟩ = some (.slice (some ⟨b, o, none⟩) L c3) ∧ X.cell? ⟨b, o + k * 5, none⟩ = some (.int .i64 a.kind) ∧ X.cell? ⟨b, o + k * 5 + 1, none⟩ = some (.slice LA a.vals.length c) ∧ X.cell? ⟨b, o + k * 5 + 2, none⟩ = some (.int .i64 a.mem) ∧
      X.cell? ⟨b, o + k * 5 + 3, none⟩ = some (.int .i64 a.at_) ∧ X.cell? ⟨b, o + k * 5 + 4, none⟩ = some (.int .u8 a.byte)) [] [(0, true), (1, true), (2, true), (3, true), (4, true), (5, true), (6, true), (7, true), (8, true), (9, false), (10, false)] (by kernel_rfl) (by kernel_rfl) (by kernel_rfl) rfl (HS.out _ (Fr.refl _ _).drew) ?_
  repeat (first
    | (refine wpO_skip rfl rfl ?_; simp only [List.getElem_toArray, List.getElem_cons_succ, List.getElem_cons_zero, Act.put, List.setIfInBounds_toArray, List.set_cons_zero, List.set_cons_succ])
    | (refine wpO_call rfl rfl ?_; simp only [List.getElem_toArray, List.getElem_cons_succ, List.getElem_cons_zero]; apply Exists.intro; refine ⟨fun X hX => ?_, ?_⟩
       · (have s0 := hX.1; have s1 := hX.2.1; have s2 := hX.2.2.1; have s3 := hX.2.2.2.1; have s4 := hX.2.2.2.2.1; have s5 := hX.2.2.2.2.2; go_simp; exact stillUpon_value)
       simp only [Act.put, List.setIfInBounds_toArray, List.set_cons_zero, List.set_cons_succ]))
  refine wpO_eff rfl rfl (fun K hK => ?_)
  simp only [List.getElem_toArray, List.getElem_cons_succ, List.getElem_cons_zero]
  go_simp
  refine hK _ _ (fun _ => HS.out _ ((Fr.refl _ _).drew.alloc _)) ?_
  clear hK K
  refine wpO_eff rfl rfl (fun K hK => ?_)
  simp only [List.getElem_toArray, List.getElem_cons_succ, List.getElem_cons_zero]
  go_simp
  refine hK _ _ (fun _ => HS.out _ (((Fr.refl _ _).alloc _).drew)) ?_
  clear hK K
  refine wpO_nil ?_
  have GA := hid (Blk.new W 110 #[.int .i64 a.kind, .slice LA a.vals.length c, .int .i64 a.mem, .int .i64 a.at_, .int .u8 a.byte]).drew
  have FA := hid ((F0.out.alloc (.cells #[.int .i64 a.kind, .slice LA a.vals.length c, .int .i64 a.mem, .int .i64 a.at_, .int .u8 a.byte] 110)).drew)
  have HB3 := hid (HB2.out.alloc (.cells #[.int .i64 a.kind, .slice LA a.vals.length c, .int .i64 a.mem, .int .i64 a.at_, .int .u8 a.byte] 110)).drew
  have hXs : W.heap.size < (W.alloc (.cells #[.int .i64 a.kind, .slice LA a.vals.length c, .int .i64 a.mem, .int .i64 a.at_, .int .u8 a.byte] 110)).drew.heap.size := GA.out.lt
  generalize (W.alloc (.cells #[.int .i64 a.kind, .slice LA a.vals.length c, .int .i64 a.mem, .int .i64 a.at_, .int .u8 a.byte] 110)).drew = X at *
  obtain ⟨x0, x1, x2, x3, x4⟩ : X.cell? ⟨W.heap.size, 0, none⟩ = some (.int .i64 a.kind) ∧ X.cell? ⟨W.heap.size, 1, none⟩ = some (.slice LA a.vals.length c) ∧ X.cell? ⟨W.heap.size, 2, none⟩ = some (.int .i64 a.mem) ∧ X.cell? ⟨W.heap.size, 3, none⟩ = some (.int .i64 a.at_) ∧ X.cell? ⟨W.heap.size, 4, none⟩ = some (.int .u8 a.byte) := ⟨GA.out.cell 0, GA.out.cell 1, GA.out.cell 2, GA.out.cell 3, GA.out.cell 4⟩
  clear HS HY HB1
  go_wp2_with (at_builtin; refine wpList_appC (t := tVl) (base := X.heap.size) (S := Emp) (xs := []) (ys := a.vals) (dss := css) (B2 := w.heap.size) elVl rfl rfl rfl rfl (Ty.row.nil _ _ _ _) (HC.out _ _) (HV.out.frNo FA.out) rfl ?h1 ?h2 (fun _ h => h.elim) (Nat.le_refl _) ?_)
  case h1 => simp; omega
  case h2 => simp; omega
  intro v' w1 hr fr hv'
  have G1 := hid (GA.out.fr fr (fun x => by simp [Value.ownBlock] at x))
  have G2 := hid (HB3.out.fr fr (fun x => by simp [Value.ownBlock] at x))
  have R1 := hid hr
  have F1 := hid (FA.out.trans (fr.mono (M := No) (fun _ _ h => by simp [Value.ownBlock] at h)) (fun _ _ h => h))
  have hqX : ∀ q, v'.ownBlock = some q → X.heap.size ≤ q := fun q hq => by
    rcases hv' with h | h
    · rw [h] at hq; simp [Value.ownBlock] at hq
    · rw [h] at hq; injection hq with hq; omega
  have HQ := hid hqX
  have hXw := fr.size
  clear hr fr hv' hqX GA HB3 x0 x1 x2 x3 x4 FA
  obtain ⟨z0, z2, z3, z4⟩ : w1.cell? ⟨W.heap.size, 0, none⟩ = some (.int .i64 a.kind) ∧ w1.cell? ⟨W.heap.size, 2, none⟩ = some (.int .i64 a.mem) ∧ w1.cell? ⟨W.heap.size, 3, none⟩ = some (.int .i64 a.at_) ∧ w1.cell? ⟨W.heap.size, 4, none⟩ = some (.int .u8 a.byte) := ⟨G1.out.cell 0, G1.out.cell 2, G1.out.cell 3, G1.out.cell 4⟩
  have z1 : w1.cell? ⟨W.heap.size, 1, none⟩ = some (.slice LA a.vals.length c) := G1.out.cell 1
  have zf : w1.frozen? ⟨W.heap.size, 1, none⟩ = false := G1.out.frozen 1
  have y0 : w1.cell? ⟨w.heap.size + 1, 0, none⟩ = some (.int .i64 0) := G2.out.cell 0
  have y1 : w1.cell? ⟨w.heap.size + 1, 1, none⟩ = some (.slice none 0 0) := G2.out.cell 1
  have y2 : w1.cell? ⟨w.heap.size + 1, 2, none⟩ = some (.int .i64 0) := G2.out.cell 2
  have y3 : w1.cell? ⟨w.heap.size + 1, 3, none⟩ = some (.int .i64 0) := G2.out.cell 3
  have y4 : w1.cell? ⟨w.heap.size + 1, 4, none⟩ = some (.int .u8 0) := G2.out.cell 4
  have f0 : w1.frozen? ⟨w.heap.size + 1, 0, none⟩ = false := G2.out.frozen 0
  have f1 : w1.frozen? ⟨w.heap.size + 1, 1, none⟩ = false := G2.out.frozen 1
  have f2 : w1.frozen? ⟨w.heap.size + 1, 2, none⟩ = false := G2.out.frozen 2
  have f3 : w1.frozen? ⟨w.heap.size + 1, 3, none⟩ = false := G2.out.frozen 3
  have f4 : w1.frozen? ⟨w.heap.size + 1, 4, none⟩ = false := G2.out.frozen 4
  obtain ⟨A', c', rfl, hc1, hc2, _⟩ := R1.out.els (S' := fun _ => True) (fun _ _ => trivial) (fun _ _ => trivial)
  have d1 : ¬ W.heap.size = w.heap.size + 1 := by have := HW.out; omega
  have d2 : ¬ w.heap.size + 1 = W.heap.size := by have := HW.out; omega
  go_wp2
  have FZ := ((((((Fr.refl (Two W.heap.size (w.heap.size + 1)) w1).setCell ⟨W.heap.size, 1, none⟩ (.slice A' a.vals.length c') (fun _ => .inl rfl)).setCell ⟨w.heap.size + 1, 0, none⟩ (.int .i64 a.kind) (fun _ => .inr rfl)).setCell ⟨w.heap.size + 1, 1, none⟩ (.slice A' a.vals.length c') (fun _ => .inr rfl)).setCell ⟨w.heap.size + 1, 2, none⟩ (.int .i64 a.mem) (fun _ => .inr rfl)).setCell ⟨w.heap.size + 1, 3, none⟩ (.int .i64 a.at_) (fun _ => .inr rfl)).setCell ⟨w.heap.size + 1, 4, none⟩ (.int .u8 a.byte) (fun _ => .inr rfl)
  have hW2 := HW.out
  refine bodyPost_ret (v := .tuple #[.agg #[.int .i64 a.kind, .slice A' a.vals.length c', .int .i64 a.mem, .int .i64 a.at_, .int .u8 a.byte], .bool true]) (by simp [results, Tryz.results91, go_sem, y0, y1, y2, y3, y4]) rfl ⟨A', c', rfl, hc1, ?_, ?_⟩
  · refine (R1.out.fr FZ (fun _ h => h.elim) (fun q hq h => ?_)).els' (fun _ h => h.elim) (fun g hg => ?_)
    · have := HQ.out q hq
      rcases h with h | h <;> omega
    · obtain ⟨h1, cs, h2⟩ := R1.out.own hg
      have := h2.lt
      have := FZ.size
      exact ⟨by omega, by omega⟩
  · refine F1.out.trans FZ (fun i hi h => ?_)
    rcases h with h | h <;> omega
end Go.Proofs.YtdckghiipijobaaGreat
