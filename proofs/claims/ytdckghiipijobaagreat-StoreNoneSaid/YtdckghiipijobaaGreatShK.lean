/- Contracts: the reference's Act; Act without acts. -/
import Derived.Test.YtdckghiipijobaaGreatShJ
namespace Go.Proofs.YtdckghiipijobaaGreat
open Go.RowKit

set_option maxHeartbeats 1600000 in
theorem ract_some (h : Ho) (A1 A2 A3 : Option Addr) (c1 c2 c3 : Nat) (S : Nat → Prop) (n : Int) (k : Nat) (w : World) (hS : ∀ k, S k → k < w.heap.size) (ha : tAc.els w S A3 h.acts) (hla : h.acts.length ≤ 140737488351232) (hn : 0 ≤ n) (hn' : n ≤ 9223372036854775807) (hk : k < h.acts.length) (hnk : n.tmod h.acts.length = k) (hv : h.acts[k].vals.length ≤ 500) :
    Calls Tryz.prog 128 #[.agg #[.string h.mod, .string h.name, .slice A1 h.ty.params.length c1, .slice A2 h.ty.results.length c2, .slice A3 h.acts.length c3], .int .i64 n] w (RactTo h.acts[k] S w) := by
  obtain ⟨b, o, LA, c, rfl, hb, y0, y1, y2, y3, y4, j0, hc, hcm, hvl, j2, j3, j4⟩ := Ac_at ha k hk
  have e0 : (((h.acts.length : Nat) : Int) == 0) = false := by simp; intro e; simp [e] at hk
  have hl0 : (1 : Int) ≤ h.acts.length := by omega
  generalize h.acts[k] = a at *
  generalize h.acts.length = L at *
  clear ha j0 j2 j3 j4
  have hne : IntKind.i64.wrap (n.tmod (L : Int)) = (k : Int) := by rw [hnk]; exact IntWalk.i64_in _ (by omega)
  have hnm : n % (L : Int) = (k : Int) := by rw [← hnk, Int.tmod_eq_emod_of_nonneg hn]
  have hk0 : (0 : Int) ≤ k := by omega
  have hL0 : ¬ L = 0 := by omega
  have hk1 : (k : Int) < L := by omega
  have F0 := hid (((Fr.refl No w).alloc (.cells #[.string h.mod, .string h.name, .slice A1 h.ty.params.length c1, .slice A2 h.ty.results.length c2, .slice (some ⟨b, o, none⟩) L c3] 108)).alloc (.cells #[.int .i64 0, .slice none 0 0, .int .i64 0, .int .i64 0, .int .u8 0] 110))
  have HB1 := hid ((Blk.new w 108 #[.string h.mod, .string h.name, .slice A1 h.ty.params.length c1, .slice A2 h.ty.results.length c2, .slice (some ⟨b, o, none⟩) L c3]).alloc (.cells #[.int .i64 0, .slice none 0 0, .int .i64 0, .int .i64 0, .int .u8 0] 110))
  have HB2 := hid (Blk.new1 w (.cells #[.string h.mod, .string h.name, .slice A1 h.ty.params.length c1, .slice A2 h.ty.results.length c2, .slice (some ⟨b, o, none⟩) L c3] 108) 110 #[.int .i64 0, .slice none 0 0, .int .i64 0, .int .i64 0, .int .u8 0])
  have HY : Hid (∀ X, Fr No w X → X.cell? ⟨b, o + k * 5, none⟩ = some (.int .i64 a.kind) ∧ X.cell? ⟨b, o + k * 5 + 1, none⟩ = some (.slice LA a.vals.length c) ∧ X.cell? ⟨b, o + k * 5 + 2, none⟩ = some (.int .i64 a.mem) ∧
      X.cell? ⟨b, o + k * 5 + 3, none⟩ = some (.int .i64 a.at_) ∧ X.cell? ⟨b, o + k * 5 + 4, none⟩ = some (.int .u8 a.byte)) := fun X f => by
    have hbW : b < w.heap.size := hS _ hb
    exact ⟨(f.cell (p := ⟨b, _, none⟩) hbW (fun x => x)).trans y0, (f.cell (p := ⟨b, _, none⟩) hbW (fun x => x)).trans y1, (f.cell (p := ⟨b, _, none⟩) hbW (fun x => x)).trans y2, (f.cell (p := ⟨b, _, none⟩) hbW (fun x => x)).trans y3, (f.cell (p := ⟨b, _, none⟩) hbW (fun x => x)).trans y4⟩
  have HV := hid hvl
  have HN := hid hnk
  clear y0 y1 y2 y3 y4 hvl
  go_enter Tryz.func128, Tryz.ntmps128
  go_wp2
  generalize hW : (w.alloc (.cells #[.string h.mod, .string h.name, .slice A1 h.ty.params.length c1, .slice A2 h.ty.results.length c2, .slice (some ⟨b, o, none⟩) L c3] 108)).alloc (.cells #[.int .i64 0, .slice none 0 0, .int .i64 0, .int .i64 0, .int .u8 0] 110) = W at *
  have hWs : W.heap.size = w.heap.size + 2 := by rw [← hW]; simp
  clear hW
  have HW := hid hWs
  have hWl : w.heap.size < W.heap.size := by omega
  clear hWs
  obtain ⟨u0, u1, u2, u3, u4⟩ : W.cell? ⟨w.heap.size + 1, 0, none⟩ = some (.int .i64 0) ∧ W.cell? ⟨w.heap.size + 1, 1, none⟩ = some (.slice none 0 0) ∧ W.cell? ⟨w.heap.size + 1, 2, none⟩ = some (.int .i64 0) ∧ W.cell? ⟨w.heap.size + 1, 3, none⟩ = some (.int .i64 0) ∧ W.cell? ⟨w.heap.size + 1, 4, none⟩ = some (.int .u8 0) := ⟨HB2.out.cell 0, HB2.out.cell 1, HB2.out.cell 2, HB2.out.cell 3, HB2.out.cell 4⟩
  have f0 : W.frozen? ⟨w.heap.size + 1, 0, none⟩ = false := HB2.out.frozen 0
  have f1 : W.frozen? ⟨w.heap.size + 1, 1, none⟩ = false := HB2.out.frozen 1
  have f2 : W.frozen? ⟨w.heap.size + 1, 2, none⟩ = false := HB2.out.frozen 2
  have f3 : W.frozen? ⟨w.heap.size + 1, 3, none⟩ = false := HB2.out.frozen 3
  have f4 : W.frozen? ⟨w.heap.size + 1, 4, none⟩ = false := HB2.out.frozen 4
  have HS : Hid (∀ X, Fr (One (w.heap.size + 1)) W X → X.cell? ⟨w.heap.size, 4, none⟩ = some (.slice (some ⟨b, o, none⟩) L c3) ∧ X.cell? ⟨b, o + k * 5, none⟩ = some (.int .i64 a.kind) ∧ X.cell? ⟨b, o + k * 5 + 1, none⟩ = some (.slice LA a.vals.length c) ∧ X.cell? ⟨b, o + k * 5 + 2, none⟩ = some (.int .i64 a.mem) ∧
      X.cell? ⟨b, o + k * 5 + 3, none⟩ = some (.int .i64 a.at_) ∧ X.cell? ⟨b, o + k * 5 + 4, none⟩ = some (.int .u8 a.byte)) := fun X f => ⟨(HB1.out.fr f (fun x => by simp [One] at x)).cell 4, HY.out X (F0.out.trans f (fun i hi h => by simp only [One] at h; omega))⟩
  refine wp_region_ord (fun X => X.cell? ⟨w.heap.size, 4, none⟩ = some (.slice (some ⟨b, o, none⟩) L c3) ∧ X.cell? ⟨b, o + k * 5, none⟩ = some (.int .i64 a.kind) ∧ X.cell? ⟨b, o + k * 5 + 1, none⟩ = some (.slice LA a.vals.length c) ∧ X.cell? ⟨b, o + k * 5 + 2, none⟩ = some (.int .i64 a.mem) ∧
      X.cell? ⟨b, o + k * 5 + 3, none⟩ = some (.int .i64 a.at_) ∧ X.cell? ⟨b, o + k * 5 + 4, none⟩ = some (.int .u8 a.byte)) [] [(0, true), (1, true), (2, true), (3, true), (4, true), (5, true), (6, true), (7, true), (8, true), (9, false), (10, true)] (by kernel_rfl) (by kernel_rfl) (by kernel_rfl) rfl (HS.out _ (Fr.refl _ _).drew) ?_
  repeat (first
    | (refine wpO_skip rfl rfl ?_; simp only [List.getElem_toArray, List.getElem_cons_succ, List.getElem_cons_zero, Act.put, List.setIfInBounds_toArray, List.set_cons_zero, List.set_cons_succ])
    | (refine wpO_call rfl rfl ?_; simp only [List.getElem_toArray, List.getElem_cons_succ, List.getElem_cons_zero]; apply Exists.intro; refine ⟨fun X hX => ?_, ?_⟩
       · (have s0 := hX.1; have s1 := hX.2.1; have s2 := hX.2.2.1; have s3 := hX.2.2.2.1; have s4 := hX.2.2.2.2.1; have s5 := hX.2.2.2.2.2; go_simp; exact stillUpon_value)
       simp only [Act.put, List.setIfInBounds_toArray, List.set_cons_zero, List.set_cons_succ]))
  refine wpO_eff rfl rfl (fun K hK => ?_)
  simp only [List.getElem_toArray, List.getElem_cons_succ, List.getElem_cons_zero]
  go_simp
  have FZ := hid ((((((Fr.refl (One (w.heap.size + 1)) W).setCell ⟨w.heap.size + 1, 0, none⟩ (.int .i64 a.kind) (fun _ => rfl)).setCell ⟨w.heap.size + 1, 1, none⟩ (.slice LA a.vals.length c) (fun _ => rfl)).setCell ⟨w.heap.size + 1, 2, none⟩ (.int .i64 a.mem) (fun _ => rfl)).setCell ⟨w.heap.size + 1, 3, none⟩ (.int .i64 a.at_) (fun _ => rfl)).setCell ⟨w.heap.size + 1, 4, none⟩ (.int .u8 a.byte) (fun _ => rfl)).drew
  refine hK _ _ (fun _ => HS.out _ FZ.out) ?_
  clear hK K
  have FT := hid (F0.out.trans FZ.out (fun i hi h => by simp only [One] at h; omega))
  have HZ := hid (((((HB2.out.set_ 0 (.int .i64 a.kind)).set_ 1 (.slice LA a.vals.length c)).set_ 2 (.int .i64 a.mem)).set_ 3 (.int .i64 a.at_)).set_ 4 (.int .u8 a.byte)).drew
  clear u0 u1 u2 u3 u4 f0 f1 f2 f3 f4 HS FZ
  generalize (((((W.setCell ⟨w.heap.size + 1, 0, none⟩ (.int .i64 a.kind)).setCell ⟨w.heap.size + 1, 1, none⟩ (.slice LA a.vals.length c)).setCell ⟨w.heap.size + 1, 2, none⟩ (.int .i64 a.mem)).setCell ⟨w.heap.size + 1, 3, none⟩ (.int .i64 a.at_)).setCell ⟨w.heap.size + 1, 4, none⟩ (.int .u8 a.byte)).drew = X at *
  repeat (first
    | (refine wpO_skip rfl rfl ?_; simp only [List.getElem_toArray, List.getElem_cons_succ, List.getElem_cons_zero, Act.put, List.setIfInBounds_toArray, List.set_cons_zero, List.set_cons_succ])
    | (refine wpO_call rfl rfl ?_; simp only [List.getElem_toArray, List.getElem_cons_succ, List.getElem_cons_zero]; apply Exists.intro; refine ⟨fun X hX => ?_, ?_⟩
       · (have s0 := hX.1; have s1 := hX.2.1; have s2 := hX.2.2.1; have s3 := hX.2.2.2.1; have s4 := hX.2.2.2.2.1; have s5 := hX.2.2.2.2.2; go_simp; exact stillUpon_value)
       simp only [Act.put, List.setIfInBounds_toArray, List.set_cons_zero, List.set_cons_succ]))
  refine wpO_nil ?_
  go_wp2
  have y0 : X.cell? ⟨w.heap.size + 1, 0, none⟩ = some (.int .i64 a.kind) := HZ.out.cell 0
  have y1 : X.cell? ⟨w.heap.size + 1, 1, none⟩ = some (.slice LA a.vals.length c) := HZ.out.cell 1
  have y2 : X.cell? ⟨w.heap.size + 1, 2, none⟩ = some (.int .i64 a.mem) := HZ.out.cell 2
  have y3 : X.cell? ⟨w.heap.size + 1, 3, none⟩ = some (.int .i64 a.at_) := HZ.out.cell 3
  have y4 : X.cell? ⟨w.heap.size + 1, 4, none⟩ = some (.int .u8 a.byte) := HZ.out.cell 4
  refine bodyPost_ret (v := .tuple #[.agg #[.int .i64 a.kind, .slice LA a.vals.length c, .int .i64 a.mem, .int .i64 a.at_, .int .u8 a.byte], .bool true]) (by simp [results, Tryz.results128, go_sem, y0, y1, y2, y3, y4]) rfl ⟨LA, c, rfl, hc, ?_, FT.out⟩
  exact HV.out.fr FT.out (fun k hk => ⟨hS k hk, fun x => x⟩)

set_option maxHeartbeats 800000 in
theorem act_none (h : Ho) (A1 A2 A3 : Option Addr) (c1 c2 c3 : Nat) (n : Int) (w : World) (hn : n < 0 ∨ h.acts.length = 0) :
    Calls Tryz.prog 91 #[.agg #[.string h.mod, .string h.name, .slice A1 h.ty.params.length c1, .slice A2 h.ty.results.length c2, .slice A3 h.acts.length c3], .int .i64 n] w (ActNo w) := by
  by_cases h0 : n < 0
  · go_enter Tryz.func91, Tryz.ntmps91
    go_wp2
    refine bodyPost_ret (v := .tuple #[.agg #[.int .i64 0, .slice none 0 0, .int .i64 0, .int .i64 0, .int .u8 0], .bool false]) (by simp [results, Tryz.results91, go_sem]) rfl ⟨rfl, ?_⟩
    exact ((Fr.refl No w).alloc _).alloc _
  · have h1 : h.acts.length = 0 := by omega
    have e0 : (((h.acts.length : Nat) : Int) == 0) = true := by simp [h1]
    clear hn h1
    go_enter Tryz.func91, Tryz.ntmps91
    go_wp2
    refine bodyPost_ret (v := .tuple #[.agg #[.int .i64 0, .slice none 0 0, .int .i64 0, .int .i64 0, .int .u8 0], .bool false]) (by simp [results, Tryz.results91, go_sem]) rfl ⟨rfl, ?_⟩
    exact ((Fr.refl No w).alloc _).alloc _

set_option maxHeartbeats 800000 in
theorem ract_none (h : Ho) (A1 A2 A3 : Option Addr) (c1 c2 c3 : Nat) (n : Int) (w : World) (hn : n < 0 ∨ h.acts.length = 0) :
    Calls Tryz.prog 128 #[.agg #[.string h.mod, .string h.name, .slice A1 h.ty.params.length c1, .slice A2 h.ty.results.length c2, .slice A3 h.acts.length c3], .int .i64 n] w (ActNo w) := by
  by_cases h0 : n < 0
  · go_enter Tryz.func128, Tryz.ntmps128
    go_wp2
    refine bodyPost_ret (v := .tuple #[.agg #[.int .i64 0, .slice none 0 0, .int .i64 0, .int .i64 0, .int .u8 0], .bool false]) (by simp [results, Tryz.results128, go_sem]) rfl ⟨rfl, ?_⟩
    exact ((Fr.refl No w).alloc _).alloc _
  · have h1 : h.acts.length = 0 := by omega
    have e0 : (((h.acts.length : Nat) : Int) == 0) = true := by simp [h1]
    clear hn h1
    go_enter Tryz.func128, Tryz.ntmps128
    go_wp2
    refine bodyPost_ret (v := .tuple #[.agg #[.int .i64 0, .slice none 0 0, .int .i64 0, .int .i64 0, .int .u8 0], .bool false]) (by simp [results, Tryz.results128, go_sem]) rfl ⟨rfl, ?_⟩
    exact ((Fr.refl No w).alloc _).alloc _
end Go.Proofs.YtdckghiipijobaaGreat
