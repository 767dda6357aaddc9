/- Contracts: Call. -/
import Derived.Test.YtdckghiipijobaaGreatStR
namespace Go.Proofs.YtdckghiipijobaaGreat
open Go.RowKit

section
variable {w : World} {R : Nat → Prop} {V : Pl} {x : Rx}
theorem CallTo.no {w w' : World} {R : Nat → Prop} {V : Pl} {x : Rx} {t : Int} (h : StIn w R V x) (f : Fr No w w') : CallTo R V (x, [], t) w (.returned (.tuple #[.slice none 0 0, .int .i64 t])) w' :=
  ⟨V, R, none, 0, rfl, h.frNo f, Grown.of_no f, Nat.le_refl _, .inl rfl⟩
set_option maxRecDepth 100000 in
set_option maxHeartbeats 3200000 in
theorem call_out (h : StIn w R V x) (hok : StOk x) (i : Int) (args : List Vl) (A : Option Addr) (c : Nat) (hi : i < 0 ∨ (x.hosts.length : Int) ≤ i) :
    Calls Tryz.prog 28 #[.pointer (some ⟨V.P, 0, none⟩), .int .i64 i, .slice A args.length c] w (CallTo R V (callS x i args) w) := by
  have hcs : callS x i args = (x, [], 12) := by unfold callS; rw [getI_no hi]
  rw [hcs]
  clear hcs
  obtain ⟨Ah, ch, hv, _, hel⟩ := h.sl_ho
  have hcell : w.cell? ⟨V.P, 0, none⟩ = some (.slice Ah x.hosts.length ch) := by rw [← hv]; exact h.blk.cell 0
  have H := hid h
  have hl := hok.hl
  clear h hv hel hok
  by_cases h0 : i < 0
  · have hd : decide (i < 0) = true := by simpa using h0
    clear hi
    go_enter Tryz.func28, Tryz.ntmps28
    go_wp2
    go_ret2
    exact CallTo.no H.out (Fr.refl _ _)
  · have h1 : (x.hosts.length : Int) ≤ i := by omega
    clear hi
    go_enter Tryz.func28, Tryz.ntmps28
    go_wp2
    go_ret2
    exact CallTo.no H.out (Fr.refl _ _)
set_option maxRecDepth 100000 in
set_option maxHeartbeats 3200000 in
theorem call_unfit (h : StIn w R V x) (hok : StOk x) (k : Nat) (args : List Vl) (A : Option Addr) (c : Nat) (hk : k < x.hosts.length) (S : Nat → Prop) (hS : ∀ k, S k → k < w.heap.size) (ha : tVl.els w S A args) (hl2 : args.length ≤ 140737488351232) (hf : fitB args x.hosts[k].ty.params = false) :
    Calls Tryz.prog 28 #[.pointer (some ⟨V.P, 0, none⟩), .int .i64 k, .slice A args.length c] w (CallTo R V (callS x k args) w) := by
  have hcs : callS x k args = (x, [], 12) := by unfold callS; rw [getI_yes hk]; simp [hf]
  rw [hcs]
  clear hcs
  obtain ⟨Ah, ch, hv, _, hel⟩ := h.sl_ho
  have hcell : w.cell? ⟨V.P, 0, none⟩ = some (.slice Ah x.hosts.length ch) := by rw [← hv]; exact h.blk.cell 0
  have HG := hid (hoB_good (hok.ho _ (List.getElem_mem hk)))
  obtain ⟨b, o, A1, c1, A2, c2, A3, c3, rfl, hbS, y0, y1, y2, y3, y4, m1, m2, p1, p2, p3, q1, q2, q3, r1, r2, r3⟩ := Ho_at hel k hk
  have H := hid h
  have hl := hok.hl
  have i0 : (0 : Int) ≤ k := by omega
  have i1 : (k : Int) < x.hosts.length := by omega
  have HF := hid (vfit_any A A1 args x.hosts[k].ty.params c c1 w.heap.size w.heap.size w (Nat.le_refl _) (Nat.le_refl _) (ha.more hS) p3 hl2 (by have := HG.out.p; omega))
  rw [hf] at HF
  clear h hv hel hok ha hf m1 m2 p1 p2 p3 q1 q2 q3 r1 r2 r3 y0 y1 y3 y4
  generalize x.hosts[k] = hx at *
  go_enter Tryz.func28, Tryz.ntmps28
  go_wp2_with (go_at_call 89; refine HF.out.mono ?_; rintro e w1 ⟨rfl, f1⟩; have F1 := hid f1; clear f1)
  go_ret2
  exact CallTo.no H.out F1.out
end
end Go.Proofs.YtdckghiipijobaaGreat
