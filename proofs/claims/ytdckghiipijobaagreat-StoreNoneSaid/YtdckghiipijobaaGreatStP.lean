/- Contracts: Elem, Data, Mem, poke. -/
import Derived.Test.YtdckghiipijobaaGreatStO
namespace Go.Proofs.YtdckghiipijobaaGreat
open Go.RowKit

/-- A copy of the list l, and the flag ok. -/
def CopyOk {α : Type} (t : Ty α) (el : TypeId) (l : List α) (ok : Bool) (w : World) (e : Ending) (w' : World) : Prop :=
  ∃ (A : Option Addr) (c : Nat), e = .returned (.tuple #[.slice A l.length c, .bool ok]) ∧ t.row w' w.heap.size Emp el (.slice A l.length c) l ∧ Fr No w w'
theorem row_base {α : Type} {t : Ty α} {w : World} {b b' : Nat} {S : Nat → Prop} {el : TypeId} {v : Value} {l : List α} (h : t.row w b S el v l) (hb : b' ≤ b) : t.row w b' S el v l := by
  obtain ⟨css, h1, h2⟩ := h
  refine ⟨css, h1, h2.1, ?_⟩
  rcases h2.2 with h0 | ⟨g, cap, cur, e, hg, k⟩
  · exact .inl h0
  · exact .inr ⟨g, cap, cur, e, Nat.le_trans hb hg, k⟩
theorem atD_mem {α : Type} {d : α} {l : List α} {i : Int} {p : α → Prop} (hd : p d) (h : ∀ a ∈ l, p a) : p (atD d l i).1 := by
  unfold atD
  split
  · exact h _ (List.getElem_mem _)
  · exact hd
section
variable {w : World} {R : Nat → Prop} {V : Pl} {x : Rx}
set_option maxRecDepth 100000 in
set_option maxHeartbeats 1600000 in
theorem elem_any (h : StIn w R V x) (i : Int) (hn : x.elems.length ≤ 1000000) (hb : ∀ a ∈ x.elems, a.l.length * 8 ≤ 140737488351232) :
    Calls Tryz.prog 51 #[.pointer (some ⟨V.P, 0, none⟩), .int .i64 i] w (CopyOk tU 55 (atD zRs x.elems i).1.l (atD zRs x.elems i).2 w) := by
  obtain ⟨A, c, hv, _, hel⟩ := h.sl_el
  have hcell : w.cell? ⟨V.P, 7, none⟩ = some (.slice A x.elems.length c) := by rw [← hv]; exact h.blk.cell 7
  have HA := hid (atGs_any V.P 7 A c x.elems i (· < w.heap.size) w hcell hel (fun _ h => h) hn)
  have hbl : Hid ((atD zRs x.elems i).1.l.length * 8 ≤ 140737488351232) := atD_mem (p := fun a : Rs => a.l.length * 8 ≤ 140737488351232) (by decide) hb
  clear hb hel hcell hv h
  go_enter Tryz.func51, Tryz.ntmps51
  go_wp2_with fail
  refine HA.out.mono ?_
  rintro e w1 ⟨cs, rfl, hr, f1⟩
  obtain ⟨B, d, rfl, q1, q2, q3⟩ := Rs_cells hr
  have F1 := hid f1
  clear HA hr
  generalize (atD zRs x.elems i).2 = ok at *
  generalize (atD zRs x.elems i).1 = s at *
  have F2 := hid ((F1.out.alloc (.cells #[.slice B s.l.length d, .bool s.gone] 182)))
  have Q := hid (q3.fr ((Fr.refl No w1).alloc (.cells #[.slice B s.l.length d, .bool s.gone] 182)) (fun k hk => ⟨Nat.lt_of_lt_of_le hk F1.out.size, fun x => x⟩))
  go_wp2_with fail
  refine (cloneU_any B d s.l (· < w.heap.size) _ Q.out (fun k hk => Nat.lt_of_lt_of_le hk F2.out.size) hbl.out).mono ?_
  rintro e w2 ⟨B2, d2, rfl, hr2, f2⟩
  have hr3 := row_base (hr2.flat Emp) F2.out.size
  go_wp2
  go_ret2
  exact ⟨B2, d2, rfl, hr3, F2.out.trans f2 (fun _ _ h => h)⟩
set_option maxRecDepth 100000 in
set_option maxHeartbeats 1600000 in
theorem data_any (h : StIn w R V x) (i : Int) (hn : x.datas.length ≤ 1000000) (hb : ∀ a ∈ x.datas, a.b.length * 1 ≤ 140737488351232) :
    Calls Tryz.prog 53 #[.pointer (some ⟨V.P, 0, none⟩), .int .i64 i] w (CopyOk tB 5 (atD zRb x.datas i).1.b (atD zRb x.datas i).2 w) := by
  obtain ⟨A, c, hv, _, hel⟩ := h.sl_da
  have hcell : w.cell? ⟨V.P, 8, none⟩ = some (.slice A x.datas.length c) := by rw [← hv]; exact h.blk.cell 8
  have HA := hid (atGb_any V.P 8 A c x.datas i (· < w.heap.size) w hcell hel (fun _ h => h) hn)
  have hbl : Hid ((atD zRb x.datas i).1.b.length * 1 ≤ 140737488351232) := atD_mem (p := fun a : Rb => a.b.length * 1 ≤ 140737488351232) (by decide) hb
  clear hb hel hcell hv h
  go_enter Tryz.func53, Tryz.ntmps53
  go_wp2_with fail
  refine HA.out.mono ?_
  rintro e w1 ⟨cs, rfl, hr, f1⟩
  obtain ⟨B, d, rfl, q1, q2, q3⟩ := Rb_cells hr
  have F1 := hid f1
  clear HA hr
  generalize (atD zRb x.datas i).2 = ok at *
  generalize (atD zRb x.datas i).1 = s at *
  have F2 := hid ((F1.out.alloc (.cells #[.slice B s.b.length d, .bool s.gone] 184)))
  have Q := hid (q3.fr ((Fr.refl No w1).alloc (.cells #[.slice B s.b.length d, .bool s.gone] 184)) (fun k hk => ⟨Nat.lt_of_lt_of_le hk F1.out.size, fun x => x⟩))
  go_wp2_with fail
  refine (cloneB_any B d s.b (· < w.heap.size) _ Q.out (fun k hk => Nat.lt_of_lt_of_le hk F2.out.size) hbl.out).mono ?_
  rintro e w2 ⟨B2, d2, rfl, hr2, f2⟩
  have hr3 := row_base (hr2.flat Emp) F2.out.size
  go_wp2
  go_ret2
  exact ⟨B2, d2, rfl, hr3, F2.out.trans f2 (fun _ _ h => h)⟩
set_option maxHeartbeats 1600000 in
theorem mem_any (h : StIn w R V x) (i : Int) (hn : x.mems.length ≤ 1000000) :
    Calls Tryz.prog 30 #[.pointer (some ⟨V.P, 0, none⟩), .int .i64 i] w fun e w' => e = .returned (ptrV (getI (V.mp.map (·.1)) i)) ∧ Fr No w w' := by
  obtain ⟨A, c, hv, _, hel⟩ := h.sl_me
  have hcell : w.cell? ⟨V.P, 5, none⟩ = some (.slice A (V.mp.map (·.1)).length c) := by rw [← hv]; exact h.blk.cell 5
  have HA := hid (atPtM_any V.P 5 A c (V.mp.map (·.1)) i (· < w.heap.size) w hcell hel (by simp [h.ml]; exact hn))
  clear hel hcell hv h
  go_enter Tryz.func30, Tryz.ntmps30
  go_wp2_with fail
  refine HA.out.mono ?_
  rintro e w1 ⟨rfl, f1⟩
  have F1 := hid f1
  clear HA f1
  go_wp2
  go_ret
  exact ⟨rfl, F1.out⟩
theorem mem_nil (i : Int) (w : World) : Calls Tryz.prog 30 #[.pointer none, .int .i64 i] w fun e w' => e = .returned (.pointer none) ∧ w = w' := by
  go_enter Tryz.func30, Tryz.ntmps30
  go_wp2
  go_ret
  exact ⟨rfl, rfl⟩
end
end Go.Proofs.YtdckghiipijobaaGreat
