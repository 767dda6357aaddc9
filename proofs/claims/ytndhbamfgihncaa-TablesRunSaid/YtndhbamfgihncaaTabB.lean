/- Contracts of the methods of a table. -/
import Derived.Test.YtndhbamfgihncaaTabA
namespace Go.Proofs.Ytndhbamfgihncaa
open Go.RowKit

structure TabAt (w : World) (p q c : Nat) (e mn mx : Int) (h : Bool) (xs : List Int) : Prop where
  ne : p ≠ q
  blk : Blk w p 60 #[.int .i64 e, .int .i64 mn, .int .i64 mx, .bool h, .slice (some ⟨q, 0, none⟩) xs.length c, .bool true]
  own : Own w q 23 c (Us xs)
  len : xs.length ≤ 1024
  lim : h = true → 0 ≤ mx ∧ mx ≤ 1024

section
variable {M : Nat → Prop} {w w' : World} {p q c : Nat} {e mn mx : Int} {h : Bool} {xs : List Int}
theorem TabAt.fr (t : TabAt w p q c e mn mx h xs) (f : Fr M w w') (h1 : ¬ M p) (h2 : ¬ M q) : TabAt w' p q c e mn mx h xs :=
  ⟨t.ne, t.blk.fr f h1, t.own.fr f h2, t.len, t.lim⟩
theorem TabAt.c0 (t : TabAt w p q c e mn mx h xs) : w.cell? ⟨p, 0, none⟩ = some (.int .i64 e) := by rw [t.blk.cell]; rfl
theorem TabAt.c1 (t : TabAt w p q c e mn mx h xs) : w.cell? ⟨p, 1, none⟩ = some (.int .i64 mn) := by rw [t.blk.cell]; rfl
theorem TabAt.c2 (t : TabAt w p q c e mn mx h xs) : w.cell? ⟨p, 2, none⟩ = some (.int .i64 mx) := by rw [t.blk.cell]; rfl
theorem TabAt.c3 (t : TabAt w p q c e mn mx h xs) : w.cell? ⟨p, 3, none⟩ = some (.bool h) := by rw [t.blk.cell]; rfl
theorem TabAt.c4 (t : TabAt w p q c e mn mx h xs) : w.cell? ⟨p, 4, none⟩ = some (.slice (some ⟨q, 0, none⟩) xs.length c) := by rw [t.blk.cell]; rfl
theorem TabAt.c5 (t : TabAt w p q c e mn mx h xs) : w.cell? ⟨p, 5, none⟩ = some (.bool true) := by rw [t.blk.cell]; rfl
theorem TabAt.fz (t : TabAt w p q c e mn mx h xs) : w.frozen? ⟨p, 4, none⟩ = false := t.blk.frozen 4
theorem TabAt.drewN (t : TabAt w p q c e mn mx h xs) (n : Nat) : TabAt (w.drewN n) p q c e mn mx h xs := t.fr (M := No) ((Fr.refl _ _).drewN n) (fun x => x) (fun x => x)
theorem TabAt.cap (t : TabAt w p q c e mn mx h xs) : xs.length ≤ c := by obtain ⟨_, _, h, _⟩ := t.own.cur; simpa using h
end

theorem tabB_lim {e mn mx : Int} {h : Bool} (hk : tabB e mn mx h = true) : 0 ≤ mn ∧ mn ≤ 1024 ∧ (h = true → mn ≤ mx ∧ mx ≤ 1024) := by
  simp only [tabB, limB, Bool.and_eq_true] at hk
  obtain ⟨_, hk⟩ := hk
  split at hk
  · cases hk
  · refine ⟨by omega, by omega, fun hh => ?_⟩
    subst hh
    simpa using hk

def NewYes (e mn mx : Int) (h : Bool) (w : World) (e' : Ending) (w' : World) : Prop :=
  ∃ p q, e' = .returned (.pointer (some ⟨p, 0, none⟩)) ∧ TabAt w' p q mn.toNat e mn mx h (List.replicate mn.toNat 0) ∧ w.heap.size ≤ p ∧ w.heap.size ≤ q ∧ Fr No w w'

set_option maxHeartbeats 400000 in
theorem new_no (e mn mx : Int) (h : Bool) (w : World) (hk : tabB e mn mx h = false) :
    Calls Try.prog 14 #[.agg #[.int .i64 e, .int .i64 mn, .int .i64 mx, .bool h]] w fun e' w' => e' = .returned (.pointer none) ∧ Fr No w w' := by
  go_enter Try.func14, Try.ntmps14
  go_wp2_with (first
   | (go_at_call 29; refine (table_any _ _ _ _ _).mono ?_; rintro e w' ⟨rfl, hb⟩))
  go_ret
  exact ⟨rfl, ((Fr.refl No w).alloc _).trans (Fr.of_below (M := No) hb) (fun _ _ x => x)⟩

set_option maxHeartbeats 400000 in
theorem new_yes (e mn mx : Int) (h : Bool) (w : World) (hk : tabB e mn mx h = true) :
    Calls Try.prog 14 #[.agg #[.int .i64 e, .int .i64 mn, .int .i64 mx, .bool h]] w (NewYes e mn mx h w) := by
  obtain ⟨h0, h1, h2⟩ := tabB_lim hk
  obtain ⟨n, rfl⟩ := Int.eq_ofNat_of_zero_le h0
  have hmk := fun (W : World) => run_mk u64s rfl W .i64 .i64 n (by omega) (by omega)
  have hh : Hid (h = true → (n : Int) ≤ mx ∧ mx ≤ 1024) := h2
  clear h2
  go_enter Try.func14, Try.ntmps14
  go_wp2_with (first
   | (go_at_call 29; refine (table_any _ _ _ _ _).mono ?_; rintro e w' ⟨rfl, hb⟩; obtain ⟨hc, hf⟩ := bcell hb))
  have c0 : w'.cell? ⟨w.heap.size, 0, none⟩ = some (.int .i64 e) := by rw [hc _ _ (by simp)]; go_simp
  have c1 : w'.cell? ⟨w.heap.size, 1, none⟩ = some (.int .i64 n) := by rw [hc _ _ (by simp)]; go_simp
  have c2 : w'.cell? ⟨w.heap.size, 2, none⟩ = some (.int .i64 mx) := by rw [hc _ _ (by simp)]; go_simp
  have c3 : w'.cell? ⟨w.heap.size, 3, none⟩ = some (.bool h) := by rw [hc _ _ (by simp)]; go_simp
  clear hc hf
  go_region_held3 (fun W => W.cell? ⟨w.heap.size, 0, none⟩ = some (.int .i64 e) ∧ W.cell? ⟨w.heap.size, 1, none⟩ = some (.int .i64 n) ∧ W.cell? ⟨w.heap.size, 2, none⟩ = some (.int .i64 mx) ∧ W.cell? ⟨w.heap.size, 3, none⟩ = some (.bool h)) (go_keep) (fail)
  go_wp2
  go_ret
  refine ⟨w'.heap.size + 1, w'.heap.size, rfl, ⟨by omega, ?_, ?_, by simp; omega, fun hh' => ?_⟩, ?_, ?_, ?_⟩
  · have := (Blk.new1 w' (Obj.cells (Array.replicate n (Value.int IntKind.u64 0)) 23) 60 #[Value.int IntKind.i64 e, Value.int IntKind.i64 ↑n, Value.int IntKind.i64 mx, Value.bool h, Value.slice (some { block := w'.heap.size, off := 0 }) n n, Value.bool true]).drew
    simpa using this
  · have := (own_mk w' 23 (.int .u64 0) n (by omega)).fr (((Fr.refl No _).alloc (Obj.cells
            #[Value.int IntKind.i64 e, Value.int IntKind.i64 ↑n, Value.int IntKind.i64 mx, Value.bool h,
              Value.slice (some { block := w'.heap.size, off := 0 }) n n, Value.bool true]
            60)).drew) (fun x => x)
    simpa [Us] using this
  · have := hh.out hh'; omega
  · have := hb.size; simp at this; omega
  · have := hb.size; simp at this; omega
  · exact ((((Fr.refl No w).alloc _).trans (Fr.of_below (M := No) hb) (fun _ _ x => x)).alloc _).alloc _ |>.drew
end Go.Proofs.Ytndhbamfgihncaa
