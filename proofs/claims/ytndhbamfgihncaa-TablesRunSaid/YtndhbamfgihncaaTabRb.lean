/- Contracts of the reference of tables: New, Get, Set, Grow, Fill, Init, Copy. -/
import Derived.Test.YtndhbamfgihncaaTabRa
namespace Go.Proofs.Ytndhbamfgihncaa
open Go.RowKit

/-- A table of the reference, as a value. -/
def RV (e mn mx : Int) (h : Bool) (A : Option Addr) (n c : Nat) : Value := .agg #[.int .i64 e, .int .i64 mn, .int .i64 mx, .bool h, .slice A n c]

/-- Two results: a table with the list xs, and v. -/
def RTo (e mn mx : Int) (h : Bool) (B0 : Nat) (A0 : Option Addr) (xs : List Int) (v : Value) (w : World) (e' : Ending) (w' : World) : Prop :=
  ∃ A c, e' = .returned (.tuple #[.agg #[.int .i64 e, .int .i64 mn, .int .i64 mx, .bool h, .slice A xs.length c], v]) ∧ xs.length ≤ c ∧ Rd w' w'.heap.size A (Us xs) ∧ Fr No w w' ∧ ((A = A0 ∧ Rd w B0 A (Us xs)) ∨ ∃ q, A = some ⟨q, 0, none⟩ ∧ w.heap.size ≤ q ∧ q < w'.heap.size)

section
variable (e mn mx : Int) (h : Bool) (A : Option Addr) (xs : List Int) (c : Nat) (w : World) {B0 : Nat}

set_option maxHeartbeats 400000 in
theorem rget_no (i : Int) (hx : xs.length ≤ 1024) (h0 : 0 ≤ i) (h1 : i < 18446744073709551616) (hi : ¬ i % 4294967296 < xs.length) :
    Calls Try.prog 32 #[.agg #[.int .i64 e, .int .i64 mn, .int .i64 mx, .bool h, .slice A xs.length c], .int .u64 i] w fun e' w' => e' = .returned (.tuple #[.int .u64 0, .int .i64 3]) ∧ Fr No w w' := by
  have hb := there_false (n := xs.length) (i := i) (m := 1) (by omega)
  go_enter Try.func32, Try.ntmps32
  go_wp2_with (go_at_call 40; refine (rthere_any _ _ _ _ _ _ (by omega) (by omega) (by omega) (by omega) (by omega)).mono ?_; rintro e w' ⟨rfl, rfl⟩)
  go_ret2
  exact ⟨rfl, (Fr.refl No w).alloc _⟩

set_option maxHeartbeats 400000 in
theorem rget_yes (i : Int) (k : Nat) (hx : xs.length ≤ 1024) (hr : Rd w w.heap.size A (Us xs)) (h0 : 0 ≤ i) (h1 : i < 18446744073709551616) (hk : k < xs.length) (hik : i % 4294967296 = k) :
    Calls Try.prog 32 #[.agg #[.int .i64 e, .int .i64 mn, .int .i64 mx, .bool h, .slice A xs.length c], .int .u64 i] w fun e' w' => e' = .returned (.tuple #[.int .u64 xs[k], .int .i64 0]) ∧ Fr No w w' := by
  have hb := there_true (n := xs.length) (i := i) (m := 1) (by omega)
  obtain ⟨b, o, rfl, cc⟩ := Us_rd hr k hk
  have hbs : b < w.heap.size := World.block_lt_of_cell? w ⟨b, o + k, none⟩ cc
  have k0 : (0 : Int) ≤ k := by omega
  have k1 : (k : Int) < xs.length := by omega
  generalize xs[k] = x at cc
  go_enter Try.func32, Try.ntmps32
  go_wp2_with (go_at_call 40; refine (rthere_any _ _ _ _ _ _ (by omega) (by omega) (by omega) (by omega) (by omega)).mono ?_; rintro e w' ⟨rfl, rfl⟩)
  go_quiet ((go_at_call 41; exact Calls.quiet_of_same ((rlow_any _ _ (by omega) (by omega)).mono (fun e w' ⟨h1, h2⟩ => ⟨h1, h2.symm⟩))))
  go_wp2
  go_ret2
  exact ⟨rfl, ((Fr.refl No w).alloc _).drewN _⟩


theorem five {X : World} {g : Nat} {t : TypeId} {v0 v1 v2 v3 v4 : Value} (hb : Blk X g t #[v0, v1, v2, v3, v4]) :
    X.cell? ⟨g, 0, none⟩ = some v0 ∧ X.cell? ⟨g, 1, none⟩ = some v1 ∧ X.cell? ⟨g, 2, none⟩ = some v2 ∧ X.cell? ⟨g, 3, none⟩ = some v3 ∧ X.cell? ⟨g, 4, none⟩ = some v4 :=
  ⟨by rw [hb.cell]; rfl, by rw [hb.cell]; rfl, by rw [hb.cell]; rfl, by rw [hb.cell]; rfl, by rw [hb.cell]; rfl⟩
theorem fz {X : World} {g : Nat} {t : TypeId} {cs : Array Value} (hb : Blk X g t cs) :
    X.frozen? ⟨g, 0, none⟩ = false ∧ X.frozen? ⟨g, 1, none⟩ = false ∧ X.frozen? ⟨g, 2, none⟩ = false ∧ X.frozen? ⟨g, 3, none⟩ = false ∧ X.frozen? ⟨g, 4, none⟩ = false :=
  ⟨hb.frozen 0, hb.frozen 1, hb.frozen 2, hb.frozen 3, hb.frozen 4⟩
theorem Fr.five {M : Nat → Prop} {a W : World} (f : Fr M a W) (g : Nat) (v0 v1 v2 v3 v4 : Value) (hg : g < a.heap.size → M g) :
    Fr M a (((((W.setCell ⟨g, 0, none⟩ v0).setCell ⟨g, 1, none⟩ v1).setCell ⟨g, 2, none⟩ v2).setCell ⟨g, 3, none⟩ v3).setCell ⟨g, 4, none⟩ v4) :=
  ((((f.setCell _ _ hg).setCell _ _ hg).setCell _ _ hg).setCell _ _ hg).setCell _ _ hg

/-- The end of a function of the reference that returns a table and a number. -/
theorem rend {W4 : World} {q c4 n : Nat} {zs : List Int} {v : Value} {A0 : Option Addr} (hqn : w.heap.size ≤ q) (hz : zs.length = n) (g : Nat) (hg : w.heap.size ≤ g) (hq : q ≠ g) (v0 v1 v2 v3 v4 : Value) (O4 : Own W4 q 23 c4 (Us zs)) (f : Fr No w W4) :
    RTo e mn mx h B0 A0 zs v w (.returned (.tuple #[.agg #[.int .i64 e, .int .i64 mn, .int .i64 mx, .bool h, .slice (some ⟨q, 0, none⟩) n c4], v]))
      (((((W4.setCell ⟨g, 0, none⟩ v0).setCell ⟨g, 1, none⟩ v1).setCell ⟨g, 2, none⟩ v2).setCell ⟨g, 3, none⟩ v3).setCell ⟨g, 4, none⟩ v4) := by
  subst hz
  have ff := (Fr.refl (One g) W4).five g v0 v1 v2 v3 v4 (fun _ => rfl)
  have o := O4.fr ff hq
  obtain ⟨_, _, hc, _⟩ := o.cur
  exact ⟨_, c4, rfl, by simpa using hc, o.rd o.lt, f.five g v0 v1 v2 v3 v4 (fun h => by omega), .inr ⟨q, rfl, hqn, o.lt⟩⟩

set_option maxHeartbeats 800000 in
theorem rset_yes (i x : Int) (k : Nat) (hx : xs.length ≤ 1024) (hr : Rd w w.heap.size A (Us xs)) (h0 : 0 ≤ i) (h1 : i < 18446744073709551616) (hk : k < xs.length) (hik : i % 4294967296 = k) :
    Calls Try.prog 33 #[.agg #[.int .i64 e, .int .i64 mn, .int .i64 mx, .bool h, .slice A xs.length c], .int .u64 i, .int .u64 x] w (RTo e mn mx h B0 A (splice xs k [x]) (.int .i64 0) w) := by
  have hb := there_true (n := xs.length) (i := i) (m := 1) (by omega)
  have B0 := hid ((Blk.new w 51 #[.int .i64 e, .int .i64 mn, .int .i64 mx, .bool h, .slice A xs.length c]).alloc (.cells #[.int .i64 0, .int .i64 0, .int .i64 0, .bool false, .slice none 0 0] 51))
  have R0 := hid (Blk.new1 w (.cells #[.int .i64 e, .int .i64 mn, .int .i64 mx, .bool h, .slice A xs.length c] 51) 51 #[.int .i64 0, .int .i64 0, .int .i64 0, .bool false, .slice none 0 0])
  have F0 := hid (((Fr.refl No w).alloc (.cells #[.int .i64 e, .int .i64 mn, .int .i64 mx, .bool h, .slice A xs.length c] 51)).alloc (.cells #[.int .i64 0, .int .i64 0, .int .i64 0, .bool false, .slice none 0 0] 51))
  go_enter Try.func33, Try.ntmps33
  go_wp2_with (go_at_call 40; refine (rthere_any _ _ _ _ _ _ (by omega) (by omega) (by omega) (by omega) (by omega)).mono ?_; rintro e w' ⟨rfl, rfl⟩)
  generalize (w.alloc (.cells #[.int .i64 e, .int .i64 mn, .int .i64 mx, .bool h, .slice A xs.length c] 51)).alloc (.cells #[.int .i64 0, .int .i64 0, .int .i64 0, .bool false, .slice none 0 0] 51) = W at *
  have hWs : w.heap.size + 2 ≤ W.heap.size := R0.out.lt
  refine wp_region_ord (fun X => X.cell? ⟨w.heap.size, 0, none⟩ = some (.int .i64 e) ∧ X.cell? ⟨w.heap.size, 1, none⟩ = some (.int .i64 mn) ∧ X.cell? ⟨w.heap.size, 2, none⟩ = some (.int .i64 mx) ∧ X.cell? ⟨w.heap.size, 3, none⟩ = some (.bool h) ∧ X.cell? ⟨w.heap.size, 4, none⟩ = some (.slice A xs.length c)) [] [(0, true), (1, true), (2, true), (3, true), (4, false), (5, false), (6, false), (7, true)] (by kernel_rfl) (by kernel_rfl) (by kernel_rfl) rfl (five B0.out) ?_
  repeat (first
    | (refine wpO_skip rfl rfl ?_; simp only [List.getElem_toArray, List.getElem_cons_succ, List.getElem_cons_zero, Act.put, List.setIfInBounds_toArray, List.set_cons_zero, List.set_cons_succ])
    | (refine wpO_call rfl rfl ?_; simp only [List.getElem_toArray, List.getElem_cons_succ, List.getElem_cons_zero]; apply Exists.intro; refine ⟨fun X hX => ?_, ?_⟩
       · (obtain ⟨s0, s1, s2, s3, s4⟩ := hX; go_simp; first | exact stillUpon_value | exact stillUpon_enter (rlow_any _ _ (by omega) (by omega)))
       simp only [Act.put, List.setIfInBounds_toArray, List.set_cons_zero, List.set_cons_succ]))
  refine wpO_eff rfl rfl (fun K hK => ?_)
  simp only [List.getElem_toArray, List.getElem_cons_succ, List.getElem_cons_zero]
  go_simp
  refine hK _ _ (fun _ => five (B0.out.alloc _).drew) ?_
  clear hK K
  refine wpO_eff rfl rfl (fun K hK => ?_)
  simp only [List.getElem_toArray, List.getElem_cons_succ, List.getElem_cons_zero]
  go_simp
  refine (rput_any e mn mx h A (some ⟨W.heap.size, 0, none⟩) xs [x] c 1 k w.heap.size (W.heap.size + 1) _ ((hr.frNo F0.out).frNo ((Fr.refl No W).alloc _)).drew (rd_new W (.int .u64 x) 23).drew hx (by simp; omega)).mono ?_
  rintro e' w4 ⟨q, c4, rfl, ho, hq, f4⟩
  have B4 := hid ((B0.out.alloc (.cells #[.int .u64 x] 23)).drew.fr f4 (fun x => x))
  have R4 := hid ((R0.out.alloc (.cells #[.int .u64 x] 23)).drew.fr f4 (fun x => x))
  have O4 := hid ho
  have hq' : W.heap.size + 1 ≤ q := by simpa using hq
  clear ho hq
  refine hK _ _ (fun _ => five B4.out) ?_
  clear hK K
  obtain ⟨r0, r1, r2, r3, r4⟩ := five R4.out
  obtain ⟨z0, z1, z2, z3, z4⟩ := fz R4.out
  refine wpO_eff rfl rfl (fun K hK => ?_)
  simp only [List.getElem_toArray, List.getElem_cons_succ, List.getElem_cons_zero]
  go_simp
  refine hK _ _ (fun _ => five (((((B4.out.far (p := ⟨w.heap.size + 1, 0, none⟩) (by simp) _).far (p := ⟨w.heap.size + 1, 1, none⟩) (by simp) _).far (p := ⟨w.heap.size + 1, 2, none⟩) (by simp) _).far (p := ⟨w.heap.size + 1, 3, none⟩) (by simp) _).far (p := ⟨w.heap.size + 1, 4, none⟩) (by simp) _)) ?_
  clear hK K
  repeat (first
    | (refine wpO_skip rfl rfl ?_; simp only [List.getElem_toArray, List.getElem_cons_succ, List.getElem_cons_zero, Act.put, List.setIfInBounds_toArray, List.set_cons_zero, List.set_cons_succ])
    | (refine wpO_call rfl rfl ?_; simp only [List.getElem_toArray, List.getElem_cons_succ, List.getElem_cons_zero]; apply Exists.intro; refine ⟨fun X hX => ?_, ?_⟩
       · (obtain ⟨s0, s1, s2, s3, s4⟩ := hX; go_simp; first | exact stillUpon_value)
       simp only [Act.put, List.setIfInBounds_toArray, List.set_cons_zero, List.set_cons_succ]))
  refine wpO_nil ?_
  go_wp2
  refine bodyPost_ret (v := .tuple #[.agg #[.int .i64 e, .int .i64 mn, .int .i64 mx, .bool h, .slice (some ⟨q, 0, none⟩) xs.length c4], .int .i64 0]) (by simp [results, Try.results33, go_sem, *]) rfl ?_
  exact rend e mn mx h w (by omega) (length_splice _ _ _ (by simp; omega)) (w.heap.size + 1) (by omega) (by omega) _ _ _ _ _ O4.out (((F0.out.alloc _).drew).trans f4 (fun _ _ h => h))
end
end Go.Proofs.Ytndhbamfgihncaa
