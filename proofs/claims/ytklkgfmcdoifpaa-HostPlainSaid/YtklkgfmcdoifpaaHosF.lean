/- Contracts: may, act. -/
import Derived.Test.YtklkgfmcdoifpaaHosE
namespace Go.Proofs.Ytklkgfmcdoifpaa
open Go.RowKit

def actB (a : Ac) (r : List Int) : Bool :=
  if a.kind = 0 then fitB a.vals r && (decide (a.mem = 0) && (decide (a.at_ = 0) && decide (a.byte = 0)))
  else if a.kind = 1 then decide (a.vals.length = 0) && (decide (a.mem = 0) && (decide (a.at_ = 0) && decide (a.byte = 0)))
  else if a.kind = 2 then fitB a.vals r && (decide (0 ≤ a.mem) && decide (0 ≤ a.at_))
  else false

theorem act_box {w w1 : World} {kind v mem at_ byte : Value} {t u : TypeId} {ds : Array Value} (f : Fr No ((w.alloc (.cells #[kind, v, mem, at_, byte] t)).alloc (.cells ds u)) w1) :
    w1.cell? ⟨w.heap.size, 0, none⟩ = some kind ∧ w1.cell? ⟨w.heap.size, 1, none⟩ = some v ∧ w1.cell? ⟨w.heap.size, 2, none⟩ = some mem ∧ w1.cell? ⟨w.heap.size, 3, none⟩ = some at_ ∧ w1.cell? ⟨w.heap.size, 4, none⟩ = some byte := by
  have h := ((Blk.new w t #[kind, v, mem, at_, byte]).alloc (.cells ds u)).fr f (fun x => x)
  exact ⟨h.cell 0, h.cell 1, h.cell 2, h.cell 3, h.cell 4⟩

set_option maxHeartbeats 3200000 in
theorem may_any (kind mem at_ byte : Int) (vals : List Vl) (np : Nat) (rs : List Int) (A A1 A2 : Option Addr) (c c1 c2 B : Nat) (w : World) (hB : B ≤ w.heap.size) (ha : tVl.els w B A vals) (h2 : (Ty.int .i64).els w B A2 rs) (l1 : vals.length ≤ 16777216) (l2 : rs.length ≤ 16777216) :
    Calls Try.prog 24 #[.agg #[.int .i64 kind, .slice A vals.length c, .int .i64 mem, .int .i64 at_, .int .u8 byte], .agg #[.slice A1 np c1, .slice A2 rs.length c2]] w fun e w' => e = .returned (.bool (actB ⟨kind, vals, mem, at_, byte⟩ rs)) ∧ Fr No w w' := by
  have H1 := hid ha
  have H2 := hid h2
  have HB := hid hB
  have L1 := hid l1
  have L2 := hid l2
  clear ha h2 hB l1 l2
  cases hf : fitB vals rs
  all_goals
   have HV := hid hf
   clear hf
   go_enter Try.func24, Try.ntmps24
   go_wp2_with (first
     | (go_at_call 28; refine (vfit_any _ _ vals rs _ _ B B _ (Nat.le_trans HB.out (((Fr.refl No w).alloc _).alloc _).size) (Nat.le_trans HB.out (((Fr.refl No w).alloc _).alloc _).size) (H1.out.fr HB.out (((Fr.refl No w).alloc _).alloc _) (fun _ _ x => x)) (H2.out.fr HB.out (((Fr.refl No w).alloc _).alloc _) (fun _ _ x => x)) L1.out L2.out).mono ?_; rintro e w1 ⟨rfl, f1⟩; rw [HV.out]; obtain ⟨z0, z1, z2, z3, z4⟩ := act_box f1; have F1 := hid ((((Fr.refl No w).alloc _).alloc _).trans f1 (fun _ _ h => h)); clear f1))
   all_goals
    go_ret
    refine ⟨rt_bool ?_, by first | exact F1.out | exact (((Fr.refl No w).alloc _).alloc _)⟩
    have hv := HV.out
    clear H1 H2 HB HV L1 L2
    first | (simp_all [actB]; done) | (simp_all [actB]; omega) | (rw [Bool.eq_iff_iff]; simp_all [actB]; done) | (rw [Bool.eq_iff_iff]; simp_all [actB]; omega)
set_option maxHeartbeats 3200000 in
theorem ract_any (kind mem at_ byte : Int) (vals : List Vl) (np : Nat) (rs : List Int) (A A1 A2 : Option Addr) (c c1 c2 B : Nat) (w : World) (hB : B ≤ w.heap.size) (ha : tVl.els w B A vals) (h2 : (Ty.int .i64).els w B A2 rs) (l1 : vals.length ≤ 16777216) (l2 : rs.length ≤ 16777216) :
    Calls Try.prog 27 #[.agg #[.int .i64 kind, .slice A vals.length c, .int .i64 mem, .int .i64 at_, .int .u8 byte], .agg #[.slice A1 np c1, .slice A2 rs.length c2]] w fun e w' => e = .returned (.bool (actB ⟨kind, vals, mem, at_, byte⟩ rs)) ∧ Fr No w w' := by
  have H1 := hid ha
  have H2 := hid h2
  have HB := hid hB
  have L1 := hid l1
  have L2 := hid l2
  clear ha h2 hB l1 l2
  cases hf : fitB vals rs
  all_goals
   have HV := hid hf
   clear hf
   go_enter Try.func27, Try.ntmps27
   go_wp2_with (first
     | (go_at_call 20; refine (r27fit_any _ _ vals rs _ _ B B _ (Nat.le_trans HB.out (((Fr.refl No w).alloc _).alloc _).size) (Nat.le_trans HB.out (((Fr.refl No w).alloc _).alloc _).size) (H1.out.fr HB.out (((Fr.refl No w).alloc _).alloc _) (fun _ _ x => x)) (H2.out.fr HB.out (((Fr.refl No w).alloc _).alloc _) (fun _ _ x => x)) L1.out L2.out).mono ?_; rintro e w1 ⟨rfl, f1⟩; rw [HV.out]; obtain ⟨z0, z1, z2, z3, z4⟩ := act_box f1; have F1 := hid ((((Fr.refl No w).alloc _).alloc _).trans f1 (fun _ _ h => h)); clear f1))
   all_goals
    go_ret
    refine ⟨rt_bool ?_, by first | exact F1.out | exact (((Fr.refl No w).alloc _).alloc _)⟩
    have hv := HV.out
    clear H1 H2 HB HV L1 L2
    first | (simp_all [actB]; done) | (simp_all [actB]; omega) | (rw [Bool.eq_iff_iff]; simp_all [actB]; done) | (rw [Bool.eq_iff_iff]; simp_all [actB]; omega)
end Go.Proofs.Ytklkgfmcdoifpaa
