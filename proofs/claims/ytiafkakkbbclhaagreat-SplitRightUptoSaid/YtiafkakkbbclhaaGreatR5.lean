/- For every input SplitRight returns true, part 5: what the proof rests on. Condition: the arguments are of bulk at most 1048576. -/
import Derived.Test.YtiafkakkbbclhaaGreatR4
import Derived.Test.YtiafkakkbbclhaaGreatR3
import Derived.Test.YtiafkakkbbclhaaGreatR1
import Derived.Laws.Concat
set_option maxRecDepth 100000
set_option maxHeartbeats 12800000
set_option linter.unusedVariables false
set_option linter.unusedSimpArgs false
set_option linter.unusedSectionVars false
namespace Go.Proofs.YtiafkakkbbclhaaGreat
open Go.RowKit
theorem Cb.els {base : Nat} {w : World} {A : Option Addr} {n c : Nat} {bs : List Sb} {rs : List Rw} (h : Cb base w (.slice A n c) bs rs) : tSb.els w (fun k => base ≤ k ∧ k < w.heap.size) A bs := by
  have hSg : ∀ k, Sg base w k → base ≤ k ∧ k < w.heap.size := fun k hk => ⟨hk.1, hk.lt⟩
  have hels := Ty.row.els' (S' := fun k => base ≤ k ∧ k < w.heap.size) h.row hSg (fun g hg => by obtain ⟨h0, cs, hb⟩ := h.row.own hg; exact ⟨h0, hb.lt⟩)
  rcases hels with hx | ⟨b, o, e, hb, hx⟩
  · left
    have := srs_len h.len
    rw [hx] at this
    exact List.eq_nil_of_length_eq_zero this.symm
  · refine .inr ⟨b, o, e, hb, fun i y hy => ?_⟩
    obtain ⟨hi, rfl⟩ := List.getElem?_eq_some_iff.1 hy
    have hi2 : i < (srs bs rs).length := by rw [srs_len h.len]; exact hi
    obtain ⟨ds, d1, d2⟩ := hx i _ (List.getElem?_eq_getElem hi2)
    rw [srs_get h.len i hi] at d2
    obtain ⟨Ap, cp, Ai, ci, Aa, ca, rfl, f0, f1, f2, f3, f4, f5, f6, f7, f8, f9, f10, f11⟩ := Sr_cells d2
    have ht := h.tor i hi
    have hn := h.num i hi
    obtain ⟨At, ct, e1, t1, t2, t3⟩ := ht.els (S' := fun k => base ≤ k ∧ k < w.heap.size) (fun k hk => ⟨hk.1, hk.lt⟩) (fun g hg => by obtain ⟨h0, cs, hb⟩ := ht.own hg; exact ⟨h0, hb.lt⟩)
    refine ⟨_, d1, ?_⟩
    have e2 : (srOf bs[i] (rs.getD i rD)).end_.to = rs.getD i rD := rfl
    rw [e2]
    have e3 : Value.slice (rs.getD i rD).A (rs.getD i rD).n (rs.getD i rD).c = .slice At (toOf bs i).length ct := e1
    rw [e3, toOf_el hi]
    rw [toOf_el hi] at t1 t3
    exact Sb_mk (a := bs[i]) f0 f1 f2 f3 f4 f5 f6 f7 f8 f9 f10 t1 t2 t3 f11
def bothB : List Sb := [⟨[], [⟨1, 0, 0, 0, 0, [], [0]⟩], ⟨1, 0, [], [⟨1, []⟩, ⟨1, []⟩], 0⟩⟩, ⟨[], [], ⟨3, 0, [], [], 0⟩⟩]
def bothF : Sf := ⟨⟨[], []⟩, [1], bothB⟩
def BothTo (w : World) (e : Ending) (w' : World) : Prop :=
  ∃ (V B : Option Addr), e = .returned (.agg #[.slice none 0 0, .slice none 0 0, .slice V 1 1, .slice B 2 2]) ∧ tI.els w' (fun k => w.heap.size ≤ k ∧ k < w'.heap.size) V [1] ∧ tSb.els w' (fun k => w.heap.size ≤ k ∧ k < w'.heap.size) B bothB ∧ Fr No w w'
theorem both_any (w : World) : Calls Tryz.prog 10 #[] w (BothTo w) := by
  go_enter Tryz.func10, Tryz.ntmps10
  go_wp2_with fail
  have F := ((((((((Fr.refl No w).alloc (.cells #[.slice none 0 0, .slice none 0 0, .slice (some ⟨w.heap.size + 1 + 1, 0, none⟩) 1 1, .slice (some ⟨w.heap.size + 1 + 1 + 1 + 1 + 1 + 1, 0, none⟩) 2 2] 39)).alloc (.cells #[.int .i64 1, .slice none 0 0] 65)).alloc (.cells #[.int .i64 1] 59)).alloc (.cells #[.int .i64 0] 3)).alloc (.cells #[.int .i64 1, .int .i64 0, .int .i64 0, .int .i64 0, .int .u64 0, .slice none 0 0, .slice (some ⟨w.heap.size + 1 + 1 + 1, 0, none⟩) 1 1] 82)).alloc (.cells #[.int .i64 1, .slice none 0 0, .int .i64 1, .slice none 0 0] 65)).alloc (.cells #[.slice none 0 0, .slice (some ⟨w.heap.size + 1 + 1 + 1 + 1, 0, none⟩) 1 1, .int .i64 1, .int .i64 0, .slice none 0 0, .slice (some ⟨w.heap.size + 1 + 1 + 1 + 1 + 1, 0, none⟩) 2 2, .int .i64 0, .slice none 0 0, .slice none 0 0, .int .i64 3, .int .i64 0, .slice none 0 0, .slice none 0 0, .int .i64 0] 57))
  have hsz : (((((((w.alloc (.cells #[.slice none 0 0, .slice none 0 0, .slice (some ⟨w.heap.size + 1 + 1, 0, none⟩) 1 1, .slice (some ⟨w.heap.size + 1 + 1 + 1 + 1 + 1 + 1, 0, none⟩) 2 2] 39)).alloc (.cells #[.int .i64 1, .slice none 0 0] 65)).alloc (.cells #[.int .i64 1] 59)).alloc (.cells #[.int .i64 0] 3)).alloc (.cells #[.int .i64 1, .int .i64 0, .int .i64 0, .int .i64 0, .int .u64 0, .slice none 0 0, .slice (some ⟨w.heap.size + 1 + 1 + 1, 0, none⟩) 1 1] 82)).alloc (.cells #[.int .i64 1, .slice none 0 0, .int .i64 1, .slice none 0 0] 65)).alloc (.cells #[.slice none 0 0, .slice (some ⟨w.heap.size + 1 + 1 + 1 + 1, 0, none⟩) 1 1, .int .i64 1, .int .i64 0, .slice none 0 0, .slice (some ⟨w.heap.size + 1 + 1 + 1 + 1 + 1, 0, none⟩) 2 2, .int .i64 0, .slice none 0 0, .slice none 0 0, .int .i64 3, .int .i64 0, .slice none 0 0, .slice none 0 0, .int .i64 0] 57)).heap.size = w.heap.size + 7 := by simp
  have b0 : Blk (((((((w.alloc (.cells #[.slice none 0 0, .slice none 0 0, .slice (some ⟨w.heap.size + 1 + 1, 0, none⟩) 1 1, .slice (some ⟨w.heap.size + 1 + 1 + 1 + 1 + 1 + 1, 0, none⟩) 2 2] 39)).alloc (.cells #[.int .i64 1, .slice none 0 0] 65)).alloc (.cells #[.int .i64 1] 59)).alloc (.cells #[.int .i64 0] 3)).alloc (.cells #[.int .i64 1, .int .i64 0, .int .i64 0, .int .i64 0, .int .u64 0, .slice none 0 0, .slice (some ⟨w.heap.size + 1 + 1 + 1, 0, none⟩) 1 1] 82)).alloc (.cells #[.int .i64 1, .slice none 0 0, .int .i64 1, .slice none 0 0] 65)).alloc (.cells #[.slice none 0 0, .slice (some ⟨w.heap.size + 1 + 1 + 1 + 1, 0, none⟩) 1 1, .int .i64 1, .int .i64 0, .slice none 0 0, .slice (some ⟨w.heap.size + 1 + 1 + 1 + 1 + 1, 0, none⟩) 2 2, .int .i64 0, .slice none 0 0, .slice none 0 0, .int .i64 3, .int .i64 0, .slice none 0 0, .slice none 0 0, .int .i64 0] 57)) (w.heap.size) 39 #[.slice none 0 0, .slice none 0 0, .slice (some ⟨w.heap.size + 1 + 1, 0, none⟩) 1 1, .slice (some ⟨w.heap.size + 1 + 1 + 1 + 1 + 1 + 1, 0, none⟩) 2 2] := by
    have h := (((((((Blk.new w 39 #[.slice none 0 0, .slice none 0 0, .slice (some ⟨w.heap.size + 1 + 1, 0, none⟩) 1 1, .slice (some ⟨w.heap.size + 1 + 1 + 1 + 1 + 1 + 1, 0, none⟩) 2 2]).alloc (.cells #[.int .i64 1, .slice none 0 0] 65)).alloc (.cells #[.int .i64 1] 59)).alloc (.cells #[.int .i64 0] 3)).alloc (.cells #[.int .i64 1, .int .i64 0, .int .i64 0, .int .i64 0, .int .u64 0, .slice none 0 0, .slice (some ⟨w.heap.size + 1 + 1 + 1, 0, none⟩) 1 1] 82)).alloc (.cells #[.int .i64 1, .slice none 0 0, .int .i64 1, .slice none 0 0] 65)).alloc (.cells #[.slice none 0 0, .slice (some ⟨w.heap.size + 1 + 1 + 1 + 1, 0, none⟩) 1 1, .int .i64 1, .int .i64 0, .slice none 0 0, .slice (some ⟨w.heap.size + 1 + 1 + 1 + 1 + 1, 0, none⟩) 2 2, .int .i64 0, .slice none 0 0, .slice none 0 0, .int .i64 3, .int .i64 0, .slice none 0 0, .slice none 0 0, .int .i64 0] 57))
    simpa using h
  have b1 : Blk (((((((w.alloc (.cells #[.slice none 0 0, .slice none 0 0, .slice (some ⟨w.heap.size + 1 + 1, 0, none⟩) 1 1, .slice (some ⟨w.heap.size + 1 + 1 + 1 + 1 + 1 + 1, 0, none⟩) 2 2] 39)).alloc (.cells #[.int .i64 1, .slice none 0 0] 65)).alloc (.cells #[.int .i64 1] 59)).alloc (.cells #[.int .i64 0] 3)).alloc (.cells #[.int .i64 1, .int .i64 0, .int .i64 0, .int .i64 0, .int .u64 0, .slice none 0 0, .slice (some ⟨w.heap.size + 1 + 1 + 1, 0, none⟩) 1 1] 82)).alloc (.cells #[.int .i64 1, .slice none 0 0, .int .i64 1, .slice none 0 0] 65)).alloc (.cells #[.slice none 0 0, .slice (some ⟨w.heap.size + 1 + 1 + 1 + 1, 0, none⟩) 1 1, .int .i64 1, .int .i64 0, .slice none 0 0, .slice (some ⟨w.heap.size + 1 + 1 + 1 + 1 + 1, 0, none⟩) 2 2, .int .i64 0, .slice none 0 0, .slice none 0 0, .int .i64 3, .int .i64 0, .slice none 0 0, .slice none 0 0, .int .i64 0] 57)) (w.heap.size + 1) 65 #[.int .i64 1, .slice none 0 0] := by
    have h := ((((((Blk.new (w.alloc (.cells #[.slice none 0 0, .slice none 0 0, .slice (some ⟨w.heap.size + 1 + 1, 0, none⟩) 1 1, .slice (some ⟨w.heap.size + 1 + 1 + 1 + 1 + 1 + 1, 0, none⟩) 2 2] 39)) 65 #[.int .i64 1, .slice none 0 0]).alloc (.cells #[.int .i64 1] 59)).alloc (.cells #[.int .i64 0] 3)).alloc (.cells #[.int .i64 1, .int .i64 0, .int .i64 0, .int .i64 0, .int .u64 0, .slice none 0 0, .slice (some ⟨w.heap.size + 1 + 1 + 1, 0, none⟩) 1 1] 82)).alloc (.cells #[.int .i64 1, .slice none 0 0, .int .i64 1, .slice none 0 0] 65)).alloc (.cells #[.slice none 0 0, .slice (some ⟨w.heap.size + 1 + 1 + 1 + 1, 0, none⟩) 1 1, .int .i64 1, .int .i64 0, .slice none 0 0, .slice (some ⟨w.heap.size + 1 + 1 + 1 + 1 + 1, 0, none⟩) 2 2, .int .i64 0, .slice none 0 0, .slice none 0 0, .int .i64 3, .int .i64 0, .slice none 0 0, .slice none 0 0, .int .i64 0] 57))
    simpa using h
  have b2 : Blk (((((((w.alloc (.cells #[.slice none 0 0, .slice none 0 0, .slice (some ⟨w.heap.size + 1 + 1, 0, none⟩) 1 1, .slice (some ⟨w.heap.size + 1 + 1 + 1 + 1 + 1 + 1, 0, none⟩) 2 2] 39)).alloc (.cells #[.int .i64 1, .slice none 0 0] 65)).alloc (.cells #[.int .i64 1] 59)).alloc (.cells #[.int .i64 0] 3)).alloc (.cells #[.int .i64 1, .int .i64 0, .int .i64 0, .int .i64 0, .int .u64 0, .slice none 0 0, .slice (some ⟨w.heap.size + 1 + 1 + 1, 0, none⟩) 1 1] 82)).alloc (.cells #[.int .i64 1, .slice none 0 0, .int .i64 1, .slice none 0 0] 65)).alloc (.cells #[.slice none 0 0, .slice (some ⟨w.heap.size + 1 + 1 + 1 + 1, 0, none⟩) 1 1, .int .i64 1, .int .i64 0, .slice none 0 0, .slice (some ⟨w.heap.size + 1 + 1 + 1 + 1 + 1, 0, none⟩) 2 2, .int .i64 0, .slice none 0 0, .slice none 0 0, .int .i64 3, .int .i64 0, .slice none 0 0, .slice none 0 0, .int .i64 0] 57)) (w.heap.size + 1 + 1) 59 #[.int .i64 1] := by
    have h := (((((Blk.new ((w.alloc (.cells #[.slice none 0 0, .slice none 0 0, .slice (some ⟨w.heap.size + 1 + 1, 0, none⟩) 1 1, .slice (some ⟨w.heap.size + 1 + 1 + 1 + 1 + 1 + 1, 0, none⟩) 2 2] 39)).alloc (.cells #[.int .i64 1, .slice none 0 0] 65)) 59 #[.int .i64 1]).alloc (.cells #[.int .i64 0] 3)).alloc (.cells #[.int .i64 1, .int .i64 0, .int .i64 0, .int .i64 0, .int .u64 0, .slice none 0 0, .slice (some ⟨w.heap.size + 1 + 1 + 1, 0, none⟩) 1 1] 82)).alloc (.cells #[.int .i64 1, .slice none 0 0, .int .i64 1, .slice none 0 0] 65)).alloc (.cells #[.slice none 0 0, .slice (some ⟨w.heap.size + 1 + 1 + 1 + 1, 0, none⟩) 1 1, .int .i64 1, .int .i64 0, .slice none 0 0, .slice (some ⟨w.heap.size + 1 + 1 + 1 + 1 + 1, 0, none⟩) 2 2, .int .i64 0, .slice none 0 0, .slice none 0 0, .int .i64 3, .int .i64 0, .slice none 0 0, .slice none 0 0, .int .i64 0] 57))
    simpa using h
  have b3 : Blk (((((((w.alloc (.cells #[.slice none 0 0, .slice none 0 0, .slice (some ⟨w.heap.size + 1 + 1, 0, none⟩) 1 1, .slice (some ⟨w.heap.size + 1 + 1 + 1 + 1 + 1 + 1, 0, none⟩) 2 2] 39)).alloc (.cells #[.int .i64 1, .slice none 0 0] 65)).alloc (.cells #[.int .i64 1] 59)).alloc (.cells #[.int .i64 0] 3)).alloc (.cells #[.int .i64 1, .int .i64 0, .int .i64 0, .int .i64 0, .int .u64 0, .slice none 0 0, .slice (some ⟨w.heap.size + 1 + 1 + 1, 0, none⟩) 1 1] 82)).alloc (.cells #[.int .i64 1, .slice none 0 0, .int .i64 1, .slice none 0 0] 65)).alloc (.cells #[.slice none 0 0, .slice (some ⟨w.heap.size + 1 + 1 + 1 + 1, 0, none⟩) 1 1, .int .i64 1, .int .i64 0, .slice none 0 0, .slice (some ⟨w.heap.size + 1 + 1 + 1 + 1 + 1, 0, none⟩) 2 2, .int .i64 0, .slice none 0 0, .slice none 0 0, .int .i64 3, .int .i64 0, .slice none 0 0, .slice none 0 0, .int .i64 0] 57)) (w.heap.size + 1 + 1 + 1) 3 #[.int .i64 0] := by
    have h := ((((Blk.new (((w.alloc (.cells #[.slice none 0 0, .slice none 0 0, .slice (some ⟨w.heap.size + 1 + 1, 0, none⟩) 1 1, .slice (some ⟨w.heap.size + 1 + 1 + 1 + 1 + 1 + 1, 0, none⟩) 2 2] 39)).alloc (.cells #[.int .i64 1, .slice none 0 0] 65)).alloc (.cells #[.int .i64 1] 59)) 3 #[.int .i64 0]).alloc (.cells #[.int .i64 1, .int .i64 0, .int .i64 0, .int .i64 0, .int .u64 0, .slice none 0 0, .slice (some ⟨w.heap.size + 1 + 1 + 1, 0, none⟩) 1 1] 82)).alloc (.cells #[.int .i64 1, .slice none 0 0, .int .i64 1, .slice none 0 0] 65)).alloc (.cells #[.slice none 0 0, .slice (some ⟨w.heap.size + 1 + 1 + 1 + 1, 0, none⟩) 1 1, .int .i64 1, .int .i64 0, .slice none 0 0, .slice (some ⟨w.heap.size + 1 + 1 + 1 + 1 + 1, 0, none⟩) 2 2, .int .i64 0, .slice none 0 0, .slice none 0 0, .int .i64 3, .int .i64 0, .slice none 0 0, .slice none 0 0, .int .i64 0] 57))
    simpa using h
  have b4 : Blk (((((((w.alloc (.cells #[.slice none 0 0, .slice none 0 0, .slice (some ⟨w.heap.size + 1 + 1, 0, none⟩) 1 1, .slice (some ⟨w.heap.size + 1 + 1 + 1 + 1 + 1 + 1, 0, none⟩) 2 2] 39)).alloc (.cells #[.int .i64 1, .slice none 0 0] 65)).alloc (.cells #[.int .i64 1] 59)).alloc (.cells #[.int .i64 0] 3)).alloc (.cells #[.int .i64 1, .int .i64 0, .int .i64 0, .int .i64 0, .int .u64 0, .slice none 0 0, .slice (some ⟨w.heap.size + 1 + 1 + 1, 0, none⟩) 1 1] 82)).alloc (.cells #[.int .i64 1, .slice none 0 0, .int .i64 1, .slice none 0 0] 65)).alloc (.cells #[.slice none 0 0, .slice (some ⟨w.heap.size + 1 + 1 + 1 + 1, 0, none⟩) 1 1, .int .i64 1, .int .i64 0, .slice none 0 0, .slice (some ⟨w.heap.size + 1 + 1 + 1 + 1 + 1, 0, none⟩) 2 2, .int .i64 0, .slice none 0 0, .slice none 0 0, .int .i64 3, .int .i64 0, .slice none 0 0, .slice none 0 0, .int .i64 0] 57)) (w.heap.size + 1 + 1 + 1 + 1) 82 #[.int .i64 1, .int .i64 0, .int .i64 0, .int .i64 0, .int .u64 0, .slice none 0 0, .slice (some ⟨w.heap.size + 1 + 1 + 1, 0, none⟩) 1 1] := by
    have h := (((Blk.new ((((w.alloc (.cells #[.slice none 0 0, .slice none 0 0, .slice (some ⟨w.heap.size + 1 + 1, 0, none⟩) 1 1, .slice (some ⟨w.heap.size + 1 + 1 + 1 + 1 + 1 + 1, 0, none⟩) 2 2] 39)).alloc (.cells #[.int .i64 1, .slice none 0 0] 65)).alloc (.cells #[.int .i64 1] 59)).alloc (.cells #[.int .i64 0] 3)) 82 #[.int .i64 1, .int .i64 0, .int .i64 0, .int .i64 0, .int .u64 0, .slice none 0 0, .slice (some ⟨w.heap.size + 1 + 1 + 1, 0, none⟩) 1 1]).alloc (.cells #[.int .i64 1, .slice none 0 0, .int .i64 1, .slice none 0 0] 65)).alloc (.cells #[.slice none 0 0, .slice (some ⟨w.heap.size + 1 + 1 + 1 + 1, 0, none⟩) 1 1, .int .i64 1, .int .i64 0, .slice none 0 0, .slice (some ⟨w.heap.size + 1 + 1 + 1 + 1 + 1, 0, none⟩) 2 2, .int .i64 0, .slice none 0 0, .slice none 0 0, .int .i64 3, .int .i64 0, .slice none 0 0, .slice none 0 0, .int .i64 0] 57))
    simpa using h
  have b5 : Blk (((((((w.alloc (.cells #[.slice none 0 0, .slice none 0 0, .slice (some ⟨w.heap.size + 1 + 1, 0, none⟩) 1 1, .slice (some ⟨w.heap.size + 1 + 1 + 1 + 1 + 1 + 1, 0, none⟩) 2 2] 39)).alloc (.cells #[.int .i64 1, .slice none 0 0] 65)).alloc (.cells #[.int .i64 1] 59)).alloc (.cells #[.int .i64 0] 3)).alloc (.cells #[.int .i64 1, .int .i64 0, .int .i64 0, .int .i64 0, .int .u64 0, .slice none 0 0, .slice (some ⟨w.heap.size + 1 + 1 + 1, 0, none⟩) 1 1] 82)).alloc (.cells #[.int .i64 1, .slice none 0 0, .int .i64 1, .slice none 0 0] 65)).alloc (.cells #[.slice none 0 0, .slice (some ⟨w.heap.size + 1 + 1 + 1 + 1, 0, none⟩) 1 1, .int .i64 1, .int .i64 0, .slice none 0 0, .slice (some ⟨w.heap.size + 1 + 1 + 1 + 1 + 1, 0, none⟩) 2 2, .int .i64 0, .slice none 0 0, .slice none 0 0, .int .i64 3, .int .i64 0, .slice none 0 0, .slice none 0 0, .int .i64 0] 57)) (w.heap.size + 1 + 1 + 1 + 1 + 1) 65 #[.int .i64 1, .slice none 0 0, .int .i64 1, .slice none 0 0] := by
    have h := ((Blk.new (((((w.alloc (.cells #[.slice none 0 0, .slice none 0 0, .slice (some ⟨w.heap.size + 1 + 1, 0, none⟩) 1 1, .slice (some ⟨w.heap.size + 1 + 1 + 1 + 1 + 1 + 1, 0, none⟩) 2 2] 39)).alloc (.cells #[.int .i64 1, .slice none 0 0] 65)).alloc (.cells #[.int .i64 1] 59)).alloc (.cells #[.int .i64 0] 3)).alloc (.cells #[.int .i64 1, .int .i64 0, .int .i64 0, .int .i64 0, .int .u64 0, .slice none 0 0, .slice (some ⟨w.heap.size + 1 + 1 + 1, 0, none⟩) 1 1] 82)) 65 #[.int .i64 1, .slice none 0 0, .int .i64 1, .slice none 0 0]).alloc (.cells #[.slice none 0 0, .slice (some ⟨w.heap.size + 1 + 1 + 1 + 1, 0, none⟩) 1 1, .int .i64 1, .int .i64 0, .slice none 0 0, .slice (some ⟨w.heap.size + 1 + 1 + 1 + 1 + 1, 0, none⟩) 2 2, .int .i64 0, .slice none 0 0, .slice none 0 0, .int .i64 3, .int .i64 0, .slice none 0 0, .slice none 0 0, .int .i64 0] 57))
    simpa using h
  have b6 : Blk (((((((w.alloc (.cells #[.slice none 0 0, .slice none 0 0, .slice (some ⟨w.heap.size + 1 + 1, 0, none⟩) 1 1, .slice (some ⟨w.heap.size + 1 + 1 + 1 + 1 + 1 + 1, 0, none⟩) 2 2] 39)).alloc (.cells #[.int .i64 1, .slice none 0 0] 65)).alloc (.cells #[.int .i64 1] 59)).alloc (.cells #[.int .i64 0] 3)).alloc (.cells #[.int .i64 1, .int .i64 0, .int .i64 0, .int .i64 0, .int .u64 0, .slice none 0 0, .slice (some ⟨w.heap.size + 1 + 1 + 1, 0, none⟩) 1 1] 82)).alloc (.cells #[.int .i64 1, .slice none 0 0, .int .i64 1, .slice none 0 0] 65)).alloc (.cells #[.slice none 0 0, .slice (some ⟨w.heap.size + 1 + 1 + 1 + 1, 0, none⟩) 1 1, .int .i64 1, .int .i64 0, .slice none 0 0, .slice (some ⟨w.heap.size + 1 + 1 + 1 + 1 + 1, 0, none⟩) 2 2, .int .i64 0, .slice none 0 0, .slice none 0 0, .int .i64 3, .int .i64 0, .slice none 0 0, .slice none 0 0, .int .i64 0] 57)) (w.heap.size + 1 + 1 + 1 + 1 + 1 + 1) 57 #[.slice none 0 0, .slice (some ⟨w.heap.size + 1 + 1 + 1 + 1, 0, none⟩) 1 1, .int .i64 1, .int .i64 0, .slice none 0 0, .slice (some ⟨w.heap.size + 1 + 1 + 1 + 1 + 1, 0, none⟩) 2 2, .int .i64 0, .slice none 0 0, .slice none 0 0, .int .i64 3, .int .i64 0, .slice none 0 0, .slice none 0 0, .int .i64 0] := by
    have h := (Blk.new ((((((w.alloc (.cells #[.slice none 0 0, .slice none 0 0, .slice (some ⟨w.heap.size + 1 + 1, 0, none⟩) 1 1, .slice (some ⟨w.heap.size + 1 + 1 + 1 + 1 + 1 + 1, 0, none⟩) 2 2] 39)).alloc (.cells #[.int .i64 1, .slice none 0 0] 65)).alloc (.cells #[.int .i64 1] 59)).alloc (.cells #[.int .i64 0] 3)).alloc (.cells #[.int .i64 1, .int .i64 0, .int .i64 0, .int .i64 0, .int .u64 0, .slice none 0 0, .slice (some ⟨w.heap.size + 1 + 1 + 1, 0, none⟩) 1 1] 82)).alloc (.cells #[.int .i64 1, .slice none 0 0, .int .i64 1, .slice none 0 0] 65)) 57 #[.slice none 0 0, .slice (some ⟨w.heap.size + 1 + 1 + 1 + 1, 0, none⟩) 1 1, .int .i64 1, .int .i64 0, .slice none 0 0, .slice (some ⟨w.heap.size + 1 + 1 + 1 + 1 + 1, 0, none⟩) 2 2, .int .i64 0, .slice none 0 0, .slice none 0 0, .int .i64 3, .int .i64 0, .slice none 0 0, .slice none 0 0, .int .i64 0])
    simpa using h
  generalize (((((((w.alloc (.cells #[.slice none 0 0, .slice none 0 0, .slice (some ⟨w.heap.size + 1 + 1, 0, none⟩) 1 1, .slice (some ⟨w.heap.size + 1 + 1 + 1 + 1 + 1 + 1, 0, none⟩) 2 2] 39)).alloc (.cells #[.int .i64 1, .slice none 0 0] 65)).alloc (.cells #[.int .i64 1] 59)).alloc (.cells #[.int .i64 0] 3)).alloc (.cells #[.int .i64 1, .int .i64 0, .int .i64 0, .int .i64 0, .int .u64 0, .slice none 0 0, .slice (some ⟨w.heap.size + 1 + 1 + 1, 0, none⟩) 1 1] 82)).alloc (.cells #[.int .i64 1, .slice none 0 0, .int .i64 1, .slice none 0 0] 65)).alloc (.cells #[.slice none 0 0, .slice (some ⟨w.heap.size + 1 + 1 + 1 + 1, 0, none⟩) 1 1, .int .i64 1, .int .i64 0, .slice none 0 0, .slice (some ⟨w.heap.size + 1 + 1 + 1 + 1 + 1, 0, none⟩) 2 2, .int .i64 0, .slice none 0 0, .slice none 0 0, .int .i64 3, .int .i64 0, .slice none 0 0, .slice none 0 0, .int .i64 0] 57)) = Z at *
  have hS : ∀ n, n < 7 → w.heap.size ≤ w.heap.size + n ∧ w.heap.size + n < Z.heap.size := fun n hn => by omega
  have z0 := b0.cell 0
  have z1 := b0.cell 1
  have z2 := b0.cell 2
  have z3 := b0.cell 3
  have w0 : (Lit.int .i64 0).wf = true := by decide
  have w1 : (Lit.int .i64 1).wf = true := by decide
  have w3 : (Lit.int .i64 3).wf = true := by decide
  have eV := blk_els (t := tI) (S := fun k => w.heap.size ≤ k ∧ k < Z.heap.size) (css := [[.int .i64 1]]) (xs := [1]) (by simpa using b2) (hS 2 (by decide)) (Css.one (int_mk w1))
  have eO := blk_els (t := tI) (S := fun k => w.heap.size ≤ k ∧ k < Z.heap.size) (css := [[.int .i64 0]]) (xs := [0]) (by simpa using b3) (hS 3 (by decide)) (Css.one (int_mk w0))
  have eI := blk_els (t := tSi) (S := fun k => w.heap.size ≤ k ∧ k < Z.heap.size) (css := [[.int .i64 1, .int .i64 0, .int .i64 0, .int .i64 0, .int .u64 0, .slice none 0 0, .slice (some ⟨w.heap.size + 1 + 1 + 1, 0, none⟩) 1 1]]) (xs := [⟨1, 0, 0, 0, 0, [], [0]⟩]) (by simpa using b4) (hS 4 (by decide)) (Css.one (Si_mk (a := ⟨1, 0, 0, 0, 0, [], [0]⟩) w1 w0 w0 w0 (by decide) (Nat.le_refl _) (by decide) (.inl rfl) (Nat.le_refl _) (by decide) eO))
  have rE := Ed_mk (w := Z) (S := fun k => w.heap.size ≤ k ∧ k < Z.heap.size) (a := ⟨1, []⟩) (Aargs := none) (cargs := 0) w1 (Nat.le_refl _) (by decide) (.inl rfl)
  have eE := blk_els (t := tEd) (S := fun k => w.heap.size ≤ k ∧ k < Z.heap.size) (css := [[.int .i64 1, .slice none 0 0], [.int .i64 1, .slice none 0 0]]) (xs := [⟨1, []⟩, ⟨1, []⟩]) (by simpa using b5) (hS 5 (by decide)) (Css.two rE rE)
  have r1 := Sb_mk (w := Z) (S := fun k => w.heap.size ≤ k ∧ k < Z.heap.size) (a := ⟨[], [⟨1, 0, 0, 0, 0, [], [0]⟩], ⟨1, 0, [], [⟨1, []⟩, ⟨1, []⟩], 0⟩⟩) (Aparams := none) (cparams := 0) (Aend__args := none) (cend__args := 0) (cins := 1) (cend__to := 2) (Nat.le_refl _) (by decide) (.inl rfl) (Nat.le_refl _) (by decide) eI w1 w0 (Nat.le_refl _) (by decide) (.inl rfl) (Nat.le_refl _) (by decide) eE w0
  have r2 := Sb_mk (w := Z) (S := fun k => w.heap.size ≤ k ∧ k < Z.heap.size) (a := ⟨[], [], ⟨3, 0, [], [], 0⟩⟩) (Aparams := none) (cparams := 0) (Ains := none) (cins := 0) (Aend__args := none) (cend__args := 0) (Aend__to := none) (cend__to := 0) (Nat.le_refl _) (by decide) (.inl rfl) (Nat.le_refl _) (by decide) (.inl rfl) w3 w0 (Nat.le_refl _) (by decide) (.inl rfl) (Nat.le_refl _) (by decide) (.inl rfl) w0
  have eB := blk_els (t := tSb) (S := fun k => w.heap.size ≤ k ∧ k < Z.heap.size) (css := [[.slice none 0 0, .slice (some ⟨w.heap.size + 1 + 1 + 1 + 1, 0, none⟩) 1 1, .int .i64 1, .int .i64 0, .slice none 0 0, .slice (some ⟨w.heap.size + 1 + 1 + 1 + 1 + 1, 0, none⟩) 2 2, .int .i64 0], [.slice none 0 0, .slice none 0 0, .int .i64 3, .int .i64 0, .slice none 0 0, .slice none 0 0, .int .i64 0]]) (xs := bothB) (by simpa using b6) (hS 6 (by decide)) (Css.two r1 r2)
  exact bodyPost_ret (v := .agg #[.slice none 0 0, .slice none 0 0, .slice (some ⟨w.heap.size + 1 + 1, 0, none⟩) 1 1, .slice (some ⟨w.heap.size + 1 + 1 + 1 + 1 + 1 + 1, 0, none⟩) 2 2]) (by simp [results, Tryz.results10, go_sem, z0, z1, z2, z3]) rfl ⟨_, _, rfl, eV, eB, F⟩
theorem both_crit : crit (tosOf bothB) = [(0, 0), (0, 1)] := by decide
theorem both_split : splitB bothB = [⟨[], [⟨1, 0, 0, 0, 0, [], [0]⟩], ⟨1, 0, [], [⟨2, []⟩, ⟨3, []⟩], 0⟩⟩, ⟨[], [], ⟨3, 0, [], [], 0⟩⟩, jmp ⟨1, []⟩, jmp ⟨1, []⟩] := by
  unfold splitB
  rw [both_crit]
  rfl
end Go.Proofs.YtiafkakkbbclhaaGreat
namespace Go.Proofs.YtiafkakkbbclhaaGreat
open Go.RowKit
theorem bothF_FL : FL bothF := by
  refine ⟨by decide, by decide, by decide, by decide, by decide, ?_, ?_, ?_, ?_, ?_⟩ <;> simp [bothF, bothB]
theorem alive_any (w : World) : Calls Tryz.prog 6 #[] w fun e w' => e = .returned (.bool true) ∧ Fr No w w' := by
  go_enter Tryz.func6, Tryz.ntmps6
  go_wp2_with fail
  refine (both_any _).mono ?_
  rintro e w1 ⟨V, B, rfl, eV, eB, f⟩
  have F1 := hid f
  have HV := hid eV
  have HB := hid eB
  clear f eV eB
  go_wp2_with fail
  refine (func_any none none V B 0 0 1 2 0 0 1 2 bothF (fun k => w.heap.size ≤ k ∧ k < w1.heap.size) w1 (.inl rfl) (.inl rfl) HV.out HB.out (fun k hk => hk.2) rfl rfl rfl rfl bothF_FL).mono ?_
  rintro e w2 ⟨AP, cP, AR, cR, AV, cV, AB, cB, rs, rfl, _, _, _, hcb, f⟩
  have es : splitB bothF.blocks = [⟨[], [⟨1, 0, 0, 0, 0, [], [0]⟩], ⟨1, 0, [], [⟨2, []⟩, ⟨3, []⟩], 0⟩⟩, ⟨[], [], ⟨3, 0, [], [], 0⟩⟩, jmp ⟨1, []⟩, jmp ⟨1, []⟩] := both_split
  have e1 : bothF.type.params.length = 0 := rfl
  have e2 : bothF.type.results.length = 0 := rfl
  have e3 : bothF.vals.length = 1 := rfl
  have e4 : (splitB bothF.blocks).length = 4 := by rw [es]; rfl
  rw [e4, es] at hcb
  rw [e1, e2, e3, e4]
  clear es e1 e2 e3 e4
  have F2 := hid (F1.out.trans f (fun _ _ h => h))
  have HC := hid hcb
  clear f hcb
  have FA := hid ((Fr.refl No w2).alloc (.cells #[.slice AP 0 cP, .slice AR 0 cR, .slice AV 1 cV, .slice AB 4 cB] 39))
  have GV := hid (Blk.new w2 39 #[.slice AP 0 cP, .slice AR 0 cR, .slice AV 1 cV, .slice AB 4 cB])
  go_wp2_with fail
  refine (both_any _).mono ?_
  rintro e w3 ⟨V2, B2, rfl, _, eB2, f⟩
  have F3 := hid (FA.out.trans f (fun _ _ h => h))
  have G3 := hid (GV.out.fr f (fun x => x))
  have HB2 := hid eB2
  clear f eB2 FA GV
  go_wp2_with fail
  refine (crit_any none none V2 B2 0 0 1 2 0 0 1 2 bothB _ w3 HB2.out (fun k hk => hk.2) rfl (by decide) (by decide)).mono ?_
  rintro e w4 ⟨AC, cC, rfl, _, f⟩
  have ec : (crit (tosOf bothB)).length = 2 := by rw [both_crit]; rfl
  rw [ec]
  have F4 := hid (F3.out.trans f (fun _ _ h => h))
  have G4 := hid (G3.out.fr f (fun x => x))
  have y3 := G4.out.cell 3
  have hels := (HC.out.frNo F4.out).els
  obtain ⟨b, o, _, _, _, _, _, _, A3, c3, rfl, _, _, _, _, _, _, y5, _, _, _, _, _, _, _, _, _, _, _, _, _, _, he0, _⟩ := Sb_at hels 0 (by decide)
  obtain ⟨b2, o2, _, _, _, _, _, _, A4, c4, hb2, _, _, _, _, _, _, y6, _, _, _, _, _, _, _, _, _, _, _, _, _, _, he3, _⟩ := Sb_at hels 3 (by decide)
  injection hb2 with hb2
  injection hb2 with hb3 hb4 _
  subst hb3 hb4
  obtain ⟨g0, p0, _, _, rfl, _, z0, _⟩ := Ed_at he0 1 (by decide)
  obtain ⟨g3, p3, _, _, rfl, _, z3, _⟩ := Ed_at he3 0 (by decide)
  have u5 : w4.cell? ⟨b, o + 5, none⟩ = some (.slice (some ⟨g0, p0, none⟩) 2 c3) := by simpa using y5
  have u6 : w4.cell? ⟨b, o + 26, none⟩ = some (.slice (some ⟨g3, p3, none⟩) 1 c4) := by simpa [jmp] using y6
  have v0 : w4.cell? ⟨g0, p0 + 2, none⟩ = some (.int .i64 3) := by simpa using z0
  have v3 : w4.cell? ⟨g3, p3, none⟩ = some (.int .i64 1) := by simpa [jmp] using z3
  clear y5 y6 z0 z3 he0 he3 hels f ec
  go_wp2_with fail
  go_ret
  exact ⟨rfl, F2.out.trans F4.out (fun _ _ h => h)⟩
end Go.Proofs.YtiafkakkbbclhaaGreat
namespace Go.Proofs.YtiafkakkbbclhaaGreat
open Go.RowKit
structure Lim where
  min : Int
  max : Int
  has : Bool
  deriving DecidableEq
def tLim0 : Ty (Int × Int × Bool) := (Ty.int .i64).pair ((Ty.int .i64).pair (Ty.bool))
def tLim : Ty Lim := tLim0.iso fun a => (a.min, a.max, a.has)
instance : TyOk tLim := by unfold tLim tLim0; infer_instance
instance : TyMore tLim := by unfold tLim tLim0; infer_instance
theorem opens_Lim : Opens Tryz.prog 121 tLim := by
  refine opens_iso _ (fun x => ⟨x.1, x.2.1, x.2.2⟩) (fun _ => rfl) ?_
  exact opens_struct Tryz.underlying121 (by kernel_rfl) (Flds.cons rfl (by kernel_rfl) (opens_int Tryz.underlying3) (Flds.cons rfl (by kernel_rfl) (opens_int Tryz.underlying3) (Flds.one rfl (by kernel_rfl) (opens_bool Tryz.underlying4))))
theorem Lim_cells {w : World} {S : Nat → Prop} {cs : List Value} {a : Lim} (h : tLim.rd w S cs a) : cs = [.int .i64 a.min, .int .i64 a.max, .bool a.has] ∧ (Lit.int .i64 a.min).wf = true ∧ (Lit.int .i64 a.max).wf = true := by
  obtain ⟨xmin, rmin, rfl, ⟨rfl, wmin⟩, xmax, rmax, rfl, ⟨rfl, wmax⟩, rfl⟩ := h
  exact ⟨rfl, wmin, wmax⟩
theorem Lim_at {w : World} {S : Nat → Prop} {A : Option Addr} {l : List Lim} (h : tLim.els w S A l) (k : Nat) (hk : k < l.length) : ∃ (b o : Nat), A = some ⟨b, o, none⟩ ∧ S b ∧ w.cell? ⟨b, o + k * 3, none⟩ = some (.int .i64 l[k].min) ∧ w.cell? ⟨b, o + k * 3 + 1, none⟩ = some (.int .i64 l[k].max) ∧ w.cell? ⟨b, o + k * 3 + 2, none⟩ = some (.bool l[k].has) ∧ (Lit.int .i64 l[k].min).wf = true ∧ (Lit.int .i64 l[k].max).wf = true := by
  obtain ⟨b, o, ds, rfl, hb, hc, hr⟩ := h.at_ k hk
  obtain ⟨rfl, f0, f1⟩ := Lim_cells hr
  have e : tLim.size = 3 := rfl
  rw [e] at hc
  exact ⟨b, o, rfl, hb, hc 0 _ rfl, (by have := hc 1 _ rfl; rwa [← Nat.add_assoc] at this), (by have := hc 2 _ rfl; rwa [← Nat.add_assoc] at this), f0, f1⟩
structure Tb where
  elem : Int
  lim : Lim
  deriving DecidableEq
def tTb0 : Ty (Int × Lim) := (Ty.int .i64).pair (tLim)
def tTb : Ty Tb := tTb0.iso fun a => (a.elem, a.lim)
instance : TyOk tTb := by unfold tTb tTb0; infer_instance
instance : TyMore tTb := by unfold tTb tTb0; infer_instance
theorem opens_Tb : Opens Tryz.prog 142 tTb := by
  refine opens_iso _ (fun x => ⟨x.1, x.2⟩) (fun _ => rfl) ?_
  exact opens_struct Tryz.underlying142 (by kernel_rfl) (Flds.cons rfl (by kernel_rfl) (opens_int Tryz.underlying59) (Flds.one rfl (by kernel_rfl) opens_Lim))
theorem Tb_cells {w : World} {S : Nat → Prop} {cs : List Value} {a : Tb} (h : tTb.rd w S cs a) : cs = [.int .i64 a.elem, .int .i64 a.lim.min, .int .i64 a.lim.max, .bool a.lim.has] ∧ (Lit.int .i64 a.elem).wf = true ∧ (Lit.int .i64 a.lim.min).wf = true ∧ (Lit.int .i64 a.lim.max).wf = true := by
  obtain ⟨xelem, relem, rfl, ⟨rfl, welem⟩, hlim⟩ := h
  obtain ⟨rfl, klim0, klim1⟩ := Lim_cells hlim
  exact ⟨rfl, welem, klim0, klim1⟩
theorem Tb_at {w : World} {S : Nat → Prop} {A : Option Addr} {l : List Tb} (h : tTb.els w S A l) (k : Nat) (hk : k < l.length) : ∃ (b o : Nat), A = some ⟨b, o, none⟩ ∧ S b ∧ w.cell? ⟨b, o + k * 4, none⟩ = some (.int .i64 l[k].elem) ∧ w.cell? ⟨b, o + k * 4 + 1, none⟩ = some (.int .i64 l[k].lim.min) ∧ w.cell? ⟨b, o + k * 4 + 2, none⟩ = some (.int .i64 l[k].lim.max) ∧ w.cell? ⟨b, o + k * 4 + 3, none⟩ = some (.bool l[k].lim.has) ∧ (Lit.int .i64 l[k].elem).wf = true ∧ (Lit.int .i64 l[k].lim.min).wf = true ∧ (Lit.int .i64 l[k].lim.max).wf = true := by
  obtain ⟨b, o, ds, rfl, hb, hc, hr⟩ := h.at_ k hk
  obtain ⟨rfl, f0, f1, f2⟩ := Tb_cells hr
  have e : tTb.size = 4 := rfl
  rw [e] at hc
  exact ⟨b, o, rfl, hb, hc 0 _ rfl, (by have := hc 1 _ rfl; rwa [← Nat.add_assoc] at this), (by have := hc 2 _ rfl; rwa [← Nat.add_assoc] at this), (by have := hc 3 _ rfl; rwa [← Nat.add_assoc] at this), f0, f1, f2⟩
structure Gl where
  val : Int
  mut_ : Bool
  deriving DecidableEq
def tGl0 : Ty (Int × Bool) := (Ty.int .i64).pair (Ty.bool)
def tGl : Ty Gl := tGl0.iso fun a => (a.val, a.mut_)
instance : TyOk tGl := by unfold tGl tGl0; infer_instance
instance : TyMore tGl := by unfold tGl tGl0; infer_instance
theorem opens_Gl : Opens Tryz.prog 144 tGl := by
  refine opens_iso _ (fun x => ⟨x.1, x.2⟩) (fun _ => rfl) ?_
  exact opens_struct Tryz.underlying144 (by kernel_rfl) (Flds.cons rfl (by kernel_rfl) (opens_int Tryz.underlying59) (Flds.one rfl (by kernel_rfl) (opens_bool Tryz.underlying4)))
theorem Gl_cells {w : World} {S : Nat → Prop} {cs : List Value} {a : Gl} (h : tGl.rd w S cs a) : cs = [.int .i64 a.val, .bool a.mut_] ∧ (Lit.int .i64 a.val).wf = true := by
  obtain ⟨xval, rval, rfl, ⟨rfl, wval⟩, rfl⟩ := h
  exact ⟨rfl, wval⟩
structure Im where
  mod : ByteArray
  name : ByteArray
  kind : Int
  func : Int
  table : Tb
  mem : Lim
  glob : Gl
def tIm0 : Ty (ByteArray × ByteArray × Int × Int × Tb × Lim × Gl) := Ty.str.pair (Ty.str.pair ((Ty.int .i64).pair ((Ty.int .i64).pair (tTb.pair (tLim.pair (tGl))))))
def tIm : Ty Im := tIm0.iso fun a => (a.mod, a.name, a.kind, a.func, a.table, a.mem, a.glob)
instance : TyOk tIm := by unfold tIm tIm0; infer_instance
instance : TyMore tIm := by unfold tIm tIm0; infer_instance
theorem opens_Im : Opens Tryz.prog 146 tIm := by
  refine opens_iso _ (fun x => ⟨x.1, x.2.1, x.2.2.1, x.2.2.2.1, x.2.2.2.2.1, x.2.2.2.2.2.1, x.2.2.2.2.2.2⟩) (fun _ => rfl) ?_
  exact opens_struct Tryz.underlying146 (by kernel_rfl) (Flds.cons rfl (by kernel_rfl) (opens_str Tryz.underlying9) (Flds.cons rfl (by kernel_rfl) (opens_str Tryz.underlying9) (Flds.cons rfl (by kernel_rfl) (opens_int Tryz.underlying140) (Flds.cons rfl (by kernel_rfl) (opens_int Tryz.underlying3) (Flds.cons rfl (by kernel_rfl) opens_Tb (Flds.cons rfl (by kernel_rfl) opens_Lim (Flds.one rfl (by kernel_rfl) opens_Gl)))))))
theorem Im_cells {w : World} {S : Nat → Prop} {cs : List Value} {a : Im} (h : tIm.rd w S cs a) : cs = [.string a.mod, .string a.name, .int .i64 a.kind, .int .i64 a.func, .int .i64 a.table.elem, .int .i64 a.table.lim.min, .int .i64 a.table.lim.max, .bool a.table.lim.has, .int .i64 a.mem.min, .int .i64 a.mem.max, .bool a.mem.has, .int .i64 a.glob.val, .bool a.glob.mut_] ∧ a.mod.size ≤ maxLen ∧ a.name.size ≤ maxLen ∧ (Lit.int .i64 a.kind).wf = true ∧ (Lit.int .i64 a.func).wf = true ∧ (Lit.int .i64 a.table.elem).wf = true ∧ (Lit.int .i64 a.table.lim.min).wf = true ∧ (Lit.int .i64 a.table.lim.max).wf = true ∧ (Lit.int .i64 a.mem.min).wf = true ∧ (Lit.int .i64 a.mem.max).wf = true ∧ (Lit.int .i64 a.glob.val).wf = true := by
  obtain ⟨xmod, rmod, rfl, ⟨rfl, wmod⟩, xname, rname, rfl, ⟨rfl, wname⟩, xkind, rkind, rfl, ⟨rfl, wkind⟩, xfunc, rfunc, rfl, ⟨rfl, wfunc⟩, xtable, rtable, rfl, htable, xmem, rmem, rfl, hmem, hglob⟩ := h
  obtain ⟨rfl, ktable0, ktable1, ktable2⟩ := Tb_cells htable
  obtain ⟨rfl, kmem0, kmem1⟩ := Lim_cells hmem
  obtain ⟨rfl, kglob0⟩ := Gl_cells hglob
  exact ⟨rfl, wmod, wname, wkind, wfunc, ktable0, ktable1, ktable2, kmem0, kmem1, kglob0⟩
theorem Im_at {w : World} {S : Nat → Prop} {A : Option Addr} {l : List Im} (h : tIm.els w S A l) (k : Nat) (hk : k < l.length) : ∃ (b o : Nat), A = some ⟨b, o, none⟩ ∧ S b ∧ w.cell? ⟨b, o + k * 13, none⟩ = some (.string l[k].mod) ∧ w.cell? ⟨b, o + k * 13 + 1, none⟩ = some (.string l[k].name) ∧ w.cell? ⟨b, o + k * 13 + 2, none⟩ = some (.int .i64 l[k].kind) ∧ w.cell? ⟨b, o + k * 13 + 3, none⟩ = some (.int .i64 l[k].func) ∧ w.cell? ⟨b, o + k * 13 + 4, none⟩ = some (.int .i64 l[k].table.elem) ∧ w.cell? ⟨b, o + k * 13 + 5, none⟩ = some (.int .i64 l[k].table.lim.min) ∧ w.cell? ⟨b, o + k * 13 + 6, none⟩ = some (.int .i64 l[k].table.lim.max) ∧ w.cell? ⟨b, o + k * 13 + 7, none⟩ = some (.bool l[k].table.lim.has) ∧ w.cell? ⟨b, o + k * 13 + 8, none⟩ = some (.int .i64 l[k].mem.min) ∧ w.cell? ⟨b, o + k * 13 + 9, none⟩ = some (.int .i64 l[k].mem.max) ∧ w.cell? ⟨b, o + k * 13 + 10, none⟩ = some (.bool l[k].mem.has) ∧ w.cell? ⟨b, o + k * 13 + 11, none⟩ = some (.int .i64 l[k].glob.val) ∧ w.cell? ⟨b, o + k * 13 + 12, none⟩ = some (.bool l[k].glob.mut_) ∧ l[k].mod.size ≤ maxLen ∧ l[k].name.size ≤ maxLen ∧ (Lit.int .i64 l[k].kind).wf = true ∧ (Lit.int .i64 l[k].func).wf = true ∧ (Lit.int .i64 l[k].table.elem).wf = true ∧ (Lit.int .i64 l[k].table.lim.min).wf = true ∧ (Lit.int .i64 l[k].table.lim.max).wf = true ∧ (Lit.int .i64 l[k].mem.min).wf = true ∧ (Lit.int .i64 l[k].mem.max).wf = true ∧ (Lit.int .i64 l[k].glob.val).wf = true := by
  obtain ⟨b, o, ds, rfl, hb, hc, hr⟩ := h.at_ k hk
  obtain ⟨rfl, f0, f1, f2, f3, f4, f5, f6, f7, f8, f9⟩ := Im_cells hr
  have e : tIm.size = 13 := rfl
  rw [e] at hc
  exact ⟨b, o, rfl, hb, hc 0 _ rfl, (by have := hc 1 _ rfl; rwa [← Nat.add_assoc] at this), (by have := hc 2 _ rfl; rwa [← Nat.add_assoc] at this), (by have := hc 3 _ rfl; rwa [← Nat.add_assoc] at this), (by have := hc 4 _ rfl; rwa [← Nat.add_assoc] at this), (by have := hc 5 _ rfl; rwa [← Nat.add_assoc] at this), (by have := hc 6 _ rfl; rwa [← Nat.add_assoc] at this), (by have := hc 7 _ rfl; rwa [← Nat.add_assoc] at this), (by have := hc 8 _ rfl; rwa [← Nat.add_assoc] at this), (by have := hc 9 _ rfl; rwa [← Nat.add_assoc] at this), (by have := hc 10 _ rfl; rwa [← Nat.add_assoc] at this), (by have := hc 11 _ rfl; rwa [← Nat.add_assoc] at this), (by have := hc 12 _ rfl; rwa [← Nat.add_assoc] at this), f0, f1, f2, f3, f4, f5, f6, f7, f8, f9⟩
structure Cd where
  type : Int
  locals : Nat
  body : Nat
def tCd0 : Ty (Int × Nat × Nat) := (Ty.int .i64).pair (Ty.slen.pair (Ty.slen))
def tCd : Ty Cd := tCd0.iso fun a => (a.type, a.locals, a.body)
instance : TyOk tCd := by unfold tCd tCd0; infer_instance
instance : TyMore tCd := by unfold tCd tCd0; infer_instance
theorem opens_Cd : Opens Tryz.prog 151 tCd := by
  refine opens_iso _ (fun x => ⟨x.1, x.2.1, x.2.2⟩) (fun _ => rfl) ?_
  exact opens_struct Tryz.underlying151 (by kernel_rfl) (Flds.cons rfl (by kernel_rfl) (opens_int Tryz.underlying3) (Flds.cons rfl (by kernel_rfl) (opens_slen Tryz.underlying34) (Flds.one rfl (by kernel_rfl) (opens_slen Tryz.underlying58))))
theorem Cd_cells {w : World} {S : Nat → Prop} {cs : List Value} {a : Cd} (h : tCd.rd w S cs a) : ∃ (Alocals : Option Addr) (clocals : Nat) (Abody : Option Addr) (cbody : Nat), cs = [.int .i64 a.type, .slice Alocals a.locals clocals, .slice Abody a.body cbody] ∧ (Lit.int .i64 a.type).wf = true ∧ a.locals ≤ clocals ∧ clocals ≤ maxLen ∧ a.body ≤ cbody ∧ cbody ≤ maxLen := by
  obtain ⟨xtype, rtype, rfl, ⟨rfl, wtype⟩, xlocals, rlocals, rfl, ⟨Alocals, clocals, rfl, glocals, mlocals⟩, Abody, cbody, rfl, gbody, mbody⟩ := h
  exact ⟨Alocals, clocals, Abody, cbody, rfl, wtype, glocals, mlocals, gbody, mbody⟩
theorem Cd_at {w : World} {S : Nat → Prop} {A : Option Addr} {l : List Cd} (h : tCd.els w S A l) (k : Nat) (hk : k < l.length) : ∃ (b o : Nat) (Alocals : Option Addr) (clocals : Nat) (Abody : Option Addr) (cbody : Nat), A = some ⟨b, o, none⟩ ∧ S b ∧ w.cell? ⟨b, o + k * 3, none⟩ = some (.int .i64 l[k].type) ∧ w.cell? ⟨b, o + k * 3 + 1, none⟩ = some (.slice Alocals l[k].locals clocals) ∧ w.cell? ⟨b, o + k * 3 + 2, none⟩ = some (.slice Abody l[k].body cbody) ∧ (Lit.int .i64 l[k].type).wf = true ∧ l[k].locals ≤ clocals ∧ clocals ≤ maxLen ∧ l[k].body ≤ cbody ∧ cbody ≤ maxLen := by
  obtain ⟨b, o, ds, rfl, hb, hc, hr⟩ := h.at_ k hk
  obtain ⟨Alocals, clocals, Abody, cbody, rfl, f0, f1, f2, f3, f4⟩ := Cd_cells hr
  have e : tCd.size = 3 := rfl
  rw [e] at hc
  exact ⟨b, o, Alocals, clocals, Abody, cbody, rfl, hb, hc 0 _ rfl, (by have := hc 1 _ rfl; rwa [← Nat.add_assoc] at this), (by have := hc 2 _ rfl; rwa [← Nat.add_assoc] at this), f0, f1, f2, f3, f4⟩
structure Bk where
  kind : Int
  val : Int
  index : Int
  deriving DecidableEq
def tBk0 : Ty (Int × Int × Int) := (Ty.int .i64).pair ((Ty.int .i64).pair ((Ty.int .i64)))
def tBk : Ty Bk := tBk0.iso fun a => (a.kind, a.val, a.index)
instance : TyOk tBk := by unfold tBk tBk0; infer_instance
instance : TyMore tBk := by unfold tBk tBk0; infer_instance
theorem opens_Bk : Opens Tryz.prog 137 tBk := by
  refine opens_iso _ (fun x => ⟨x.1, x.2.1, x.2.2⟩) (fun _ => rfl) ?_
  exact opens_struct Tryz.underlying137 (by kernel_rfl) (Flds.cons rfl (by kernel_rfl) (opens_int Tryz.underlying3) (Flds.cons rfl (by kernel_rfl) (opens_int Tryz.underlying59) (Flds.one rfl (by kernel_rfl) (opens_int Tryz.underlying3))))
structure Ins where
  op : Int
  a : Int
  b : Int
  n : Int
  block : Bk
  types : Nat
  labels : Nat
def tIns0 : Ty (Int × Int × Int × Int × Bk × Nat × Nat) := (Ty.int .i64).pair ((Ty.int .i64).pair ((Ty.int .i64).pair ((Ty.int .u64).pair (tBk.pair (Ty.slen.pair (Ty.slen))))))
def tIns : Ty Ins := tIns0.iso fun a => (a.op, a.a, a.b, a.n, a.block, a.types, a.labels)
instance : TyOk tIns := by unfold tIns tIns0; infer_instance
instance : TyMore tIns := by unfold tIns tIns0; infer_instance
theorem opens_Ins : Opens Tryz.prog 139 tIns := by
  refine opens_iso _ (fun x => ⟨x.1, x.2.1, x.2.2.1, x.2.2.2.1, x.2.2.2.2.1, x.2.2.2.2.2.1, x.2.2.2.2.2.2⟩) (fun _ => rfl) ?_
  exact opens_struct Tryz.underlying139 (by kernel_rfl) (Flds.cons rfl (by kernel_rfl) (opens_int Tryz.underlying79) (Flds.cons rfl (by kernel_rfl) (opens_int Tryz.underlying3) (Flds.cons rfl (by kernel_rfl) (opens_int Tryz.underlying3) (Flds.cons rfl (by kernel_rfl) (opens_int Tryz.underlying80) (Flds.cons rfl (by kernel_rfl) opens_Bk (Flds.cons rfl (by kernel_rfl) (opens_slen Tryz.underlying34) (Flds.one rfl (by kernel_rfl) (opens_slen Tryz.underlying50))))))))
structure Gd where
  type : Gl
  init : List Ins
def tGd0 : Ty (Gl × List Ins) := tGl.pair (tIns.slice)
def tGd : Ty Gd := tGd0.iso fun a => (a.type, a.init)
instance : TyOk tGd := by unfold tGd tGd0; infer_instance
instance : TyMore tGd := by unfold tGd tGd0; infer_instance
theorem opens_Gd : Opens Tryz.prog 181 tGd := by
  refine opens_iso _ (fun x => ⟨x.1, x.2⟩) (fun _ => rfl) ?_
  exact opens_struct Tryz.underlying181 (by kernel_rfl) (Flds.cons rfl (by kernel_rfl) opens_Gl (Flds.one rfl (by kernel_rfl) (opens_slice Tryz.underlying58 (by kernel_rfl) (by decide) opens_Ins)))
theorem Gd_cells {w : World} {S : Nat → Prop} {cs : List Value} {a : Gd} (h : tGd.rd w S cs a) : ∃ (Ainit : Option Addr) (cinit : Nat), cs = [.int .i64 a.type.val, .bool a.type.mut_, .slice Ainit a.init.length cinit] ∧ (Lit.int .i64 a.type.val).wf = true ∧ a.init.length ≤ cinit ∧ cinit ≤ maxLen ∧ tIns.els w S Ainit a.init := by
  obtain ⟨xtype, rtype, rfl, htype, Ainit, cinit, rfl, ginit, minit, einit⟩ := h
  obtain ⟨rfl, ktype0⟩ := Gl_cells htype
  exact ⟨Ainit, cinit, rfl, ktype0, ginit, minit, einit⟩
theorem Gd_at {w : World} {S : Nat → Prop} {A : Option Addr} {l : List Gd} (h : tGd.els w S A l) (k : Nat) (hk : k < l.length) : ∃ (b o : Nat) (Ainit : Option Addr) (cinit : Nat), A = some ⟨b, o, none⟩ ∧ S b ∧ w.cell? ⟨b, o + k * 3, none⟩ = some (.int .i64 l[k].type.val) ∧ w.cell? ⟨b, o + k * 3 + 1, none⟩ = some (.bool l[k].type.mut_) ∧ w.cell? ⟨b, o + k * 3 + 2, none⟩ = some (.slice Ainit l[k].init.length cinit) ∧ (Lit.int .i64 l[k].type.val).wf = true ∧ l[k].init.length ≤ cinit ∧ cinit ≤ maxLen ∧ tIns.els w S Ainit l[k].init := by
  obtain ⟨b, o, ds, rfl, hb, hc, hr⟩ := h.at_ k hk
  obtain ⟨Ainit, cinit, rfl, f0, f1, f2, f3⟩ := Gd_cells hr
  have e : tGd.size = 3 := rfl
  rw [e] at hc
  exact ⟨b, o, Ainit, cinit, rfl, hb, hc 0 _ rfl, (by have := hc 1 _ rfl; rwa [← Nat.add_assoc] at this), (by have := hc 2 _ rfl; rwa [← Nat.add_assoc] at this), f0, f1, f2, f3⟩
structure Ex where
  name : ByteArray
  kind : Int
  index : Int
def tEx0 : Ty (ByteArray × Int × Int) := Ty.str.pair ((Ty.int .i64).pair ((Ty.int .i64)))
def tEx : Ty Ex := tEx0.iso fun a => (a.name, a.kind, a.index)
instance : TyOk tEx := by unfold tEx tEx0; infer_instance
instance : TyMore tEx := by unfold tEx tEx0; infer_instance
theorem opens_Ex : Opens Tryz.prog 178 tEx := by
  refine opens_iso _ (fun x => ⟨x.1, x.2.1, x.2.2⟩) (fun _ => rfl) ?_
  exact opens_struct Tryz.underlying178 (by kernel_rfl) (Flds.cons rfl (by kernel_rfl) (opens_str Tryz.underlying9) (Flds.cons rfl (by kernel_rfl) (opens_int Tryz.underlying140) (Flds.one rfl (by kernel_rfl) (opens_int Tryz.underlying3))))
structure El where
  mode : Int
  table : Int
  off : Nat
  type : Int
  items : List (List Ins)
def tEl0 : Ty (Int × Int × Nat × Int × List (List Ins)) := (Ty.int .i64).pair ((Ty.int .i64).pair (Ty.slen.pair ((Ty.int .i64).pair (tIns.slice.slice))))
def tEl : Ty El := tEl0.iso fun a => (a.mode, a.table, a.off, a.type, a.items)
instance : TyOk tEl := by unfold tEl tEl0; infer_instance
instance : TyMore tEl := by unfold tEl tEl0; infer_instance
theorem opens_El : Opens Tryz.prog 62 tEl := by
  refine opens_iso _ (fun x => ⟨x.1, x.2.1, x.2.2.1, x.2.2.2.1, x.2.2.2.2⟩) (fun _ => rfl) ?_
  exact opens_struct Tryz.underlying62 (by kernel_rfl) (Flds.cons rfl (by kernel_rfl) (opens_int Tryz.underlying3) (Flds.cons rfl (by kernel_rfl) (opens_int Tryz.underlying3) (Flds.cons rfl (by kernel_rfl) (opens_slen Tryz.underlying58) (Flds.cons rfl (by kernel_rfl) (opens_int Tryz.underlying59) (Flds.one rfl (by kernel_rfl) (opens_slice Tryz.underlying60 (by kernel_rfl) (by decide) (opens_slice Tryz.underlying58 (by kernel_rfl) (by decide) opens_Ins)))))))
theorem El_cells {w : World} {S : Nat → Prop} {cs : List Value} {a : El} (h : tEl.rd w S cs a) : ∃ (Aoff : Option Addr) (coff : Nat) (Aitems : Option Addr) (citems : Nat), cs = [.int .i64 a.mode, .int .i64 a.table, .slice Aoff a.off coff, .int .i64 a.type, .slice Aitems a.items.length citems] ∧ (Lit.int .i64 a.mode).wf = true ∧ (Lit.int .i64 a.table).wf = true ∧ a.off ≤ coff ∧ coff ≤ maxLen ∧ (Lit.int .i64 a.type).wf = true ∧ a.items.length ≤ citems ∧ citems ≤ maxLen ∧ tIns.slice.els w S Aitems a.items := by
  obtain ⟨xmode, rmode, rfl, ⟨rfl, wmode⟩, xtable, rtable, rfl, ⟨rfl, wtable⟩, xoff, roff, rfl, ⟨Aoff, coff, rfl, goff, moff⟩, xtype, rtype, rfl, ⟨rfl, wtype⟩, Aitems, citems, rfl, gitems, mitems, eitems⟩ := h
  exact ⟨Aoff, coff, Aitems, citems, rfl, wmode, wtable, goff, moff, wtype, gitems, mitems, eitems⟩
theorem El_at {w : World} {S : Nat → Prop} {A : Option Addr} {l : List El} (h : tEl.els w S A l) (k : Nat) (hk : k < l.length) : ∃ (b o : Nat) (Aoff : Option Addr) (coff : Nat) (Aitems : Option Addr) (citems : Nat), A = some ⟨b, o, none⟩ ∧ S b ∧ w.cell? ⟨b, o + k * 5, none⟩ = some (.int .i64 l[k].mode) ∧ w.cell? ⟨b, o + k * 5 + 1, none⟩ = some (.int .i64 l[k].table) ∧ w.cell? ⟨b, o + k * 5 + 2, none⟩ = some (.slice Aoff l[k].off coff) ∧ w.cell? ⟨b, o + k * 5 + 3, none⟩ = some (.int .i64 l[k].type) ∧ w.cell? ⟨b, o + k * 5 + 4, none⟩ = some (.slice Aitems l[k].items.length citems) ∧ (Lit.int .i64 l[k].mode).wf = true ∧ (Lit.int .i64 l[k].table).wf = true ∧ l[k].off ≤ coff ∧ coff ≤ maxLen ∧ (Lit.int .i64 l[k].type).wf = true ∧ l[k].items.length ≤ citems ∧ citems ≤ maxLen ∧ tIns.slice.els w S Aitems l[k].items := by
  obtain ⟨b, o, ds, rfl, hb, hc, hr⟩ := h.at_ k hk
  obtain ⟨Aoff, coff, Aitems, citems, rfl, f0, f1, f2, f3, f4, f5, f6, f7⟩ := El_cells hr
  have e : tEl.size = 5 := rfl
  rw [e] at hc
  exact ⟨b, o, Aoff, coff, Aitems, citems, rfl, hb, hc 0 _ rfl, (by have := hc 1 _ rfl; rwa [← Nat.add_assoc] at this), (by have := hc 2 _ rfl; rwa [← Nat.add_assoc] at this), (by have := hc 3 _ rfl; rwa [← Nat.add_assoc] at this), (by have := hc 4 _ rfl; rwa [← Nat.add_assoc] at this), f0, f1, f2, f3, f4, f5, f6, f7⟩
structure Md where
  types : List Fn
  imports : List Im
  funcs : List Cd
  tables : List Tb
  mems : List Lim
  globals : List Gd
  exports : List Ex
  hasStart : Bool
  start : Int
  elems : List El
  datas : Nat
  customs : Nat
def tMd0 : Ty (List Fn × List Im × List Cd × List Tb × List Lim × List Gd × List Ex × Bool × Int × List El × Nat × Nat) := tFn.slice.pair (tIm.slice.pair (tCd.slice.pair (tTb.slice.pair (tLim.slice.pair (tGd.slice.pair (tEx.slice.pair (Ty.bool.pair ((Ty.int .i64).pair (tEl.slice.pair (Ty.slen.pair (Ty.slen)))))))))))
def tMd : Ty Md := tMd0.iso fun a => (a.types, a.imports, a.funcs, a.tables, a.mems, a.globals, a.exports, a.hasStart, a.start, a.elems, a.datas, a.customs)
instance : TyOk tMd := by unfold tMd tMd0; infer_instance
instance : TyMore tMd := by unfold tMd tMd0; infer_instance
instance : TyOne tMd := by unfold tMd tMd0; infer_instance
theorem opens_Md : Opens Tryz.prog 33 tMd := by
  refine opens_iso _ (fun x => ⟨x.1, x.2.1, x.2.2.1, x.2.2.2.1, x.2.2.2.2.1, x.2.2.2.2.2.1, x.2.2.2.2.2.2.1, x.2.2.2.2.2.2.2.1, x.2.2.2.2.2.2.2.2.1, x.2.2.2.2.2.2.2.2.2.1, x.2.2.2.2.2.2.2.2.2.2.1, x.2.2.2.2.2.2.2.2.2.2.2⟩) (fun _ => rfl) ?_
  exact opens_struct Tryz.underlying33 (by kernel_rfl) (Flds.cons rfl (by kernel_rfl) (opens_slice Tryz.underlying22 (by kernel_rfl) (by decide) opens_Fn) (Flds.cons rfl (by kernel_rfl) (opens_slice Tryz.underlying23 (by kernel_rfl) (by decide) opens_Im) (Flds.cons rfl (by kernel_rfl) (opens_slice Tryz.underlying24 (by kernel_rfl) (by decide) opens_Cd) (Flds.cons rfl (by kernel_rfl) (opens_slice Tryz.underlying25 (by kernel_rfl) (by decide) opens_Tb) (Flds.cons rfl (by kernel_rfl) (opens_slice Tryz.underlying26 (by kernel_rfl) (by decide) opens_Lim) (Flds.cons rfl (by kernel_rfl) (opens_slice Tryz.underlying27 (by kernel_rfl) (by decide) opens_Gd) (Flds.cons rfl (by kernel_rfl) (opens_slice Tryz.underlying28 (by kernel_rfl) (by decide) opens_Ex) (Flds.cons rfl (by kernel_rfl) (opens_bool Tryz.underlying4) (Flds.cons rfl (by kernel_rfl) (opens_int Tryz.underlying3) (Flds.cons rfl (by kernel_rfl) (opens_slice Tryz.underlying29 (by kernel_rfl) (by decide) opens_El) (Flds.cons rfl (by kernel_rfl) (opens_slen Tryz.underlying30) (Flds.one rfl (by kernel_rfl) (opens_slen Tryz.underlying31)))))))))))))
theorem Md_cells {w : World} {S : Nat → Prop} {cs : List Value} {a : Md} (h : tMd.rd w S cs a) : ∃ (Atypes : Option Addr) (ctypes : Nat) (Aimports : Option Addr) (cimports : Nat) (Afuncs : Option Addr) (cfuncs : Nat) (Atables : Option Addr) (ctables : Nat) (Amems : Option Addr) (cmems : Nat) (Aglobals : Option Addr) (cglobals : Nat) (Aexports : Option Addr) (cexports : Nat) (Aelems : Option Addr) (celems : Nat) (Adatas : Option Addr) (cdatas : Nat) (Acustoms : Option Addr) (ccustoms : Nat), cs = [.slice Atypes a.types.length ctypes, .slice Aimports a.imports.length cimports, .slice Afuncs a.funcs.length cfuncs, .slice Atables a.tables.length ctables, .slice Amems a.mems.length cmems, .slice Aglobals a.globals.length cglobals, .slice Aexports a.exports.length cexports, .bool a.hasStart, .int .i64 a.start, .slice Aelems a.elems.length celems, .slice Adatas a.datas cdatas, .slice Acustoms a.customs ccustoms] ∧ a.types.length ≤ ctypes ∧ ctypes ≤ maxLen ∧ tFn.els w S Atypes a.types ∧ a.imports.length ≤ cimports ∧ cimports ≤ maxLen ∧ tIm.els w S Aimports a.imports ∧ a.funcs.length ≤ cfuncs ∧ cfuncs ≤ maxLen ∧ tCd.els w S Afuncs a.funcs ∧ a.tables.length ≤ ctables ∧ ctables ≤ maxLen ∧ tTb.els w S Atables a.tables ∧ a.mems.length ≤ cmems ∧ cmems ≤ maxLen ∧ tLim.els w S Amems a.mems ∧ a.globals.length ≤ cglobals ∧ cglobals ≤ maxLen ∧ tGd.els w S Aglobals a.globals ∧ a.exports.length ≤ cexports ∧ cexports ≤ maxLen ∧ tEx.els w S Aexports a.exports ∧ (Lit.int .i64 a.start).wf = true ∧ a.elems.length ≤ celems ∧ celems ≤ maxLen ∧ tEl.els w S Aelems a.elems ∧ a.datas ≤ cdatas ∧ cdatas ≤ maxLen ∧ a.customs ≤ ccustoms ∧ ccustoms ≤ maxLen := by
  obtain ⟨xtypes, rtypes, rfl, ⟨Atypes, ctypes, rfl, gtypes, mtypes, etypes⟩, ximports, rimports, rfl, ⟨Aimports, cimports, rfl, gimports, mimports, eimports⟩, xfuncs, rfuncs, rfl, ⟨Afuncs, cfuncs, rfl, gfuncs, mfuncs, efuncs⟩, xtables, rtables, rfl, ⟨Atables, ctables, rfl, gtables, mtables, etables⟩, xmems, rmems, rfl, ⟨Amems, cmems, rfl, gmems, mmems, emems⟩, xglobals, rglobals, rfl, ⟨Aglobals, cglobals, rfl, gglobals, mglobals, eglobals⟩, xexports, rexports, rfl, ⟨Aexports, cexports, rfl, gexports, mexports, eexports⟩, xhasStart, rhasStart, rfl, rfl, xstart, rstart, rfl, ⟨rfl, wstart⟩, xelems, relems, rfl, ⟨Aelems, celems, rfl, gelems, melems, eelems⟩, xdatas, rdatas, rfl, ⟨Adatas, cdatas, rfl, gdatas, mdatas⟩, Acustoms, ccustoms, rfl, gcustoms, mcustoms⟩ := h
  exact ⟨Atypes, ctypes, Aimports, cimports, Afuncs, cfuncs, Atables, ctables, Amems, cmems, Aglobals, cglobals, Aexports, cexports, Aelems, celems, Adatas, cdatas, Acustoms, ccustoms, rfl, gtypes, mtypes, etypes, gimports, mimports, eimports, gfuncs, mfuncs, efuncs, gtables, mtables, etables, gmems, mmems, emems, gglobals, mglobals, eglobals, gexports, mexports, eexports, wstart, gelems, melems, eelems, gdatas, mdatas, gcustoms, mcustoms⟩
structure R5 where
  op : Int
  name : ByteArray
  imm : Int
def tR50 : Ty (Int × ByteArray × Int) := (Ty.int .i64).pair (Ty.str.pair ((Ty.int .i64)))
def tR5 : Ty R5 := tR50.iso fun a => (a.op, a.name, a.imm)
instance : TyOk tR5 := by unfold tR5 tR50; infer_instance
instance : TyMore tR5 := by unfold tR5 tR50; infer_instance
instance : TyOne tR5 := by unfold tR5 tR50; infer_instance
theorem R5_cells {w : World} {S : Nat → Prop} {cs : List Value} {a : R5} (h : tR5.rd w S cs a) : cs = [.int .i64 a.op, .string a.name, .int .i64 a.imm] ∧ (Lit.int .i64 a.op).wf = true ∧ a.name.size ≤ maxLen ∧ (Lit.int .i64 a.imm).wf = true := by
  obtain ⟨xop, rop, rfl, ⟨rfl, wop⟩, xname, rname, rfl, ⟨rfl, wname⟩, rfl, wimm⟩ := h
  exact ⟨rfl, wop, wname, wimm⟩
theorem R5_mk {w : World} {S : Nat → Prop} {a : R5}  (f0 : (Lit.int .i64 a.op).wf = true) (f1 : a.name.size ≤ maxLen) (f2 : (Lit.int .i64 a.imm).wf = true) : tR5.rd w S [.int .i64 a.op, .string a.name, .int .i64 a.imm] a :=
  ⟨[.int .i64 a.op], [.string a.name, .int .i64 a.imm], rfl, ⟨rfl, f0⟩, ⟨[.string a.name], [.int .i64 a.imm], rfl, ⟨rfl, f1⟩, ⟨rfl, f2⟩⟩⟩
theorem R5_at {w : World} {S : Nat → Prop} {A : Option Addr} {l : List R5} (h : tR5.els w S A l) (k : Nat) (hk : k < l.length) : ∃ (b o : Nat), A = some ⟨b, o, none⟩ ∧ S b ∧ w.cell? ⟨b, o + k * 3, none⟩ = some (.int .i64 l[k].op) ∧ w.cell? ⟨b, o + k * 3 + 1, none⟩ = some (.string l[k].name) ∧ w.cell? ⟨b, o + k * 3 + 2, none⟩ = some (.int .i64 l[k].imm) ∧ (Lit.int .i64 l[k].op).wf = true ∧ l[k].name.size ≤ maxLen ∧ (Lit.int .i64 l[k].imm).wf = true := by
  obtain ⟨b, o, ds, rfl, hb, hc, hr⟩ := h.at_ k hk
  obtain ⟨rfl, f0, f1, f2⟩ := R5_cells hr
  have e : tR5.size = 3 := rfl
  rw [e] at hc
  exact ⟨b, o, rfl, hb, hc 0 _ rfl, (by have := hc 1 _ rfl; rwa [← Nat.add_assoc] at this), (by have := hc 2 _ rfl; rwa [← Nat.add_assoc] at this), f0, f1, f2⟩
end Go.Proofs.YtiafkakkbbclhaaGreat
namespace Go.Proofs.YtiafkakkbbclhaaGreat
open Go.RowKit
theorem rt_bool {a b : Bool} (h : a = b) : Ending.returned (.bool a) = .returned (.bool b) := by rw [h]
theorem rt_int {k : IntKind} {a b : Int} (h : a = b) : Ending.returned (.int k a) = .returned (.int k b) := by rw [h]
def atD {α : Type} (d : α) (l : List α) (i : Int) : α × Bool := if h : 0 ≤ i ∧ i < l.length then (l[i.toNat]'(by omega), true) else (d, false)
theorem atD_yes {α : Type} {d : α} {l : List α} {k : Nat} (h : k < l.length) : atD d l (k : Int) = (l[k], true) := by
  rw [atD, dif_pos ⟨by omega, by omega⟩]; simp
theorem atD_no {α : Type} {d : α} {l : List α} {i : Int} (h : i < 0 ∨ (l.length : Int) ≤ i) : atD d l i = (d, false) := by
  rw [atD, dif_neg (by omega)]
theorem at_cases {α : Type} (l : List α) (i : Int) : (∃ k : Nat, k < l.length ∧ i = k) ∨ i < 0 ∨ (¬ i < 0 ∧ (l.length : Int) ≤ i) := by
  by_cases h : i < 0
  · exact .inr (.inl h)
  · by_cases h2 : (l.length : Int) ≤ i
    · exact .inr (.inr ⟨h, h2⟩)
    · exact .inl ⟨i.toNat, by omega, by omega⟩
def zFn : Fn := ⟨[], []⟩
def zLim : Lim := ⟨0, 0, false⟩
def zTb : Tb := ⟨0, zLim⟩
def zGl : Gl := ⟨0, false⟩
def AtFn (f : Fn) (ok : Bool) (S : Nat → Prop) (X : World) (e : Ending) (w' : World) : Prop :=
  ∃ (A1 : Option Addr) (c1 : Nat) (A2 : Option Addr) (c2 : Nat), e = .returned (.tuple #[.agg #[.slice A1 f.params.length c1, .slice A2 f.results.length c2], .bool ok]) ∧ tI.els w' S A1 f.params ∧ tI.els w' S A2 f.results ∧ Fr No X w'
instance : TyFlat tR5 := by unfold tR5 tR50; infer_instance
theorem elR5s : ElemOk Tryz.prog 152 131 3 32 (.agg #[.int .i64 0, .string ⟨#[]⟩, .int .i64 0]) := ElemOk.mk' Tryz.underlying152 (by kernel_rfl) rfl (by decide)
theorem strs_at {w : World} {S : Nat → Prop} {A : Option Addr} {l : List ByteArray} (h : Ty.str.els w S A l) (i : Nat) (hi : i < l.length) : ∃ (b o : Nat), A = some ⟨b, o, none⟩ ∧ S b ∧
    w.cell? ⟨b, o + i, none⟩ = some (.string l[i]) ∧ l[i].size ≤ maxLen := by
  obtain ⟨b, o, ds, rfl, hb, hc, rfl, hw⟩ := h.at_ i hi
  have := hc 0 _ rfl
  have e : Ty.str.size = 1 := rfl
  rw [e, Nat.mul_one, Nat.add_zero] at this
  exact ⟨b, o, rfl, hb, this, hw⟩
def cR5 (x : R5) : List Value := [.int .i64 x.op, .string x.name, .int .i64 x.imm]
def okR5 (x : R5) : Bool := decide (0 ≤ x.op ∧ x.op ≤ 65535 ∧ x.name.size ≤ 100 ∧ 0 ≤ x.imm ∧ x.imm ≤ 20)
theorem rd_R5 {w : World} {S : Nat → Prop} {x : R5} (h : okR5 x = true) : tR5.rd w S (cR5 x) x := by
  obtain ⟨h1, h2, h3, h4, h5⟩ := of_decide_eq_true h
  exact R5_mk (wf_bool64 (by omega)) (by simp only [maxLen]; omega) (wf_bool64 (by omega))
theorem css_map {α : Type} {t : Ty α} {w : World} {S : Nat → Prop} {f : α → List Value} : ∀ {l : List α}, (∀ x ∈ l, t.rd w S (f x) x) → Css t w S (l.map f) l := fun {l} h =>
  ⟨by simp, fun i c x e1 e2 => by
    rw [List.getElem?_map, e2] at e1
    have e := Option.some.inj e1
    subst e
    exact h x (List.mem_of_getElem? e2)⟩
theorem css_R5 {w : World} {S : Nat → Prop} {l : List R5} (h : ∀ x ∈ l, okR5 x = true) : Css tR5 w S (l.map cR5) l := css_map fun x hx => rd_R5 (h x hx)
theorem css_str {w : World} {S : Nat → Prop} {l : List ByteArray} (h : ∀ x ∈ l, x.size ≤ 100) : Css Ty.str w S (l.map fun s => [Value.string s]) l := css_map fun x hx => ⟨rfl, by have := h x hx; simp only [maxLen]; omega⟩
def RowTo (l : List R5) (w : World) (e : Ending) (w' : World) : Prop :=
  ∃ (A : Option Addr) (c : Nat), e = .returned (.slice A l.length c) ∧ tR5.row w' w.heap.size Emp 131 (.slice A l.length c) l ∧ Fr No w w'
def StrTo (l : List ByteArray) (w : World) (e : Ending) (w' : World) : Prop :=
  ∃ (A : Option Addr) (c : Nat), e = .returned (.slice A l.length c) ∧ Ty.str.row w' w.heap.size Emp 9 (.slice A l.length c) l ∧ Fr No w w'
def numR (first : Int) (typ : ByteArray) (l : List ByteArray) : List R5 := l.mapIdx fun i s => ⟨first + (i : Int), typ ++ ⟨#[46]⟩ ++ s, 0⟩
theorem numR_len (first : Int) (typ : ByteArray) (l : List ByteArray) : (numR first typ l).length = l.length := by simp [numR]
theorem numR_succ {first : Int} {typ : ByteArray} {l : List ByteArray} {k : Nat} (hk : k < l.length) : numR first typ (l.take (k + 1)) = numR first typ (l.take k) ++ [⟨first + (k : Int), typ ++ ⟨#[46]⟩ ++ l[k], 0⟩] := by
  unfold numR
  rw [List.take_succ_eq_append_getElem hk, List.mapIdx_append]
  simp [Nat.min_eq_left (Nat.le_of_lt hk)]
def ctlR : List R5 := [⟨0, ⟨#[117, 110, 114, 101, 97, 99, 104, 97, 98, 108, 101]⟩, 0⟩, ⟨1, ⟨#[110, 111, 112]⟩, 0⟩, ⟨2, ⟨#[98, 108, 111, 99, 107]⟩, 1⟩, ⟨3, ⟨#[108, 111, 111, 112]⟩, 1⟩, ⟨4, ⟨#[105, 102]⟩, 1⟩, ⟨5, ⟨#[101, 108, 115, 101]⟩, 0⟩, ⟨11, ⟨#[101, 110, 100]⟩, 0⟩, ⟨12, ⟨#[98, 114]⟩, 2⟩, ⟨13, ⟨#[98, 114, 95, 105, 102]⟩, 2⟩, ⟨14, ⟨#[98, 114, 95, 116, 97, 98, 108, 101]⟩, 3⟩, ⟨15, ⟨#[114, 101, 116, 117, 114, 110]⟩, 0⟩, ⟨16, ⟨#[99, 97, 108, 108]⟩, 4⟩, ⟨17, ⟨#[99, 97, 108, 108, 95, 105, 110, 100, 105, 114, 101, 99, 116]⟩, 5⟩, ⟨26, ⟨#[100, 114, 111, 112]⟩, 0⟩, ⟨27, ⟨#[115, 101, 108, 101, 99, 116]⟩, 0⟩, ⟨28, ⟨#[115, 101, 108, 101, 99, 116]⟩, 6⟩, ⟨32, ⟨#[108, 111, 99, 97, 108, 46, 103, 101, 116]⟩, 7⟩, ⟨33, ⟨#[108, 111, 99, 97, 108, 46, 115, 101, 116]⟩, 7⟩, ⟨34, ⟨#[108, 111, 99, 97, 108, 46, 116, 101, 101]⟩, 7⟩, ⟨35, ⟨#[103, 108, 111, 98, 97, 108, 46, 103, 101, 116]⟩, 8⟩, ⟨36, ⟨#[103, 108, 111, 98, 97, 108, 46, 115, 101, 116]⟩, 8⟩, ⟨37, ⟨#[116, 97, 98, 108, 101, 46, 103, 101, 116]⟩, 9⟩, ⟨38, ⟨#[116, 97, 98, 108, 101, 46, 115, 101, 116]⟩, 9⟩]
theorem ctl_ok : ∀ x ∈ ctlR, okR5 x = true := by decide
theorem ctl_any (w : World) : Calls Tryz.prog 76 #[] w (RowTo ctlR w) := by
  have HB := hid (Blk.new w 131 (ctlR.map cR5).flatten.toArray)
  go_enter Tryz.func76, Tryz.ntmps76
  go_wp2
  go_ret
  refine ⟨some ⟨w.heap.size, 0, none⟩, 23, rfl, ?_, (Fr.refl No w).alloc _⟩
  exact Ty.row.lit (t := tR5) (css := ctlR.map cR5) HB.out (Nat.le_refl _) (css_R5 ctl_ok) (by decide)
def accR : List R5 := [⟨40, ⟨#[105, 51, 50, 46, 108, 111, 97, 100]⟩, 17⟩, ⟨41, ⟨#[105, 54, 52, 46, 108, 111, 97, 100]⟩, 17⟩, ⟨44, ⟨#[105, 51, 50, 46, 108, 111, 97, 100, 56, 95, 115]⟩, 17⟩, ⟨45, ⟨#[105, 51, 50, 46, 108, 111, 97, 100, 56, 95, 117]⟩, 17⟩, ⟨46, ⟨#[105, 51, 50, 46, 108, 111, 97, 100, 49, 54, 95, 115]⟩, 17⟩, ⟨47, ⟨#[105, 51, 50, 46, 108, 111, 97, 100, 49, 54, 95, 117]⟩, 17⟩, ⟨48, ⟨#[105, 54, 52, 46, 108, 111, 97, 100, 56, 95, 115]⟩, 17⟩, ⟨49, ⟨#[105, 54, 52, 46, 108, 111, 97, 100, 56, 95, 117]⟩, 17⟩, ⟨50, ⟨#[105, 54, 52, 46, 108, 111, 97, 100, 49, 54, 95, 115]⟩, 17⟩, ⟨51, ⟨#[105, 54, 52, 46, 108, 111, 97, 100, 49, 54, 95, 117]⟩, 17⟩, ⟨52, ⟨#[105, 54, 52, 46, 108, 111, 97, 100, 51, 50, 95, 115]⟩, 17⟩, ⟨53, ⟨#[105, 54, 52, 46, 108, 111, 97, 100, 51, 50, 95, 117]⟩, 17⟩, ⟨54, ⟨#[105, 51, 50, 46, 115, 116, 111, 114, 101]⟩, 17⟩, ⟨55, ⟨#[105, 54, 52, 46, 115, 116, 111, 114, 101]⟩, 17⟩, ⟨58, ⟨#[105, 51, 50, 46, 115, 116, 111, 114, 101, 56]⟩, 17⟩, ⟨59, ⟨#[105, 51, 50, 46, 115, 116, 111, 114, 101, 49, 54]⟩, 17⟩, ⟨60, ⟨#[105, 54, 52, 46, 115, 116, 111, 114, 101, 56]⟩, 17⟩, ⟨61, ⟨#[105, 54, 52, 46, 115, 116, 111, 114, 101, 49, 54]⟩, 17⟩, ⟨62, ⟨#[105, 54, 52, 46, 115, 116, 111, 114, 101, 51, 50]⟩, 17⟩, ⟨63, ⟨#[109, 101, 109, 111, 114, 121, 46, 115, 105, 122, 101]⟩, 13⟩, ⟨64, ⟨#[109, 101, 109, 111, 114, 121, 46, 103, 114, 111, 119]⟩, 13⟩, ⟨65, ⟨#[105, 51, 50, 46, 99, 111, 110, 115, 116]⟩, 18⟩, ⟨66, ⟨#[105, 54, 52, 46, 99, 111, 110, 115, 116]⟩, 19⟩]
theorem acc_ok : ∀ x ∈ accR, okR5 x = true := by decide
theorem acc_any (w : World) : Calls Tryz.prog 77 #[] w (RowTo accR w) := by
  have HB := hid (Blk.new w 131 (accR.map cR5).flatten.toArray)
  go_enter Tryz.func77, Tryz.ntmps77
  go_wp2
  go_ret
  refine ⟨some ⟨w.heap.size, 0, none⟩, 23, rfl, ?_, (Fr.refl No w).alloc _⟩
  exact Ty.row.lit (t := tR5) (css := accR.map cR5) HB.out (Nat.le_refl _) (css_R5 acc_ok) (by decide)
def finR : List R5 := [⟨208, ⟨#[114, 101, 102, 46, 110, 117, 108, 108]⟩, 20⟩, ⟨209, ⟨#[114, 101, 102, 46, 105, 115, 95, 110, 117, 108, 108]⟩, 0⟩, ⟨210, ⟨#[114, 101, 102, 46, 102, 117, 110, 99]⟩, 4⟩, ⟨64520, ⟨#[109, 101, 109, 111, 114, 121, 46, 105, 110, 105, 116]⟩, 15⟩, ⟨64521, ⟨#[100, 97, 116, 97, 46, 100, 114, 111, 112]⟩, 16⟩, ⟨64522, ⟨#[109, 101, 109, 111, 114, 121, 46, 99, 111, 112, 121]⟩, 14⟩, ⟨64523, ⟨#[109, 101, 109, 111, 114, 121, 46, 102, 105, 108, 108]⟩, 13⟩, ⟨64524, ⟨#[116, 97, 98, 108, 101, 46, 105, 110, 105, 116]⟩, 11⟩, ⟨64525, ⟨#[101, 108, 101, 109, 46, 100, 114, 111, 112]⟩, 12⟩, ⟨64526, ⟨#[116, 97, 98, 108, 101, 46, 99, 111, 112, 121]⟩, 10⟩, ⟨64527, ⟨#[116, 97, 98, 108, 101, 46, 103, 114, 111, 119]⟩, 9⟩, ⟨64528, ⟨#[116, 97, 98, 108, 101, 46, 115, 105, 122, 101]⟩, 9⟩, ⟨64529, ⟨#[116, 97, 98, 108, 101, 46, 102, 105, 108, 108]⟩, 9⟩]
theorem fin_ok : ∀ x ∈ finR, okR5 x = true := by decide
theorem fin_any (w : World) : Calls Tryz.prog 81 #[] w (RowTo finR w) := by
  have HB := hid (Blk.new w 131 (finR.map cR5).flatten.toArray)
  go_enter Tryz.func81, Tryz.ntmps81
  go_wp2
  go_ret
  refine ⟨some ⟨w.heap.size, 0, none⟩, 13, rfl, ?_, (Fr.refl No w).alloc _⟩
  exact Ty.row.lit (t := tR5) (css := finR.map cR5) HB.out (Nat.le_refl _) (css_R5 fin_ok) (by decide)
def cmpS : List ByteArray := [⟨#[101, 113, 122]⟩, ⟨#[101, 113]⟩, ⟨#[110, 101]⟩, ⟨#[108, 116, 95, 115]⟩, ⟨#[108, 116, 95, 117]⟩, ⟨#[103, 116, 95, 115]⟩, ⟨#[103, 116, 95, 117]⟩, ⟨#[108, 101, 95, 115]⟩, ⟨#[108, 101, 95, 117]⟩, ⟨#[103, 101, 95, 115]⟩, ⟨#[103, 101, 95, 117]⟩]
theorem cmp_ok : ∀ x ∈ cmpS, x.size ≤ 100 := by decide
theorem cmp_any (w : World) : Calls Tryz.prog 79 #[] w (StrTo cmpS w) := by
  have HB := hid (Blk.new w 9 (cmpS.map fun s => [Value.string s]).flatten.toArray)
  go_enter Tryz.func79, Tryz.ntmps79
  go_wp2
  go_ret
  refine ⟨some ⟨w.heap.size, 0, none⟩, 11, rfl, ?_, (Fr.refl No w).alloc _⟩
  exact Ty.row.lit (t := Ty.str) (css := cmpS.map fun s => [Value.string s]) HB.out (Nat.le_refl _) (css_str cmp_ok) (by decide)
def twoS : List ByteArray := [⟨#[99, 108, 122]⟩, ⟨#[99, 116, 122]⟩, ⟨#[112, 111, 112, 99, 110, 116]⟩, ⟨#[97, 100, 100]⟩, ⟨#[115, 117, 98]⟩, ⟨#[109, 117, 108]⟩, ⟨#[100, 105, 118, 95, 115]⟩, ⟨#[100, 105, 118, 95, 117]⟩, ⟨#[114, 101, 109, 95, 115]⟩, ⟨#[114, 101, 109, 95, 117]⟩, ⟨#[97, 110, 100]⟩, ⟨#[111, 114]⟩, ⟨#[120, 111, 114]⟩, ⟨#[115, 104, 108]⟩, ⟨#[115, 104, 114, 95, 115]⟩, ⟨#[115, 104, 114, 95, 117]⟩, ⟨#[114, 111, 116, 108]⟩, ⟨#[114, 111, 116, 114]⟩]
theorem two_ok : ∀ x ∈ twoS, x.size ≤ 100 := by decide
theorem two_any (w : World) : Calls Tryz.prog 80 #[] w (StrTo twoS w) := by
  have HB := hid (Blk.new w 9 (twoS.map fun s => [Value.string s]).flatten.toArray)
  go_enter Tryz.func80, Tryz.ntmps80
  go_wp2
  go_ret
  refine ⟨some ⟨w.heap.size, 0, none⟩, 18, rfl, ?_, (Fr.refl No w).alloc _⟩
  exact Ty.row.lit (t := Ty.str) (css := twoS.map fun s => [Value.string s]) HB.out (Nat.le_refl _) (css_str two_ok) (by decide)
def cnvR : List R5 := [⟨167, ⟨#[105, 51, 50, 46, 119, 114, 97, 112, 95, 105, 54, 52]⟩, 0⟩, ⟨172, ⟨#[105, 54, 52, 46, 101, 120, 116, 101, 110, 100, 95, 105, 51, 50, 95, 115]⟩, 0⟩, ⟨173, ⟨#[105, 54, 52, 46, 101, 120, 116, 101, 110, 100, 95, 105, 51, 50, 95, 117]⟩, 0⟩]
theorem cnv_ok : ∀ x ∈ cnvR, okR5 x = true := by decide
def exAS : List ByteArray := [⟨#[101, 120, 116, 101, 110, 100, 56, 95, 115]⟩, ⟨#[101, 120, 116, 101, 110, 100, 49, 54, 95, 115]⟩]
theorem exA_ok : ∀ x ∈ exAS, x.size ≤ 100 := by decide
def exBS : List ByteArray := [⟨#[101, 120, 116, 101, 110, 100, 56, 95, 115]⟩, ⟨#[101, 120, 116, 101, 110, 100, 49, 54, 95, 115]⟩, ⟨#[101, 120, 116, 101, 110, 100, 51, 50, 95, 115]⟩]
theorem exB_ok : ∀ x ∈ exBS, x.size ≤ 100 := by decide
def i32S : ByteArray := ⟨#[105, 51, 50]⟩
def i64S : ByteArray := ⟨#[105, 54, 52]⟩
def tb0 : List R5 := ctlR ++ accR
def tb1 : List R5 := tb0 ++ numR 69 i32S cmpS
def tb2 : List R5 := tb1 ++ numR 80 i64S cmpS
def tb3 : List R5 := tb2 ++ numR 103 i32S twoS
def tb4 : List R5 := tb3 ++ numR 121 i64S twoS
def tb5 : List R5 := tb4 ++ cnvR
def tb6 : List R5 := tb5 ++ numR 192 i32S exAS
def tb7 : List R5 := tb6 ++ numR 194 i64S exBS
def tb8 : List R5 := tb7 ++ finR
theorem tb0_len : tb0.length = 46 := by decide
theorem tb1_len : tb1.length = 57 := by rw [tb1, List.length_append, tb0_len, numR_len]; rfl
theorem tb2_len : tb2.length = 68 := by rw [tb2, List.length_append, tb1_len, numR_len]; rfl
theorem tb3_len : tb3.length = 86 := by rw [tb3, List.length_append, tb2_len, numR_len]; rfl
theorem tb4_len : tb4.length = 104 := by rw [tb4, List.length_append, tb3_len, numR_len]; rfl
theorem tb5_len : tb5.length = 107 := by rw [tb5, List.length_append, tb4_len]; rfl
theorem tb6_len : tb6.length = 109 := by rw [tb6, List.length_append, tb5_len, numR_len]; rfl
theorem tb7_len : tb7.length = 112 := by rw [tb7, List.length_append, tb6_len, numR_len]; rfl
theorem tb8_len : tb8.length = 125 := by rw [tb8, List.length_append, tb7_len]; rfl
end Go.Proofs.YtiafkakkbbclhaaGreat
namespace Go.Proofs.YtiafkakkbbclhaaGreat
open Go.RowKit
theorem numbers_any (first : Int) (typ : ByteArray) (A0 : Option Addr) (c0 : Nat) (l : List ByteArray) (S : Nat → Prop) (w : World) (h : Ty.str.els w S A0 l) (hS : ∀ k, S k → k < w.heap.size) (hl : l.length ≤ 100) (hf : 0 ≤ first ∧ first ≤ 1000) (ht : typ.size ≤ 100) (hs : ∀ x ∈ l, x.size ≤ 100) :
    Calls Tryz.prog 78 #[.int .i64 first, .string typ, .slice A0 l.length c0] w (RowTo (numR first typ l) w) := by
  have HE := hid h
  have hbl := hid hS
  have HSZ := hid hs
  have hlen := numR_len first typ l
  have HLEN := hid hlen
  clear h hS hs hlen
  obtain ⟨m, hm⟩ : ∃ m, l.length = m := ⟨_, rfl⟩
  have HM := hid hm
  rw [hm] at hl ⊢
  clear hm
  go_enter Tryz.func78, Tryz.ntmps78
  go_wp2_with fail
  go_loopw [7, 8] (fun v i wr => ∃ (k : Nat) (A : Option Addr) (c : Nat), k ≤ m ∧ i = .int .i64 k ∧ v = .slice A k c ∧ Hid (tR5.row wr w.heap.size Emp 131 (.slice A k c) (numR first typ (l.take k))) ∧ Hid (Fr No w wr)) (fun _ i _ => m - (intOf i).toNat)
  case atStart => exact ⟨0, none, 0, by omega, rfl, rfl, hid (by rw [List.take_zero]; exact Ty.row.nil _ _ _ _), hid (Fr.refl No w)⟩
  case round =>
    obtain ⟨k, A, c, hk, rfl, rfl, HR, FR⟩ := hrel
    by_cases hgo : k < m
    · have hlk : k < l.length := by have := HM.out; omega
      obtain ⟨b, o, rfl, hb, z0, _⟩ := strs_at HE.out k hlk
      have hbb := hbl.out b hb
      replace z0 := (FR.out.cell (p := ⟨b, o + k, none⟩) hbb (fun x => x)).trans z0
      have HTK := hid (numR_succ (first := first) (typ := typ) hlk)
      have hsz := HSZ.out _ (List.getElem_mem hlk)
      generalize l[k] = s at *
      have i0 : (0 : Int) ≤ k := by omega
      have i1 : (k : Int) < m := by omega
      have hsum : ¬ (typ.size + (⟨#[46]⟩ : ByteArray).size > 9223372036854775807) := by
        have : (⟨#[46]⟩ : ByteArray).size = 1 := rfl
        omega
      have hs1 : (typ ++ (⟨#[46]⟩ : ByteArray)).size = typ.size + 1 := by rw [ByteArray.size_append]; rfl
      have hsum2 : ¬ ((typ ++ (⟨#[46]⟩ : ByteArray)).size + s.size > 9223372036854775807) := by omega
      have hs2 : (typ ++ (⟨#[46]⟩ : ByteArray) ++ s).size ≤ maxLen := by rw [ByteArray.size_append, hs1]; simp only [maxLen]; omega
      have HWF := hid (R5_mk (w := wr) (S := Emp) (a := ⟨first + (k : Int), typ ++ ⟨#[46]⟩ ++ s, 0⟩) (wf_bool64 (by simp only; omega)) hs2 (wf_bool64 (by simp only; omega)))
      have BL := hid (Blk.new wr 131 #[.int .i64 (first + (k : Int)), .string (typ ++ ⟨#[46]⟩ ++ s), .int .i64 0])
      have FL := (Fr.refl No wr).alloc (.cells #[.int .i64 (first + (k : Int)), .string (typ ++ ⟨#[46]⟩ ++ s), .int .i64 0] 131)
      have FRL := hid (FR.out.trans FL (fun _ _ h => h))
      have RL := hid (HR.out.fr FL (fun _ h => h.elim) (fun _ _ h => h))
      have HLT := hid (numR_len first typ (l.take k))
      have HLK : (l.take k).length = k := by rw [List.length_take]; omega
      have HLL : (numR first typ (l.take k)).length = k := by rw [HLT.out, HLK]
      have HLQ := hid HLL
      clear FL hs1 hs2 HLL HLT HLK
      go_wp2_with (at_builtin; refine wpList_appC (t := tR5) (base := w.heap.size) (S := Emp) (xs := numR first typ (l.take k)) (ys := [⟨first + (k : Int), typ ++ ⟨#[46]⟩ ++ s, 0⟩]) (dss := [[.int .i64 (first + (k : Int)), .string (typ ++ ⟨#[46]⟩ ++ s), .int .i64 0]]) (B2 := (wr.alloc (.cells #[.int .i64 (first + (k : Int)), .string (typ ++ ⟨#[46]⟩ ++ s), .int .i64 0] 131)).heap.size) elR5s rfl rfl rfl rfl RL.out (Css.one ((inferInstance : TyFlat tR5).flat _ _ _ _ _ _ HWF.out)) (by simpa using Rd.blk BL.out BL.out.lt 0 (xs := [.int .i64 (first + (k : Int)), .string (typ ++ ⟨#[46]⟩ ++ s), .int .i64 0]) (fun i u h => by rw [Nat.zero_add]; simpa using h)) rfl (by rw [HLQ.out]; omega) (by rw [HLQ.out]; omega) (fun _ h => h.elim) FRL.out.size ?_; intro v8 wy hr fr1 hv; have FY := hid (own_frame RL.out FRL.out fr1 (Nat.le_refl _)); have RY := hid hr; clear hr fr1 hv)
      rw [← HTK.out] at RY
      obtain ⟨A8, c8, e8, _, _, _⟩ := RY.out.els (S' := fun _ => True) (fun _ _ => trivial) (fun _ _ => trivial)
      have hl8 : (numR first typ (l.take (k + 1))).length = k + 1 := by rw [numR_len, List.length_take]; have := HM.out; omega
      rw [hl8] at e8
      subst e8
      clear RL BL FRL
      go_wp2_with fail
      go_round
      case rel => exact ⟨k + 1, A8, c8, by omega, by go_num, rfl, RY, FY⟩
      case measure => simp [intOf]; omega
    · have hkm : k = m := by omega
      subst hkm
      clear hgo
      go_wp2
      go_ret
      have ht : l.take k = l := List.take_of_length_le (by rw [HM.out]; exact Nat.le_refl _)
      rw [ht] at HR
      refine ⟨A, c, ?_, ?_, FR.out⟩
      · rw [HLEN.out, HM.out]; rfl
      · rw [HLEN.out, HM.out]; exact HR.out
def RowN (n : Nat) (l : List R5) (w : World) (e : Ending) (w' : World) : Prop :=
  ∃ (A : Option Addr) (c : Nat), e = .returned (.slice A n c) ∧ tR5.row w' w.heap.size Emp 131 (.slice A n c) l ∧ Fr No w w'
def StrN (n : Nat) (l : List ByteArray) (w : World) (e : Ending) (w' : World) : Prop :=
  ∃ (A : Option Addr) (c : Nat), e = .returned (.slice A n c) ∧ Ty.str.row w' w.heap.size Emp 9 (.slice A n c) l ∧ Fr No w w'
theorem RowTo.n {n : Nat} {l : List R5} {w : World} {e : Ending} {w' : World} (h : RowTo l w e w') (hn : l.length = n) : RowN n l w e w' := by subst hn; exact h
theorem StrTo.n {n : Nat} {l : List ByteArray} {w : World} {e : Ending} {w' : World} (h : StrTo l w e w') (hn : l.length = n) : StrN n l w e w' := by subst hn; exact h
theorem row_src {l : List R5} {w : World} {base : Nat} {A : Option Addr} {n c : Nat} (h : tR5.row w base Emp 131 (.slice A n c) l) : ∃ css, (∀ w' S', Css tR5 w' S' css l) ∧ Rd w w.heap.size A css.flatten := by
  obtain ⟨css, h1, h2⟩ := h.rd
  exact ⟨css, fun w' S' => h1.flat w' S', h2⟩
theorem row_slice {l : List R5} {w : World} {base n : Nat} {v : Value} (h : tR5.row w base Emp 131 v l) (hn : l.length = n) : ∃ (A : Option Addr) (c : Nat), v = .slice A n c := by
  obtain ⟨A8, c8, e8, _, _, _⟩ := h.els (S' := fun _ => True) (fun _ _ => trivial) (fun _ _ => trivial)
  exact ⟨A8, c8, by rw [e8, hn]⟩
def tbR : List R5 := tb8
theorem rows_any (w : World) : Calls Tryz.prog 72 #[] w (RowTo tbR w) := by
  go_enter Tryz.func72, Tryz.ntmps72
  go_wp2_with fail
  have HN := (ctl_any w).mono fun e w' h => RowTo.n (n := 23) h rfl
  refine HN.mono ?_
  clear HN
  rintro e w1 ⟨A1, c1, rfl, r1, f1⟩
  have R1 := hid r1
  have F1 := hid f1
  clear r1 f1
  go_wp2_with fail
  have HN := (acc_any w1).mono fun e w' h => RowTo.n (n := 23) h rfl
  refine HN.mono ?_
  clear HN
  rintro e w2 ⟨A2, c2, rfl, r2, f2⟩
  have F2 := hid (F1.out.trans f2 (fun _ _ h => h))
  have RA := hid (R1.out.fr f2 (fun _ h => h.elim) (fun _ _ h => h))
  obtain ⟨css, hcs, hrd⟩ := row_src r2
  have HC := hid hcs
  have HD := hid hrd
  clear r2 f2 R1 F1 hcs hrd
  go_wp2_with (at_builtin; refine wpList_appC (t := tR5) (base := w.heap.size) (S := Emp) (xs := ctlR) (ys := accR) (dss := css) (B2 := w2.heap.size) elR5s rfl rfl rfl rfl RA.out (HC.out _ _) HD.out rfl (by decide) (by decide) (fun _ h => h.elim) F2.out.size ?_; intro v3 w3 hr fr1 hv; have F3 := hid (own_frame RA.out F2.out fr1 (Nat.le_refl _)); have R3 := hid hr; clear hr fr1 hv)
  rw [show ctlR ++ accR = tb0 from rfl] at R3
  obtain ⟨A3, c3, e3⟩ := row_slice R3.out tb0_len
  subst e3
  clear RA HC HD F2
  go_wp2_with fail
  have HN := (cmp_any w3).mono fun e w' h => StrTo.n (n := 11) h rfl
  refine HN.mono ?_
  clear HN
  rintro e w4 ⟨A4, c4, rfl, r, f⟩
  have F4 := hid (F3.out.trans f (fun _ _ h => h))
  have RA := hid (R3.out.fr f (fun _ h => h.elim) (fun _ _ h => h))
  obtain ⟨A', c', e', _, _, hs⟩ := r.els (S' := (· < w4.heap.size)) (fun _ h => h.elim) (fun g hg => by obtain ⟨_, _, hb⟩ := r.own hg; exact hb.lt)
  rw [show cmpS.length = 11 from rfl] at e'
  injection e' with e1 e2 e3
  subst e1
  clear e2 e3
  have HS := hid hs
  clear r f hs R3 F3
  go_wp2_with fail
  have HN := numbers_any 69 i32S A4 c4 cmpS (· < w4.heap.size) w4 HS.out (fun _ h => h) (by decide) (by decide) (by decide) cmp_ok
  rw [show cmpS.length = 11 from rfl] at HN
  replace HN := HN.mono fun e w' h => RowTo.n (n := 11) h (by rw [numR_len]; rfl)
  refine HN.mono ?_
  clear HN
  rintro e w5 ⟨A5, c5, rfl, r, f⟩
  have FA := hid (F4.out.trans f (fun _ _ h => h))
  replace RA := hid (RA.out.fr f (fun _ h => h.elim) (fun _ _ h => h))
  obtain ⟨css, hcs, hrd⟩ := row_src r
  have HC := hid hcs
  have HD := hid hrd
  clear r f F4 hcs hrd HS
  go_wp2_with (at_builtin; refine wpList_appC (t := tR5) (base := w.heap.size) (S := Emp) (xs := tb0) (ys := numR 69 i32S cmpS) (dss := css) (B2 := w5.heap.size) elR5s rfl rfl rfl rfl RA.out (HC.out _ _) HD.out (by rw [numR_len]; rfl) (by rw [tb0_len]; omega) (by rw [tb0_len]; omega) (fun _ h => h.elim) FA.out.size ?_; intro v6 w6 hr fr1 hv; have F6 := hid (own_frame RA.out FA.out fr1 (Nat.le_refl _)); have R6 := hid hr; clear hr fr1 hv)
  rw [show tb0 ++ numR 69 i32S cmpS = tb1 from rfl] at R6
  obtain ⟨A6, c6, e6⟩ := row_slice R6.out tb1_len
  subst e6
  clear RA HC HD FA
  go_wp2_with fail
  have HN := (cmp_any w6).mono fun e w' h => StrTo.n (n := 11) h rfl
  refine HN.mono ?_
  clear HN
  rintro e w7 ⟨A7, c7, rfl, r, f⟩
  have F7 := hid (F6.out.trans f (fun _ _ h => h))
  have RA := hid (R6.out.fr f (fun _ h => h.elim) (fun _ _ h => h))
  obtain ⟨A', c', e', _, _, hs⟩ := r.els (S' := (· < w7.heap.size)) (fun _ h => h.elim) (fun g hg => by obtain ⟨_, _, hb⟩ := r.own hg; exact hb.lt)
  rw [show cmpS.length = 11 from rfl] at e'
  injection e' with e1 e2 e3
  subst e1
  clear e2 e3
  have HS := hid hs
  clear r f hs R6 F6
  go_wp2_with fail
  have HN := numbers_any 80 i64S A7 c7 cmpS (· < w7.heap.size) w7 HS.out (fun _ h => h) (by decide) (by decide) (by decide) cmp_ok
  rw [show cmpS.length = 11 from rfl] at HN
  replace HN := HN.mono fun e w' h => RowTo.n (n := 11) h (by rw [numR_len]; rfl)
  refine HN.mono ?_
  clear HN
  rintro e w8 ⟨A8, c8, rfl, r, f⟩
  have FA := hid (F7.out.trans f (fun _ _ h => h))
  replace RA := hid (RA.out.fr f (fun _ h => h.elim) (fun _ _ h => h))
  obtain ⟨css, hcs, hrd⟩ := row_src r
  have HC := hid hcs
  have HD := hid hrd
  clear r f F7 hcs hrd HS
  go_wp2_with (at_builtin; refine wpList_appC (t := tR5) (base := w.heap.size) (S := Emp) (xs := tb1) (ys := numR 80 i64S cmpS) (dss := css) (B2 := w8.heap.size) elR5s rfl rfl rfl rfl RA.out (HC.out _ _) HD.out (by rw [numR_len]; rfl) (by rw [tb1_len]; omega) (by rw [tb1_len]; omega) (fun _ h => h.elim) FA.out.size ?_; intro v9 w9 hr fr1 hv; have F9 := hid (own_frame RA.out FA.out fr1 (Nat.le_refl _)); have R9 := hid hr; clear hr fr1 hv)
  rw [show tb1 ++ numR 80 i64S cmpS = tb2 from rfl] at R9
  obtain ⟨A9, c9, e9⟩ := row_slice R9.out tb2_len
  subst e9
  clear RA HC HD FA
  go_wp2_with fail
  have HN := (two_any w9).mono fun e w' h => StrTo.n (n := 18) h rfl
  refine HN.mono ?_
  clear HN
  rintro e w10 ⟨A10, c10, rfl, r, f⟩
  have F10 := hid (F9.out.trans f (fun _ _ h => h))
  have RA := hid (R9.out.fr f (fun _ h => h.elim) (fun _ _ h => h))
  obtain ⟨A', c', e', _, _, hs⟩ := r.els (S' := (· < w10.heap.size)) (fun _ h => h.elim) (fun g hg => by obtain ⟨_, _, hb⟩ := r.own hg; exact hb.lt)
  rw [show twoS.length = 18 from rfl] at e'
  injection e' with e1 e2 e3
  subst e1
  clear e2 e3
  have HS := hid hs
  clear r f hs R9 F9
  go_wp2_with fail
  have HN := numbers_any 103 i32S A10 c10 twoS (· < w10.heap.size) w10 HS.out (fun _ h => h) (by decide) (by decide) (by decide) two_ok
  rw [show twoS.length = 18 from rfl] at HN
  replace HN := HN.mono fun e w' h => RowTo.n (n := 18) h (by rw [numR_len]; rfl)
  refine HN.mono ?_
  clear HN
  rintro e w11 ⟨A11, c11, rfl, r, f⟩
  have FA := hid (F10.out.trans f (fun _ _ h => h))
  replace RA := hid (RA.out.fr f (fun _ h => h.elim) (fun _ _ h => h))
  obtain ⟨css, hcs, hrd⟩ := row_src r
  have HC := hid hcs
  have HD := hid hrd
  clear r f F10 hcs hrd HS
  go_wp2_with (at_builtin; refine wpList_appC (t := tR5) (base := w.heap.size) (S := Emp) (xs := tb2) (ys := numR 103 i32S twoS) (dss := css) (B2 := w11.heap.size) elR5s rfl rfl rfl rfl RA.out (HC.out _ _) HD.out (by rw [numR_len]; rfl) (by rw [tb2_len]; omega) (by rw [tb2_len]; omega) (fun _ h => h.elim) FA.out.size ?_; intro v12 w12 hr fr1 hv; have F12 := hid (own_frame RA.out FA.out fr1 (Nat.le_refl _)); have R12 := hid hr; clear hr fr1 hv)
  rw [show tb2 ++ numR 103 i32S twoS = tb3 from rfl] at R12
  obtain ⟨A12, c12, e12⟩ := row_slice R12.out tb3_len
  subst e12
  clear RA HC HD FA
  go_wp2_with fail
  have HN := (two_any w12).mono fun e w' h => StrTo.n (n := 18) h rfl
  refine HN.mono ?_
  clear HN
  rintro e w13 ⟨A13, c13, rfl, r, f⟩
  have F13 := hid (F12.out.trans f (fun _ _ h => h))
  have RA := hid (R12.out.fr f (fun _ h => h.elim) (fun _ _ h => h))
  obtain ⟨A', c', e', _, _, hs⟩ := r.els (S' := (· < w13.heap.size)) (fun _ h => h.elim) (fun g hg => by obtain ⟨_, _, hb⟩ := r.own hg; exact hb.lt)
  rw [show twoS.length = 18 from rfl] at e'
  injection e' with e1 e2 e3
  subst e1
  clear e2 e3
  have HS := hid hs
  clear r f hs R12 F12
  go_wp2_with fail
  have HN := numbers_any 121 i64S A13 c13 twoS (· < w13.heap.size) w13 HS.out (fun _ h => h) (by decide) (by decide) (by decide) two_ok
  rw [show twoS.length = 18 from rfl] at HN
  replace HN := HN.mono fun e w' h => RowTo.n (n := 18) h (by rw [numR_len]; rfl)
  refine HN.mono ?_
  clear HN
  rintro e w14 ⟨A14, c14, rfl, r, f⟩
  have FA := hid (F13.out.trans f (fun _ _ h => h))
  replace RA := hid (RA.out.fr f (fun _ h => h.elim) (fun _ _ h => h))
  obtain ⟨css, hcs, hrd⟩ := row_src r
  have HC := hid hcs
  have HD := hid hrd
  clear r f F13 hcs hrd HS
  go_upto_region 6 with (at_builtin; refine wpList_appC (t := tR5) (base := w.heap.size) (S := Emp) (xs := tb3) (ys := numR 121 i64S twoS) (dss := css) (B2 := w14.heap.size) elR5s rfl rfl rfl rfl RA.out (HC.out _ _) HD.out (by rw [numR_len]; rfl) (by rw [tb3_len]; omega) (by rw [tb3_len]; omega) (fun _ h => h.elim) FA.out.size ?_; intro v15 w15 hr fr1 hv; have F15 := hid (own_frame RA.out FA.out fr1 (Nat.le_refl _)); have R15 := hid hr; clear hr fr1 hv)
  rw [show tb3 ++ numR 121 i64S twoS = tb4 from rfl] at R15
  obtain ⟨A15, c15, e15⟩ := row_slice R15.out tb4_len
  subst e15
  clear RA HC HD FA
  have FL := (Fr.refl No w15).alloc (.cells (cnvR.map cR5).flatten.toArray 131)
  have FA := hid (F15.out.trans FL (fun _ _ h => h))
  have RA := hid (R15.out.fr FL (fun _ h => h.elim) (fun _ _ h => h))
  have HB := Blk.new w15 131 (cnvR.map cR5).flatten.toArray
  have HC : Hid (∀ (w' : World) (S' : Nat → Prop), Css tR5 w' S' (cnvR.map cR5) cnvR) := hid fun w' S' => css_R5 cnv_ok
  have HD : Hid (Rd (w15.alloc (.cells (cnvR.map cR5).flatten.toArray 131)) (w15.alloc (.cells (cnvR.map cR5).flatten.toArray 131)).heap.size (some ⟨w15.heap.size, 0, none⟩) (cnvR.map cR5).flatten) := hid (Rd.blk HB HB.lt 0 (fun i u h => by rw [Nat.zero_add]; simpa using h))
  clear HB FL R15 F15
  go_upto_region 7 with (at_builtin; refine wpList_appC (t := tR5) (base := w.heap.size) (S := Emp) (xs := tb4) (ys := cnvR) (dss := cnvR.map cR5) (B2 := (w15.alloc (.cells (cnvR.map cR5).flatten.toArray 131)).heap.size) elR5s rfl rfl rfl rfl RA.out (HC.out _ _) HD.out rfl (by rw [tb4_len]; omega) (by rw [tb4_len]; omega) (fun _ h => h.elim) FA.out.size ?_; intro v16 w16 hr fr1 hv; have F16 := hid (own_frame RA.out FA.out fr1 (Nat.le_refl _)); have R16 := hid hr; clear hr fr1 hv)
  rw [show tb4 ++ cnvR = tb5 from rfl] at R16
  obtain ⟨A16, c16, e16⟩ := row_slice R16.out tb5_len
  subst e16
  clear RA HC HD FA
  have FL := (Fr.refl No w16).alloc (.cells (exAS.map fun s => [Value.string s]).flatten.toArray 9)
  have F17 := hid (F16.out.trans FL (fun _ _ h => h))
  have RA := hid (R16.out.fr FL (fun _ h => h.elim) (fun _ _ h => h))
  have HB := Blk.new w16 9 (exAS.map fun s => [Value.string s]).flatten.toArray
  have HS := hid (blk_els (t := Ty.str) (S := (· < (w16.alloc (.cells (exAS.map fun s => [Value.string s]).flatten.toArray 9)).heap.size)) HB HB.lt (css_str exA_ok))
  clear HB FL R16 F16
  go_wp2_with fail
  have HN := numbers_any 192 i32S _ 2 exAS _ (w16.alloc (.cells (exAS.map fun s => [Value.string s]).flatten.toArray 9)) HS.out (fun _ h => h) (by decide) (by decide) (by decide) exA_ok
  rw [show exAS.length = 2 from rfl] at HN
  replace HN := HN.mono fun e w' h => RowTo.n (n := 2) h (by rw [numR_len]; rfl)
  refine HN.mono ?_
  clear HN
  rintro e w18 ⟨A18, c18, rfl, r, f⟩
  have FA := hid (F17.out.trans f (fun _ _ h => h))
  replace RA := hid (RA.out.fr f (fun _ h => h.elim) (fun _ _ h => h))
  obtain ⟨css, hcs, hrd⟩ := row_src r
  have HC := hid hcs
  have HD := hid hrd
  clear r f F17 hcs hrd HS
  go_wp2_with (at_builtin; refine wpList_appC (t := tR5) (base := w.heap.size) (S := Emp) (xs := tb5) (ys := numR 192 i32S exAS) (dss := css) (B2 := w18.heap.size) elR5s rfl rfl rfl rfl RA.out (HC.out _ _) HD.out (by rw [numR_len]; rfl) (by rw [tb5_len]; omega) (by rw [tb5_len]; omega) (fun _ h => h.elim) FA.out.size ?_; intro v19 w19 hr fr1 hv; have F19 := hid (own_frame RA.out FA.out fr1 (Nat.le_refl _)); have R19 := hid hr; clear hr fr1 hv)
  rw [show tb5 ++ numR 192 i32S exAS = tb6 from rfl] at R19
  obtain ⟨A19, c19, e19⟩ := row_slice R19.out tb6_len
  subst e19
  clear RA HC HD FA
  have FL := (Fr.refl No w19).alloc (.cells (exBS.map fun s => [Value.string s]).flatten.toArray 9)
  have F20 := hid (F19.out.trans FL (fun _ _ h => h))
  have RA := hid (R19.out.fr FL (fun _ h => h.elim) (fun _ _ h => h))
  have HB := Blk.new w19 9 (exBS.map fun s => [Value.string s]).flatten.toArray
  have HS := hid (blk_els (t := Ty.str) (S := (· < (w19.alloc (.cells (exBS.map fun s => [Value.string s]).flatten.toArray 9)).heap.size)) HB HB.lt (css_str exB_ok))
  clear HB FL R19 F19
  go_wp2_with fail
  have HN := numbers_any 194 i64S _ 3 exBS _ (w19.alloc (.cells (exBS.map fun s => [Value.string s]).flatten.toArray 9)) HS.out (fun _ h => h) (by decide) (by decide) (by decide) exB_ok
  rw [show exBS.length = 3 from rfl] at HN
  replace HN := HN.mono fun e w' h => RowTo.n (n := 3) h (by rw [numR_len]; rfl)
  refine HN.mono ?_
  clear HN
  rintro e w21 ⟨A21, c21, rfl, r, f⟩
  have FA := hid (F20.out.trans f (fun _ _ h => h))
  replace RA := hid (RA.out.fr f (fun _ h => h.elim) (fun _ _ h => h))
  obtain ⟨css, hcs, hrd⟩ := row_src r
  have HC := hid hcs
  have HD := hid hrd
  clear r f F20 hcs hrd HS
  go_wp2_with (at_builtin; refine wpList_appC (t := tR5) (base := w.heap.size) (S := Emp) (xs := tb6) (ys := numR 194 i64S exBS) (dss := css) (B2 := w21.heap.size) elR5s rfl rfl rfl rfl RA.out (HC.out _ _) HD.out (by rw [numR_len]; rfl) (by rw [tb6_len]; omega) (by rw [tb6_len]; omega) (fun _ h => h.elim) FA.out.size ?_; intro v22 w22 hr fr1 hv; have F22 := hid (own_frame RA.out FA.out fr1 (Nat.le_refl _)); have R22 := hid hr; clear hr fr1 hv)
  rw [show tb6 ++ numR 194 i64S exBS = tb7 from rfl] at R22
  obtain ⟨A22, c22, e22⟩ := row_slice R22.out tb7_len
  subst e22
  clear RA HC HD FA
  go_wp2_with fail
  have HN := (fin_any w22).mono fun e w' h => RowTo.n (n := 13) h rfl
  refine HN.mono ?_
  clear HN
  rintro e w23 ⟨A23, c23, rfl, r, f⟩
  have FA := hid (F22.out.trans f (fun _ _ h => h))
  have RA := hid (R22.out.fr f (fun _ h => h.elim) (fun _ _ h => h))
  obtain ⟨css, hcs, hrd⟩ := row_src r
  have HC := hid hcs
  have HD := hid hrd
  clear r f hcs hrd R22 F22
  go_wp2_with (at_builtin; refine wpList_appC (t := tR5) (base := w.heap.size) (S := Emp) (xs := tb7) (ys := finR) (dss := css) (B2 := w23.heap.size) elR5s rfl rfl rfl rfl RA.out (HC.out _ _) HD.out rfl (by rw [tb7_len]; omega) (by rw [tb7_len]; omega) (fun _ h => h.elim) FA.out.size ?_; intro v24 w24 hr fr1 hv; have F24 := hid (own_frame RA.out FA.out fr1 (Nat.le_refl _)); have R24 := hid hr; clear hr fr1 hv)
  rw [show tb7 ++ finR = tb8 from rfl] at R24
  obtain ⟨A24, c24, e24⟩ := row_slice R24.out tb8_len
  subst e24
  clear RA HC HD FA
  go_ret
  have hl : tbR.length = 125 := tb8_len
  refine ⟨A24, c24, ?_, ?_, F24.out⟩
  · rw [hl]; rfl
  · rw [hl]; exact R24.out
end Go.Proofs.YtiafkakkbbclhaaGreat
namespace Go.Proofs.YtiafkakkbbclhaaGreat
open Go.RowKit
def zR5 : R5 := ⟨0, ⟨#[]⟩, 0⟩
def fndL (l : List R5) (op : Int) : R5 × Bool := match l.find? (fun x => x.op == op) with
  | some x => (x, true)
  | none => (zR5, false)
def fnd (op : Int) : R5 × Bool := fndL tbR op
theorem fnd_step {l : List R5} {op : Int} {k : Nat} (hk : k < l.length) (h : (l.take k).find? (fun x => x.op == op) = none) (hn : (l[k].op == op) = false) : (l.take (k + 1)).find? (fun x => x.op == op) = none := by
  rw [List.take_succ_eq_append_getElem hk, List.find?_append, h]
  simp [List.find?_cons, hn]
theorem fnd_yes {l : List R5} {op : Int} {k : Nat} (hk : k < l.length) (h : (l.take k).find? (fun x => x.op == op) = none) (hn : (l[k].op == op) = true) : fndL l op = (l[k], true) := by
  have e : l = l.take k ++ l[k] :: l.drop (k + 1) := by rw [List.getElem_cons_drop, List.take_append_drop]
  have : l.find? (fun x => x.op == op) = some l[k] := by
    have h2 : ∀ (a b : List R5) (x : R5), a.find? (fun x => x.op == op) = none → (x.op == op) = true → (a ++ x :: b).find? (fun x => x.op == op) = some x := fun a b x h1 h2 => by
      rw [List.find?_append, h1]
      simp [List.find?_cons, h2]
    have h3 := h2 _ (l.drop (k + 1)) _ h hn
    rwa [← e] at h3
  rw [fndL, this]
theorem fnd_no {l : List R5} {op : Int} {k : Nat} (hk : l.length ≤ k) (h : (l.take k).find? (fun x => x.op == op) = none) : fndL l op = (zR5, false) := by
  rw [List.take_of_length_le hk] at h
  rw [fndL, h]
def FndTo (r : R5 × Bool) (w : World) (e : Ending) (w' : World) : Prop :=
  e = .returned (.tuple #[.agg #[.int .i64 r.1.op, .string r.1.name, .int .i64 r.1.imm], .bool r.2]) ∧ Fr No w w'
theorem find_any (op : Int) (w : World) : Calls Tryz.prog 67 #[.int .i64 op] w (FndTo (fnd op) w) := by
  have F0 := hid ((Fr.refl No w).alloc (.cells #[.int .i64 0, .string ⟨#[]⟩, .int .i64 0] 131))
  have G0 := hid (Blk.new w 131 #[.int .i64 0, .string ⟨#[]⟩, .int .i64 0])
  generalize hP : fnd op = P
  obtain ⟨x, ok⟩ := P
  rw [fnd] at hP
  have HP := hid hP
  clear hP
  go_enter Tryz.func67, Tryz.ntmps67
  go_wp2_with fail
  have HN := (rows_any (w.alloc (.cells #[.int .i64 0, .string ⟨#[]⟩, .int .i64 0] 131))).mono fun e w' h => RowTo.n (n := 125) h tb8_len
  refine HN.mono ?_
  clear HN
  rintro e w1 ⟨A, c, rfl, r, f⟩
  have F1 := hid (F0.out.trans f (fun _ _ h => h))
  have G1 := hid (G0.out.fr f (fun x => x))
  obtain ⟨A', c', e', _, _, hs⟩ := r.els (S' := (· < w1.heap.size)) (fun _ h => h.elim) (fun g hg => by obtain ⟨_, _, hb⟩ := r.own hg; exact hb.lt)
  injection e' with e1 e2 e3
  subst e1
  have HS := hid hs
  have HL := hid tb8_len
  rw [show tb8 = tbR from rfl] at HL
  generalize tbR = L at *
  clear e2 e3 r f hs F0 G0
  have q0 := G1.out.cell 0
  have q1 := G1.out.cell 1
  have q2 := G1.out.cell 2
  have z0 := G1.out.frozen 0
  have z1 := G1.out.frozen 1
  have z2 := G1.out.frozen 2
  go_wp2_with fail
  go_loop [5] (fun i => ∃ k : Nat, k ≤ 125 ∧ i = .int .i64 k ∧ Hid ((L.take k).find? (fun x => x.op == op) = none)) (fun i => 125 - (intOf i).toNat)
  case atStart => exact ⟨0, by omega, rfl, by simp [Hid]⟩
  case round =>
    obtain ⟨k, hk, rfl, HF⟩ := hrel
    by_cases hgo : k < 125
    · have hlk : k < L.length := by have := HL.out; omega
      obtain ⟨b, o, rfl, hb, y0, y1, y2, _⟩ := R5_at HS.out k hlk
      have i0 : (0 : Int) ≤ k := by omega
      have i1 : (k : Int) < 125 := by omega
      cases hq : (L[k].op == op) with
      | true =>
        have HR := hid (fnd_yes hlk HF.out hq)
        have e4 := HP.out
        rw [HR.out] at e4
        injection e4 with e5 e6
        subst e5 e6
        clear HF HP
        go_wp2
        exact bodyPost_ret (v := .tuple #[.agg #[.int .i64 L[k].op, .string L[k].name, .int .i64 L[k].imm], .bool true]) (by simp [results, Tryz.results67, go_sem, q0, q1, q2]) rfl ⟨rfl, ((F1.out.setCell _ _ (fun h => absurd h (Nat.lt_irrefl _))).setCell _ _ (fun h => absurd h (Nat.lt_irrefl _))).setCell _ _ (fun h => absurd h (Nat.lt_irrefl _))⟩
      | false =>
        have HR := hid (fnd_step hlk HF.out hq)
        clear q0 q1 q2 z0 z1 z2
        go_wp2
        go_round
        case rel => exact ⟨k + 1, by omega, by go_num, HR⟩
        case measure => simp [intOf]; omega
    · have hkn : k = 125 := by omega
      subst hkn
      have HR := hid (fnd_no (by have := HL.out; omega) HF.out)
      clear hgo
      have e4 := HP.out
      rw [HR.out] at e4
      injection e4 with e5 e6
      subst e5 e6
      clear HF HP
      go_wp2
      exact bodyPost_ret (v := .tuple #[.agg #[.int .i64 0, .string ⟨#[]⟩, .int .i64 0], .bool false]) (by simp [results, Tryz.results67, go_sem, q0, q1, q2]) rfl ⟨rfl, ((F1.out.setCell _ _ (fun h => absurd h (Nat.lt_irrefl _))).setCell _ _ (fun h => absurd h (Nat.lt_irrefl _))).setCell _ _ (fun h => absurd h (Nat.lt_irrefl _))⟩
def ofR (op : Int) : Int := (fnd op).1.imm
def nameR (op : Int) : ByteArray := (fnd op).1.name
def knownR (op : Int) : Bool := (fnd op).2
theorem of_any (op : Int) (w : World) : Calls Tryz.prog 55 #[.int .i64 op] w fun e w' => e = .returned (.int .i64 (ofR op)) ∧ Fr No w w' := by
  have HF := hid (find_any op w)
  unfold FndTo at HF
  unfold ofR
  generalize fnd op = Q at *
  obtain ⟨⟨a, n, i⟩, ok⟩ := Q
  dsimp only at HF ⊢
  go_enter Tryz.func55, Tryz.ntmps55
  go_wp2_with fail
  refine HF.out.mono ?_
  rintro e w1 ⟨rfl, f⟩
  have F1 := hid (f.alloc (.cells #[.int .i64 a, .string n, .int .i64 i] 131))
  clear f HF
  go_wp2
  go_ret
  exact ⟨rfl, F1.out⟩
theorem name_any (op : Int) (w : World) : Calls Tryz.prog 63 #[.int .i64 op] w fun e w' => e = .returned (.string (nameR op)) ∧ Fr No w w' := by
  have HF := hid (find_any op w)
  unfold FndTo at HF
  unfold nameR
  generalize fnd op = Q at *
  obtain ⟨⟨a, n, i⟩, ok⟩ := Q
  dsimp only at HF ⊢
  go_enter Tryz.func63, Tryz.ntmps63
  go_wp2_with fail
  refine HF.out.mono ?_
  rintro e w1 ⟨rfl, f⟩
  have F1 := hid (f.alloc (.cells #[.int .i64 a, .string n, .int .i64 i] 131))
  clear f HF
  go_wp2
  go_ret
  exact ⟨rfl, F1.out⟩
theorem known_any (op : Int) (w : World) : Calls Tryz.prog 82 #[.int .i64 op] w fun e w' => e = .returned (.bool (knownR op)) ∧ Fr No w w' := by
  have HF := hid (find_any op w)
  unfold FndTo at HF
  unfold knownR
  generalize fnd op = Q at *
  obtain ⟨⟨a, n, i⟩, ok⟩ := Q
  dsimp only at HF ⊢
  go_enter Tryz.func82, Tryz.ntmps82
  go_wp2_with fail
  refine HF.out.mono ?_
  rintro e w1 ⟨rfl, f⟩
  have F1 := hid (f.alloc (.cells #[.int .i64 a, .string n, .int .i64 i] 131))
  clear f HF
  go_wp2
  go_ret
  exact ⟨rfl, F1.out⟩
end Go.Proofs.YtiafkakkbbclhaaGreat
namespace Go.Proofs.YtiafkakkbbclhaaGreat
open Go.RowKit
def eqS (s part : ByteArray) (m i : Nat) : Bool := (s.extract i (i + m)).toList == part.toList
def withinB (s part : ByteArray) : Bool := (List.range (s.size + 1 - part.size)).any (eqS s part part.size)
theorem anyUp_no {p : Nat → Bool} {k : Nat} (h : (List.range k).any p = false) (hp : p k = false) : (List.range (k + 1)).any p = false := by
  rw [List.range_succ, List.any_append, h]; simp [hp]
theorem anyUp_yes {p : Nat → Bool} {k n : Nat} (hk : k < n) (hp : p k = true) : (List.range n).any p = true := List.any_eq_true.2 ⟨k, List.mem_range.2 hk, hp⟩
theorem within_any (s part : ByteArray) (w : World) (h1 : s.size ≤ 1000) (h2 : part.size ≤ 1000) :
    Calls Tryz.prog 65 #[.string s, .string part] w fun e w' => e = .returned (.bool (withinB s part)) ∧ w = w' := by
  generalize hP : withinB s part = P
  rw [withinB] at hP
  obtain ⟨m, hm⟩ : ∃ m, part.size = m := ⟨_, rfl⟩
  have HM := hid hm
  obtain ⟨n, hn⟩ : ∃ n, s.size = n := ⟨_, rfl⟩
  rw [hm, hn] at hP
  have HP := hid hP
  clear hP
  go_enter Tryz.func65, Tryz.ntmps65
  go_wp2_with fail
  go_loop [5] (fun i => ∃ k : Nat, k + m ≤ n + 1 + m ∧ i = .int .i64 k ∧ Hid (k ≤ n + 1 - m) ∧ Hid ((List.range k).any (eqS s part m) = false)) (fun i => n + 2 - (intOf i).toNat)
  case atStart => exact ⟨0, by omega, rfl, Nat.zero_le _, by simp [Hid]⟩
  case round =>
    obtain ⟨k, hk, rfl, HK, HF⟩ := hrel
    by_cases hgo : k + m ≤ n
    · cases hq : eqS s part m k with
      | true =>
        have HQ := hid (anyUp_yes (n := n + 1 - m) (by omega) hq)
        rw [eqS] at hq
        go_wp2
        go_ret
        refine ⟨rt_bool ?_, rfl⟩
        rw [← HP.out, HQ.out]
      | false =>
        have HQ := hid (anyUp_no HF.out hq)
        rw [eqS] at hq
        go_wp2
        go_round
        case rel => exact ⟨k + 1, by omega, by go_num, by simp only [Hid]; omega, HQ⟩
        case measure => simp [intOf]; omega
    · go_wp2
      go_ret
      refine ⟨rt_bool ?_, rfl⟩
      have e : k = n + 1 - m := by have := HK.out; omega
      rw [← HP.out, ← e, HF.out]
def typR (s : ByteArray) : Int := if 4 < s.size ∧ (s.extract 0 4).toList = [105, 54, 52, 46] then 2 else 1
theorem typR_wf (s : ByteArray) : typR s = 1 ∨ typR s = 2 := by
  unfold typR
  split
  · exact .inr rfl
  · exact .inl rfl
theorem typ_any (s : ByteArray) (w : World) (h1 : s.size ≤ 1000) :
    Calls Tryz.prog 64 #[.string s] w fun e w' => e = .returned (.int .i64 (typR s)) ∧ w = w' := by
  generalize hP : typR s = P
  rw [typR] at hP
  obtain ⟨n, hn⟩ : ∃ n, s.size = n := ⟨_, rfl⟩
  rw [hn] at hP
  have HP := hid hP
  clear hP
  by_cases h4 : 4 < n
  · cases hq : ((s.extract 0 4).toList == [105, 54, 52, 46]) with
    | true =>
      have HQ := hid (eq_of_beq hq)
      go_enter Tryz.func64, Tryz.ntmps64
      go_wp2
      go_ret
      refine ⟨rt_int ?_, rfl⟩
      rw [← HP.out, if_pos ⟨h4, HQ.out⟩]
    | false =>
      have HQ := hid (ne_of_beq_false hq)
      go_enter Tryz.func64, Tryz.ntmps64
      go_wp2
      go_ret
      refine ⟨rt_int ?_, rfl⟩
      rw [← HP.out, if_neg (fun h => HQ.out h.2)]
  · go_enter Tryz.func64, Tryz.ntmps64
    go_wp2
    go_ret
    refine ⟨rt_int ?_, rfl⟩
    rw [← HP.out, if_neg (fun h => h4 h.1)]
theorem tb_ok : ∀ x ∈ tbR, okR5 x = true ∧ (x.imm = 17 → 3 ≤ x.name.size) := by decide +kernel
theorem fnd_mem (op : Int) : fnd op = (zR5, false) ∨ (fnd op).1 ∈ tbR := by
  unfold fnd fndL
  cases h : tbR.find? (fun x => x.op == op) with
  | none => exact .inl rfl
  | some x => exact .inr (List.mem_of_find?_eq_some h)
theorem name_le (op : Int) : (nameR op).size ≤ 100 := by
  unfold nameR
  rcases fnd_mem op with h | h
  · rw [h]; decide
  · have := of_decide_eq_true (tb_ok _ h).1
    omega
theorem name_ge {op : Int} (h17 : ofR op = 17) : 3 ≤ (nameR op).size := by
  unfold ofR at h17
  unfold nameR
  rcases fnd_mem op with h | h
  · rw [h] at h17; cases h17
  · exact (tb_ok _ h).2 h17
def widOk (r : Int) : Bool := r == 0 || r == 1 || r == 2 || r == 4 || r == 8
def WidTo (w : World) (e : Ending) (w' : World) : Prop := (∃ r : Int, e = .returned (.int .i64 r) ∧ widOk r = true) ∧ Fr No w w'
theorem width_any (op : Int) (w : World) : Calls Tryz.prog 107 #[.int .i64 op] w (WidTo w) := by
  have hl := name_le op
  have hg := fun h => name_ge (op := op) h
  have HN := hid (name_any op w)
  have HO := hid (fun W => of_any op W)
  have HW1a := hid (fun W => within_any (nameR op) ⟨#[100, 56]⟩ W (by omega) (by decide))
  have HW1b := hid (fun W => within_any (nameR op) ⟨#[101, 56]⟩ W (by omega) (by decide))
  generalize withinB (nameR op) ⟨#[100, 56]⟩ = b1a at *
  generalize withinB (nameR op) ⟨#[101, 56]⟩ = b1b at *
  have HW2a := hid (fun W => within_any (nameR op) ⟨#[100, 49, 54]⟩ W (by omega) (by decide))
  have HW2b := hid (fun W => within_any (nameR op) ⟨#[101, 49, 54]⟩ W (by omega) (by decide))
  generalize withinB (nameR op) ⟨#[100, 49, 54]⟩ = b2a at *
  generalize withinB (nameR op) ⟨#[101, 49, 54]⟩ = b2b at *
  have HW3a := hid (fun W => within_any (nameR op) ⟨#[100, 51, 50]⟩ W (by omega) (by decide))
  have HW3b := hid (fun W => within_any (nameR op) ⟨#[101, 51, 50]⟩ W (by omega) (by decide))
  generalize withinB (nameR op) ⟨#[100, 51, 50]⟩ = b3a at *
  generalize withinB (nameR op) ⟨#[101, 51, 50]⟩ = b3b at *
  generalize nameR op = s at *
  generalize ofR op = k at *
  go_enter Tryz.func107, Tryz.ntmps107
  go_wp2_with fail
  refine HN.out.mono ?_
  rintro e w1 ⟨rfl, f1⟩
  have F1 := hid f1
  clear f1 HN
  go_wp2_with fail
  refine (HO.out _).mono ?_
  rintro e w2 ⟨rfl, f2⟩
  have F2 := hid (F1.out.trans f2 (fun _ _ h => h))
  clear f2 HO F1
  by_cases hk : k = 17
  · subst hk
    have hg3 := hg rfl
    clear hg
    go_wp2_with fail
    refine (HW1a.out _).mono ?_
    rintro e w' ⟨rfl, rfl⟩
    cases b1a with
    | true =>
      go_wp2
      go_ret
      exact ⟨⟨1, rfl, by decide⟩, F2.out⟩
    | false =>
      go_wp2_with fail
      refine (HW1b.out _).mono ?_
      rintro e w' ⟨rfl, rfl⟩
      cases b1b with
      | true =>
        go_wp2
        go_ret
        exact ⟨⟨1, rfl, by decide⟩, F2.out⟩
      | false =>
        go_wp2_with fail
        refine (HW2a.out _).mono ?_
        rintro e w' ⟨rfl, rfl⟩
        cases b2a with
        | true =>
          go_wp2
          go_ret
          exact ⟨⟨2, rfl, by decide⟩, F2.out⟩
        | false =>
          go_wp2_with fail
          refine (HW2b.out _).mono ?_
          rintro e w' ⟨rfl, rfl⟩
          cases b2b with
          | true =>
            go_wp2
            go_ret
            exact ⟨⟨2, rfl, by decide⟩, F2.out⟩
          | false =>
            go_wp2_with fail
            refine (HW3a.out _).mono ?_
            rintro e w' ⟨rfl, rfl⟩
            cases b3a with
            | true =>
              go_wp2
              go_ret
              exact ⟨⟨4, rfl, by decide⟩, F2.out⟩
            | false =>
              go_wp2_with fail
              refine (HW3b.out _).mono ?_
              rintro e w' ⟨rfl, rfl⟩
              cases b3b with
              | true =>
                go_wp2
                go_ret
                exact ⟨⟨4, rfl, by decide⟩, F2.out⟩
              | false =>
                cases hq : ((s.extract 1 3).toList == [51, 50]) with
                | true =>
                  go_wp2
                  go_ret
                  exact ⟨⟨4, rfl, by decide⟩, F2.out⟩
                | false =>
                  go_wp2
                  go_ret
                  exact ⟨⟨8, rfl, by decide⟩, F2.out⟩
  · have hkb : (k == 17) = false := by simpa using hk
    clear hk hg
    go_wp2
    go_ret
    exact ⟨⟨0, rfl, by decide⟩, F2.out⟩
def AliTo (w : World) (e : Ending) (w' : World) : Prop := (∃ r : Int, e = .returned (.int .i64 r) ∧ 0 ≤ r ∧ r ≤ 3) ∧ Fr No w w'
theorem align_any (op : Int) (w : World) : Calls Tryz.prog 104 #[.int .i64 op] w (AliTo w) := by
  have HN := hid (width_any op w)
  go_enter Tryz.func104, Tryz.ntmps104
  go_wp2_with fail
  refine HN.out.mono ?_
  rintro e w1 ⟨⟨r, rfl, hr⟩, f1⟩
  have F1 := hid f1
  clear f1 HN
  have hr' : r = 0 ∨ r = 1 ∨ r = 2 ∨ r = 4 ∨ r = 8 := by
    simp only [widOk, Bool.or_eq_true, beq_iff_eq] at hr
    omega
  clear hr
  rcases hr' with rfl | rfl | rfl | rfl | rfl <;>
  · go_wp2
    go_ret
    exact ⟨⟨_, rfl, by decide, by decide⟩, F1.out⟩
end Go.Proofs.YtiafkakkbbclhaaGreat
