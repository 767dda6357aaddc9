/- Contract: the closure that declares the functions that an expression names. -/
import Derived.Test.YtfngopoaegofhaaSpD
namespace Go.Proofs.Ytfngopoaegofhaa
open Go.RowKit

def decUp (f : Int → Bool) (l : List Ins) : Int → Bool := fun j => f j || l.any (fun i => i.op == 210 && i.a == j)
theorem decUp_nil (f : Int → Bool) : decUp f [] = f := by funext j; simp [decUp]
theorem decUp_no {f : Int → Bool} {l : List Ins} {k : Nat} (hk : k < l.length) (h : (l[k].op == 210) = false) : decUp f (l.take (k + 1)) = decUp f (l.take k) := by
  funext j; rw [List.take_succ_eq_append_getElem hk]; simp only [decUp, List.any_append, List.any_cons, List.any_nil, h, Bool.false_and, Bool.or_false]
theorem decUp_yes {f : Int → Bool} {l : List Ins} {k : Nat} (hk : k < l.length) (h : (l[k].op == 210) = true) : decUp f (l.take (k + 1)) = fun j => if j = l[k].a then true else decUp f (l.take k) j := by
  funext j; rw [List.take_succ_eq_append_getElem hk]; simp only [decUp, List.any_append, List.any_cons, List.any_nil, h, Bool.true_and, Bool.or_false]
  by_cases e : j = l[k].a
  · subst e; simp
  · have : (l[k].a == j) = false := by simpa using fun h => e h.symm
    rw [this, if_neg e]; simp

theorem SpSt.monoD {base : Nat} {X : World} {gx gs bi bd : Nat} {ST : Nat → Prop} {nI nD : Nat} {v0 v1 v2 v3 v4 v5 : Value} {x : SpV} (h : SpSt base X gx gs bi bd ST nI nD v0 v1 v2 v3 v4 v5 x) {n' : Nat} (hn : nD ≤ n') : SpSt base X gx gs bi bd ST nI n' v0 v1 v2 v3 v4 v5 x :=
  ⟨h.hx, h.hs, h.row, h.mi, h.md.mono hn, h.ne, h.lx, h.ls, h.li, h.ld, h.st⟩

set_option maxHeartbeats 3200000 in
set_option maxRecDepth 100000 in
theorem name_any (base : Nat) (X : World) (gx gs bi bd : Nat) (ST S0 : Nat → Prop) (nI nD : Nat) (v0 v1 v2 v3 v4 v5 : Value) (x : SpV) (l : List Ins) (n c : Nat) (A : Option Addr) (h : SpSt base X gx gs bi bd ST nI nD v0 v1 v2 v3 v4 v5 x)
    (hl : tIns.els X S0 A l) (hS0 : ∀ k, S0 k → k < base) (hn : Hid (l.length = n)) (hn' : n ≤ 140737488351232) (hnD : nD ≤ 5000000000000000000) :
    Calls Try.prog 47 #[.slice A n c, .pointer (some ⟨gx, 0, none⟩)] X fun e w' => e = .returned (.tuple #[]) ∧ SpSt base w' gx gs bi bd ST nI (nD + n) v0 v1 v2 v3 v4 v5 { x with dec := decUp x.dec l } ∧ Fr (One bd) X w' := by
  have HS := hid h
  have HL := hid hl
  have HS0 := hid hS0
  have HND := hid hnD
  clear h hl hS0 hnD
  go_enter Try.func47, Try.ntmps47
  go_wp2
  go_loopw [7] (fun i wr => ∃ k nd : Nat, i = .int .i64 k ∧ k ≤ n ∧ Hid (nd ≤ nD + k) ∧ Hid (SpSt base wr gx gs bi bd ST nI nd v0 v1 v2 v3 v4 v5 { x with dec := decUp x.dec (l.take k) }) ∧ Hid (Fr (One bd) X wr)) (fun i _ => n - (intOf i).toNat)
  case atStart => exact ⟨0, nD, rfl, by omega, Nat.le_refl _, by rw [List.take_zero, decUp_nil]; exact HS.out, Fr.refl _ _⟩
  case round =>
    obtain ⟨k, nd, rfl, hk, HD, HW, HF⟩ := hrel
    by_cases hlt : k < n
    · have hlt' : k < l.length := by rw [hn.out]; exact hlt
      have HLr := HL.out.fr HF.out (fun q hq => ⟨Nat.lt_of_lt_of_le (HS0.out q hq) (Nat.le_trans (HS.out.lt (.inl rfl)).1 (Nat.le_of_lt HS.out.hx.lt)), fun e => by simp only [One] at e; have := HS0.out q hq; have := HS.out.ld; omega⟩)
      obtain ⟨b, o, At, ct, Al, cl, rfl, hb, y0, y1, y2, y3, y4, y5, y6, y7, y8, w0, w1, -⟩ := Ins_at HLr k hlt'
      have hbr : b < wr.heap.size := Nat.lt_of_lt_of_le (Nat.lt_of_lt_of_le (HS0.out b hb) (Nat.le_trans (HS.out.lt (.inl rfl)).1 (Nat.le_of_lt HS.out.hx.lt))) HF.out.size
      have i0 : (0 : Int) ≤ k := by omega
      have i1 : (k : Int) < n := by omega
      have HNo := hid (decUp_no (f := x.dec) hlt')
      have HYe := hid (decUp_yes (f := x.dec) hlt')
      have HWA := hid w1
      clear HLr w0 w1
      generalize l[k] = it at *
      have F1 := hid ((Fr.refl No wr).alloc (.cells #[.int .i64 it.op, .int .i64 it.a, .int .i64 it.b, .int .u64 it.n, .int .i64 it.block.kind, .int .i64 it.block.val, .int .i64 it.block.index, .slice At it.types ct, .slice Al it.labels cl] 103))
      have G1 := hid (Blk.new wr 103 #[.int .i64 it.op, .int .i64 it.a, .int .i64 it.b, .int .u64 it.n, .int .i64 it.block.kind, .int .i64 it.block.val, .int .i64 it.block.index, .slice At it.types ct, .slice Al it.labels cl])
      cases hop : (it.op == 210) with
      | false =>
        have HOP := hid hop
        go_wp2
        go_roundw
        case rel => exact ⟨k + 1, nd, by go_num, by omega, by have := HD.out; show nd ≤ _; omega, by rw [Hid, HNo.out HOP.out]; exact HW.out.frNo F1.out, HF.out.trans (F1.out.mono (M := One bd) (fun _ _ h => h.elim)) (fun _ _ h => h)⟩
        case measure => simp [intOf]; omega
      | true =>
        have HOP := hid hop
        go_wp2
        have HA := hid (HW.out.frNo F1.out.drew)
        generalize wr.alloc (.cells #[.int .i64 it.op, .int .i64 it.a, .int .i64 it.b, .int .u64 it.n, .int .i64 it.block.kind, .int .i64 it.block.val, .int .i64 it.block.index, .slice At it.types ct, .slice Al it.labels cl] 103) = W1 at *
        generalize wr.heap.size = g at *
        obtain ⟨w1, hrun, hm1, hf1⟩ := HA.out.md.put (v := true) Try.underlying91 Try.underlying3 Try.underlying4 (by have := HD.out; have := HND.out; simp only [maxLen]; omega) HWA.out
        have HRUN := hid hrun
        have HP := hid (HA.out.putB hm1 hf1)
        have HF1 := hid hf1
        clear hrun hm1 hf1
        refine wp_region_ord (fun Y => Y.cell? ⟨gx, 0, none⟩ = some (.pointer (some ⟨gs, 0, none⟩)) ∧ Y.cell? ⟨gs, 8, none⟩ = some (.map (some bd)) ∧ Y.cell? ⟨g, 1, none⟩ = some (.int .i64 it.a)) [6] [(0, true), (1, true), (2, true), (3, true), (4, true), (5, true), (6, false)] (by kernel_rfl) (by kernel_rfl) (by kernel_rfl) rfl ⟨HA.out.hx.cell 0, HA.out.hs.cell 8, G1.out.drew.cell 1⟩ ?_
        repeat (first
          | (refine wpO_skip rfl rfl ?_; simp only [List.getElem_toArray, List.getElem_cons_succ, List.getElem_cons_zero, Act.put, List.setIfInBounds_toArray, List.set_cons_zero, List.set_cons_succ])
          | (refine wpO_call rfl rfl ?_; simp only [List.getElem_toArray, List.getElem_cons_succ, List.getElem_cons_zero]; apply Exists.intro; refine ⟨fun X hX => ?_, ?_⟩
             · (have s0 := hX.1; have s1 := hX.2.1; have s2 := hX.2.2; go_simp; exact stillUpon_value)
             simp only [Act.put, List.setIfInBounds_toArray, List.set_cons_zero, List.set_cons_succ]))
        refine wpO_eff rfl rfl (fun K hK => ?_)
        simp only [List.getElem_toArray, List.getElem_cons_succ, List.getElem_cons_zero]
        go_simp
        rw [HRUN.out]
        go_simp
        refine hK _ _ (fun h => by cases h) ?_
        clear hK K
        refine wpO_nil ?_
        go_wp2
        go_roundw
        case rel => exact ⟨k + 1, nd + 1, by go_num, by omega, by have := HD.out; show nd + 1 ≤ _; omega, by rw [Hid, HYe.out HOP.out]; exact HP.out, (HF.out.trans (F1.out.drew.mono (M := One bd) (fun _ _ h => h.elim)) (fun _ _ h => h)).trans HF1.out (fun _ _ h => h)⟩
        case measure => simp [intOf]; omega
    · go_wp2
      go_end0
      obtain rfl : k = n := by omega
      rw [show l.take k = l from List.take_of_length_le (by rw [hn.out]; exact Nat.le_refl _)] at HW
      exact ⟨rfl, HW.out.monoD (by have := HD.out; omega), HF.out⟩
end Go.Proofs.Ytfngopoaegofhaa
