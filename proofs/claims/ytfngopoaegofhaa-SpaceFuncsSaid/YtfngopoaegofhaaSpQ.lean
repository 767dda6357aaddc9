/- Contracts: types.Val, Block. -/
import Derived.Test.YtfngopoaegofhaaSpP
namespace Go.Proofs.Ytfngopoaegofhaa
open Go.RowKit

def isVal (t : Int) : Bool := decide (1 ≤ t ∧ t ≤ 4)
set_option maxHeartbeats 400000 in
theorem num_any (t : Int) (w : World) : Calls Try.prog 60 #[.int .i64 t] w fun e w' => e = .returned (.bool (t == 1 || t == 2)) ∧ w = w' := by
  go_enter Try.func60, Try.ntmps60
  go_wp2
  all_goals
    go_ret
    refine ⟨rt_bool ?_, rfl⟩
    simp_all
set_option maxHeartbeats 400000 in
theorem ref_any (t : Int) (w : World) : Calls Try.prog 61 #[.int .i64 t] w fun e w' => e = .returned (.bool (t == 3 || t == 4)) ∧ w = w' := by
  go_enter Try.func61, Try.ntmps61
  go_wp2
  all_goals
    go_ret
    refine ⟨rt_bool ?_, rfl⟩
    simp_all
set_option maxHeartbeats 400000 in
theorem val_any (t : Int) (w : World) : Calls Try.prog 55 #[.int .i64 t] w fun e w' => e = .returned (.bool (isVal t)) ∧ w = w' := by
  go_enter Try.func55, Try.ntmps55
  go_wp2_with (first
    | (go_at_call 60; refine (num_any _ _).mono ?_; rintro e w' ⟨rfl, rfl⟩)
    | (go_at_call 61; refine (ref_any _ _).mono ?_; rintro e w' ⟨rfl, rfl⟩))
  all_goals
    go_ret
    refine ⟨rt_bool ?_, rfl⟩
    rw [Bool.eq_iff_iff]
    simp_all [isVal] <;> omega

/-- The type of a block. -/
def blkD (tys : List Fn) (b : Bk) : Fn × Bool :=
  if b.kind = 0 then (zFn, true) else if b.kind = 1 then (if isVal b.val then (⟨[], [b.val]⟩, true) else (zFn, false)) else if b.kind = 2 then atD zFn tys b.index else (zFn, false)
theorem fnNew_one {w : World} {q base : Nat} {v : Int} (hb : Blk w q 50 #[.int .i64 v]) (hq : base ≤ q) (hv : (Lit.int .i64 v).wf = true) : FnNew w base none 0 (some ⟨q, 0, none⟩) 1 ⟨[], [v]⟩ :=
  ⟨Ty.row.nil _ _ _ _, Ty.row.lit (css := [[.int .i64 v]]) hb hq (Css.one (int_mk hv)) (by simp [maxLen]), fun g h => by cases h⟩
set_option maxRecDepth 100000 in
set_option maxHeartbeats 1600000 in
theorem mBlock_any (base : Nat) (X : World) (p gx gs bi bd : Nat) (ST : Nat → Prop) (nI nD : Nat) (v0 v1 v2 v3 v4 v5 : Value) (x : SpV) (b : Bk) (hl : x.types.length ≤ 1000000) (hlp : ∀ f ∈ x.types, f.params.length * 8 ≤ 140737488351232 ∧ f.results.length * 8 ≤ 140737488351232) (hv : (Lit.int .i64 b.val).wf = true) (h : SpP base X p gx gs bi bd ST nI nD v0 v1 v2 v3 v4 v5 x) :
    Calls Try.prog 24 #[.pointer (some ⟨p, 0, none⟩), .agg #[.int .i64 b.kind, .int .i64 b.val, .int .i64 b.index]] X (TyTo (blkD x.types b).1 (blkD x.types b).2 X) := by
  have F0 := hid (((Fr.refl No X).alloc (.cells #[.int .i64 b.kind, .int .i64 b.val, .int .i64 b.index] 52)).alloc (.cells #[.slice none 0 0, .slice none 0 0] 38))
  have GB := hid ((Blk.new X 52 #[.int .i64 b.kind, .int .i64 b.val, .int .i64 b.index]).alloc (.cells #[.slice none 0 0, .slice none 0 0] 38))
  have G0 := hid (Blk.new (X.alloc (.cells #[.int .i64 b.kind, .int .i64 b.val, .int .i64 b.index] 52)) 38 #[.slice none 0 0, .slice none 0 0])
  have hsz : (X.alloc (.cells #[.int .i64 b.kind, .int .i64 b.val, .int .i64 b.index] 52)).heap.size = X.heap.size + 1 := by simp
  rw [hsz] at G0
  have H1 := h.frNo F0.out
  have hp := h.hp.cell 0
  have hpl := h.hp.lt
  have HT := hid (mType_any base _ p gx gs bi bd ST nI nD v0 v1 v2 v3 v4 v5 x b.index hl hlp H1)
  clear h H1 hlp hl hsz
  unfold blkD
  cases hk0 : (b.kind == 0) with
  | true =>
    have e0 : b.kind = 0 := eq_of_beq hk0
    rw [if_pos e0]
    clear HT e0
    go_enter Try.func24, Try.ntmps24
    go_wp2
    exact bodyPost_ret (v := .tuple #[.agg #[.slice none 0 0, .slice none 0 0], .bool true]) (by simp [results, Try.results24, go_sem]) rfl ⟨none, 0, none, 0, rfl, fnNew_nil _ _, F0.out⟩
  | false =>
    rw [if_neg (ne_of_beq_false hk0)]
    cases hk1 : (b.kind == 1) with
    | true =>
      rw [if_pos (eq_of_beq hk1)]
      have HV := hid (val_any b.val)
      clear HT
      cases hvv : isVal b.val with
      | true =>
        simp only [if_true]
        rw [hvv] at HV
        go_enter Try.func24, Try.ntmps24
        go_wp2_with fail
        refine (HV.out _).mono ?_
        rintro e w' ⟨rfl, rfl⟩
        generalize (X.alloc (.cells #[.int .i64 b.kind, .int .i64 b.val, .int .i64 b.index] 52)).alloc (.cells #[.slice none 0 0, .slice none 0 0] 38) = X1 at *
        have x1 : X1.cell? ⟨X.heap.size, 1, none⟩ = some (.int .i64 b.val) := GB.out.cell 1
        have hX0 : X.heap.size < X1.heap.size := GB.out.lt
        have hX1 : X.heap.size + 1 < X1.heap.size := G0.out.lt
        have z0 : X1.cell? ⟨X.heap.size + 1, 0, none⟩ = some (.slice none 0 0) := G0.out.cell 0
        have z1 : X1.cell? ⟨X.heap.size + 1, 1, none⟩ = some (.slice none 0 0) := G0.out.cell 1
        have q0 : X1.frozen? ⟨X.heap.size + 1, 0, none⟩ = false := G0.out.frozen 0
        have q1 : X1.frozen? ⟨X.heap.size + 1, 1, none⟩ = false := G0.out.frozen 1
        have hal : ∀ (Y : World) (o : Obj) (j : Nat), X.heap.size + 1 < Y.heap.size → (Y.alloc o).cell? ⟨X.heap.size + 1, j, none⟩ = Y.cell? ⟨X.heap.size + 1, j, none⟩ := fun Y o j h => ((Fr.refl No Y).alloc o).cell h (fun x => x)
        go_wp2
        have FZ := (((Fr.refl (One (X.heap.size + 1)) X1).setCell ⟨X.heap.size + 1, 0, none⟩ (.slice none 0 0) (fun _ => rfl)).setCell ⟨X.heap.size + 1, 1, none⟩ (.slice (some ⟨X1.heap.size, 0, none⟩) 1 1) (fun _ => rfl)).alloc (.cells #[.int .i64 b.val] 50)
        have HB := Blk.new ((X1.setCell ⟨X.heap.size + 1, 0, none⟩ (.slice none 0 0)).setCell ⟨X.heap.size + 1, 1, none⟩ (.slice (some ⟨X1.heap.size, 0, none⟩) 1 1)) 50 #[.int .i64 b.val]
        rw [show ((X1.setCell ⟨X.heap.size + 1, 0, none⟩ (.slice none 0 0)).setCell ⟨X.heap.size + 1, 1, none⟩ (.slice (some ⟨X1.heap.size, 0, none⟩) 1 1)).heap.size = X1.heap.size by simp] at HB
        refine bodyPost_ret (v := .tuple #[.agg #[.slice none 0 0, .slice (some ⟨X1.heap.size, 0, none⟩) 1 1], .bool true]) (by simp [results, Try.results24, go_sem, z0, z1, hal, hX1]) rfl ⟨none, 0, some ⟨X1.heap.size, 0, none⟩, 1, rfl, ?_, ?_⟩
        · exact fnNew_one HB (by omega) hv
        · exact F0.out.trans FZ (fun i hi h => by simp only [One] at h; omega)
      | false =>
        simp only [Bool.false_eq_true, if_false]
        rw [hvv] at HV
        go_enter Try.func24, Try.ntmps24
        go_wp2_with fail
        refine (HV.out _).mono ?_
        rintro e w' ⟨rfl, rfl⟩
        go_wp2
        exact bodyPost_ret (v := .tuple #[.agg #[.slice none 0 0, .slice none 0 0], .bool false]) (by simp [results, Try.results24, go_sem]) rfl ⟨none, 0, none, 0, rfl, fnNew_nil _ _, F0.out⟩
    | false =>
      rw [if_neg (ne_of_beq_false hk1)]
      cases hk2 : (b.kind == 2) with
      | true =>
        rw [if_pos (eq_of_beq hk2)]
        generalize atD zFn x.types b.index = q at *
        obtain ⟨y, ok⟩ := q
        go_enter Try.func24, Try.ntmps24
        go_wp2_with fail
        refine HT.out.mono ?_
        clear HT
        generalize (X.alloc (.cells #[.int .i64 b.kind, .int .i64 b.val, .int .i64 b.index] 52)).alloc (.cells #[.slice none 0 0, .slice none 0 0] 38) = X1 at *
        have hX1 : X.heap.size + 1 < X1.heap.size := G0.out.lt
        rintro e w3 ⟨D1, g1, D2, g2, rfl, hnew, f3⟩
        have F3 := hid f3
        have HN := hid hnew
        have G3 := hid (G0.out.fr f3 (fun x => x))
        have z0 : w3.cell? ⟨X.heap.size + 1, 0, none⟩ = some (.slice none 0 0) := G3.out.cell 0
        have z1 : w3.cell? ⟨X.heap.size + 1, 1, none⟩ = some (.slice none 0 0) := G3.out.cell 1
        have q0 : w3.frozen? ⟨X.heap.size + 1, 0, none⟩ = false := G3.out.frozen 0
        have q1 : w3.frozen? ⟨X.heap.size + 1, 1, none⟩ = false := G3.out.frozen 1
        clear hnew f3
        go_wp2
        have FZ := ((Fr.refl (One (X.heap.size + 1)) w3).setCell ⟨X.heap.size + 1, 0, none⟩ (.slice D1 y.params.length g1) (fun _ => rfl)).setCell ⟨X.heap.size + 1, 1, none⟩ (.slice D2 y.results.length g2) (fun _ => rfl)
        refine bodyPost_ret (v := .tuple #[.agg #[.slice D1 y.params.length g1, .slice D2 y.results.length g2], .bool ok]) (by simp [results, Try.results24, go_sem, z0, z1]) rfl ⟨D1, g1, D2, g2, rfl, ?_, ?_⟩
        · exact (HN.out.fr' FZ (fun k hk h => by simp only [One] at h; omega)).base (by omega)
        · exact (F0.out.trans F3.out (fun _ _ h => h)).trans FZ (fun i hi h => by simp only [One] at h; omega)
      | false =>
        rw [if_neg (ne_of_beq_false hk2)]
        clear HT
        go_enter Try.func24, Try.ntmps24
        go_wp2
        exact bodyPost_ret (v := .tuple #[.agg #[.slice none 0 0, .slice none 0 0], .bool false]) (by simp [results, Try.results24, go_sem]) rfl ⟨none, 0, none, 0, rfl, fnNew_nil _ _, F0.out⟩
end Go.Proofs.Ytfngopoaegofhaa
