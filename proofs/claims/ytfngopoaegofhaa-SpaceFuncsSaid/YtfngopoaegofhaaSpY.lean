/- The reference's contract: Block. -/
import Derived.Test.YtfngopoaegofhaaSpQ
namespace Go.Proofs.Ytfngopoaegofhaa
open Go.RowKit

def RfTo (f : Fn) (ok : Bool) (w : World) (e : Ending) (w' : World) : Prop :=
  ∃ (A1 : Option Addr) (c1 : Nat) (A2 : Option Addr) (c2 : Nat), e = .returned (.tuple #[.agg #[.slice A1 f.params.length c1, .slice A2 f.results.length c2], .bool ok]) ∧ tI.els w' (· < w'.heap.size) A1 f.params ∧ tI.els w' (· < w'.heap.size) A2 f.results ∧ Fr No w w'
theorem isVal_no0 {v : Int} (h : isVal v = false) (h1 : 1 ≤ v) : ¬ v ≤ 4 := by simp [isVal] at h; omega
set_option maxRecDepth 100000 in
set_option maxHeartbeats 1600000 in
theorem rBlock_any (nt ni nf nta nm ng ne nel nd nc ct ci cf cta cm cg ce cel cd cc : Nat) (At Ai Af Ata Am Ag Ae Ael Ad Ac : Option Addr) (bst : Bool) (vst : Int) (w : World) (tys : List Fn) (b : Bk) (S : Nat → Prop) (h : tFn.els w S At tys) (hS : ∀ k, S k → k < w.heap.size) (hn : Hid (tys.length = nt)) (hl : nt ≤ 100) (hv : (Lit.int .i64 b.val).wf = true) :
    Calls Try.prog 25 #[.agg #[.slice At nt ct, .slice Ai ni ci, .slice Af nf cf, .slice Ata nta cta, .slice Am nm cm, .slice Ag ng cg, .slice Ae ne ce, .bool bst, .int .i64 vst, .slice Ael nel cel, .slice Ad nd cd, .slice Ac nc cc], .agg #[.int .i64 b.kind, .int .i64 b.val, .int .i64 b.index]] w (RfTo (blkD tys b).1 (blkD tys b).2 w) := by
  have F0 := hid ((((Fr.refl No w).alloc (.cells #[.slice At nt ct, .slice Ai ni ci, .slice Af nf cf, .slice Ata nta cta, .slice Am nm cm, .slice Ag ng cg, .slice Ae ne ce, .bool bst, .int .i64 vst, .slice Ael nel cel, .slice Ad nd cd, .slice Ac nc cc] 33)).alloc (.cells #[.int .i64 b.kind, .int .i64 b.val, .int .i64 b.index] 52)).alloc (.cells #[.slice none 0 0, .slice none 0 0] 38))
  have GB := hid ((Blk.new (w.alloc (.cells #[.slice At nt ct, .slice Ai ni ci, .slice Af nf cf, .slice Ata nta cta, .slice Am nm cm, .slice Ag ng cg, .slice Ae ne ce, .bool bst, .int .i64 vst, .slice Ael nel cel, .slice Ad nd cd, .slice Ac nc cc] 33)) 52 #[.int .i64 b.kind, .int .i64 b.val, .int .i64 b.index]).alloc (.cells #[.slice none 0 0, .slice none 0 0] 38))
  have G0 := hid (Blk.new ((w.alloc (.cells #[.slice At nt ct, .slice Ai ni ci, .slice Af nf cf, .slice Ata nta cta, .slice Am nm cm, .slice Ag ng cg, .slice Ae ne ce, .bool bst, .int .i64 vst, .slice Ael nel cel, .slice Ad nd cd, .slice Ac nc cc] 33)).alloc (.cells #[.int .i64 b.kind, .int .i64 b.val, .int .i64 b.index] 52)) 38 #[.slice none 0 0, .slice none 0 0])
  have hs1 : (w.alloc (.cells #[.slice At nt ct, .slice Ai ni ci, .slice Af nf cf, .slice Ata nta cta, .slice Am nm cm, .slice Ag ng cg, .slice Ae ne ce, .bool bst, .int .i64 vst, .slice Ael nel cel, .slice Ad nd cd, .slice Ac nc cc] 33)).heap.size = w.heap.size + 1 := by simp
  have hs2 : ((w.alloc (.cells #[.slice At nt ct, .slice Ai ni ci, .slice Af nf cf, .slice Ata nta cta, .slice Am nm cm, .slice Ag ng cg, .slice Ae ne ce, .bool bst, .int .i64 vst, .slice Ael nel cel, .slice Ad nd cd, .slice Ac nc cc] 33)).alloc (.cells #[.int .i64 b.kind, .int .i64 b.val, .int .i64 b.index] 52)).heap.size = w.heap.size + 1 + 1 := by simp
  rw [hs1] at GB
  rw [hs2] at G0
  have HT := hid (rType_any nt ni nf nta nm ng ne nel nd nc ct ci cf cta cm cg ce cel cd cc At Ai Af Ata Am Ag Ae Ael Ad Ac bst vst _ tys b.index S (h.fr F0.out (fun k hk => ⟨hS k hk, fun x => x⟩)) (fun k hk => Nat.lt_of_lt_of_le (hS k hk) F0.out.size) hn hl)
  have HS := hid hS
  clear h hs1 hs2 hS
  unfold blkD
  cases hk0 : (b.kind == 0) with
  | true =>
    have e0 : b.kind = 0 := eq_of_beq hk0
    rw [if_pos e0]
    clear HT e0
    go_enter Try.func25, Try.ntmps25
    go_wp2
    exact bodyPost_ret (v := .tuple #[.agg #[.slice none 0 0, .slice none 0 0], .bool true]) (by simp [results, Try.results25, go_sem]) rfl ⟨none, 0, none, 0, rfl, .inl rfl, .inl rfl, F0.out⟩
  | false =>
    rw [if_neg (ne_of_beq_false hk0)]
    cases hk1 : (b.kind == 1) with
    | true =>
      rw [if_pos (eq_of_beq hk1)]
      clear HT
      by_cases hv1 : 1 ≤ b.val
      · by_cases hv4 : b.val ≤ 4
        · have hvv : isVal b.val = true := by simp [isVal]; omega
          simp only [hvv, if_true]
          go_enter Try.func25, Try.ntmps25
          go_wp2
          refine bodyPost_ret (v := .tuple #[.agg #[.slice none 0 0, .slice (some ⟨w.heap.size + 1 + 1 + 1, 0, none⟩) 1 1], .bool true]) (by simp [results, Try.results25, go_sem]) rfl ⟨none, 0, some ⟨w.heap.size + 1 + 1 + 1, 0, none⟩, 1, rfl, .inl rfl, ?_, ((((Fr.refl No w).alloc _).alloc _).alloc _).alloc _⟩
          refine blk_els (css := [[.int .i64 b.val]]) (e := 50) ?_ (by simp) (Css.one (int_mk hv))
          have := Blk.new (((w.alloc (.cells #[.slice At nt ct, .slice Ai ni ci, .slice Af nf cf, .slice Ata nta cta, .slice Am nm cm, .slice Ag ng cg, .slice Ae ne ce, .bool bst, .int .i64 vst, .slice Ael nel cel, .slice Ad nd cd, .slice Ac nc cc] 33)).alloc (.cells #[.int .i64 b.kind, .int .i64 b.val, .int .i64 b.index] 52)).alloc (.cells #[.slice none 0 0, .slice (some ⟨w.heap.size + 1 + 1 + 1, 0, none⟩) 1 1] 38)) 50 #[.int .i64 b.val]
          simpa using this
        · have hvv : isVal b.val = false := by simp [isVal]; omega
          simp only [hvv, Bool.false_eq_true, if_false]
          go_enter Try.func25, Try.ntmps25
          go_wp2
          exact bodyPost_ret (v := .tuple #[.agg #[.slice none 0 0, .slice none 0 0], .bool false]) (by simp [results, Try.results25, go_sem]) rfl ⟨none, 0, none, 0, rfl, .inl rfl, .inl rfl, F0.out⟩
      · have hvv : isVal b.val = false := by simp [isVal]; omega
        simp only [hvv, Bool.false_eq_true, if_false]
        go_enter Try.func25, Try.ntmps25
        go_wp2
        exact bodyPost_ret (v := .tuple #[.agg #[.slice none 0 0, .slice none 0 0], .bool false]) (by simp [results, Try.results25, go_sem]) rfl ⟨none, 0, none, 0, rfl, .inl rfl, .inl rfl, F0.out⟩
    | false =>
      rw [if_neg (ne_of_beq_false hk1)]
      cases hk2 : (b.kind == 2) with
      | true =>
        rw [if_pos (eq_of_beq hk2)]
        generalize atD zFn tys b.index = q at *
        obtain ⟨y, ok⟩ := q
        go_enter Try.func25, Try.ntmps25
        go_wp2_with fail
        refine HT.out.mono ?_
        clear HT
        generalize ((w.alloc (.cells #[.slice At nt ct, .slice Ai ni ci, .slice Af nf cf, .slice Ata nta cta, .slice Am nm cm, .slice Ag ng cg, .slice Ae ne ce, .bool bst, .int .i64 vst, .slice Ael nel cel, .slice Ad nd cd, .slice Ac nc cc] 33)).alloc (.cells #[.int .i64 b.kind, .int .i64 b.val, .int .i64 b.index] 52)).alloc (.cells #[.slice none 0 0, .slice none 0 0] 38) = X1 at *
        rintro e w3 ⟨D1, g1, D2, g2, rfl, r1, r2, f3⟩
        have F3 := hid f3
        have R1 := hid r1
        have R2 := hid r2
        have G3 := hid (G0.out.fr f3 (fun x => x))
        have z0 : w3.cell? ⟨w.heap.size + 1 + 1, 0, none⟩ = some (.slice none 0 0) := G3.out.cell 0
        have z1 : w3.cell? ⟨w.heap.size + 1 + 1, 1, none⟩ = some (.slice none 0 0) := G3.out.cell 1
        have q0 : w3.frozen? ⟨w.heap.size + 1 + 1, 0, none⟩ = false := G3.out.frozen 0
        have q1 : w3.frozen? ⟨w.heap.size + 1 + 1, 1, none⟩ = false := G3.out.frozen 1
        clear f3 r1 r2
        go_wp2
        have FZ := ((Fr.refl (One (w.heap.size + 1 + 1)) w3).setCell ⟨w.heap.size + 1 + 1, 0, none⟩ (.slice D1 y.params.length g1) (fun _ => rfl)).setCell ⟨w.heap.size + 1 + 1, 1, none⟩ (.slice D2 y.results.length g2) (fun _ => rfl)
        have hlt : ∀ k, S k → k < w3.heap.size ∧ ¬ One (w.heap.size + 1 + 1) k := fun k hk => ⟨Nat.lt_of_lt_of_le (HS.out k hk) (F0.out.trans F3.out (fun _ _ h => h)).size, fun h => by have := HS.out k hk; simp only [One] at h; omega⟩
        refine bodyPost_ret (v := .tuple #[.agg #[.slice D1 y.params.length g1, .slice D2 y.results.length g2], .bool ok]) (by simp [results, Try.results25, go_sem, z0, z1]) rfl ⟨D1, g1, D2, g2, rfl, ?_, ?_, ?_⟩
        · exact (R1.out.fr FZ hlt).more (fun k hk => Nat.lt_of_lt_of_le (hlt k hk).1 FZ.size)
        · exact (R2.out.fr FZ hlt).more (fun k hk => Nat.lt_of_lt_of_le (hlt k hk).1 FZ.size)
        · exact (F0.out.trans F3.out (fun _ _ h => h)).trans FZ (fun i hi h => by simp only [One] at h; omega)
      | false =>
        rw [if_neg (ne_of_beq_false hk2)]
        clear HT
        go_enter Try.func25, Try.ntmps25
        go_wp2
        exact bodyPost_ret (v := .tuple #[.agg #[.slice none 0 0, .slice none 0 0], .bool false]) (by simp [results, Try.results25, go_sem]) rfl ⟨none, 0, none, 0, rfl, .inl rfl, .inl rfl, F0.out⟩
end Go.Proofs.Ytfngopoaegofhaa
