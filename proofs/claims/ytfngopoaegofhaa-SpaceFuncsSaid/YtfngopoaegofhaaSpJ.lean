/- Contracts: Elem, Type, Func, Declared. -/
import Derived.Test.YtfngopoaegofhaaSpI
namespace Go.Proofs.Ytfngopoaegofhaa
open Go.RowKit

def zFn : Fn := ⟨[], []⟩
def AtFn (f : Fn) (ok : Bool) (S : Nat → Prop) (X : World) (e : Ending) (w' : World) : Prop :=
  ∃ (A1 : Option Addr) (c1 : Nat) (A2 : Option Addr) (c2 : Nat), e = .returned (.tuple #[.agg #[.slice A1 f.params.length c1, .slice A2 f.results.length c2], .bool ok]) ∧ tI.els w' S A1 f.params ∧ tI.els w' S A2 f.results ∧ Fr No X w'
set_option maxHeartbeats 800000 in
theorem atFn_any (A : Option Addr) (l : List Fn) (c : Nat) (i : Int) (S : Nat → Prop) (X : World) (hS : ∀ k, S k → k < X.heap.size) (h : tFn.els X S A l) (hl : l.length ≤ 1000000) :
    Calls Try.prog 48 #[.slice A l.length c, .int .i64 i] X (AtFn (atD zFn l i).1 (atD zFn l i).2 S X) := by
  rcases at_cases l i with ⟨k, hk, rfl⟩ | hi | ⟨hi0, hi⟩
  · obtain ⟨b, o, A1, c1, A2, c2, rfl, hb, y0, y1, _, _, e1, _, _, e2⟩ := Fn_at h k hk
    have hbx := hS b hb
    rw [atD_yes hk]
    have i0 : (0 : Int) ≤ k := by omega
    have i1 : (k : Int) < l.length := by omega
    have HS := hid hS
    have E1 := hid e1
    have E2 := hid e2
    generalize l[k] = y at *
    clear h hS e1 e2
    go_enter Try.func48, Try.ntmps48
    go_wp2
    refine bodyPost_ret (v := .tuple #[.agg #[.slice A1 y.params.length c1, .slice A2 y.results.length c2], .bool true]) (by simp [results, Try.results48, go_sem]) rfl ⟨A1, c1, A2, c2, rfl, ?_, ?_, (Fr.refl No X).alloc _⟩
    · exact E1.out.fr ((Fr.refl No X).alloc _) (fun k hk => ⟨HS.out k hk, fun x => x⟩)
    · exact E2.out.fr ((Fr.refl No X).alloc _) (fun k hk => ⟨HS.out k hk, fun x => x⟩)
  · rw [atD_no (.inl hi)]
    clear h hS
    go_enter Try.func48, Try.ntmps48
    go_wp2
    exact bodyPost_ret (v := .tuple #[.agg #[.slice none 0 0, .slice none 0 0], .bool false]) (by simp [results, Try.results48, go_sem]) rfl ⟨none, 0, none, 0, rfl, .inl rfl, .inl rfl, ((Fr.refl No X).alloc _).alloc _⟩
  · rw [atD_no (.inr hi)]
    clear h hS
    go_enter Try.func48, Try.ntmps48
    go_wp2
    exact bodyPost_ret (v := .tuple #[.agg #[.slice none 0 0, .slice none 0 0], .bool false]) (by simp [results, Try.results48, go_sem]) rfl ⟨none, 0, none, 0, rfl, .inl rfl, .inl rfl, ((Fr.refl No X).alloc _).alloc _⟩

set_option maxHeartbeats 800000 in
theorem mElem_any (base : Nat) (X : World) (p gx gs bi bd : Nat) (ST : Nat → Prop) (nI nD : Nat) (v0 v1 v2 v3 v4 v5 : Value) (x : SpV) (i : Int) (hl : x.elems.length ≤ 1000000) (h : SpP base X p gx gs bi bd ST nI nD v0 v1 v2 v3 v4 v5 x) :
    Calls Try.prog 31 #[.pointer (some ⟨p, 0, none⟩), .int .i64 i] X fun e w' => e = .returned (.tuple #[.int .i64 (atD 0 x.elems i).1, .bool (atD 0 x.elems i).2]) ∧ X = w' := by
  have HW := hid (whole_any p gs X (h.hp.cell 0))
  have hj := h.st.hs.cell 5
  obtain ⟨A0, A1, A2, A3, A4, A5, c0, c1, c2, c3, c4, c5, rfl, rfl, rfl, rfl, rfl, rfl, k0, k1, k2, k3, k4, k5⟩ := h.st.form
  have HA := hid (atV_any A5 x.elems c5 i _ X k5 hl)
  clear h k0 k1 k2 k3 k4 k5
  generalize atD 0 x.elems i = q at *
  obtain ⟨y, ok⟩ := q
  go_enter Try.func31, Try.ntmps31
  go_wp2_with fail
  refine HW.out.mono ?_
  rintro e w' ⟨rfl, rfl⟩
  go_wp2_with fail
  refine HA.out.mono ?_
  rintro e w2 ⟨rfl, rfl⟩
  go_wp2
  go_ret2
  exact ⟨rfl, rfl⟩

/-- A function type of two fresh lists, and ok. -/
def TyTo (f : Fn) (ok : Bool) (X : World) (e : Ending) (w' : World) : Prop :=
  ∃ (A1 : Option Addr) (c1 : Nat) (A2 : Option Addr) (c2 : Nat), e = .returned (.tuple #[.agg #[.slice A1 f.params.length c1, .slice A2 f.results.length c2], .bool ok]) ∧ FnNew w' X.heap.size A1 c1 A2 c2 f ∧ Fr No X w'
theorem FnNew.base {w : World} {b b' : Nat} {A1 A2 : Option Addr} {c1 c2 : Nat} {f : Fn} (h : FnNew w b A1 c1 A2 c2 f) (hb : b' ≤ b) : FnNew w b' A1 c1 A2 c2 f := ⟨h.p.more hb (fun _ h => h), h.r.more hb (fun _ h => h), h.ne⟩
theorem FnNew.fr' {w w' : World} {M : Nat → Prop} {base : Nat} {A1 A2 : Option Addr} {c1 c2 : Nat} {f : Fn} (h : FnNew w base A1 c1 A2 c2 f) (g : Fr M w w') (hM : ∀ k, base ≤ k → ¬ M k) : FnNew w' base A1 c1 A2 c2 f :=
  ⟨h.p.fr g (fun _ h => h.elim) (fun k hk => hM k (h.p.own hk).1), h.r.fr g (fun _ h => h.elim) (fun k hk => hM k (h.r.own hk).1), h.ne⟩
theorem fnNew_nil (w : World) (base : Nat) : FnNew w base none 0 none 0 zFn := ⟨Ty.row.nil _ _ _ _, Ty.row.nil _ _ _ _, fun g h => by cases h⟩

set_option maxHeartbeats 1600000 in
theorem mType_any (base : Nat) (X : World) (p gx gs bi bd : Nat) (ST : Nat → Prop) (nI nD : Nat) (v0 v1 v2 v3 v4 v5 : Value) (x : SpV) (i : Int) (hl : x.types.length ≤ 1000000) (hlp : ∀ f ∈ x.types, f.params.length * 8 ≤ 140737488351232 ∧ f.results.length * 8 ≤ 140737488351232) (h : SpP base X p gx gs bi bd ST nI nD v0 v1 v2 v3 v4 v5 x) :
    Calls Try.prog 13 #[.pointer (some ⟨p, 0, none⟩), .int .i64 i] X (TyTo (atD zFn x.types i).1 (atD zFn x.types i).2 X) := by
  have F0 := hid ((Fr.refl No X).alloc (.cells #[.slice none 0 0, .slice none 0 0] 38))
  have H1 := h.frNo F0.out
  have HW := hid (whole_any p gs _ (H1.hp.cell 0))
  have hj := H1.st.hs.cell 0
  obtain ⟨A0, A1, A2, A3, A4, A5, c0, c1, c2, c3, c4, c5, rfl, rfl, rfl, rfl, rfl, rfl, k0, k1, k2, k3, k4, k5⟩ := H1.st.form
  have HA := hid (atFn_any A0 x.types c0 i _ _ (fun _ h => h) k0 hl)
  have G0 := hid (Blk.new X 38 #[.slice none 0 0, .slice none 0 0])
  have HLP : Hid ((atD zFn x.types i).1.params.length * 8 ≤ 140737488351232 ∧ (atD zFn x.types i).1.results.length * 8 ≤ 140737488351232) := by
    rcases at_cases x.types i with ⟨k, hk, rfl⟩ | hi | ⟨_, hi⟩
    · rw [atD_yes hk]; exact hlp _ (List.getElem_mem hk)
    · rw [atD_no (.inl hi)]; exact ⟨by decide, by decide⟩
    · rw [atD_no (.inr hi)]; exact ⟨by decide, by decide⟩
  clear h H1 k0 k1 k2 k3 k4 k5 hlp
  generalize atD zFn x.types i = q at *
  obtain ⟨y, ok⟩ := q
  go_enter Try.func13, Try.ntmps13
  go_wp2_with fail
  generalize X.alloc (.cells #[.slice none 0 0, .slice none 0 0] 38) = X1 at *
  have hX1 : X.heap.size < X1.heap.size := G0.out.lt
  refine HW.out.mono ?_
  rintro e w' ⟨rfl, rfl⟩
  go_wp2_with fail
  refine HA.out.mono ?_
  rintro e w2 ⟨B1, d1, B2, d2, rfl, e1, e2, f2⟩
  have hs2 : X.heap.size < w2.heap.size := Nat.lt_of_lt_of_le hX1 f2.size
  have F2 := hid (f2.alloc (.cells #[.slice B1 y.params.length d1, .slice B2 y.results.length d2] 38))
  have HC := hid (copied_any y B1 B2 d1 d2 (· < X1.heap.size) (w2.alloc (.cells #[.slice B1 y.params.length d1, .slice B2 y.results.length d2] 38)) (fun k hk => Nat.lt_of_lt_of_le hk F2.out.size)
    (e1.fr ((Fr.refl No w2).alloc _) (fun k hk => ⟨Nat.lt_of_lt_of_le hk f2.size, fun x => x⟩)) (e2.fr ((Fr.refl No w2).alloc _) (fun k hk => ⟨Nat.lt_of_lt_of_le hk f2.size, fun x => x⟩)) (by have := HLP.out; omega) (by have := HLP.out; omega) (by have := HLP.out; omega) (by have := HLP.out; omega))
  clear e1 e2 f2 HW HA
  go_wp2_with fail
  refine HC.out.mono ?_
  clear HC
  rintro e w3 ⟨D1, g1, D2, g2, rfl, hnew, f3⟩
  have F3 := hid (F2.out.trans f3 (fun _ _ h => h))
  have G3 := hid (G0.out.fr F3.out (fun x => x))
  have hb3 : X1.heap.size ≤ (w2.alloc (.cells #[.slice B1 y.params.length d1, .slice B2 y.results.length d2] 38)).heap.size := F2.out.size
  have HN := hid (hnew.base hb3)
  have z0 : w3.cell? ⟨X.heap.size, 0, none⟩ = some (.slice none 0 0) := G3.out.cell 0
  have z1 : w3.cell? ⟨X.heap.size, 1, none⟩ = some (.slice none 0 0) := G3.out.cell 1
  have q0 : w3.frozen? ⟨X.heap.size, 0, none⟩ = false := G3.out.frozen 0
  have q1 : w3.frozen? ⟨X.heap.size, 1, none⟩ = false := G3.out.frozen 1
  clear hnew f3 hb3
  go_wp2
  have FZ := ((Fr.refl (One X.heap.size) w3).setCell ⟨X.heap.size, 0, none⟩ (.slice D1 y.params.length g1) (fun _ => rfl)).setCell ⟨X.heap.size, 1, none⟩ (.slice D2 y.results.length g2) (fun _ => rfl)
  refine bodyPost_ret (v := .tuple #[.agg #[.slice D1 y.params.length g1, .slice D2 y.results.length g2], .bool ok]) (by simp [results, Try.results13, go_sem, z0, z1]) rfl ⟨D1, g1, D2, g2, rfl, ?_, ?_⟩
  · exact (HN.out.fr' FZ (fun k hk h => by simp only [One] at h; omega)).base (by omega)
  · exact (F0.out.trans F3.out (fun _ _ h => h)).trans FZ (fun i hi h => by simp only [One] at h; omega)
end Go.Proofs.Ytfngopoaegofhaa
