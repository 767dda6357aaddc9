/- Contracts: Func, Declared, Block. -/
import Derived.Test.YtfngopoaegofhaaSpJ
namespace Go.Proofs.Ytfngopoaegofhaa
open Go.RowKit

def funcD (x : SpV) (i : Int) : Fn × Bool := if (atD 0 x.funcs i).2 then atD zFn x.types (atD 0 x.funcs i).1 else (zFn, false)
set_option maxHeartbeats 1600000 in
theorem mFunc_any (base : Nat) (X : World) (p gx gs bi bd : Nat) (ST : Nat → Prop) (nI nD : Nat) (v0 v1 v2 v3 v4 v5 : Value) (x : SpV) (i : Int) (hl : x.types.length ≤ 1000000) (hlf : x.funcs.length ≤ 1000000) (hlp : ∀ f ∈ x.types, f.params.length * 8 ≤ 140737488351232 ∧ f.results.length * 8 ≤ 140737488351232) (h : SpP base X p gx gs bi bd ST nI nD v0 v1 v2 v3 v4 v5 x) :
    Calls Try.prog 15 #[.pointer (some ⟨p, 0, none⟩), .int .i64 i] X (TyTo (funcD x i).1 (funcD x i).2 X) := by
  have F0 := hid ((Fr.refl No X).alloc (.cells #[.slice none 0 0, .slice none 0 0] 38))
  have H1 := h.frNo F0.out
  have HW := hid (whole_any p gs _ (H1.hp.cell 0))
  have hj := H1.st.hs.cell 1
  have HT := hid (fun t => mType_any base _ p gx gs bi bd ST nI nD v0 v1 v2 v3 v4 v5 x t hl hlp H1)
  obtain ⟨A0, A1, A2, A3, A4, A5, c0, c1, c2, c3, c4, c5, rfl, rfl, rfl, rfl, rfl, rfl, k0, k1, k2, k3, k4, k5⟩ := H1.st.form
  have HA := hid (atI_any A1 x.funcs c1 i _ _ k1 hlf)
  have G0 := hid (Blk.new X 38 #[.slice none 0 0, .slice none 0 0])
  clear h H1 k0 k1 k2 k3 k4 k5 hlp
  unfold funcD
  generalize atD 0 x.funcs i = q at *
  obtain ⟨t, ok⟩ := q
  cases ok with
  | false =>
    go_enter Try.func15, Try.ntmps15
    go_wp2_with fail
    refine HW.out.mono ?_
    rintro e w' ⟨rfl, rfl⟩
    go_wp2_with fail
    refine HA.out.mono ?_
    rintro e w' ⟨rfl, rfl⟩
    go_wp2
    exact bodyPost_ret (v := .tuple #[.agg #[.slice none 0 0, .slice none 0 0], .bool false]) (by simp [results, Try.results15, go_sem]) rfl ⟨none, 0, none, 0, rfl, fnNew_nil _ _, F0.out⟩
  | true =>
    have HT1 := hid (HT.out t)
    clear HT
    simp only [if_true]
    generalize atD zFn x.types t = q at *
    obtain ⟨y, ok⟩ := q
    go_enter Try.func15, Try.ntmps15
    go_wp2_with fail
    generalize X.alloc (.cells #[.slice none 0 0, .slice none 0 0] 38) = X1 at *
    have hX1 : X.heap.size < X1.heap.size := G0.out.lt
    refine HW.out.mono ?_
    rintro e w' ⟨rfl, rfl⟩
    go_wp2_with fail
    refine HA.out.mono ?_
    rintro e w' ⟨rfl, rfl⟩
    go_wp2_with fail
    refine HT1.out.mono ?_
    rintro e w3 ⟨D1, g1, D2, g2, rfl, hnew, f3⟩
    have F3 := hid f3
    have G3 := hid (G0.out.fr f3 (fun x => x))
    have HN := hid hnew
    have z0 : w3.cell? ⟨X.heap.size, 0, none⟩ = some (.slice none 0 0) := G3.out.cell 0
    have z1 : w3.cell? ⟨X.heap.size, 1, none⟩ = some (.slice none 0 0) := G3.out.cell 1
    have q0 : w3.frozen? ⟨X.heap.size, 0, none⟩ = false := G3.out.frozen 0
    have q1 : w3.frozen? ⟨X.heap.size, 1, none⟩ = false := G3.out.frozen 1
    clear hnew f3 HT1 HW HA
    go_wp2
    have FZ := ((Fr.refl (One X.heap.size) w3).setCell ⟨X.heap.size, 0, none⟩ (.slice D1 y.params.length g1) (fun _ => rfl)).setCell ⟨X.heap.size, 1, none⟩ (.slice D2 y.results.length g2) (fun _ => rfl)
    refine bodyPost_ret (v := .tuple #[.agg #[.slice D1 y.params.length g1, .slice D2 y.results.length g2], .bool ok]) (by simp [results, Try.results15, go_sem, z0, z1]) rfl ⟨D1, g1, D2, g2, rfl, ?_, ?_⟩
    · exact (HN.out.fr' FZ (fun k hk h => by simp only [One] at h; omega)).base (by omega)
    · exact (F0.out.trans F3.out (fun _ _ h => h)).trans FZ (fun i hi h => by simp only [One] at h; omega)

def declB (x : SpV) (i : Int) : Bool := decide (0 ≤ i) && (decide (i < x.funcs.length) && x.dec i)
set_option maxHeartbeats 1600000 in
set_option maxRecDepth 100000 in
theorem declared_any (base : Nat) (X : World) (p gx gs bi bd : Nat) (ST : Nat → Prop) (nI nD : Nat) (v0 v1 v2 v3 v4 v5 : Value) (x : SpV) (i : Int) (hw : (Lit.int .i64 i).wf = true) (h : SpP base X p gx gs bi bd ST nI nD v0 v1 v2 v3 v4 v5 x) :
    Calls Try.prog 22 #[.pointer (some ⟨p, 0, none⟩), .int .i64 i] X fun e w' => e = .returned (.bool (declB x i)) ∧ X = w' := by
  have HW := hid (whole_any p gs X (h.hp.cell 0))
  have HN := hid (nFuncs_any base X p gx gs bi bd ST nI nD v0 v1 v2 v3 v4 v5 x h)
  have h8 : X.cell? ⟨gs, 8, none⟩ = some (.map (some bd)) := h.st.hs.cell 8
  have hrun := h.st.md.get Try.underlying91 Try.underlying3 Try.underlying4 zB hw
  clear h
  by_cases h0 : i < 0
  · go_enter Try.func22, Try.ntmps22
    go_wp2
    go_ret
    exact ⟨rt_bool (by simp [declB]; intro h; omega), rfl⟩
  · by_cases h1 : i < x.funcs.length
    · generalize hd : x.dec i = d at *
      have HD := hid hd
      clear hd
      go_enter Try.func22, Try.ntmps22
      go_wp2_with fail
      refine HN.out.mono ?_
      rintro e w' ⟨rfl, rfl⟩
      go_wp2_with fail
      refine HW.out.mono ?_
      rintro e w' ⟨rfl, rfl⟩
      go_wp2
      go_ret
      exact ⟨rt_bool (by have := HD.out; simp [declB, this, h1]; intro _; omega), rfl⟩
    · go_enter Try.func22, Try.ntmps22
      go_wp2_with fail
      refine HN.out.mono ?_
      rintro e w' ⟨rfl, rfl⟩
      go_wp2
      go_ret
      exact ⟨rt_bool (by simp [declB]; intro _ h; omega), rfl⟩
end Go.Proofs.Ytfngopoaegofhaa
