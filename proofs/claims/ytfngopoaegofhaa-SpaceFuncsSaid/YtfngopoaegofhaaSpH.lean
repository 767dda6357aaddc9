/- Contracts: the methods of a Space. -/
import Derived.Test.YtfngopoaegofhaaSpF
namespace Go.Proofs.Ytfngopoaegofhaa
open Go.RowKit

/-- A Space that Of created: the pointer to block p, its one cell, and the index spaces. -/
structure SpP (base : Nat) (X : World) (p gx gs bi bd : Nat) (ST : Nat → Prop) (nI nD : Nat) (v0 v1 v2 v3 v4 v5 : Value) (x : SpV) : Prop where
  hp : Blk X p 71 #[.pointer (some ⟨gs, 0, none⟩)]
  st : SpSt base X gx gs bi bd ST nI nD v0 v1 v2 v3 v4 v5 x
theorem SpP.frNo {base : Nat} {X X' : World} {p gx gs bi bd : Nat} {ST : Nat → Prop} {nI nD : Nat} {v0 v1 v2 v3 v4 v5 : Value} {x : SpV} (h : SpP base X p gx gs bi bd ST nI nD v0 v1 v2 v3 v4 v5 x) (f : Fr No X X') : SpP base X' p gx gs bi bd ST nI nD v0 v1 v2 v3 v4 v5 x := ⟨h.hp.fr f (fun x => x), h.st.frNo f⟩

set_option maxHeartbeats 800000 in
theorem whole_any (p gs : Nat) (X : World) (h : X.cell? ⟨p, 0, none⟩ = some (.pointer (some ⟨gs, 0, none⟩))) :
    Calls Try.prog 49 #[.pointer (some ⟨p, 0, none⟩)] X fun e w' => e = .returned (.pointer (some ⟨gs, 0, none⟩)) ∧ X = w' := by
  go_enter Try.func49, Try.ntmps49
  go_wp2
  go_ret
  exact ⟨rfl, rfl⟩

section
variable {base : Nat} {X : World} {p gx gs bi bd : Nat} {ST : Nat → Prop} {nI nD : Nat} {v0 v1 v2 v3 v4 v5 : Value} {x : SpV}
/-- The rows as slices. -/
theorem SpSt.form (h : SpSt base X gx gs bi bd ST nI nD v0 v1 v2 v3 v4 v5 x) : ∃ (A0 A1 A2 A3 A4 A5 : Option Addr) (c0 c1 c2 c3 c4 c5 : Nat),
    v0 = .slice A0 x.types.length c0 ∧ v1 = .slice A1 x.funcs.length c1 ∧ v2 = .slice A2 x.tables.length c2 ∧ v3 = .slice A3 x.mems.length c3 ∧ v4 = .slice A4 x.globals.length c4 ∧ v5 = .slice A5 x.elems.length c5 ∧
    tFn.els X (· < X.heap.size) A0 x.types ∧ tI.els X (· < X.heap.size) A1 x.funcs ∧ tTb.els X (· < X.heap.size) A2 x.tables ∧ tLim.els X (· < X.heap.size) A3 x.mems ∧ tGl.els X (· < X.heap.size) A4 x.globals ∧ tI.els X (· < X.heap.size) A5 x.elems := by
  have hl : ∀ {j : Nat} {v : Value}, [v0, v1, v2, v3, v4, v5][j]? = some v → ∀ g, v.ownBlock = some g → g < X.heap.size := fun hv g hg => by
    obtain ⟨_, cs, hb⟩ := (h.row _ _ hv).own hg
    exact hb.lt
  obtain ⟨A0, c0, e0, _, _, k0⟩ := (h.row 0 v0 rfl : tFn.row X base ST _ v0 x.types).els (S' := (· < X.heap.size)) (fun k hk => by obtain ⟨_, ⟨cs, hb⟩, _⟩ := h.st k hk; exact hb.lt) (hl (j := 0) rfl)
  obtain ⟨A1, c1, e1, _, _, k1⟩ := (h.row 1 v1 rfl : tI.row X base Emp _ v1 x.funcs).els (S' := (· < X.heap.size)) (fun k hk => hk.elim) (hl (j := 1) rfl)
  obtain ⟨A2, c2, e2, _, _, k2⟩ := (h.row 2 v2 rfl : tTb.row X base Emp _ v2 x.tables).els (S' := (· < X.heap.size)) (fun k hk => hk.elim) (hl (j := 2) rfl)
  obtain ⟨A3, c3, e3, _, _, k3⟩ := (h.row 3 v3 rfl : tLim.row X base Emp _ v3 x.mems).els (S' := (· < X.heap.size)) (fun k hk => hk.elim) (hl (j := 3) rfl)
  obtain ⟨A4, c4, e4, _, _, k4⟩ := (h.row 4 v4 rfl : tGl.row X base Emp _ v4 x.globals).els (S' := (· < X.heap.size)) (fun k hk => hk.elim) (hl (j := 4) rfl)
  obtain ⟨A5, c5, e5, _, _, k5⟩ := (h.row 5 v5 rfl : tI.row X base Emp _ v5 x.elems).els (S' := (· < X.heap.size)) (fun k hk => hk.elim) (hl (j := 5) rfl)
  exact ⟨A0, A1, A2, A3, A4, A5, c0, c1, c2, c3, c4, c5, e0, e1, e2, e3, e4, e5, k0, k1, k2, k3, k4, k5⟩
end

set_option maxHeartbeats 800000 in
theorem nTypes_any (base : Nat) (X : World) (p gx gs bi bd : Nat) (ST : Nat → Prop) (nI nD : Nat) (v0 v1 v2 v3 v4 v5 : Value) (x : SpV) (h : SpP base X p gx gs bi bd ST nI nD v0 v1 v2 v3 v4 v5 x) :
    Calls Try.prog 17 #[.pointer (some ⟨p, 0, none⟩)] X fun e w' => e = .returned (.int .i64 x.types.length) ∧ X = w' := by
  have HW := hid (whole_any p gs X (h.hp.cell 0))
  have h0 : X.cell? ⟨gs, 0, none⟩ = some v0 := h.st.hs.cell 0
  obtain ⟨A0, A1, A2, A3, A4, A5, c0, c1, c2, c3, c4, c5, rfl, rfl, rfl, rfl, rfl, rfl, -⟩ := h.st.form
  clear h
  go_enter Try.func17, Try.ntmps17
  go_wp2_with fail
  refine HW.out.mono ?_
  rintro e w' ⟨rfl, rfl⟩
  go_wp2
  go_ret
  exact ⟨rfl, rfl⟩

set_option maxHeartbeats 800000 in
theorem nFuncs_any (base : Nat) (X : World) (p gx gs bi bd : Nat) (ST : Nat → Prop) (nI nD : Nat) (v0 v1 v2 v3 v4 v5 : Value) (x : SpV) (h : SpP base X p gx gs bi bd ST nI nD v0 v1 v2 v3 v4 v5 x) :
    Calls Try.prog 19 #[.pointer (some ⟨p, 0, none⟩)] X fun e w' => e = .returned (.int .i64 x.funcs.length) ∧ X = w' := by
  have HW := hid (whole_any p gs X (h.hp.cell 0))
  have h1 : X.cell? ⟨gs, 1, none⟩ = some v1 := h.st.hs.cell 1
  obtain ⟨A0, A1, A2, A3, A4, A5, c0, c1, c2, c3, c4, c5, rfl, rfl, rfl, rfl, rfl, rfl, -⟩ := h.st.form
  clear h
  go_enter Try.func19, Try.ntmps19
  go_wp2_with fail
  refine HW.out.mono ?_
  rintro e w' ⟨rfl, rfl⟩
  go_wp2
  go_ret
  exact ⟨rfl, rfl⟩

set_option maxHeartbeats 800000 in
theorem nTables_any (base : Nat) (X : World) (p gx gs bi bd : Nat) (ST : Nat → Prop) (nI nD : Nat) (v0 v1 v2 v3 v4 v5 : Value) (x : SpV) (h : SpP base X p gx gs bi bd ST nI nD v0 v1 v2 v3 v4 v5 x) :
    Calls Try.prog 28 #[.pointer (some ⟨p, 0, none⟩)] X fun e w' => e = .returned (.int .i64 x.tables.length) ∧ X = w' := by
  have HW := hid (whole_any p gs X (h.hp.cell 0))
  have h2 : X.cell? ⟨gs, 2, none⟩ = some v2 := h.st.hs.cell 2
  obtain ⟨A0, A1, A2, A3, A4, A5, c0, c1, c2, c3, c4, c5, rfl, rfl, rfl, rfl, rfl, rfl, -⟩ := h.st.form
  clear h
  go_enter Try.func28, Try.ntmps28
  go_wp2_with fail
  refine HW.out.mono ?_
  rintro e w' ⟨rfl, rfl⟩
  go_wp2
  go_ret
  exact ⟨rfl, rfl⟩

set_option maxHeartbeats 800000 in
theorem nMems_any (base : Nat) (X : World) (p gx gs bi bd : Nat) (ST : Nat → Prop) (nI nD : Nat) (v0 v1 v2 v3 v4 v5 : Value) (x : SpV) (h : SpP base X p gx gs bi bd ST nI nD v0 v1 v2 v3 v4 v5 x) :
    Calls Try.prog 29 #[.pointer (some ⟨p, 0, none⟩)] X fun e w' => e = .returned (.int .i64 x.mems.length) ∧ X = w' := by
  have HW := hid (whole_any p gs X (h.hp.cell 0))
  have h3 : X.cell? ⟨gs, 3, none⟩ = some v3 := h.st.hs.cell 3
  obtain ⟨A0, A1, A2, A3, A4, A5, c0, c1, c2, c3, c4, c5, rfl, rfl, rfl, rfl, rfl, rfl, -⟩ := h.st.form
  clear h
  go_enter Try.func29, Try.ntmps29
  go_wp2_with fail
  refine HW.out.mono ?_
  rintro e w' ⟨rfl, rfl⟩
  go_wp2
  go_ret
  exact ⟨rfl, rfl⟩

set_option maxHeartbeats 800000 in
theorem nGlobals_any (base : Nat) (X : World) (p gx gs bi bd : Nat) (ST : Nat → Prop) (nI nD : Nat) (v0 v1 v2 v3 v4 v5 : Value) (x : SpV) (h : SpP base X p gx gs bi bd ST nI nD v0 v1 v2 v3 v4 v5 x) :
    Calls Try.prog 30 #[.pointer (some ⟨p, 0, none⟩)] X fun e w' => e = .returned (.int .i64 x.globals.length) ∧ X = w' := by
  have HW := hid (whole_any p gs X (h.hp.cell 0))
  have h4 : X.cell? ⟨gs, 4, none⟩ = some v4 := h.st.hs.cell 4
  obtain ⟨A0, A1, A2, A3, A4, A5, c0, c1, c2, c3, c4, c5, rfl, rfl, rfl, rfl, rfl, rfl, -⟩ := h.st.form
  clear h
  go_enter Try.func30, Try.ntmps30
  go_wp2_with fail
  refine HW.out.mono ?_
  rintro e w' ⟨rfl, rfl⟩
  go_wp2
  go_ret
  exact ⟨rfl, rfl⟩

set_option maxHeartbeats 800000 in
theorem nDatas_any (base : Nat) (X : World) (p gx gs bi bd : Nat) (ST : Nat → Prop) (nI nD : Nat) (v0 v1 v2 v3 v4 v5 : Value) (x : SpV) (h : SpP base X p gx gs bi bd ST nI nD v0 v1 v2 v3 v4 v5 x) :
    Calls Try.prog 32 #[.pointer (some ⟨p, 0, none⟩)] X fun e w' => e = .returned (.int .i64 x.datas) ∧ X = w' := by
  have HW := hid (whole_any p gs X (h.hp.cell 0))
  have h6 : X.cell? ⟨gs, 6, none⟩ = some (.int .i64 x.datas) := h.st.hs.cell 6
  clear h
  go_enter Try.func32, Try.ntmps32
  go_wp2_with fail
  refine HW.out.mono ?_
  rintro e w' ⟨rfl, rfl⟩
  go_wp2
  go_ret
  exact ⟨rfl, rfl⟩

set_option maxHeartbeats 800000 in
theorem imported_any (base : Nat) (X : World) (p gx gs bi bd : Nat) (ST : Nat → Prop) (nI nD : Nat) (v0 v1 v2 v3 v4 v5 : Value) (x : SpV) (k : Int) (hk : (Lit.int .i64 k).wf = true) (h : SpP base X p gx gs bi bd ST nI nD v0 v1 v2 v3 v4 v5 x) :
    Calls Try.prog 27 #[.pointer (some ⟨p, 0, none⟩), .int .i64 k] X fun e w' => e = .returned (.int .i64 (x.imp k)) ∧ X = w' := by
  have HW := hid (whole_any p gs X (h.hp.cell 0))
  have h7 : X.cell? ⟨gs, 7, none⟩ = some (.map (some bi)) := h.st.hs.cell 7
  have hrun := h.st.mi.get Try.underlying90 Try.underlying56 Try.underlying3 zI hk
  clear h
  go_enter Try.func27, Try.ntmps27
  go_wp2_with fail
  refine HW.out.mono ?_
  rintro e w' ⟨rfl, rfl⟩
  go_wp2
  go_ret
  exact ⟨rfl, rfl⟩

end Go.Proofs.Ytfngopoaegofhaa
