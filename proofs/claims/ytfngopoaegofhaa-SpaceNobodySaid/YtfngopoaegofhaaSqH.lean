/- The law SpaceNobody. -/
import Derived.Test.YtfngopoaegofhaaSpS
import Derived.Test.YtfngopoaegofhaaSpU
import Derived.Maps.OwnSet
namespace Go.Proofs.Ytfngopoaegofhaa
open Go.RowKit

/-- A nil Space, or one that Of did not create. -/
def NobV (X : World) (v : Value) : Prop := v = .pointer none ∨ ∃ q, v = .pointer (some ⟨q, 0, none⟩) ∧ Blk X q 71 #[.pointer none]
theorem NobV.fr {X X' : World} {v : Value} (h : NobV X v) (f : Fr No X X') : NobV X' v := by
  rcases h with h | ⟨q, h, hb⟩
  · exact .inl h
  · exact .inr ⟨q, h, hb.fr f (fun x => x)⟩
def zSp : Array Value := #[.slice none 0 0, .slice none 0 0, .slice none 0 0, .slice none 0 0, .slice none 0 0, .slice none 0 0, .int .i64 0, .map none, .map none]
theorem atD_nil {α : Type} (d : α) (i : Int) : atD d [] i = (d, false) := by rw [atD, dif_neg]; simp
def WhTo (X : World) (e : Ending) (w' : World) : Prop := ∃ g, e = .returned (.pointer (some ⟨g, 0, none⟩)) ∧ Blk w' g 95 zSp ∧ Fr No X w'
set_option maxHeartbeats 800000 in
theorem whole_no (v : Value) (X : World) (h : NobV X v) : Calls Try.prog 49 #[v] X (WhTo X) := by
  rcases h with rfl | ⟨q, rfl, hb⟩
  · go_enter Try.func49, Try.ntmps49
    go_wp2
    go_ret
    exact ⟨_, rfl, Blk.new X _ _, (Fr.refl No X).alloc _⟩
  · have h0 := hb.cell 0
    clear hb
    go_enter Try.func49, Try.ntmps49
    go_wp2
    go_ret
    exact ⟨_, rfl, Blk.new X _ _, (Fr.refl No X).alloc _⟩

set_option maxHeartbeats 800000 in
theorem oTypes_no (v : Value) (X : World) (h : NobV X v) : Calls Try.prog 17 #[v] X fun e w' => e = .returned (.int .i64 0) ∧ Fr No X w' := by
  have HW := hid (whole_no v X h)
  clear h
  go_enter Try.func17, Try.ntmps17
  go_wp2_with fail
  refine HW.out.mono ?_
  rintro e w' ⟨g, rfl, hb, f⟩
  have F := hid f
  have hj := hb.cell 0
  clear hb f
  simp only [zSp] at hj
  go_wp2
  go_ret
  exact ⟨rfl, F.out⟩
set_option maxHeartbeats 800000 in
theorem oFuncs_no (v : Value) (X : World) (h : NobV X v) : Calls Try.prog 19 #[v] X fun e w' => e = .returned (.int .i64 0) ∧ Fr No X w' := by
  have HW := hid (whole_no v X h)
  clear h
  go_enter Try.func19, Try.ntmps19
  go_wp2_with fail
  refine HW.out.mono ?_
  rintro e w' ⟨g, rfl, hb, f⟩
  have F := hid f
  have hj := hb.cell 1
  clear hb f
  simp only [zSp] at hj
  go_wp2
  go_ret
  exact ⟨rfl, F.out⟩
set_option maxHeartbeats 800000 in
theorem oTables_no (v : Value) (X : World) (h : NobV X v) : Calls Try.prog 28 #[v] X fun e w' => e = .returned (.int .i64 0) ∧ Fr No X w' := by
  have HW := hid (whole_no v X h)
  clear h
  go_enter Try.func28, Try.ntmps28
  go_wp2_with fail
  refine HW.out.mono ?_
  rintro e w' ⟨g, rfl, hb, f⟩
  have F := hid f
  have hj := hb.cell 2
  clear hb f
  simp only [zSp] at hj
  go_wp2
  go_ret
  exact ⟨rfl, F.out⟩
set_option maxHeartbeats 800000 in
theorem oMems_no (v : Value) (X : World) (h : NobV X v) : Calls Try.prog 29 #[v] X fun e w' => e = .returned (.int .i64 0) ∧ Fr No X w' := by
  have HW := hid (whole_no v X h)
  clear h
  go_enter Try.func29, Try.ntmps29
  go_wp2_with fail
  refine HW.out.mono ?_
  rintro e w' ⟨g, rfl, hb, f⟩
  have F := hid f
  have hj := hb.cell 3
  clear hb f
  simp only [zSp] at hj
  go_wp2
  go_ret
  exact ⟨rfl, F.out⟩
set_option maxHeartbeats 800000 in
theorem oGlobals_no (v : Value) (X : World) (h : NobV X v) : Calls Try.prog 30 #[v] X fun e w' => e = .returned (.int .i64 0) ∧ Fr No X w' := by
  have HW := hid (whole_no v X h)
  clear h
  go_enter Try.func30, Try.ntmps30
  go_wp2_with fail
  refine HW.out.mono ?_
  rintro e w' ⟨g, rfl, hb, f⟩
  have F := hid f
  have hj := hb.cell 4
  clear hb f
  simp only [zSp] at hj
  go_wp2
  go_ret
  exact ⟨rfl, F.out⟩
set_option maxHeartbeats 800000 in
theorem oDatas_no (v : Value) (X : World) (h : NobV X v) : Calls Try.prog 32 #[v] X fun e w' => e = .returned (.int .i64 0) ∧ Fr No X w' := by
  have HW := hid (whole_no v X h)
  clear h
  go_enter Try.func32, Try.ntmps32
  go_wp2_with fail
  refine HW.out.mono ?_
  rintro e w' ⟨g, rfl, hb, f⟩
  have F := hid f
  have hj := hb.cell 6
  clear hb f
  simp only [zSp] at hj
  go_wp2
  go_ret
  exact ⟨rfl, F.out⟩
set_option maxHeartbeats 800000 in
theorem oImported_no (v : Value) (k : Int) (hk : (Lit.int .i64 k).wf = true) (X : World) (h : NobV X v) : Calls Try.prog 27 #[v, .int .i64 k] X fun e w' => e = .returned (.int .i64 0) ∧ Fr No X w' := by
  have HW := hid (whole_no v X h)
  have hrun := fun W => Go.Maps.look_nil (w := W) (P := Try.prog) false (Maps.int_keyed Try.underlying56) Try.underlying90 (zI W) (Maps.keyOf_int_mk Try.underlying56 hk)
  simp only [Bool.false_eq_true, if_false] at hrun
  clear h
  go_enter Try.func27, Try.ntmps27
  go_wp2_with fail
  refine HW.out.mono ?_
  rintro e w' ⟨g, rfl, hb, f⟩
  have F := hid f
  have hj := hb.cell 7
  clear hb f
  simp only [zSp] at hj
  go_wp2
  go_ret
  exact ⟨rfl, F.out⟩
set_option maxHeartbeats 800000 in
theorem oElem_no (v : Value) (i : Int) (X : World) (h : NobV X v) : Calls Try.prog 31 #[v, .int .i64 i] X fun e w' => e = .returned (.tuple #[.int .i64 0, .bool false]) ∧ Fr No X w' := by
  have HW := hid (whole_no v X h)
  have HA := hid (fun W => atV_any none [] 0 i (fun _ => False) W (.inl rfl) (by decide))
  simp only [atD_nil, List.length_nil] at HA
  clear h
  go_enter Try.func31, Try.ntmps31
  go_wp2_with fail
  refine HW.out.mono ?_
  rintro e w' ⟨g, rfl, hb, f⟩
  have F := hid f
  have hj := hb.cell 5
  clear hb f
  simp only [zSp] at hj
  go_wp2_with fail
  refine (HA.out _).mono ?_
  rintro e w2 ⟨rfl, rfl⟩
  go_wp2
  go_ret2
  exact ⟨rfl, F.out⟩
set_option maxHeartbeats 1600000 in
theorem oGlobal_no (v : Value) (i : Int) (X : World) (h : NobV X v) : Calls Try.prog 26 #[v, .int .i64 i] X fun e w' => e = .returned (.tuple #[.agg #[.int .i64 0, .bool false], .bool false]) ∧ Fr No X w' := by
  have F0 := hid ((Fr.refl No X).alloc (.cells #[.int .i64 0, .bool false] 62))
  have G0 := hid (Blk.new X 62 #[.int .i64 0, .bool false])
  have HW := hid (whole_no v _ (h.fr F0.out))
  have HA := hid (fun W => atGl_any none [] 0 i (fun _ => False) W (fun _ h => h.elim) (.inl rfl) (by decide))
  simp only [atD_nil, List.length_nil, cGl, zGl] at HA
  clear h
  go_enter Try.func26, Try.ntmps26
  go_wp2_with fail
  refine HW.out.mono ?_
  rintro e w' ⟨g, rfl, hb, f⟩
  have F := hid (F0.out.trans f (fun _ _ h => h))
  have G := hid (G0.out.fr f (fun x => x))
  have hj := hb.cell 4
  clear hb f
  simp only [zSp] at hj
  go_wp2_with fail
  refine (HA.out _).mono ?_
  rintro e w2 ⟨rfl, f⟩
  have F2 := hid (F.out.trans f (fun _ _ h => h))
  have G2 := hid (G.out.fr f (fun x => x))
  have z0 : w2.cell? ⟨X.heap.size, 0, none⟩ = some (.int .i64 0) := G2.out.cell 0
  have z1 : w2.cell? ⟨X.heap.size, 1, none⟩ = some (.bool false) := G2.out.cell 1
  have q0 : w2.frozen? ⟨X.heap.size, 0, none⟩ = false := G2.out.frozen 0
  have q1 : w2.frozen? ⟨X.heap.size, 1, none⟩ = false := G2.out.frozen 1
  clear f
  go_wp2
  have FZ := ((Fr.refl (One X.heap.size) w2).setCell ⟨X.heap.size, 0, none⟩ (.int .i64 0) (fun _ => rfl)).setCell ⟨X.heap.size, 1, none⟩ (.bool false) (fun _ => rfl)
  refine bodyPost_ret (v := .tuple #[.agg #[.int .i64 0, .bool false], .bool false]) (by simp [results, Try.results26, go_sem, z0, z1]) rfl ⟨rfl, ?_⟩
  exact F2.out.trans FZ (fun i hi h => by simp only [One] at h; omega)
def FnAny (X : World) (e : Ending) (w' : World) : Prop := ∃ (A1 : Option Addr) (c1 : Nat) (A2 : Option Addr) (c2 : Nat), e = .returned (.tuple #[.agg #[.slice A1 0 c1, .slice A2 0 c2], .bool false]) ∧ Fr No X w'
set_option maxHeartbeats 1600000 in
theorem oType_no (v : Value) (i : Int) (X : World) (h : NobV X v) : Calls Try.prog 13 #[v, .int .i64 i] X (FnAny X) := by
  have F0 := hid ((Fr.refl No X).alloc (.cells #[.slice none 0 0, .slice none 0 0] 38))
  have G0 := hid (Blk.new X 38 #[.slice none 0 0, .slice none 0 0])
  have HW := hid (whole_no v _ (h.fr F0.out))
  have HA := hid (fun W => atFn_any none [] 0 i (fun _ => False) W (fun _ h => h.elim) (.inl rfl) (by decide))
  simp only [atD_nil, List.length_nil, zFn] at HA
  have HC := hid (fun (A1 A2 : Option Addr) (c1 c2 : Nat) W => copied_any zFn A1 A2 c1 c2 (fun _ => False) W (fun _ h => h.elim) (.inl rfl) (.inl rfl) (by decide) (by decide) (by decide) (by decide))
  simp only [zFn, List.length_nil] at HC
  clear h
  go_enter Try.func13, Try.ntmps13
  go_wp2_with fail
  generalize X.alloc (.cells #[.slice none 0 0, .slice none 0 0] 38) = X1 at *
  have hX1 : X.heap.size < X1.heap.size := G0.out.lt
  refine HW.out.mono ?_
  rintro e w' ⟨g, rfl, hb, f⟩
  have F := hid (F0.out.trans f (fun _ _ h => h))
  have G := hid (G0.out.fr f (fun x => x))
  have hj := hb.cell 0
  clear hb f
  simp only [zSp] at hj
  go_wp2_with fail
  refine (HA.out _).mono ?_
  rintro e w2 ⟨B1, d1, B2, d2, rfl, _, _, f⟩
  have F2 := hid ((F.out.trans f (fun _ _ h => h)).alloc (.cells #[.slice B1 0 d1, .slice B2 0 d2] 38))
  have G2 := hid ((G.out.fr f (fun x => x)).alloc (.cells #[.slice B1 0 d1, .slice B2 0 d2] 38))
  clear f
  go_wp2_with fail
  refine (HC.out _ _ _ _ _).mono ?_
  rintro e w3 ⟨D1, g1, D2, g2, rfl, _, f⟩
  have F3 := hid (F2.out.trans f (fun _ _ h => h))
  have G3 := hid (G2.out.fr f (fun x => x))
  simp only [List.length_nil]
  have z0 : w3.cell? ⟨X.heap.size, 0, none⟩ = some (.slice none 0 0) := G3.out.cell 0
  have z1 : w3.cell? ⟨X.heap.size, 1, none⟩ = some (.slice none 0 0) := G3.out.cell 1
  have q0 : w3.frozen? ⟨X.heap.size, 0, none⟩ = false := G3.out.frozen 0
  have q1 : w3.frozen? ⟨X.heap.size, 1, none⟩ = false := G3.out.frozen 1
  clear f
  go_wp2
  have FZ := ((Fr.refl (One X.heap.size) w3).setCell ⟨X.heap.size, 0, none⟩ (.slice D1 0 g1) (fun _ => rfl)).setCell ⟨X.heap.size, 1, none⟩ (.slice D2 0 g2) (fun _ => rfl)
  refine bodyPost_ret (v := .tuple #[.agg #[.slice D1 0 g1, .slice D2 0 g2], .bool false]) (by simp [results, Try.results13, go_sem, z0, z1]) rfl ⟨D1, g1, D2, g2, rfl, ?_⟩
  exact F3.out.trans FZ (fun i hi h => by simp only [One] at h; omega)
set_option maxHeartbeats 1600000 in
theorem oFunc_no (v : Value) (i : Int) (X : World) (h : NobV X v) : Calls Try.prog 15 #[v, .int .i64 i] X (FnAny X) := by
  have F0 := hid ((Fr.refl No X).alloc (.cells #[.slice none 0 0, .slice none 0 0] 38))
  have G0 := hid (Blk.new X 38 #[.slice none 0 0, .slice none 0 0])
  have HW := hid (whole_no v _ (h.fr F0.out))
  have HA := hid (fun W => atI_any none [] 0 i (fun _ => False) W (.inl rfl) (by decide))
  simp only [atD_nil, List.length_nil] at HA
  clear h
  go_enter Try.func15, Try.ntmps15
  go_wp2_with fail
  refine HW.out.mono ?_
  rintro e w' ⟨g, rfl, hb, f⟩
  have F := hid (F0.out.trans f (fun _ _ h => h))
  have G2 := hid (G0.out.fr f (fun x => x))
  have hj := hb.cell 1
  clear hb f
  simp only [zSp] at hj
  go_wp2_with fail
  refine (HA.out _).mono ?_
  rintro e w2 ⟨rfl, rfl⟩
  have z0 : w'.cell? ⟨X.heap.size, 0, none⟩ = some (.slice none 0 0) := G2.out.cell 0
  have z1 : w'.cell? ⟨X.heap.size, 1, none⟩ = some (.slice none 0 0) := G2.out.cell 1
  have q0 : w'.frozen? ⟨X.heap.size, 0, none⟩ = false := G2.out.frozen 0
  have q1 : w'.frozen? ⟨X.heap.size, 1, none⟩ = false := G2.out.frozen 1
  go_wp2
  have FZ := ((Fr.refl (One X.heap.size) w').setCell ⟨X.heap.size, 0, none⟩ (.slice none 0 0) (fun _ => rfl)).setCell ⟨X.heap.size, 1, none⟩ (.slice none 0 0) (fun _ => rfl)
  refine bodyPost_ret (v := .tuple #[.agg #[.slice none 0 0, .slice none 0 0], .bool false]) (by simp [results, Try.results15, go_sem, z0, z1]) rfl ⟨none, 0, none, 0, rfl, ?_⟩
  exact F.out.trans FZ (fun i hi h => by simp only [One] at h; omega)
set_option maxHeartbeats 800000 in
theorem oDeclared_no (v : Value) (i : Int) (X : World) (h : NobV X v) : Calls Try.prog 22 #[v, .int .i64 i] X fun e w' => e = .returned (.bool false) ∧ Fr No X w' := by
  have HN := hid (oFuncs_no v X h)
  clear h
  by_cases h0 : i < 0
  · go_enter Try.func22, Try.ntmps22
    go_wp2
    go_ret
    exact ⟨rfl, Fr.refl _ _⟩
  · go_enter Try.func22, Try.ntmps22
    go_wp2_with fail
    refine HN.out.mono ?_
    rintro e w' ⟨rfl, f⟩
    have F := hid f
    clear f
    go_wp2
    go_ret
    exact ⟨rfl, F.out⟩
set_option maxRecDepth 100000 in
set_option maxHeartbeats 1600000 in
theorem oBlock_no (v : Value) (x y z : Int) (X : World) (h : NobV X v) : Calls Try.prog 24 #[v, .agg #[.int .i64 x, .int .i64 y, .int .i64 z]] X (FnAny X) := by
  have F0 := hid (((Fr.refl No X).alloc (.cells #[.int .i64 x, .int .i64 y, .int .i64 z] 52)).alloc (.cells #[.slice none 0 0, .slice none 0 0] 38))
  rcases h with rfl | ⟨q, rfl, hb⟩
  · go_enter Try.func24, Try.ntmps24
    go_wp2
    exact bodyPost_ret (v := .tuple #[.agg #[.slice none 0 0, .slice none 0 0], .bool false]) (by simp [results, Try.results24, go_sem]) rfl ⟨none, 0, none, 0, rfl, F0.out⟩
  · have h0 := hb.cell 0
    have hq := hb.lt
    clear hb
    go_enter Try.func24, Try.ntmps24
    go_wp2
    exact bodyPost_ret (v := .tuple #[.agg #[.slice none 0 0, .slice none 0 0], .bool false]) (by simp [results, Try.results24, go_sem]) rfl ⟨none, 0, none, 0, rfl, F0.out⟩
set_option maxRecDepth 100000 in
set_option maxHeartbeats 6400000 in
theorem snob_t (i k x y z : Int) (w : World) (hk : (Lit.int .i64 k).wf = true) :
    Calls Try.prog 7 #[.int .i64 i, .int .i64 k, .agg #[.int .i64 x, .int .i64 y, .int .i64 z]] w fun e w' => e = .returned (.bool true) ∧ Fr No w w' := by
  have F := hid (((Fr.refl No w).alloc (.cells #[.int .i64 x, .int .i64 y, .int .i64 z] 52)).alloc (.cells #[.pointer none] 71))
  have GB := hid ((Blk.new w 52 #[.int .i64 x, .int .i64 y, .int .i64 z]).alloc (.cells #[.pointer none] 71))
  have GQ := hid (Blk.new1 w (.cells #[.int .i64 x, .int .i64 y, .int .i64 z] 52) 71 #[.pointer none])
  have HK := hid hk
  clear hk
  go_enter Try.func7, Try.ntmps7
  go_wp2_with fail
  refine (oFunc_no (.pointer none) i _ (.inl rfl)).mono ?_
  rintro e w1 ⟨A1, c1, A2, c2, rfl, f⟩
  have F := hid ((F.out.trans f (fun _ _ h => h)).alloc (.cells #[.slice A1 0 c1, .slice A2 0 c2] 38))
  have GQ := hid ((GQ.out.fr f (fun x => x)).alloc (.cells #[.slice A1 0 c1, .slice A2 0 c2] 38))
  have GB := hid ((GB.out.fr f (fun x => x)).alloc (.cells #[.slice A1 0 c1, .slice A2 0 c2] 38))
  clear f
  go_wp2_with fail
  refine (oType_no (.pointer (some ⟨w.heap.size + 1, 0, none⟩)) i _ (.inr ⟨_, rfl, GQ.out⟩)).mono ?_
  rintro e w2 ⟨A1, c1, A2, c2, rfl, f⟩
  have F := hid ((F.out.trans f (fun _ _ h => h)).alloc (.cells #[.slice A1 0 c1, .slice A2 0 c2] 38))
  have GQ := hid ((GQ.out.fr f (fun x => x)).alloc (.cells #[.slice A1 0 c1, .slice A2 0 c2] 38))
  have GB := hid ((GB.out.fr f (fun x => x)).alloc (.cells #[.slice A1 0 c1, .slice A2 0 c2] 38))
  clear f
  go_wp2_with fail
  refine (oGlobal_no (.pointer none) i _ (.inl rfl)).mono ?_
  rintro e w3 ⟨rfl, f⟩
  have F := hid ((F.out.trans f (fun _ _ h => h)).alloc (.cells #[.int .i64 0, .bool false] 62))
  have GQ := hid ((GQ.out.fr f (fun x => x)).alloc (.cells #[.int .i64 0, .bool false] 62))
  have GB := hid ((GB.out.fr f (fun x => x)).alloc (.cells #[.int .i64 0, .bool false] 62))
  clear f
  have y0 := GB.out.cell 0
  have y1 := GB.out.cell 1
  have y2 := GB.out.cell 2
  go_wp2_with fail
  refine (oBlock_no (.pointer (some ⟨w.heap.size + 1, 0, none⟩)) x y z _ (.inr ⟨_, rfl, GQ.out⟩)).mono ?_
  rintro e w4 ⟨A1, c1, A2, c2, rfl, f⟩
  have F := hid ((F.out.trans f (fun _ _ h => h)).alloc (.cells #[.slice A1 0 c1, .slice A2 0 c2] 38))
  have GQ := hid ((GQ.out.fr f (fun x => x)).alloc (.cells #[.slice A1 0 c1, .slice A2 0 c2] 38))
  have GB := hid ((GB.out.fr f (fun x => x)).alloc (.cells #[.slice A1 0 c1, .slice A2 0 c2] 38))
  clear f
  clear y0 y1 y2
  go_wp2_with fail
  refine (oElem_no (.pointer none) i _ (.inl rfl)).mono ?_
  rintro e w5 ⟨rfl, f⟩
  have F := hid (F.out.trans f (fun _ _ h => h))
  have GQ := hid (GQ.out.fr f (fun x => x))
  have GB := hid (GB.out.fr f (fun x => x))
  clear f
  go_wp2_with fail
  refine (oTypes_no (.pointer none) _ (.inl rfl)).mono ?_
  rintro e w6 ⟨rfl, f⟩
  have F := hid (F.out.trans f (fun _ _ h => h))
  have GQ := hid (GQ.out.fr f (fun x => x))
  have GB := hid (GB.out.fr f (fun x => x))
  clear f
  go_wp2_with fail
  refine (oFuncs_no (.pointer none) _ (.inl rfl)).mono ?_
  rintro e w7 ⟨rfl, f⟩
  have F := hid (F.out.trans f (fun _ _ h => h))
  have GQ := hid (GQ.out.fr f (fun x => x))
  have GB := hid (GB.out.fr f (fun x => x))
  clear f
  go_wp2_with fail
  refine (oTables_no (.pointer none) _ (.inl rfl)).mono ?_
  rintro e w8 ⟨rfl, f⟩
  have F := hid (F.out.trans f (fun _ _ h => h))
  have GQ := hid (GQ.out.fr f (fun x => x))
  have GB := hid (GB.out.fr f (fun x => x))
  clear f
  go_wp2_with fail
  refine (oMems_no (.pointer none) _ (.inl rfl)).mono ?_
  rintro e w9 ⟨rfl, f⟩
  have F := hid (F.out.trans f (fun _ _ h => h))
  have GQ := hid (GQ.out.fr f (fun x => x))
  have GB := hid (GB.out.fr f (fun x => x))
  clear f
  go_wp2_with fail
  refine (oGlobals_no (.pointer none) _ (.inl rfl)).mono ?_
  rintro e w10 ⟨rfl, f⟩
  have F := hid (F.out.trans f (fun _ _ h => h))
  have GQ := hid (GQ.out.fr f (fun x => x))
  have GB := hid (GB.out.fr f (fun x => x))
  clear f
  go_wp2_with fail
  refine (oDatas_no (.pointer none) _ (.inl rfl)).mono ?_
  rintro e w11 ⟨rfl, f⟩
  have F := hid (F.out.trans f (fun _ _ h => h))
  have GQ := hid (GQ.out.fr f (fun x => x))
  have GB := hid (GB.out.fr f (fun x => x))
  clear f
  go_wp2_with fail
  refine (oImported_no (.pointer none) k HK.out _ (.inl rfl)).mono ?_
  rintro e w12 ⟨rfl, f⟩
  have F := hid (F.out.trans f (fun _ _ h => h))
  have GQ := hid (GQ.out.fr f (fun x => x))
  have GB := hid (GB.out.fr f (fun x => x))
  clear f
  go_wp2_with fail
  refine (oTypes_no (.pointer (some ⟨w.heap.size + 1, 0, none⟩)) _ (.inr ⟨_, rfl, GQ.out⟩)).mono ?_
  rintro e w13 ⟨rfl, f⟩
  have F := hid (F.out.trans f (fun _ _ h => h))
  have GQ := hid (GQ.out.fr f (fun x => x))
  have GB := hid (GB.out.fr f (fun x => x))
  clear f
  go_wp2_with fail
  refine (oFuncs_no (.pointer (some ⟨w.heap.size + 1, 0, none⟩)) _ (.inr ⟨_, rfl, GQ.out⟩)).mono ?_
  rintro e w14 ⟨rfl, f⟩
  have F := hid (F.out.trans f (fun _ _ h => h))
  have GQ := hid (GQ.out.fr f (fun x => x))
  have GB := hid (GB.out.fr f (fun x => x))
  clear f
  go_wp2_with fail
  refine (oTables_no (.pointer (some ⟨w.heap.size + 1, 0, none⟩)) _ (.inr ⟨_, rfl, GQ.out⟩)).mono ?_
  rintro e w15 ⟨rfl, f⟩
  have F := hid (F.out.trans f (fun _ _ h => h))
  have GQ := hid (GQ.out.fr f (fun x => x))
  have GB := hid (GB.out.fr f (fun x => x))
  clear f
  go_wp2_with fail
  refine (oMems_no (.pointer (some ⟨w.heap.size + 1, 0, none⟩)) _ (.inr ⟨_, rfl, GQ.out⟩)).mono ?_
  rintro e w16 ⟨rfl, f⟩
  have F := hid (F.out.trans f (fun _ _ h => h))
  have GQ := hid (GQ.out.fr f (fun x => x))
  have GB := hid (GB.out.fr f (fun x => x))
  clear f
  go_wp2_with fail
  refine (oGlobals_no (.pointer (some ⟨w.heap.size + 1, 0, none⟩)) _ (.inr ⟨_, rfl, GQ.out⟩)).mono ?_
  rintro e w17 ⟨rfl, f⟩
  have F := hid (F.out.trans f (fun _ _ h => h))
  have GQ := hid (GQ.out.fr f (fun x => x))
  have GB := hid (GB.out.fr f (fun x => x))
  clear f
  go_wp2_with fail
  refine (oDatas_no (.pointer (some ⟨w.heap.size + 1, 0, none⟩)) _ (.inr ⟨_, rfl, GQ.out⟩)).mono ?_
  rintro e w18 ⟨rfl, f⟩
  have F := hid (F.out.trans f (fun _ _ h => h))
  have GQ := hid (GQ.out.fr f (fun x => x))
  have GB := hid (GB.out.fr f (fun x => x))
  clear f
  go_wp2_with fail
  refine (oImported_no (.pointer (some ⟨w.heap.size + 1, 0, none⟩)) k HK.out _ (.inr ⟨_, rfl, GQ.out⟩)).mono ?_
  rintro e w19 ⟨rfl, f⟩
  have F := hid (F.out.trans f (fun _ _ h => h))
  have GQ := hid (GQ.out.fr f (fun x => x))
  have GB := hid (GB.out.fr f (fun x => x))
  clear f
  go_wp2_with fail
  refine (oDeclared_no (.pointer none) i _ (.inl rfl)).mono ?_
  rintro e w20 ⟨rfl, f⟩
  have F := hid (F.out.trans f (fun _ _ h => h))
  have GQ := hid (GQ.out.fr f (fun x => x))
  have GB := hid (GB.out.fr f (fun x => x))
  clear f
  go_wp2_with fail
  refine (oDeclared_no (.pointer (some ⟨w.heap.size + 1, 0, none⟩)) i _ (.inr ⟨_, rfl, GQ.out⟩)).mono ?_
  rintro e w21 ⟨rfl, f⟩
  have F := hid (F.out.trans f (fun _ _ h => h))
  have GQ := hid (GQ.out.fr f (fun x => x))
  have GB := hid (GB.out.fr f (fun x => x))
  clear f
  go_wp2_with fail
  refine (alive_any _).mono ?_
  rintro e wz ⟨rfl, f⟩
  have F := hid (F.out.trans f (fun _ _ h => h))
  clear f
  go_wp2
  go_ret
  exact ⟨rfl, F.out⟩
theorem spaceNobody_walk (w : World) (v0 v1 v2 : Value) (x0 x1 : Int) (x2 : Bk) (y0 : (Ty.int .i64).rd w (· < w.heap.size) v0.cells.toList x0) (y1 : (Ty.int .i64).rd w (· < w.heap.size) v1.cells.toList x1) (y2 : tBk.rd w (· < w.heap.size) v2.cells.toList x2) (_u0 : (Ty.int .i64).lw 140737488351232 x0) (_u1 : (Ty.int .i64).lw 140737488351232 x1) (_u2 : tBk.lw 140737488351232 x2) (hv0 : ∃ n, v0 = .int .i64 n) (hv1 : ∃ n, v1 = .int .i64 n) (hv2 : ∃ cs, v2 = .agg cs) :
    Calls Try.prog 7 #[v0, v1, v2] w fun e w' => e = .returned (.bool true) ∧ Below w.heap.size w w' := by
  obtain ⟨n, rfl⟩ := hv0
  obtain ⟨n', rfl⟩ := hv1
  obtain ⟨cs, rfl⟩ := hv2
  obtain ⟨hy', hw'⟩ := y1
  have hn : n' = x1 := by have : [Value.int .i64 n'] = [Value.int .i64 x1] := hy'; simpa using this
  subst hn
  obtain ⟨hbc, _⟩ := Bk_cells y2
  have hcb : cs = #[.int .i64 x2.kind, .int .i64 x2.val, .int .i64 x2.index] := by
    have : cs.toList = _ := hbc
    rw [← Array.toArray_toList (xs := cs), this]
  subst hcb
  exact (snob_t n n' _ _ _ w hw').mono fun e w' ⟨a, b⟩ => ⟨a, b.below⟩
end Go.Proofs.Ytfngopoaegofhaa
