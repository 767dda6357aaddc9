/- Contract: the closure that takes up an import. -/
import Derived.Test.YtfngopoaegofhaaSpC
namespace Go.Proofs.Ytfngopoaegofhaa
open Go.RowKit

def SpV.bring (x : SpV) (im : Im) : SpV :=
  { x with
    imp := fun j => if j = im.kind then x.imp im.kind + 1 else x.imp j
    funcs := if im.kind = 0 then x.funcs ++ [im.func] else x.funcs
    tables := if im.kind = 1 then x.tables ++ [im.table] else x.tables
    mems := if im.kind = 2 then x.mems ++ [im.mem] else x.mems
    globals := if im.kind = 3 then x.globals ++ [im.glob] else x.globals }
def SpTo (base : Nat) (X : World) (gx gs bi bd : Nat) (ST : Nat → Prop) (nI nD : Nat) (vs : List Value) (x' : SpV) (w' : World) : Prop :=
  ∃ u0 u1 u2 u3 u4 u5 : Value, SpSt base w' gx gs bi bd ST nI nD u0 u1 u2 u3 u4 u5 x' ∧ Fr (Rests gx gs bi bd ST vs) X w'
def imv (im : Im) : Value := .agg #[.string im.mod, .string im.name, .int .i64 im.kind, .int .i64 im.func, .int .i64 im.table.elem, .int .i64 im.table.lim.min, .int .i64 im.table.lim.max, .bool im.table.lim.has, .int .i64 im.mem.min, .int .i64 im.mem.max, .bool im.mem.has, .int .i64 im.glob.val, .bool im.glob.mut_]
theorem zI : ∀ w, (zeroValue 3).run Try.prog w = .ok (.int .i64 0) w := fun _ => by kernel_rfl
theorem zB : ∀ w, (zeroValue 4).run Try.prog w = .ok (.bool false) w := fun _ => by kernel_rfl
/-- The facts on an import that the walk needs. -/
structure ImOk (im : Im) : Prop where
  kind : (Lit.int .i64 im.kind).wf = true
  func : (Lit.int .i64 im.func).wf = true
  table : ∀ w S, tTb.rd w S [.int .i64 im.table.elem, .int .i64 im.table.lim.min, .int .i64 im.table.lim.max, .bool im.table.lim.has] im.table
  mem : ∀ w S, tLim.rd w S [.int .i64 im.mem.min, .int .i64 im.mem.max, .bool im.mem.has] im.mem
  glob : ∀ w S, tGl.rd w S [.int .i64 im.glob.val, .bool im.glob.mut_] im.glob

set_option maxHeartbeats 3200000 in
set_option maxRecDepth 100000 in
theorem bring_0 (base : Nat) (X : World) (gx gs bi bd : Nat) (ST : Nat → Prop) (nI nD : Nat) (v0 v1 v2 v3 v4 v5 : Value) (x : SpV) (im : Im) (h : SpSt base X gx gs bi bd ST nI nD v0 v1 v2 v3 v4 v5 x) (ok : ImOk im)
    (hi0 : -1000000 ≤ x.imp im.kind) (hi1 : x.imp im.kind ≤ 1000000) (hnI : nI ≤ 1000000) (hk0 : ¬ im.kind = 0) (hk1 : ¬ im.kind = 1) (hk2 : ¬ im.kind = 2) (hk3 : ¬ im.kind = 3) :
    Calls Try.prog 46 #[imv im, .pointer (some ⟨gx, 0, none⟩)] X fun e w' => e = .returned (.tuple #[]) ∧ SpTo base X gx gs bi bd ST (nI + 1) nD [v0, v1, v2, v3, v4, v5] (x.bring im) w' := by
  unfold imv
  have F0 := hid ((Fr.refl No X).alloc (.cells #[.string im.mod, .string im.name, .int .i64 im.kind, .int .i64 im.func, .int .i64 im.table.elem, .int .i64 im.table.lim.min, .int .i64 im.table.lim.max, .bool im.table.lim.has, .int .i64 im.mem.min, .int .i64 im.mem.max, .bool im.mem.has, .int .i64 im.glob.val, .bool im.glob.mut_] 64))
  have G0 := hid (Blk.new X 64 #[.string im.mod, .string im.name, .int .i64 im.kind, .int .i64 im.func, .int .i64 im.table.elem, .int .i64 im.table.lim.min, .int .i64 im.table.lim.max, .bool im.table.lim.has, .int .i64 im.mem.min, .int .i64 im.mem.max, .bool im.mem.has, .int .i64 im.glob.val, .bool im.glob.mut_])
  have HS := hid (h.frNo F0.out)
  have HL : Hid (∀ k, Rests gx gs bi bd ST [v0, v1, v2, v3, v4, v5] k → k < X.heap.size) := fun k hk => (h.lt hk).2
  have HK := hid ok
  clear h ok
  go_enter Try.func46, Try.ntmps46
  go_wp2
  generalize X.alloc (.cells #[.string im.mod, .string im.name, .int .i64 im.kind, .int .i64 im.func, .int .i64 im.table.elem, .int .i64 im.table.lim.min, .int .i64 im.table.lim.max, .bool im.table.lim.has, .int .i64 im.mem.min, .int .i64 im.mem.max, .bool im.mem.has, .int .i64 im.glob.val, .bool im.glob.mut_] 64) = W at *
  have hg : X.heap.size < W.heap.size := G0.out.lt
  have y2 : W.cell? ⟨X.heap.size, 2, none⟩ = some (.int .i64 im.kind) := G0.out.cell 2
  generalize X.heap.size = g at *
  have hw1 : IntKind.i64.wrap (x.imp im.kind + 1) = x.imp im.kind + 1 := IntWalk.i64_in _ (by omega)
  have HSd := hid (HS.out.frNo (Fr.refl No W).drew)
  obtain ⟨w1, hrun, hm1, hf1⟩ := HSd.out.mi.put (v := x.imp im.kind + 1) Try.underlying90 Try.underlying56 Try.underlying3 (by simp only [maxLen]; omega) HK.out.kind (wf_bool64 ⟨by omega, by omega⟩)
  have HP := hid (HSd.out.putI hm1 hf1)
  have HF1 := hid hf1
  have hrun' : Sem.run Try.prog (Instr.mapUpdate 90 (.map (some bi)) (.int .i64 im.kind) (.int .i64 (x.imp im.kind + 1))) W.drew = .ok () w1 := hrun
  have HRUN := hid hrun'
  clear hm1 hf1 hrun hrun'
  refine wp_region_ord (fun Y => Y.cell? ⟨gx, 0, none⟩ = some (.pointer (some ⟨gs, 0, none⟩)) ∧ Y.cell? ⟨gs, 7, none⟩ = some (.map (some bi)) ∧ Y.cell? ⟨g, 2, none⟩ = some (.int .i64 im.kind) ∧ MapI Try.prog 56 3 Y bi nI x.imp) [8] [(0, true), (1, true), (2, true), (3, true), (4, true), (5, true), (6, true), (7, true), (8, false)] (by kernel_rfl) (by kernel_rfl) (by kernel_rfl) rfl ⟨HS.out.hx.drew.cell 0, HS.out.hs.drew.cell 7, y2, HS.out.mi⟩ ?_
  repeat (first
    | (refine wpO_skip rfl rfl ?_; simp only [List.getElem_toArray, List.getElem_cons_succ, List.getElem_cons_zero, Act.put, List.setIfInBounds_toArray, List.set_cons_zero, List.set_cons_succ])
    | (refine wpO_call rfl rfl ?_; simp only [List.getElem_toArray, List.getElem_cons_succ, List.getElem_cons_zero]; apply Exists.intro; refine ⟨fun X hX => ?_, ?_⟩
       · (have s0 := hX.1; have s1 := hX.2.1; have s2 := hX.2.2.1; have s3 := hX.2.2.2; go_simp; exact stillUpon_value)
       simp only [Act.put, List.setIfInBounds_toArray, List.set_cons_zero, List.set_cons_succ]))
  refine wpO_call rfl rfl ?_
  simp only [List.getElem_toArray, List.getElem_cons_succ, List.getElem_cons_zero]
  apply Exists.intro
  refine ⟨fun X hX => ?_, ?_⟩
  · (have s0 := hX.1; have s1 := hX.2.1; have s2 := hX.2.2.1; have s3 := hX.2.2.2; go_simp; rw [MapI.get s3 Try.underlying90 Try.underlying56 Try.underlying3 zI HK.out.kind]; exact stillUpon_value)
  simp only [Act.put, List.setIfInBounds_toArray, List.set_cons_zero, List.set_cons_succ]
  repeat (first
    | (refine wpO_skip rfl rfl ?_; simp only [List.getElem_toArray, List.getElem_cons_succ, List.getElem_cons_zero, Act.put, List.setIfInBounds_toArray, List.set_cons_zero, List.set_cons_succ])
    | (refine wpO_call rfl rfl ?_; simp only [List.getElem_toArray, List.getElem_cons_succ, List.getElem_cons_zero]; apply Exists.intro; refine ⟨fun X hX => ?_, ?_⟩
       · (have s0 := hX.1; have s1 := hX.2.1; have s2 := hX.2.2.1; have s3 := hX.2.2.2; go_simp; exact stillUpon_value)
       simp only [Act.put, List.setIfInBounds_toArray, List.set_cons_zero, List.set_cons_succ]))
  refine wpO_eff rfl rfl (fun K hK => ?_)
  simp only [List.getElem_toArray, List.getElem_cons_succ, List.getElem_cons_zero]
  go_simp
  rw [HRUN.out]
  go_simp
  refine hK _ _ (fun h => by cases h) ?_
  clear hK K
  refine wpO_nil ?_
  have y3 : w1.cell? ⟨g, 2, none⟩ = some (.int .i64 im.kind) := by
    rw [(G0.out.drew.fr HF1.out (fun e => by simp only [One] at e; have := HL.out bi (.inr (.inr (.inl rfl))); omega)).cell]
    rfl
  clear y2
  have e0 : (im.kind == 0) = false := by simpa using hk0
  have e1 : (im.kind == 1) = false := by simpa using hk1
  have e2 : (im.kind == 2) = false := by simpa using hk2
  have e3 : (im.kind == 3) = false := by simpa using hk3
  go_wp2
  go_end0
  have hx : x.bring im = { x with imp := fun j => if j = im.kind then x.imp im.kind + 1 else x.imp j } := by
    simp only [SpV.bring, if_neg hk0, if_neg hk1, if_neg hk2, if_neg hk3]
  rw [hx]
  refine ⟨rfl, v0, v1, v2, v3, v4, v5, HP.out, ?_⟩
  exact (F0.out.mono (M := Rests gx gs bi bd ST [v0, v1, v2, v3, v4, v5]) (fun _ _ h => h.elim)).trans ((Fr.refl (One bi) W).drew.trans HF1.out (fun _ _ h => h)) (fun i hi h => .inr (.inr (.inl h)))

set_option maxHeartbeats 3200000 in
set_option maxRecDepth 100000 in
theorem bring_1 (base : Nat) (X : World) (gx gs bi bd : Nat) (ST : Nat → Prop) (nI nD : Nat) (v0 v1 v2 v3 v4 v5 : Value) (x : SpV) (im : Im) (h : SpSt base X gx gs bi bd ST nI nD v0 v1 v2 v3 v4 v5 x) (ok : ImOk im)
    (hi0 : -1000000 ≤ x.imp im.kind) (hi1 : x.imp im.kind ≤ 1000000) (hnI : nI ≤ 1000000) (hk : Hid (im.kind = 0)) (hlen : x.funcs.length ≤ 1000000) :
    Calls Try.prog 46 #[imv im, .pointer (some ⟨gx, 0, none⟩)] X fun e w' => e = .returned (.tuple #[]) ∧ SpTo base X gx gs bi bd ST (nI + 1) nD [v0, v1, v2, v3, v4, v5] (x.bring im) w' := by
  unfold imv
  have F0 := hid ((Fr.refl No X).alloc (.cells #[.string im.mod, .string im.name, .int .i64 im.kind, .int .i64 im.func, .int .i64 im.table.elem, .int .i64 im.table.lim.min, .int .i64 im.table.lim.max, .bool im.table.lim.has, .int .i64 im.mem.min, .int .i64 im.mem.max, .bool im.mem.has, .int .i64 im.glob.val, .bool im.glob.mut_] 64))
  have G0 := hid (Blk.new X 64 #[.string im.mod, .string im.name, .int .i64 im.kind, .int .i64 im.func, .int .i64 im.table.elem, .int .i64 im.table.lim.min, .int .i64 im.table.lim.max, .bool im.table.lim.has, .int .i64 im.mem.min, .int .i64 im.mem.max, .bool im.mem.has, .int .i64 im.glob.val, .bool im.glob.mut_])
  have HS := hid (h.frNo F0.out)
  have HL : Hid (∀ k, Rests gx gs bi bd ST [v0, v1, v2, v3, v4, v5] k → k < X.heap.size) := fun k hk => (h.lt hk).2
  have HK := hid ok
  clear h ok
  go_enter Try.func46, Try.ntmps46
  go_wp2
  generalize X.alloc (.cells #[.string im.mod, .string im.name, .int .i64 im.kind, .int .i64 im.func, .int .i64 im.table.elem, .int .i64 im.table.lim.min, .int .i64 im.table.lim.max, .bool im.table.lim.has, .int .i64 im.mem.min, .int .i64 im.mem.max, .bool im.mem.has, .int .i64 im.glob.val, .bool im.glob.mut_] 64) = W at *
  have hg : X.heap.size < W.heap.size := G0.out.lt
  have y2 : W.cell? ⟨X.heap.size, 2, none⟩ = some (.int .i64 im.kind) := G0.out.cell 2
  generalize X.heap.size = g at *
  have hw1 : IntKind.i64.wrap (x.imp im.kind + 1) = x.imp im.kind + 1 := IntWalk.i64_in _ (by omega)
  have HSd := hid (HS.out.frNo (Fr.refl No W).drew)
  obtain ⟨w1, hrun, hm1, hf1⟩ := HSd.out.mi.put (v := x.imp im.kind + 1) Try.underlying90 Try.underlying56 Try.underlying3 (by simp only [maxLen]; omega) HK.out.kind (wf_bool64 ⟨by omega, by omega⟩)
  have HP := hid (HSd.out.putI hm1 hf1)
  have HF1 := hid hf1
  have hrun' : Sem.run Try.prog (Instr.mapUpdate 90 (.map (some bi)) (.int .i64 im.kind) (.int .i64 (x.imp im.kind + 1))) W.drew = .ok () w1 := hrun
  have HRUN := hid hrun'
  clear hm1 hf1 hrun hrun'
  refine wp_region_ord (fun Y => Y.cell? ⟨gx, 0, none⟩ = some (.pointer (some ⟨gs, 0, none⟩)) ∧ Y.cell? ⟨gs, 7, none⟩ = some (.map (some bi)) ∧ Y.cell? ⟨g, 2, none⟩ = some (.int .i64 im.kind) ∧ MapI Try.prog 56 3 Y bi nI x.imp) [8] [(0, true), (1, true), (2, true), (3, true), (4, true), (5, true), (6, true), (7, true), (8, false)] (by kernel_rfl) (by kernel_rfl) (by kernel_rfl) rfl ⟨HS.out.hx.drew.cell 0, HS.out.hs.drew.cell 7, y2, HS.out.mi⟩ ?_
  repeat (first
    | (refine wpO_skip rfl rfl ?_; simp only [List.getElem_toArray, List.getElem_cons_succ, List.getElem_cons_zero, Act.put, List.setIfInBounds_toArray, List.set_cons_zero, List.set_cons_succ])
    | (refine wpO_call rfl rfl ?_; simp only [List.getElem_toArray, List.getElem_cons_succ, List.getElem_cons_zero]; apply Exists.intro; refine ⟨fun X hX => ?_, ?_⟩
       · (have s0 := hX.1; have s1 := hX.2.1; have s2 := hX.2.2.1; have s3 := hX.2.2.2; go_simp; exact stillUpon_value)
       simp only [Act.put, List.setIfInBounds_toArray, List.set_cons_zero, List.set_cons_succ]))
  refine wpO_call rfl rfl ?_
  simp only [List.getElem_toArray, List.getElem_cons_succ, List.getElem_cons_zero]
  apply Exists.intro
  refine ⟨fun X hX => ?_, ?_⟩
  · (have s0 := hX.1; have s1 := hX.2.1; have s2 := hX.2.2.1; have s3 := hX.2.2.2; go_simp; rw [MapI.get s3 Try.underlying90 Try.underlying56 Try.underlying3 zI HK.out.kind]; exact stillUpon_value)
  simp only [Act.put, List.setIfInBounds_toArray, List.set_cons_zero, List.set_cons_succ]
  repeat (first
    | (refine wpO_skip rfl rfl ?_; simp only [List.getElem_toArray, List.getElem_cons_succ, List.getElem_cons_zero, Act.put, List.setIfInBounds_toArray, List.set_cons_zero, List.set_cons_succ])
    | (refine wpO_call rfl rfl ?_; simp only [List.getElem_toArray, List.getElem_cons_succ, List.getElem_cons_zero]; apply Exists.intro; refine ⟨fun X hX => ?_, ?_⟩
       · (have s0 := hX.1; have s1 := hX.2.1; have s2 := hX.2.2.1; have s3 := hX.2.2.2; go_simp; exact stillUpon_value)
       simp only [Act.put, List.setIfInBounds_toArray, List.set_cons_zero, List.set_cons_succ]))
  refine wpO_eff rfl rfl (fun K hK => ?_)
  simp only [List.getElem_toArray, List.getElem_cons_succ, List.getElem_cons_zero]
  go_simp
  rw [HRUN.out]
  go_simp
  refine hK _ _ (fun h => by cases h) ?_
  clear hK K
  refine wpO_nil ?_
  have GB := hid (G0.out.drew.fr HF1.out (fun e => by simp only [One] at e; have := HL.out bi (.inr (.inr (.inl rfl))); omega))
  have y3 : w1.cell? ⟨g, 2, none⟩ = some (.int .i64 im.kind) := GB.out.cell 2
  clear y2
  have e0 : (im.kind == 0) = true := by rw [hk.out]; rfl
  have e1 : (im.kind == 1) = false := by rw [hk.out]; rfl
  have e2 : (im.kind == 2) = false := by rw [hk.out]; rfl
  have e3 : (im.kind == 3) = false := by rw [hk.out]; rfl
  go_wp2
  have HPd := hid (HP.out.frNo (Fr.refl No w1).drew)
  have hs1 : base ≤ w1.heap.size := Nat.le_trans (HP.out.lt (.inl rfl)).1 (Nat.le_of_lt HP.out.hx.lt)
  have HX : Hid (∀ Y, Fr (fun k => some k = v1.ownBlock) w1 Y → (fun Y => Y.cell? ⟨gx, 0, none⟩ = some (.pointer (some ⟨gs, 0, none⟩)) ∧ Y.cell? ⟨gs, 1, none⟩ = some v1 ∧ Y.cell? ⟨g, 3, none⟩ = some (.int .i64 im.func)) Y) := fun Y f => by
    have hown : ∀ k, some k = v1.ownBlock → ∃ cs, Blk w1 k (tagAt 1) cs := fun k hk => ((HP.out.row 1 v1 rfl).own hk.symm).2
    have b1 := HP.out.hx.fr f (fun e => by obtain ⟨cs, hb⟩ := hown _ e; exact Blk.ne_ hb HP.out.hx (tag_gx 1) rfl)
    have b2 := HP.out.hs.fr f (fun e => by obtain ⟨cs, hb⟩ := hown _ e; exact Blk.ne_ hb HP.out.hs (tag_gs 1) rfl)
    have b3 := GB.out.fr f (fun e => by obtain ⟨cs, hb⟩ := hown _ e; exact Blk.ne_ hb GB.out (by decide) rfl)
    exact ⟨b1.cell 0, b2.cell 1, b3.cell 3⟩
  refine wp_region_ord (fun Y => Y.cell? ⟨gx, 0, none⟩ = some (.pointer (some ⟨gs, 0, none⟩)) ∧ Y.cell? ⟨gs, 1, none⟩ = some v1 ∧ Y.cell? ⟨g, 3, none⟩ = some (.int .i64 im.func)) [11] [(0, true), (1, true), (2, true), (3, true), (4, true), (5, true), (6, true), (7, false), (8, false), (9, true), (10, true), (11, false)] (by kernel_rfl) (by kernel_rfl) (by kernel_rfl) rfl (HX.out _ (Fr.refl _ _).drew) ?_
  repeat (first
    | (refine wpO_skip rfl rfl ?_; simp only [List.getElem_toArray, List.getElem_cons_succ, List.getElem_cons_zero, Act.put, List.setIfInBounds_toArray, List.set_cons_zero, List.set_cons_succ])
    | (refine wpO_call rfl rfl ?_; simp only [List.getElem_toArray, List.getElem_cons_succ, List.getElem_cons_zero]; apply Exists.intro; refine ⟨fun X hX => ?_, ?_⟩
       · (have s0 := hX.1; have s1 := hX.2.1; have s2 := hX.2.2; go_simp; exact stillUpon_value)
       simp only [Act.put, List.setIfInBounds_toArray, List.set_cons_zero, List.set_cons_succ]))
  refine wpO_eff rfl rfl (fun K hK => ?_)
  simp only [List.getElem_toArray, List.getElem_cons_succ, List.getElem_cons_zero]
  go_simp
  refine hK _ _ (fun _ => HX.out _ ((Fr.refl _ _).drew.alloc _)) ?_
  clear hK K
  have HA := hid (HP.out.frNo ((Fr.refl No w1).drew.alloc (.cells #[.int .i64 im.func] 3)))
  have hrd := rd_lit w1.drew [.int .i64 im.func] 3
  refine wpO_eff rfl rfl (fun K hK => ?_)
  simp only [List.getElem_toArray, List.getElem_cons_succ, List.getElem_cons_zero]
  refine opwp_appC (t := tI) (P := Try.prog) (base := base) (S := Emp) (v := v1) (xs := x.funcs) (ys := [im.func]) (dss := [[.int .i64 im.func]]) elInts rfl rfl rfl (HA.out.row 1 v1 rfl) (Css.one (int_mk HK.out.func)) hrd rfl (by first | omega | (simp; omega)) (by first | omega | (simp; omega)) (fun _ h => h.elim) (by show base ≤ (w1.drew.alloc _).heap.size; rw [World.size_alloc]; show base ≤ w1.heap.size + 1; omega) ?_
  intro v' w3 hr3 fr3 ho3
  have HR3 := hid hr3
  have HF3 := hid fr3
  have HO3 := hid ho3
  have F3 := hid (((Fr.refl (fun k => some k = v1.ownBlock) w1).drew.alloc (.cells #[.int .i64 im.func] 3)).trans fr3 (fun _ _ h => h))
  obtain ⟨A3, c3, rfl, _, _, _⟩ := hr3.els (S' := fun _ => True) (fun _ _ => trivial) (fun _ _ => trivial)
  refine hK _ _ (fun _ => HX.out _ F3.out) ?_
  clear hK K hr3 fr3 ho3 hrd
  simp only [Act.put, List.setIfInBounds_toArray, List.set_cons_zero, List.set_cons_succ]
  repeat (first
    | (refine wpO_skip rfl rfl ?_; simp only [List.getElem_toArray, List.getElem_cons_succ, List.getElem_cons_zero, Act.put, List.setIfInBounds_toArray, List.set_cons_zero, List.set_cons_succ])
    | (refine wpO_call rfl rfl ?_; simp only [List.getElem_toArray, List.getElem_cons_succ, List.getElem_cons_zero]; apply Exists.intro; refine ⟨fun X hX => ?_, ?_⟩
       · (have s0 := hX.1; have s1 := hX.2.1; have s2 := hX.2.2; go_simp; exact stillUpon_value)
       simp only [Act.put, List.setIfInBounds_toArray, List.set_cons_zero, List.set_cons_succ]))
  have HB3 := hid (HA.out.hs.fr HF3.out (fun e => by obtain ⟨_, cs, hb⟩ := (HA.out.row 1 v1 rfl).own e.symm; exact Blk.ne_ hb HA.out.hs (tag_gs 1) rfl))
  have z0 : w3.cell? ⟨gs, 1, none⟩ = some v1 := HB3.out.cell 1
  have z1 : w3.frozen? ⟨gs, 1, none⟩ = false := HB3.out.frozen 1
  refine wpO_eff rfl rfl (fun K hK => ?_)
  simp only [List.getElem_toArray, List.getElem_cons_succ, List.getElem_cons_zero]
  go_simp
  refine hK _ _ (fun h => by cases h) ?_
  clear hK K z0 z1
  refine wpO_nil ?_
  have HZ := hid (HA.out.app (j := 1) (v := v1) (x' := { x with imp := fun j => if j = im.kind then x.imp im.kind + 1 else x.imp j, funcs := x.funcs ++ [im.func] }) (u0 := v0) (u1 := .slice A3 (x.funcs ++ [im.func]).length c3) (u2 := v2) (u3 := v3) (u4 := v4) (u5 := v5) (by omega) rfl HF3.out HR3.out HO3.out (fun i hi hne Y u h => by
      match i, hi with
      | 0, _ => exact h
      | 1, _ => exact absurd rfl hne
      | 2, _ => exact h
      | 3, _ => exact h
      | 4, _ => exact h
      | 5, _ => exact h
) rfl rfl rfl rfl)
  simp only [List.length_append, List.length_cons, List.length_nil, Nat.zero_add] at HZ
  go_wp2
  go_end0
  have hx : x.bring im = { x with imp := fun j => if j = im.kind then x.imp im.kind + 1 else x.imp j, funcs := x.funcs ++ [im.func] } := by
    simp [SpV.bring, hk.out]
  rw [hx]
  refine ⟨rfl, _, _, _, _, _, _, HZ.out, ?_⟩
  refine (((F0.out.mono (M := Rests gx gs bi bd ST [v0, v1, v2, v3, v4, v5]) (fun _ _ h => h.elim)).trans ((Fr.refl (One bi) W).drew.trans HF1.out (fun _ _ h => h)) (fun i hi h => .inr (.inr (.inl h)))).trans F3.out (fun i hi h => .inr (.inr (.inr (.inr (.inr ⟨v1, by simp, h.symm⟩)))))).trans ((Fr.refl (One gs) w3).setCell _ _ (fun _ => rfl)) (fun i hi h => .inr (.inl h))

set_option maxHeartbeats 3200000 in
set_option maxRecDepth 100000 in
theorem bring_2 (base : Nat) (X : World) (gx gs bi bd : Nat) (ST : Nat → Prop) (nI nD : Nat) (v0 v1 v2 v3 v4 v5 : Value) (x : SpV) (im : Im) (h : SpSt base X gx gs bi bd ST nI nD v0 v1 v2 v3 v4 v5 x) (ok : ImOk im)
    (hi0 : -1000000 ≤ x.imp im.kind) (hi1 : x.imp im.kind ≤ 1000000) (hnI : nI ≤ 1000000) (hk : Hid (im.kind = 1)) (hlen : x.tables.length ≤ 1000000) :
    Calls Try.prog 46 #[imv im, .pointer (some ⟨gx, 0, none⟩)] X fun e w' => e = .returned (.tuple #[]) ∧ SpTo base X gx gs bi bd ST (nI + 1) nD [v0, v1, v2, v3, v4, v5] (x.bring im) w' := by
  unfold imv
  have F0 := hid ((Fr.refl No X).alloc (.cells #[.string im.mod, .string im.name, .int .i64 im.kind, .int .i64 im.func, .int .i64 im.table.elem, .int .i64 im.table.lim.min, .int .i64 im.table.lim.max, .bool im.table.lim.has, .int .i64 im.mem.min, .int .i64 im.mem.max, .bool im.mem.has, .int .i64 im.glob.val, .bool im.glob.mut_] 64))
  have G0 := hid (Blk.new X 64 #[.string im.mod, .string im.name, .int .i64 im.kind, .int .i64 im.func, .int .i64 im.table.elem, .int .i64 im.table.lim.min, .int .i64 im.table.lim.max, .bool im.table.lim.has, .int .i64 im.mem.min, .int .i64 im.mem.max, .bool im.mem.has, .int .i64 im.glob.val, .bool im.glob.mut_])
  have HS := hid (h.frNo F0.out)
  have HL : Hid (∀ k, Rests gx gs bi bd ST [v0, v1, v2, v3, v4, v5] k → k < X.heap.size) := fun k hk => (h.lt hk).2
  have HK := hid ok
  clear h ok
  go_enter Try.func46, Try.ntmps46
  go_wp2
  generalize X.alloc (.cells #[.string im.mod, .string im.name, .int .i64 im.kind, .int .i64 im.func, .int .i64 im.table.elem, .int .i64 im.table.lim.min, .int .i64 im.table.lim.max, .bool im.table.lim.has, .int .i64 im.mem.min, .int .i64 im.mem.max, .bool im.mem.has, .int .i64 im.glob.val, .bool im.glob.mut_] 64) = W at *
  have hg : X.heap.size < W.heap.size := G0.out.lt
  have y2 : W.cell? ⟨X.heap.size, 2, none⟩ = some (.int .i64 im.kind) := G0.out.cell 2
  generalize X.heap.size = g at *
  have hw1 : IntKind.i64.wrap (x.imp im.kind + 1) = x.imp im.kind + 1 := IntWalk.i64_in _ (by omega)
  have HSd := hid (HS.out.frNo (Fr.refl No W).drew)
  obtain ⟨w1, hrun, hm1, hf1⟩ := HSd.out.mi.put (v := x.imp im.kind + 1) Try.underlying90 Try.underlying56 Try.underlying3 (by simp only [maxLen]; omega) HK.out.kind (wf_bool64 ⟨by omega, by omega⟩)
  have HP := hid (HSd.out.putI hm1 hf1)
  have HF1 := hid hf1
  have hrun' : Sem.run Try.prog (Instr.mapUpdate 90 (.map (some bi)) (.int .i64 im.kind) (.int .i64 (x.imp im.kind + 1))) W.drew = .ok () w1 := hrun
  have HRUN := hid hrun'
  clear hm1 hf1 hrun hrun'
  refine wp_region_ord (fun Y => Y.cell? ⟨gx, 0, none⟩ = some (.pointer (some ⟨gs, 0, none⟩)) ∧ Y.cell? ⟨gs, 7, none⟩ = some (.map (some bi)) ∧ Y.cell? ⟨g, 2, none⟩ = some (.int .i64 im.kind) ∧ MapI Try.prog 56 3 Y bi nI x.imp) [8] [(0, true), (1, true), (2, true), (3, true), (4, true), (5, true), (6, true), (7, true), (8, false)] (by kernel_rfl) (by kernel_rfl) (by kernel_rfl) rfl ⟨HS.out.hx.drew.cell 0, HS.out.hs.drew.cell 7, y2, HS.out.mi⟩ ?_
  repeat (first
    | (refine wpO_skip rfl rfl ?_; simp only [List.getElem_toArray, List.getElem_cons_succ, List.getElem_cons_zero, Act.put, List.setIfInBounds_toArray, List.set_cons_zero, List.set_cons_succ])
    | (refine wpO_call rfl rfl ?_; simp only [List.getElem_toArray, List.getElem_cons_succ, List.getElem_cons_zero]; apply Exists.intro; refine ⟨fun X hX => ?_, ?_⟩
       · (have s0 := hX.1; have s1 := hX.2.1; have s2 := hX.2.2.1; have s3 := hX.2.2.2; go_simp; exact stillUpon_value)
       simp only [Act.put, List.setIfInBounds_toArray, List.set_cons_zero, List.set_cons_succ]))
  refine wpO_call rfl rfl ?_
  simp only [List.getElem_toArray, List.getElem_cons_succ, List.getElem_cons_zero]
  apply Exists.intro
  refine ⟨fun X hX => ?_, ?_⟩
  · (have s0 := hX.1; have s1 := hX.2.1; have s2 := hX.2.2.1; have s3 := hX.2.2.2; go_simp; rw [MapI.get s3 Try.underlying90 Try.underlying56 Try.underlying3 zI HK.out.kind]; exact stillUpon_value)
  simp only [Act.put, List.setIfInBounds_toArray, List.set_cons_zero, List.set_cons_succ]
  repeat (first
    | (refine wpO_skip rfl rfl ?_; simp only [List.getElem_toArray, List.getElem_cons_succ, List.getElem_cons_zero, Act.put, List.setIfInBounds_toArray, List.set_cons_zero, List.set_cons_succ])
    | (refine wpO_call rfl rfl ?_; simp only [List.getElem_toArray, List.getElem_cons_succ, List.getElem_cons_zero]; apply Exists.intro; refine ⟨fun X hX => ?_, ?_⟩
       · (have s0 := hX.1; have s1 := hX.2.1; have s2 := hX.2.2.1; have s3 := hX.2.2.2; go_simp; exact stillUpon_value)
       simp only [Act.put, List.setIfInBounds_toArray, List.set_cons_zero, List.set_cons_succ]))
  refine wpO_eff rfl rfl (fun K hK => ?_)
  simp only [List.getElem_toArray, List.getElem_cons_succ, List.getElem_cons_zero]
  go_simp
  rw [HRUN.out]
  go_simp
  refine hK _ _ (fun h => by cases h) ?_
  clear hK K
  refine wpO_nil ?_
  have GB := hid (G0.out.drew.fr HF1.out (fun e => by simp only [One] at e; have := HL.out bi (.inr (.inr (.inl rfl))); omega))
  have y3 : w1.cell? ⟨g, 2, none⟩ = some (.int .i64 im.kind) := GB.out.cell 2
  clear y2
  have e0 : (im.kind == 0) = false := by rw [hk.out]; rfl
  have e1 : (im.kind == 1) = true := by rw [hk.out]; rfl
  have e2 : (im.kind == 2) = false := by rw [hk.out]; rfl
  have e3 : (im.kind == 3) = false := by rw [hk.out]; rfl
  go_wp2
  have HPd := hid (HP.out.frNo (Fr.refl No w1).drew)
  have hs1 : base ≤ w1.heap.size := Nat.le_trans (HP.out.lt (.inl rfl)).1 (Nat.le_of_lt HP.out.hx.lt)
  have HX : Hid (∀ Y, Fr (fun k => some k = v2.ownBlock) w1 Y → (fun Y => Y.cell? ⟨gx, 0, none⟩ = some (.pointer (some ⟨gs, 0, none⟩)) ∧ Y.cell? ⟨gs, 2, none⟩ = some v2 ∧ Y.cell? ⟨g, 4, none⟩ = some (.int .i64 im.table.elem) ∧ Y.cell? ⟨g, 5, none⟩ = some (.int .i64 im.table.lim.min) ∧ Y.cell? ⟨g, 6, none⟩ = some (.int .i64 im.table.lim.max) ∧ Y.cell? ⟨g, 7, none⟩ = some (.bool im.table.lim.has)) Y) := fun Y f => by
    have hown : ∀ k, some k = v2.ownBlock → ∃ cs, Blk w1 k (tagAt 2) cs := fun k hk => ((HP.out.row 2 v2 rfl).own hk.symm).2
    have b1 := HP.out.hx.fr f (fun e => by obtain ⟨cs, hb⟩ := hown _ e; exact Blk.ne_ hb HP.out.hx (tag_gx 2) rfl)
    have b2 := HP.out.hs.fr f (fun e => by obtain ⟨cs, hb⟩ := hown _ e; exact Blk.ne_ hb HP.out.hs (tag_gs 2) rfl)
    have b3 := GB.out.fr f (fun e => by obtain ⟨cs, hb⟩ := hown _ e; exact Blk.ne_ hb GB.out (by decide) rfl)
    exact ⟨b1.cell 0, b2.cell 2, b3.cell 4, b3.cell 5, b3.cell 6, b3.cell 7⟩
  refine wp_region_ord (fun Y => Y.cell? ⟨gx, 0, none⟩ = some (.pointer (some ⟨gs, 0, none⟩)) ∧ Y.cell? ⟨gs, 2, none⟩ = some v2 ∧ Y.cell? ⟨g, 4, none⟩ = some (.int .i64 im.table.elem) ∧ Y.cell? ⟨g, 5, none⟩ = some (.int .i64 im.table.lim.min) ∧ Y.cell? ⟨g, 6, none⟩ = some (.int .i64 im.table.lim.max) ∧ Y.cell? ⟨g, 7, none⟩ = some (.bool im.table.lim.has)) [11] [(0, true), (1, true), (2, true), (3, true), (4, true), (5, true), (6, true), (7, false), (8, false), (9, true), (10, true), (11, false)] (by kernel_rfl) (by kernel_rfl) (by kernel_rfl) rfl (HX.out _ (Fr.refl _ _).drew) ?_
  repeat (first
    | (refine wpO_skip rfl rfl ?_; simp only [List.getElem_toArray, List.getElem_cons_succ, List.getElem_cons_zero, Act.put, List.setIfInBounds_toArray, List.set_cons_zero, List.set_cons_succ])
    | (refine wpO_call rfl rfl ?_; simp only [List.getElem_toArray, List.getElem_cons_succ, List.getElem_cons_zero]; apply Exists.intro; refine ⟨fun X hX => ?_, ?_⟩
       · (have s0 := hX.1; have s1 := hX.2.1; have s2 := hX.2.2.1; have s3 := hX.2.2.2.1; have s4 := hX.2.2.2.2.1; have s5 := hX.2.2.2.2.2; go_simp; exact stillUpon_value)
       simp only [Act.put, List.setIfInBounds_toArray, List.set_cons_zero, List.set_cons_succ]))
  refine wpO_eff rfl rfl (fun K hK => ?_)
  simp only [List.getElem_toArray, List.getElem_cons_succ, List.getElem_cons_zero]
  go_simp
  refine hK _ _ (fun _ => HX.out _ ((Fr.refl _ _).drew.alloc _)) ?_
  clear hK K
  have HA := hid (HP.out.frNo ((Fr.refl No w1).drew.alloc (.cells #[.int .i64 im.table.elem, .int .i64 im.table.lim.min, .int .i64 im.table.lim.max, .bool im.table.lim.has] 60)))
  have hrd := rd_lit w1.drew [.int .i64 im.table.elem, .int .i64 im.table.lim.min, .int .i64 im.table.lim.max, .bool im.table.lim.has] 60
  refine wpO_eff rfl rfl (fun K hK => ?_)
  simp only [List.getElem_toArray, List.getElem_cons_succ, List.getElem_cons_zero]
  refine opwp_appC (t := tTb) (P := Try.prog) (base := base) (S := Emp) (v := v2) (xs := x.tables) (ys := [im.table]) (dss := [[.int .i64 im.table.elem, .int .i64 im.table.lim.min, .int .i64 im.table.lim.max, .bool im.table.lim.has]]) elTbs rfl rfl rfl (HA.out.row 2 v2 rfl) (Css.one (HK.out.table _ _)) hrd rfl (by first | omega | (simp; omega)) (by first | omega | (simp; omega)) (fun _ h => h.elim) (by show base ≤ (w1.drew.alloc _).heap.size; rw [World.size_alloc]; show base ≤ w1.heap.size + 1; omega) ?_
  intro v' w3 hr3 fr3 ho3
  have HR3 := hid hr3
  have HF3 := hid fr3
  have HO3 := hid ho3
  have F3 := hid (((Fr.refl (fun k => some k = v2.ownBlock) w1).drew.alloc (.cells #[.int .i64 im.table.elem, .int .i64 im.table.lim.min, .int .i64 im.table.lim.max, .bool im.table.lim.has] 60)).trans fr3 (fun _ _ h => h))
  obtain ⟨A3, c3, rfl, _, _, _⟩ := hr3.els (S' := fun _ => True) (fun _ _ => trivial) (fun _ _ => trivial)
  refine hK _ _ (fun _ => HX.out _ F3.out) ?_
  clear hK K hr3 fr3 ho3 hrd
  simp only [Act.put, List.setIfInBounds_toArray, List.set_cons_zero, List.set_cons_succ]
  repeat (first
    | (refine wpO_skip rfl rfl ?_; simp only [List.getElem_toArray, List.getElem_cons_succ, List.getElem_cons_zero, Act.put, List.setIfInBounds_toArray, List.set_cons_zero, List.set_cons_succ])
    | (refine wpO_call rfl rfl ?_; simp only [List.getElem_toArray, List.getElem_cons_succ, List.getElem_cons_zero]; apply Exists.intro; refine ⟨fun X hX => ?_, ?_⟩
       · (have s0 := hX.1; have s1 := hX.2.1; have s2 := hX.2.2.1; have s3 := hX.2.2.2.1; have s4 := hX.2.2.2.2.1; have s5 := hX.2.2.2.2.2; go_simp; exact stillUpon_value)
       simp only [Act.put, List.setIfInBounds_toArray, List.set_cons_zero, List.set_cons_succ]))
  have HB3 := hid (HA.out.hs.fr HF3.out (fun e => by obtain ⟨_, cs, hb⟩ := (HA.out.row 2 v2 rfl).own e.symm; exact Blk.ne_ hb HA.out.hs (tag_gs 2) rfl))
  have z0 : w3.cell? ⟨gs, 2, none⟩ = some v2 := HB3.out.cell 2
  have z1 : w3.frozen? ⟨gs, 2, none⟩ = false := HB3.out.frozen 2
  refine wpO_eff rfl rfl (fun K hK => ?_)
  simp only [List.getElem_toArray, List.getElem_cons_succ, List.getElem_cons_zero]
  go_simp
  refine hK _ _ (fun h => by cases h) ?_
  clear hK K z0 z1
  refine wpO_nil ?_
  have HZ := hid (HA.out.app (j := 2) (v := v2) (x' := { x with imp := fun j => if j = im.kind then x.imp im.kind + 1 else x.imp j, tables := x.tables ++ [im.table] }) (u0 := v0) (u1 := v1) (u2 := .slice A3 (x.tables ++ [im.table]).length c3) (u3 := v3) (u4 := v4) (u5 := v5) (by omega) rfl HF3.out HR3.out HO3.out (fun i hi hne Y u h => by
      match i, hi with
      | 0, _ => exact h
      | 1, _ => exact h
      | 2, _ => exact absurd rfl hne
      | 3, _ => exact h
      | 4, _ => exact h
      | 5, _ => exact h
) rfl rfl rfl rfl)
  simp only [List.length_append, List.length_cons, List.length_nil, Nat.zero_add] at HZ
  go_wp2
  go_end0
  have hx : x.bring im = { x with imp := fun j => if j = im.kind then x.imp im.kind + 1 else x.imp j, tables := x.tables ++ [im.table] } := by
    simp [SpV.bring, hk.out]
  rw [hx]
  refine ⟨rfl, _, _, _, _, _, _, HZ.out, ?_⟩
  refine (((F0.out.mono (M := Rests gx gs bi bd ST [v0, v1, v2, v3, v4, v5]) (fun _ _ h => h.elim)).trans ((Fr.refl (One bi) W).drew.trans HF1.out (fun _ _ h => h)) (fun i hi h => .inr (.inr (.inl h)))).trans F3.out (fun i hi h => .inr (.inr (.inr (.inr (.inr ⟨v2, by simp, h.symm⟩)))))).trans ((Fr.refl (One gs) w3).setCell _ _ (fun _ => rfl)) (fun i hi h => .inr (.inl h))

set_option maxHeartbeats 3200000 in
set_option maxRecDepth 100000 in
theorem bring_3 (base : Nat) (X : World) (gx gs bi bd : Nat) (ST : Nat → Prop) (nI nD : Nat) (v0 v1 v2 v3 v4 v5 : Value) (x : SpV) (im : Im) (h : SpSt base X gx gs bi bd ST nI nD v0 v1 v2 v3 v4 v5 x) (ok : ImOk im)
    (hi0 : -1000000 ≤ x.imp im.kind) (hi1 : x.imp im.kind ≤ 1000000) (hnI : nI ≤ 1000000) (hk : Hid (im.kind = 2)) (hlen : x.mems.length ≤ 1000000) :
    Calls Try.prog 46 #[imv im, .pointer (some ⟨gx, 0, none⟩)] X fun e w' => e = .returned (.tuple #[]) ∧ SpTo base X gx gs bi bd ST (nI + 1) nD [v0, v1, v2, v3, v4, v5] (x.bring im) w' := by
  unfold imv
  have F0 := hid ((Fr.refl No X).alloc (.cells #[.string im.mod, .string im.name, .int .i64 im.kind, .int .i64 im.func, .int .i64 im.table.elem, .int .i64 im.table.lim.min, .int .i64 im.table.lim.max, .bool im.table.lim.has, .int .i64 im.mem.min, .int .i64 im.mem.max, .bool im.mem.has, .int .i64 im.glob.val, .bool im.glob.mut_] 64))
  have G0 := hid (Blk.new X 64 #[.string im.mod, .string im.name, .int .i64 im.kind, .int .i64 im.func, .int .i64 im.table.elem, .int .i64 im.table.lim.min, .int .i64 im.table.lim.max, .bool im.table.lim.has, .int .i64 im.mem.min, .int .i64 im.mem.max, .bool im.mem.has, .int .i64 im.glob.val, .bool im.glob.mut_])
  have HS := hid (h.frNo F0.out)
  have HL : Hid (∀ k, Rests gx gs bi bd ST [v0, v1, v2, v3, v4, v5] k → k < X.heap.size) := fun k hk => (h.lt hk).2
  have HK := hid ok
  clear h ok
  go_enter Try.func46, Try.ntmps46
  go_wp2
  generalize X.alloc (.cells #[.string im.mod, .string im.name, .int .i64 im.kind, .int .i64 im.func, .int .i64 im.table.elem, .int .i64 im.table.lim.min, .int .i64 im.table.lim.max, .bool im.table.lim.has, .int .i64 im.mem.min, .int .i64 im.mem.max, .bool im.mem.has, .int .i64 im.glob.val, .bool im.glob.mut_] 64) = W at *
  have hg : X.heap.size < W.heap.size := G0.out.lt
  have y2 : W.cell? ⟨X.heap.size, 2, none⟩ = some (.int .i64 im.kind) := G0.out.cell 2
  generalize X.heap.size = g at *
  have hw1 : IntKind.i64.wrap (x.imp im.kind + 1) = x.imp im.kind + 1 := IntWalk.i64_in _ (by omega)
  have HSd := hid (HS.out.frNo (Fr.refl No W).drew)
  obtain ⟨w1, hrun, hm1, hf1⟩ := HSd.out.mi.put (v := x.imp im.kind + 1) Try.underlying90 Try.underlying56 Try.underlying3 (by simp only [maxLen]; omega) HK.out.kind (wf_bool64 ⟨by omega, by omega⟩)
  have HP := hid (HSd.out.putI hm1 hf1)
  have HF1 := hid hf1
  have hrun' : Sem.run Try.prog (Instr.mapUpdate 90 (.map (some bi)) (.int .i64 im.kind) (.int .i64 (x.imp im.kind + 1))) W.drew = .ok () w1 := hrun
  have HRUN := hid hrun'
  clear hm1 hf1 hrun hrun'
  refine wp_region_ord (fun Y => Y.cell? ⟨gx, 0, none⟩ = some (.pointer (some ⟨gs, 0, none⟩)) ∧ Y.cell? ⟨gs, 7, none⟩ = some (.map (some bi)) ∧ Y.cell? ⟨g, 2, none⟩ = some (.int .i64 im.kind) ∧ MapI Try.prog 56 3 Y bi nI x.imp) [8] [(0, true), (1, true), (2, true), (3, true), (4, true), (5, true), (6, true), (7, true), (8, false)] (by kernel_rfl) (by kernel_rfl) (by kernel_rfl) rfl ⟨HS.out.hx.drew.cell 0, HS.out.hs.drew.cell 7, y2, HS.out.mi⟩ ?_
  repeat (first
    | (refine wpO_skip rfl rfl ?_; simp only [List.getElem_toArray, List.getElem_cons_succ, List.getElem_cons_zero, Act.put, List.setIfInBounds_toArray, List.set_cons_zero, List.set_cons_succ])
    | (refine wpO_call rfl rfl ?_; simp only [List.getElem_toArray, List.getElem_cons_succ, List.getElem_cons_zero]; apply Exists.intro; refine ⟨fun X hX => ?_, ?_⟩
       · (have s0 := hX.1; have s1 := hX.2.1; have s2 := hX.2.2.1; have s3 := hX.2.2.2; go_simp; exact stillUpon_value)
       simp only [Act.put, List.setIfInBounds_toArray, List.set_cons_zero, List.set_cons_succ]))
  refine wpO_call rfl rfl ?_
  simp only [List.getElem_toArray, List.getElem_cons_succ, List.getElem_cons_zero]
  apply Exists.intro
  refine ⟨fun X hX => ?_, ?_⟩
  · (have s0 := hX.1; have s1 := hX.2.1; have s2 := hX.2.2.1; have s3 := hX.2.2.2; go_simp; rw [MapI.get s3 Try.underlying90 Try.underlying56 Try.underlying3 zI HK.out.kind]; exact stillUpon_value)
  simp only [Act.put, List.setIfInBounds_toArray, List.set_cons_zero, List.set_cons_succ]
  repeat (first
    | (refine wpO_skip rfl rfl ?_; simp only [List.getElem_toArray, List.getElem_cons_succ, List.getElem_cons_zero, Act.put, List.setIfInBounds_toArray, List.set_cons_zero, List.set_cons_succ])
    | (refine wpO_call rfl rfl ?_; simp only [List.getElem_toArray, List.getElem_cons_succ, List.getElem_cons_zero]; apply Exists.intro; refine ⟨fun X hX => ?_, ?_⟩
       · (have s0 := hX.1; have s1 := hX.2.1; have s2 := hX.2.2.1; have s3 := hX.2.2.2; go_simp; exact stillUpon_value)
       simp only [Act.put, List.setIfInBounds_toArray, List.set_cons_zero, List.set_cons_succ]))
  refine wpO_eff rfl rfl (fun K hK => ?_)
  simp only [List.getElem_toArray, List.getElem_cons_succ, List.getElem_cons_zero]
  go_simp
  rw [HRUN.out]
  go_simp
  refine hK _ _ (fun h => by cases h) ?_
  clear hK K
  refine wpO_nil ?_
  have GB := hid (G0.out.drew.fr HF1.out (fun e => by simp only [One] at e; have := HL.out bi (.inr (.inr (.inl rfl))); omega))
  have y3 : w1.cell? ⟨g, 2, none⟩ = some (.int .i64 im.kind) := GB.out.cell 2
  clear y2
  have e0 : (im.kind == 0) = false := by rw [hk.out]; rfl
  have e1 : (im.kind == 1) = false := by rw [hk.out]; rfl
  have e2 : (im.kind == 2) = true := by rw [hk.out]; rfl
  have e3 : (im.kind == 3) = false := by rw [hk.out]; rfl
  go_wp2
  have HPd := hid (HP.out.frNo (Fr.refl No w1).drew)
  have hs1 : base ≤ w1.heap.size := Nat.le_trans (HP.out.lt (.inl rfl)).1 (Nat.le_of_lt HP.out.hx.lt)
  have HX : Hid (∀ Y, Fr (fun k => some k = v3.ownBlock) w1 Y → (fun Y => Y.cell? ⟨gx, 0, none⟩ = some (.pointer (some ⟨gs, 0, none⟩)) ∧ Y.cell? ⟨gs, 3, none⟩ = some v3 ∧ Y.cell? ⟨g, 8, none⟩ = some (.int .i64 im.mem.min) ∧ Y.cell? ⟨g, 9, none⟩ = some (.int .i64 im.mem.max) ∧ Y.cell? ⟨g, 10, none⟩ = some (.bool im.mem.has)) Y) := fun Y f => by
    have hown : ∀ k, some k = v3.ownBlock → ∃ cs, Blk w1 k (tagAt 3) cs := fun k hk => ((HP.out.row 3 v3 rfl).own hk.symm).2
    have b1 := HP.out.hx.fr f (fun e => by obtain ⟨cs, hb⟩ := hown _ e; exact Blk.ne_ hb HP.out.hx (tag_gx 3) rfl)
    have b2 := HP.out.hs.fr f (fun e => by obtain ⟨cs, hb⟩ := hown _ e; exact Blk.ne_ hb HP.out.hs (tag_gs 3) rfl)
    have b3 := GB.out.fr f (fun e => by obtain ⟨cs, hb⟩ := hown _ e; exact Blk.ne_ hb GB.out (by decide) rfl)
    exact ⟨b1.cell 0, b2.cell 3, b3.cell 8, b3.cell 9, b3.cell 10⟩
  refine wp_region_ord (fun Y => Y.cell? ⟨gx, 0, none⟩ = some (.pointer (some ⟨gs, 0, none⟩)) ∧ Y.cell? ⟨gs, 3, none⟩ = some v3 ∧ Y.cell? ⟨g, 8, none⟩ = some (.int .i64 im.mem.min) ∧ Y.cell? ⟨g, 9, none⟩ = some (.int .i64 im.mem.max) ∧ Y.cell? ⟨g, 10, none⟩ = some (.bool im.mem.has)) [11] [(0, true), (1, true), (2, true), (3, true), (4, true), (5, true), (6, true), (7, false), (8, false), (9, true), (10, true), (11, false)] (by kernel_rfl) (by kernel_rfl) (by kernel_rfl) rfl (HX.out _ (Fr.refl _ _).drew) ?_
  repeat (first
    | (refine wpO_skip rfl rfl ?_; simp only [List.getElem_toArray, List.getElem_cons_succ, List.getElem_cons_zero, Act.put, List.setIfInBounds_toArray, List.set_cons_zero, List.set_cons_succ])
    | (refine wpO_call rfl rfl ?_; simp only [List.getElem_toArray, List.getElem_cons_succ, List.getElem_cons_zero]; apply Exists.intro; refine ⟨fun X hX => ?_, ?_⟩
       · (have s0 := hX.1; have s1 := hX.2.1; have s2 := hX.2.2.1; have s3 := hX.2.2.2.1; have s4 := hX.2.2.2.2; go_simp; exact stillUpon_value)
       simp only [Act.put, List.setIfInBounds_toArray, List.set_cons_zero, List.set_cons_succ]))
  refine wpO_eff rfl rfl (fun K hK => ?_)
  simp only [List.getElem_toArray, List.getElem_cons_succ, List.getElem_cons_zero]
  go_simp
  refine hK _ _ (fun _ => HX.out _ ((Fr.refl _ _).drew.alloc _)) ?_
  clear hK K
  have HA := hid (HP.out.frNo ((Fr.refl No w1).drew.alloc (.cells #[.int .i64 im.mem.min, .int .i64 im.mem.max, .bool im.mem.has] 58)))
  have hrd := rd_lit w1.drew [.int .i64 im.mem.min, .int .i64 im.mem.max, .bool im.mem.has] 58
  refine wpO_eff rfl rfl (fun K hK => ?_)
  simp only [List.getElem_toArray, List.getElem_cons_succ, List.getElem_cons_zero]
  refine opwp_appC (t := tLim) (P := Try.prog) (base := base) (S := Emp) (v := v3) (xs := x.mems) (ys := [im.mem]) (dss := [[.int .i64 im.mem.min, .int .i64 im.mem.max, .bool im.mem.has]]) elLims rfl rfl rfl (HA.out.row 3 v3 rfl) (Css.one (HK.out.mem _ _)) hrd rfl (by first | omega | (simp; omega)) (by first | omega | (simp; omega)) (fun _ h => h.elim) (by show base ≤ (w1.drew.alloc _).heap.size; rw [World.size_alloc]; show base ≤ w1.heap.size + 1; omega) ?_
  intro v' w3 hr3 fr3 ho3
  have HR3 := hid hr3
  have HF3 := hid fr3
  have HO3 := hid ho3
  have F3 := hid (((Fr.refl (fun k => some k = v3.ownBlock) w1).drew.alloc (.cells #[.int .i64 im.mem.min, .int .i64 im.mem.max, .bool im.mem.has] 58)).trans fr3 (fun _ _ h => h))
  obtain ⟨A3, c3, rfl, _, _, _⟩ := hr3.els (S' := fun _ => True) (fun _ _ => trivial) (fun _ _ => trivial)
  refine hK _ _ (fun _ => HX.out _ F3.out) ?_
  clear hK K hr3 fr3 ho3 hrd
  simp only [Act.put, List.setIfInBounds_toArray, List.set_cons_zero, List.set_cons_succ]
  repeat (first
    | (refine wpO_skip rfl rfl ?_; simp only [List.getElem_toArray, List.getElem_cons_succ, List.getElem_cons_zero, Act.put, List.setIfInBounds_toArray, List.set_cons_zero, List.set_cons_succ])
    | (refine wpO_call rfl rfl ?_; simp only [List.getElem_toArray, List.getElem_cons_succ, List.getElem_cons_zero]; apply Exists.intro; refine ⟨fun X hX => ?_, ?_⟩
       · (have s0 := hX.1; have s1 := hX.2.1; have s2 := hX.2.2.1; have s3 := hX.2.2.2.1; have s4 := hX.2.2.2.2; go_simp; exact stillUpon_value)
       simp only [Act.put, List.setIfInBounds_toArray, List.set_cons_zero, List.set_cons_succ]))
  have HB3 := hid (HA.out.hs.fr HF3.out (fun e => by obtain ⟨_, cs, hb⟩ := (HA.out.row 3 v3 rfl).own e.symm; exact Blk.ne_ hb HA.out.hs (tag_gs 3) rfl))
  have z0 : w3.cell? ⟨gs, 3, none⟩ = some v3 := HB3.out.cell 3
  have z1 : w3.frozen? ⟨gs, 3, none⟩ = false := HB3.out.frozen 3
  refine wpO_eff rfl rfl (fun K hK => ?_)
  simp only [List.getElem_toArray, List.getElem_cons_succ, List.getElem_cons_zero]
  go_simp
  refine hK _ _ (fun h => by cases h) ?_
  clear hK K z0 z1
  refine wpO_nil ?_
  have HZ := hid (HA.out.app (j := 3) (v := v3) (x' := { x with imp := fun j => if j = im.kind then x.imp im.kind + 1 else x.imp j, mems := x.mems ++ [im.mem] }) (u0 := v0) (u1 := v1) (u2 := v2) (u3 := .slice A3 (x.mems ++ [im.mem]).length c3) (u4 := v4) (u5 := v5) (by omega) rfl HF3.out HR3.out HO3.out (fun i hi hne Y u h => by
      match i, hi with
      | 0, _ => exact h
      | 1, _ => exact h
      | 2, _ => exact h
      | 3, _ => exact absurd rfl hne
      | 4, _ => exact h
      | 5, _ => exact h
) rfl rfl rfl rfl)
  simp only [List.length_append, List.length_cons, List.length_nil, Nat.zero_add] at HZ
  go_wp2
  go_end0
  have hx : x.bring im = { x with imp := fun j => if j = im.kind then x.imp im.kind + 1 else x.imp j, mems := x.mems ++ [im.mem] } := by
    simp [SpV.bring, hk.out]
  rw [hx]
  refine ⟨rfl, _, _, _, _, _, _, HZ.out, ?_⟩
  refine (((F0.out.mono (M := Rests gx gs bi bd ST [v0, v1, v2, v3, v4, v5]) (fun _ _ h => h.elim)).trans ((Fr.refl (One bi) W).drew.trans HF1.out (fun _ _ h => h)) (fun i hi h => .inr (.inr (.inl h)))).trans F3.out (fun i hi h => .inr (.inr (.inr (.inr (.inr ⟨v3, by simp, h.symm⟩)))))).trans ((Fr.refl (One gs) w3).setCell _ _ (fun _ => rfl)) (fun i hi h => .inr (.inl h))

set_option maxHeartbeats 3200000 in
set_option maxRecDepth 100000 in
theorem bring_4 (base : Nat) (X : World) (gx gs bi bd : Nat) (ST : Nat → Prop) (nI nD : Nat) (v0 v1 v2 v3 v4 v5 : Value) (x : SpV) (im : Im) (h : SpSt base X gx gs bi bd ST nI nD v0 v1 v2 v3 v4 v5 x) (ok : ImOk im)
    (hi0 : -1000000 ≤ x.imp im.kind) (hi1 : x.imp im.kind ≤ 1000000) (hnI : nI ≤ 1000000) (hk : Hid (im.kind = 3)) (hlen : x.globals.length ≤ 1000000) :
    Calls Try.prog 46 #[imv im, .pointer (some ⟨gx, 0, none⟩)] X fun e w' => e = .returned (.tuple #[]) ∧ SpTo base X gx gs bi bd ST (nI + 1) nD [v0, v1, v2, v3, v4, v5] (x.bring im) w' := by
  unfold imv
  have F0 := hid ((Fr.refl No X).alloc (.cells #[.string im.mod, .string im.name, .int .i64 im.kind, .int .i64 im.func, .int .i64 im.table.elem, .int .i64 im.table.lim.min, .int .i64 im.table.lim.max, .bool im.table.lim.has, .int .i64 im.mem.min, .int .i64 im.mem.max, .bool im.mem.has, .int .i64 im.glob.val, .bool im.glob.mut_] 64))
  have G0 := hid (Blk.new X 64 #[.string im.mod, .string im.name, .int .i64 im.kind, .int .i64 im.func, .int .i64 im.table.elem, .int .i64 im.table.lim.min, .int .i64 im.table.lim.max, .bool im.table.lim.has, .int .i64 im.mem.min, .int .i64 im.mem.max, .bool im.mem.has, .int .i64 im.glob.val, .bool im.glob.mut_])
  have HS := hid (h.frNo F0.out)
  have HL : Hid (∀ k, Rests gx gs bi bd ST [v0, v1, v2, v3, v4, v5] k → k < X.heap.size) := fun k hk => (h.lt hk).2
  have HK := hid ok
  clear h ok
  go_enter Try.func46, Try.ntmps46
  go_wp2
  generalize X.alloc (.cells #[.string im.mod, .string im.name, .int .i64 im.kind, .int .i64 im.func, .int .i64 im.table.elem, .int .i64 im.table.lim.min, .int .i64 im.table.lim.max, .bool im.table.lim.has, .int .i64 im.mem.min, .int .i64 im.mem.max, .bool im.mem.has, .int .i64 im.glob.val, .bool im.glob.mut_] 64) = W at *
  have hg : X.heap.size < W.heap.size := G0.out.lt
  have y2 : W.cell? ⟨X.heap.size, 2, none⟩ = some (.int .i64 im.kind) := G0.out.cell 2
  generalize X.heap.size = g at *
  have hw1 : IntKind.i64.wrap (x.imp im.kind + 1) = x.imp im.kind + 1 := IntWalk.i64_in _ (by omega)
  have HSd := hid (HS.out.frNo (Fr.refl No W).drew)
  obtain ⟨w1, hrun, hm1, hf1⟩ := HSd.out.mi.put (v := x.imp im.kind + 1) Try.underlying90 Try.underlying56 Try.underlying3 (by simp only [maxLen]; omega) HK.out.kind (wf_bool64 ⟨by omega, by omega⟩)
  have HP := hid (HSd.out.putI hm1 hf1)
  have HF1 := hid hf1
  have hrun' : Sem.run Try.prog (Instr.mapUpdate 90 (.map (some bi)) (.int .i64 im.kind) (.int .i64 (x.imp im.kind + 1))) W.drew = .ok () w1 := hrun
  have HRUN := hid hrun'
  clear hm1 hf1 hrun hrun'
  refine wp_region_ord (fun Y => Y.cell? ⟨gx, 0, none⟩ = some (.pointer (some ⟨gs, 0, none⟩)) ∧ Y.cell? ⟨gs, 7, none⟩ = some (.map (some bi)) ∧ Y.cell? ⟨g, 2, none⟩ = some (.int .i64 im.kind) ∧ MapI Try.prog 56 3 Y bi nI x.imp) [8] [(0, true), (1, true), (2, true), (3, true), (4, true), (5, true), (6, true), (7, true), (8, false)] (by kernel_rfl) (by kernel_rfl) (by kernel_rfl) rfl ⟨HS.out.hx.drew.cell 0, HS.out.hs.drew.cell 7, y2, HS.out.mi⟩ ?_
  repeat (first
    | (refine wpO_skip rfl rfl ?_; simp only [List.getElem_toArray, List.getElem_cons_succ, List.getElem_cons_zero, Act.put, List.setIfInBounds_toArray, List.set_cons_zero, List.set_cons_succ])
    | (refine wpO_call rfl rfl ?_; simp only [List.getElem_toArray, List.getElem_cons_succ, List.getElem_cons_zero]; apply Exists.intro; refine ⟨fun X hX => ?_, ?_⟩
       · (have s0 := hX.1; have s1 := hX.2.1; have s2 := hX.2.2.1; have s3 := hX.2.2.2; go_simp; exact stillUpon_value)
       simp only [Act.put, List.setIfInBounds_toArray, List.set_cons_zero, List.set_cons_succ]))
  refine wpO_call rfl rfl ?_
  simp only [List.getElem_toArray, List.getElem_cons_succ, List.getElem_cons_zero]
  apply Exists.intro
  refine ⟨fun X hX => ?_, ?_⟩
  · (have s0 := hX.1; have s1 := hX.2.1; have s2 := hX.2.2.1; have s3 := hX.2.2.2; go_simp; rw [MapI.get s3 Try.underlying90 Try.underlying56 Try.underlying3 zI HK.out.kind]; exact stillUpon_value)
  simp only [Act.put, List.setIfInBounds_toArray, List.set_cons_zero, List.set_cons_succ]
  repeat (first
    | (refine wpO_skip rfl rfl ?_; simp only [List.getElem_toArray, List.getElem_cons_succ, List.getElem_cons_zero, Act.put, List.setIfInBounds_toArray, List.set_cons_zero, List.set_cons_succ])
    | (refine wpO_call rfl rfl ?_; simp only [List.getElem_toArray, List.getElem_cons_succ, List.getElem_cons_zero]; apply Exists.intro; refine ⟨fun X hX => ?_, ?_⟩
       · (have s0 := hX.1; have s1 := hX.2.1; have s2 := hX.2.2.1; have s3 := hX.2.2.2; go_simp; exact stillUpon_value)
       simp only [Act.put, List.setIfInBounds_toArray, List.set_cons_zero, List.set_cons_succ]))
  refine wpO_eff rfl rfl (fun K hK => ?_)
  simp only [List.getElem_toArray, List.getElem_cons_succ, List.getElem_cons_zero]
  go_simp
  rw [HRUN.out]
  go_simp
  refine hK _ _ (fun h => by cases h) ?_
  clear hK K
  refine wpO_nil ?_
  have GB := hid (G0.out.drew.fr HF1.out (fun e => by simp only [One] at e; have := HL.out bi (.inr (.inr (.inl rfl))); omega))
  have y3 : w1.cell? ⟨g, 2, none⟩ = some (.int .i64 im.kind) := GB.out.cell 2
  clear y2
  have e0 : (im.kind == 0) = false := by rw [hk.out]; rfl
  have e1 : (im.kind == 1) = false := by rw [hk.out]; rfl
  have e2 : (im.kind == 2) = false := by rw [hk.out]; rfl
  have e3 : (im.kind == 3) = true := by rw [hk.out]; rfl
  go_wp2
  have HPd := hid (HP.out.frNo (Fr.refl No w1).drew)
  have hs1 : base ≤ w1.heap.size := Nat.le_trans (HP.out.lt (.inl rfl)).1 (Nat.le_of_lt HP.out.hx.lt)
  have HX : Hid (∀ Y, Fr (fun k => some k = v4.ownBlock) w1 Y → (fun Y => Y.cell? ⟨gx, 0, none⟩ = some (.pointer (some ⟨gs, 0, none⟩)) ∧ Y.cell? ⟨gs, 4, none⟩ = some v4 ∧ Y.cell? ⟨g, 11, none⟩ = some (.int .i64 im.glob.val) ∧ Y.cell? ⟨g, 12, none⟩ = some (.bool im.glob.mut_)) Y) := fun Y f => by
    have hown : ∀ k, some k = v4.ownBlock → ∃ cs, Blk w1 k (tagAt 4) cs := fun k hk => ((HP.out.row 4 v4 rfl).own hk.symm).2
    have b1 := HP.out.hx.fr f (fun e => by obtain ⟨cs, hb⟩ := hown _ e; exact Blk.ne_ hb HP.out.hx (tag_gx 4) rfl)
    have b2 := HP.out.hs.fr f (fun e => by obtain ⟨cs, hb⟩ := hown _ e; exact Blk.ne_ hb HP.out.hs (tag_gs 4) rfl)
    have b3 := GB.out.fr f (fun e => by obtain ⟨cs, hb⟩ := hown _ e; exact Blk.ne_ hb GB.out (by decide) rfl)
    exact ⟨b1.cell 0, b2.cell 4, b3.cell 11, b3.cell 12⟩
  refine wp_region_ord (fun Y => Y.cell? ⟨gx, 0, none⟩ = some (.pointer (some ⟨gs, 0, none⟩)) ∧ Y.cell? ⟨gs, 4, none⟩ = some v4 ∧ Y.cell? ⟨g, 11, none⟩ = some (.int .i64 im.glob.val) ∧ Y.cell? ⟨g, 12, none⟩ = some (.bool im.glob.mut_)) [11] [(0, true), (1, true), (2, true), (3, true), (4, true), (5, true), (6, true), (7, false), (8, false), (9, true), (10, true), (11, false)] (by kernel_rfl) (by kernel_rfl) (by kernel_rfl) rfl (HX.out _ (Fr.refl _ _).drew) ?_
  repeat (first
    | (refine wpO_skip rfl rfl ?_; simp only [List.getElem_toArray, List.getElem_cons_succ, List.getElem_cons_zero, Act.put, List.setIfInBounds_toArray, List.set_cons_zero, List.set_cons_succ])
    | (refine wpO_call rfl rfl ?_; simp only [List.getElem_toArray, List.getElem_cons_succ, List.getElem_cons_zero]; apply Exists.intro; refine ⟨fun X hX => ?_, ?_⟩
       · (have s0 := hX.1; have s1 := hX.2.1; have s2 := hX.2.2.1; have s3 := hX.2.2.2; go_simp; exact stillUpon_value)
       simp only [Act.put, List.setIfInBounds_toArray, List.set_cons_zero, List.set_cons_succ]))
  refine wpO_eff rfl rfl (fun K hK => ?_)
  simp only [List.getElem_toArray, List.getElem_cons_succ, List.getElem_cons_zero]
  go_simp
  refine hK _ _ (fun _ => HX.out _ ((Fr.refl _ _).drew.alloc _)) ?_
  clear hK K
  have HA := hid (HP.out.frNo ((Fr.refl No w1).drew.alloc (.cells #[.int .i64 im.glob.val, .bool im.glob.mut_] 62)))
  have hrd := rd_lit w1.drew [.int .i64 im.glob.val, .bool im.glob.mut_] 62
  refine wpO_eff rfl rfl (fun K hK => ?_)
  simp only [List.getElem_toArray, List.getElem_cons_succ, List.getElem_cons_zero]
  refine opwp_appC (t := tGl) (P := Try.prog) (base := base) (S := Emp) (v := v4) (xs := x.globals) (ys := [im.glob]) (dss := [[.int .i64 im.glob.val, .bool im.glob.mut_]]) elGls rfl rfl rfl (HA.out.row 4 v4 rfl) (Css.one (HK.out.glob _ _)) hrd rfl (by first | omega | (simp; omega)) (by first | omega | (simp; omega)) (fun _ h => h.elim) (by show base ≤ (w1.drew.alloc _).heap.size; rw [World.size_alloc]; show base ≤ w1.heap.size + 1; omega) ?_
  intro v' w3 hr3 fr3 ho3
  have HR3 := hid hr3
  have HF3 := hid fr3
  have HO3 := hid ho3
  have F3 := hid (((Fr.refl (fun k => some k = v4.ownBlock) w1).drew.alloc (.cells #[.int .i64 im.glob.val, .bool im.glob.mut_] 62)).trans fr3 (fun _ _ h => h))
  obtain ⟨A3, c3, rfl, _, _, _⟩ := hr3.els (S' := fun _ => True) (fun _ _ => trivial) (fun _ _ => trivial)
  refine hK _ _ (fun _ => HX.out _ F3.out) ?_
  clear hK K hr3 fr3 ho3 hrd
  simp only [Act.put, List.setIfInBounds_toArray, List.set_cons_zero, List.set_cons_succ]
  repeat (first
    | (refine wpO_skip rfl rfl ?_; simp only [List.getElem_toArray, List.getElem_cons_succ, List.getElem_cons_zero, Act.put, List.setIfInBounds_toArray, List.set_cons_zero, List.set_cons_succ])
    | (refine wpO_call rfl rfl ?_; simp only [List.getElem_toArray, List.getElem_cons_succ, List.getElem_cons_zero]; apply Exists.intro; refine ⟨fun X hX => ?_, ?_⟩
       · (have s0 := hX.1; have s1 := hX.2.1; have s2 := hX.2.2.1; have s3 := hX.2.2.2; go_simp; exact stillUpon_value)
       simp only [Act.put, List.setIfInBounds_toArray, List.set_cons_zero, List.set_cons_succ]))
  have HB3 := hid (HA.out.hs.fr HF3.out (fun e => by obtain ⟨_, cs, hb⟩ := (HA.out.row 4 v4 rfl).own e.symm; exact Blk.ne_ hb HA.out.hs (tag_gs 4) rfl))
  have z0 : w3.cell? ⟨gs, 4, none⟩ = some v4 := HB3.out.cell 4
  have z1 : w3.frozen? ⟨gs, 4, none⟩ = false := HB3.out.frozen 4
  refine wpO_eff rfl rfl (fun K hK => ?_)
  simp only [List.getElem_toArray, List.getElem_cons_succ, List.getElem_cons_zero]
  go_simp
  refine hK _ _ (fun h => by cases h) ?_
  clear hK K z0 z1
  refine wpO_nil ?_
  have HZ := hid (HA.out.app (j := 4) (v := v4) (x' := { x with imp := fun j => if j = im.kind then x.imp im.kind + 1 else x.imp j, globals := x.globals ++ [im.glob] }) (u0 := v0) (u1 := v1) (u2 := v2) (u3 := v3) (u4 := .slice A3 (x.globals ++ [im.glob]).length c3) (u5 := v5) (by omega) rfl HF3.out HR3.out HO3.out (fun i hi hne Y u h => by
      match i, hi with
      | 0, _ => exact h
      | 1, _ => exact h
      | 2, _ => exact h
      | 3, _ => exact h
      | 4, _ => exact absurd rfl hne
      | 5, _ => exact h
) rfl rfl rfl rfl)
  simp only [List.length_append, List.length_cons, List.length_nil, Nat.zero_add] at HZ
  go_wp2
  go_end0
  have hx : x.bring im = { x with imp := fun j => if j = im.kind then x.imp im.kind + 1 else x.imp j, globals := x.globals ++ [im.glob] } := by
    simp [SpV.bring, hk.out]
  rw [hx]
  refine ⟨rfl, _, _, _, _, _, _, HZ.out, ?_⟩
  refine (((F0.out.mono (M := Rests gx gs bi bd ST [v0, v1, v2, v3, v4, v5]) (fun _ _ h => h.elim)).trans ((Fr.refl (One bi) W).drew.trans HF1.out (fun _ _ h => h)) (fun i hi h => .inr (.inr (.inl h)))).trans F3.out (fun i hi h => .inr (.inr (.inr (.inr (.inr ⟨v4, by simp, h.symm⟩)))))).trans ((Fr.refl (One gs) w3).setCell _ _ (fun _ => rfl)) (fun i hi h => .inr (.inl h))
end Go.Proofs.Ytfngopoaegofhaa
