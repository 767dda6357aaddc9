/- Part 1 of the proof: lemmas and contracts of functions. No condition. -/
import Derived.Below
import Derived.Laws.OwnMore
import Derived.Deep.Draws
import Derived.Laws.Rows
import Derived.Deep.AppendLies
import Derived.OpenShut
import Derived.Test.YthggdemiddjlgaaGreatRows
import Derived.ChangeArms
import Derived.Carry
import Derived.KernelRfl
import Derived.SizedLaws
import Derived.Maps.AppendAt
import Derived.Laws.MakeOwn
import Derived.Laws.CopyOwn
import Derived.RegionTactic
import Derived.OwnWalk
import Derived.OrdersHeld
import Derived.Deep.RegionHeld3
import Derived.Laws.StructEq
import Derived.WalkSpells
import Derived.WalkKit
import Derived.ProofKit
import Derived.Deep.QuietTactic
import Derived.BigQuiet
import Derived.IntWalk
import Derived.WalkLawsBesides
import Derived.ChangeAlike
import Derived.Laws.BytesString
import GoSem.Core.Utf8
import Derived.Laws.RangeAny
import Derived.Lib.Strings
import Derived.Laws.Bits64b
import Derived.Laws.Shifts
import Derived.Deep.DeepCutAuto
import Derived.Lib.SliceRun
import Derived.Lib.AppendZerosOnto
import Derived.Deep.MidRow
import Derived.Deep.WholeRow
import Derived.RangeFuncNested
import Derived.RangeFuncBound
import Derived.RangeFuncCalls
import Derived.RangeFuncLeaves
import Derived.Shelf.Abstract
import Derived.OwnWalkIn
import Derived.TacticsInMore
import Derived.LoopNIn
import Derived.LoopIn
import Derived.Maps.Own
import Derived.Maps.Views
set_option maxRecDepth 100000
set_option maxHeartbeats 12800000
set_option linter.unusedVariables false
set_option linter.unusedSimpArgs false
set_option linter.unusedSectionVars false
namespace Go.Proofs.YthggdemiddjlgaaGreat
open Go.RowKit Go.Proofs.Tryz
theorem _root_.Go.RowKit.Hid.o {p : Prop} (h : Go.RowKit.Hid p) : p := h
theorem i2 {α : Sort _} {p : α → Prop} : ∀ a, p a → p a := fun _ h => h
theorem i3 {n : Nat} {p : Nat → Prop} : ∀ a, a < n → p a → p a := fun _ _ h => h
theorem tvv {α : Sort _} {p : α → Prop} : ∀ a, p a → True := fun _ _ => trivial
theorem ltl {a b c : Nat} (h : a < b) (k : b ≤ c) : a < c := Nat.lt_of_lt_of_le h k
theorem nz {n : Nat} : 0 ≤ n := Nat.zero_le n
theorem nr {n : Nat} : n ≤ n := Nat.le_refl n
theorem nki (k : Nat) : (0 : Int) ≤ k := Int.natCast_nonneg k
theorem om {P : Prop} (h : P := by omega) : P := h
theorem dc {P : Prop} (h : P := by decide) : P := h
theorem kr {P : Prop} (h : P := by kernel_rfl) : P := h
theorem sm {P : Prop} (h : P := by simp) : P := h
theorem so {P : Prop} (h : P := by simp; omega) : P := h
abbrev OA := Option Addr
abbrev LV := List Value
abbrev Lt (S : Nat → Prop) (w : World) : Prop := ∀ k, S k → k < w.heap.size
abbrev Ce (X : World) (b i : Nat) (v : Value) : Prop := X.cell? ⟨b, i, none⟩ = some v
theorem yy0 {P : Prop} (h : P := by
 have z0 := G2.o.cell 0
 have z1 := G2.o.cell 1
 go_wp2_with fail
 refine (HC.o _ F2.o).mono ?_
 rintro e w3 ⟨cs, rfl, hr, f3⟩
 clear z0 z1 HC HX
 obtain ⟨B1, D1, B2, D2, rfl, r1, r2, r3, r4, r5, r6⟩ := Fn_cells hr
 have R3 := hid r3
 have R6 := hid r6
 clear hr r3 r6
 have F3 := ftr F2 f3
 have G3 := hid (G2.o.fr f3 id)
 have LT2 := hid G2.o.lt
 clear f3 F2 G2
 have z0 := G3.o.cell 0
 have z1 := G3.o.cell 1
 have y0 := G3.o.frozen 0
 have y2 : ∀ u, (w3.setCell ⟨w.heap.size, 0, none⟩ u).cell? ⟨w.heap.size, 1, none⟩ = some (.slice A2 f.ty.results.length c2) := fun u => (G3.o.set_ 0 u).cell 1
 have y3 : ∀ u, (w3.setCell ⟨w.heap.size, 0, none⟩ u).frozen? ⟨w.heap.size, 1, none⟩ = false := fun u => (G3.o.set_ 0 u).frozen 1
 go_upto_region 6 with fail
 have N1 := hid ((G3.o.set_ 0 (.slice B1 f.ty.params.length D1)).set_ 1 (.slice B2 f.ty.results.length D2))
 have F5 := hid ((F3.o.setCell ⟨w.heap.size, 0, none⟩ (.slice B1 f.ty.params.length D1) (fun h => absurd h (Nat.lt_irrefl _))).setCell ⟨w.heap.size, 1, none⟩ (.slice B2 f.ty.results.length D2) (fun h => absurd h (Nat.lt_irrefl _)))
 have fq := (((Fr.refl (fun k => k = w.heap.size) w3).setCell ⟨w.heap.size, 0, none⟩ (.slice B1 f.ty.params.length D1) (fun _ => rfl)).setCell ⟨w.heap.size, 1, none⟩ (.slice B2 f.ty.results.length D2) (fun _ => rfl))
 have hlq : Hid (∀ k, Nw w2 w3 k → k < w3.heap.size ∧ ¬ k = w.heap.size ∧ w.heap.size ≤ k) := by
  rintro k ⟨ha, hb⟩
  have h3 := LT2.o
  refine ⟨hb, ?_, ?_⟩ <;> omega
 have E3 := hid (R3.o.fr fq (fun k hk => ⟨(hlq.o k hk).1, (hlq.o k hk).2.1⟩))
 have E6 := hid (R6.o.fr fq (fun k hk => ⟨(hlq.o k hk).1, (hlq.o k hk).2.1⟩))
 have SZ := hid fq.size
 clear fq z0 z1 y0 y2 y3 G3 R3 R6 F3
 generalize (w3.setCell ⟨w.heap.size, 0, none⟩ (.slice B1 f.ty.params.length D1)).setCell ⟨w.heap.size, 1, none⟩ (.slice B2 f.ty.results.length D2) = W5 at *
 have K6 := hid (H.o.frNo F5.o.drew)
 have hup : ∀ k, Nw w2 w3 k → Sd W5.drew R k := fun k hk => ⟨ltl (hlq.o k hk).1 SZ.o, fun r => by have := H.o.low k r; have := (hlq.o k hk).2.2; omega⟩
 have RX : Hid (tFi.rd W5.drew (Sd W5.drew R) (q6x8 B1 B2 f D1 D2) f) := Fi_mk (a := f) r1 r2 (Ty.els.more (E3.o.fr (Fr.refl No W5).drew (fun k hk => ⟨ltl (hlq.o k hk).1 SZ.o, fun x => x⟩)) hup) r4 r5 (Ty.els.more (E6.o.fr (Fr.refl No W5).drew (fun k hk => ⟨ltl (hlq.o k hk).1 SZ.o, fun x => x⟩)) hup) wi wx
 clear hup E3 E6
 have HX : Hid (∀ X, Blk X w.heap.size 80 #[.slice B1 f.ty.params.length D1, .slice B2 f.ty.results.length D2, .int .i64 f.inst, .int .i64 f.index] → Ce X w.heap.size 0 (.slice B1 f.ty.params.length D1) ∧ Ce X w.heap.size 1 (.slice B2 f.ty.results.length D2) ∧ Ce X w.heap.size 2 (.int .i64 f.inst) ∧ Ce X w.heap.size 3 (.int .i64 f.index)) := fun X b => ⟨b.cell 0, b.cell 1, b.cell 2, b.cell 3⟩
 refine rwO (fun X => Ce X w.heap.size 0 (.slice B1 f.ty.params.length D1) ∧ Ce X w.heap.size 1 (.slice B2 f.ty.results.length D2) ∧ Ce X w.heap.size 2 (.int .i64 f.inst) ∧ Ce X w.heap.size 3 (.int .i64 f.index)) [] (List.range 6) [4] (HX.o _ N1.o.drew) ?_
 refine rC ?_
 refine wpO_eff rfl rfl fun K hK => sz ?_
 refine (addFi_any V.P 3 (Sd W5.drew R) V.fu x.funcs (q6x8 B1 B2 f D1 D2) f W5.drew (K6.o.addIn_fu RX.o hn)).mono ?_
 intro e w6 ha
 obtain ⟨V', R', rfl, h2, h3⟩ := K6.o.added_fu ha
 have H2 := hid h2
 have H3 := hid h3
 clear h2 h3 ha
 have G6 := N1.o.drew.fr H3.o.fr (fun o => by have := H.o.lt o; omega)
 refine hK _ _ (fun _ => HX.o _ G6) ?_
 clear hK K G6
 refine rC ?_
 refine wpO_nil ?_
 go_wp2
 go_ret
 exact ⟨V', R', rfl, H2.o, (Grown.of_no F5.o.drew).trans H3.o⟩) : P := h
theorem yy1 {P : Prop} (h : P := by
 refine hK _ _ (fun _ => HC.o _ fr1) ?_
 clear hK K hr1 fr1 hv1 hvl
 simp only [zC, Act.put]
 refine rC ?_
 obtain ⟨A1, k1, e1, hk1, hm1, _⟩ := R1.o.els (S' := fun _ => True) tvv tvv
 subst e1
 rw [show (xs ++ [x]).length = xs.length + 1 by simp] at R1 HV
 have z0 : w1.cell? ⟨P, off, none⟩ = some v := (HC.o _ FR.o).1
 have z1 : w1.frozen? ⟨P, off, none⟩ = false := (FR.o.frozen (p := ⟨P, off, none⟩) (by show P < _; omega) (fun e => HA.o.ne e.symm)).trans HJ.o.fz
 refine wpO_eff rfl rfl fun K hK => sz ?_
 refine hK _ _ (fun h => by simp at h) ?_
 clear hK K
 refine wpO_nil ?_
 go_wp2
 go_ret
 have := HJ.o.len
 refine ⟨.slice A1 (xs.length + 1) k1, rt_int (wrap64_len HJ.o.len), ?_, ?_, ?_, ?_⟩
 · exact R1.o.fr ((Fr.refl (One P) w1).setCell ⟨P, off, none⟩ _ (fun _ => rfl)) (fun k hk => ⟨ltl (HJ.o.lt k hk) FR.o.size, fun e => (HA.o.own k hk).2 e⟩) (fun k hk e => by
    rcases HV.o k hk with h1 | h1
    · exact HA.o.ne (h1.trans (congrArg some e))
    · have e : k = P := e
      omega)
 · exact (((F0.o.trans F1.o i3).mono (M := fun k => k = P ∨ v.ownBlock = some k) (fun _ _ h => h.elim)).trans FR.o (fun _ _ h => .inr h.symm)).setCell _ _ (fun _ => .inl rfl)
 · intro T cs hb
   exact blk_gone ((hb.fr F0.o id).fr F1.o id) FR.o HA.o.ne _
 intro k hk
 rcases HV.o k hk with h1 | h1
 · exact .inl h1
 exact .inr ⟨h1.1, by simpa [World.setCell] using h1.2⟩) : P := h
theorem yy2 {P : Prop} (h : P := by
 refine HP.o.mono ?_
 rintro e w' ⟨rfl, rfl⟩
 go_wp2_with fail
 refine (HN.o _).mono ?_
 rintro e w' ⟨rfl, rfl⟩
 go_wp2_with fail
 have hn9 : n * 256 ≤ 1000000 := om
 have hw1 : IntKind.i64.wrap (n : Int) = n := by rw [IntKind.wrap_i64]; omega
 have hw2 : IntKind.i64.wrap ((n : Int) * 256) = ((n * 256 : Nat) : Int) := by rw [IntKind.wrap_i64]; omega
 refine rwO (fun X => Ce X p 3 (.slice (some ⟨q, 0, none⟩) B.length c)) [12] (List.range 13) [6, 9, 12] c3 ?_
 refine rC ?_
 refine wpO_eff rfl rfl fun K hK => sz ?_
 refine (HN.o _).mono ?_
 rintro e w' ⟨rfl, rfl⟩
 refine hK _ _ (fun _ => c3) ?_
 clear hK K
 refine rC ?_
 refine wpO_eff rfl rfl (fun K hK => ?_)
 simp only [zA]
 refine opwp_app0 (xs := Ks .u8 B) (k := n * 256) elBs underlying3 rfl rfl rfl rfl rfl (HM.o.frNo (Fr.refl No w).drew).own sm so hn9 om ?_
 intro q' c' w3 hown f hq
 have hne := HM.o.ne
 have HP3 := hid (HM.o.hp.drew.fr f (fun x => hne x))
 have e9 : Ks .u8 B ++ List.replicate (n * 256) (Value.int .u8 0) = Ks .u8 (B ++ List.replicate (n * 256) 0) := by simp [Ks]
 rw [e9] at hown
 have HO := hid hown
 have F3 := hid ((Fr.refl (One q) w).drew.trans f i3)
 have HQ := hid hq
 clear hown f hq e9
 refine hK _ _ (fun _ => HP3.o.cell 3) ?_
 clear hK K
 simp only [zC, Act.put]
 refine rC ?_
 have z3 := HP3.o.cell 3
 have q3 := HP3.o.frozen 3
 have hlt := HP3.o.lt
 refine wpO_eff rfl rfl fun K hK => sz ?_
 refine hK _ _ (fun h => by cases h) ?_
 clear hK K
 refine wpO_nil ?_
 have hlB : (Ks .u8 B).length = B.length := by simp
 have FZ := (Fr.refl (One p) w3).setCell ⟨p, 3, none⟩ (.slice (some ⟨q', 0, none⟩) (B.length + n * 256) c') (fun _ => rfl)
 have hpq : p ≠ q' := by
  rcases HQ.o with h | h
  · rw [h]; exact HM.o.ne
  rw [h]; exact Nat.ne_of_lt HM.o.hp.lt
 have hfin : Mo (w3.setCell ⟨p, 3, none⟩ (.slice (some ⟨q', 0, none⟩) (B.length + n * 256) c')) p q' c' l (B ++ List.replicate (n * 256) 0) := by
  refine ⟨?_, HO.o.fr FZ (fun h => hpq h.symm), Bts.app HM.o.bts (zeros_bts _)⟩
  have := HP3.o.set_ 3 (.slice (some ⟨q', 0, none⟩) (B.length + n * 256) c')
  simpa using this
 have HFIN := hid hfin
 have F9 := hid ((F3.o.mono (M := Two p q) (fun _ _ h => .inr h)).trans FZ (fun _ _ h => .inl h))
 clear hfin FZ z3 q3
 go_wp2
 go_ret
 refine ⟨?_, q', c', by simpa using HFIN.o, by simpa using F9.o, ?_⟩
 · first | rfl | exact ret_int om
 rcases HQ.o with h | h
 · exact .inl h
 exact .inr (Nat.le_of_eq h.symm)) : P := h
theorem yy3 {P : Prop} (h : P := by
 obtain ⟨A1, k1, e1, _, _, _⟩ := R1.o.els (S' := fun _ => True) tvv tvv
 subst e1
 go_ret
 rw [← HN.o]
 refine ⟨A1, k1, rfl, ?_, F2.o⟩
 have := R1.o
 simpa [HN.o] using this) : P := h
theorem yy4 {P : Prop} (h : P := by
 have h1 := H.2 j (ready_mono hj hji)
 obtain ⟨hjun, oj, hoj, hall⟩ := mem_ready.1 hj
 have hnot : ∀ e ∈ oj.after, Region.binds md e = true → e.on ≠ i := fun e he hb heq => by
  have h1 := hall e he hb
  have h0 := (mem_ready.1 hr).1
  rw [heq] at h1
  rcases Nat.lt_or_ge i L.size with h' | h'
  · simp [h'] at h0 h1; rw [h0] at h1; cases h1
  simp [Array.getElem?_eq_none h'] at h1
 have h2 := wpOp_putQ hoj (hfree j oj hoj hji hjun hnot) (fun cs b => hsel i oi cs b hi) (fun cs b => hsel j oj cs b hoj) hQ hy h1
 have hfree' : ∀ k ok, ops[k]? = some ok → k ≠ i → (L.setIfInBounds j true).getD k true = false →
     (∀ e ∈ ok.after, Region.binds md e = true → e.on ≠ i) → oi.apart ops ok = true := fun k ok hk hki hun hno => by
  refine hfree k ok hk hki ?_ hno
  by_cases hjk : j = k
  · subst hjk; exact hjun
  rw [getD_set_ne true hjk] at hun; exact hun
 refine wpOp_mono (fun a' w' h3 => ?_) h2
 have h4 : SL S fins (L.setIfInBounds j true) w' := by
  refine SL_unset (i := i) hif ?_
  rw [← Array.setIfInBounds_comm _ _ (Ne.symm hji)]
  exact h3.2.1
 refine ⟨h4, ih (L.setIfInBounds j true) a' w' (clo_set hc hj) hfree' (ready_mono hr (Ne.symm hji)) h3.1 h4 ?_⟩
 rw [Array.setIfInBounds_comm _ _ hji]
 exact h3.2.2) : P := h
theorem yy5 {P : Prop} (h : P := by
 have hkn : k = xs.length := om
 subst hkn
 rw [List.take_length] at HR
 obtain ⟨A', c', rfl, HL⟩ := eachEnd HR.o
 go_wp2
 go_ret
 exact ⟨A', c', rfl, HL.o.1, HL.o.2.1, HL.o.2.2, F1.o⟩) : P := h
theorem yy6 {P : Prop} (h : P := by
 obtain ⟨F0, G0, G1, G2⟩ := bx1 w cs #[.int .i64 0, .bool false] 41 #[.int .i64 0, .int .u64 0] 84
 have z := G0.o.at_ e6
 clear h hS E6 e6
 go_enter func41, ntmps41
 go_upto_region 1 with fail
 generalize (((w.alloc (.cells cs.toArray 33)).alloc (.cells #[.int .i64 0, .bool false] 41)).alloc (.cells #[.int .i64 0, .int .u64 0] 84)) = W at *
 have u0 := G1.o.frozen 0
 have u1 := G1.o.frozen 1
 have u2 := G2.o.frozen 0
 have u3 := G2.o.frozen 1
 have v0 := G1.o.cell 0
 have v1 := G1.o.cell 1
 have v2 := G2.o.cell 0
 have v3 := G2.o.cell 1
 go_wp2
 refine bodyPost_ret (v := .tuple #[.agg #[.int .i64 0, .bool false], .agg #[.int .i64 0, .int .u64 0], .bool false]) (by simp [results, Tryz.results41, go_sem, v0, v1, v2, v3]) rfl ⟨rfl, ?_⟩
 exact (((F0.o.setCell ⟨w.heap.size + 1, 0, none⟩ _ (fun h => absurd h (by show ¬ w.heap.size + 1 < _; omega))).setCell ⟨w.heap.size + 1, 1, none⟩ _ (fun h => absurd h (by show ¬ w.heap.size + 1 < _; omega))).setCell ⟨w.heap.size + 1 + 1, 0, none⟩ _ (fun h => absurd h (by show ¬ w.heap.size + 1 + 1 < _; omega))).setCell ⟨w.heap.size + 1 + 1, 1, none⟩ _ (fun h => absurd h (by show ¬ w.heap.size + 1 + 1 < _; omega))) : P := h
theorem yy7 {P : Prop} (h : P := by
 refine ⟨⟨k + 1, hlt, rfl, F3, by rw [List.take_succ_eq_append_getElem hlt]; exact R3⟩, ?_⟩
 show xs.length - ((k : Int) + 1).toNat < xs.length - ((k : Int)).toNat
 omega) : P := h
theorem yy8 {P : Prop} (h : P := by
 go_wp2_with fail
 go_ret
 exact ⟨⟨false, rfl, fun e => by cases e⟩, F0.o⟩) : P := h
theorem yy9 {P : Prop} (h : P := by
 refine ⟨.slice A1 (xs.length + 1) k1, rt_int (wrap64_len HJ.o.len), ?_, ?_, ?_, ?_⟩
 · exact R1.o.fr ((Fr.refl (One P) w1).setCell ⟨P, off, none⟩ _ (fun _ => rfl)) (fun k hk => ⟨ltl (HJ.o.lt k hk) FR.o.size, fun e => (HA.o.own k hk).2 e⟩) (fun k hk e => by
    have e : k = P := e
    rcases HV.o with h1 | h1
    · rw [hk] at h1; exact HA.o.ne (h1.symm.trans (congrArg some e))
    · rw [hk] at h1; have := Option.some.inj h1; omega)
 · exact ((F0.o.mono (M := fun k => k = P ∨ v.ownBlock = some k) (fun _ _ h => h.elim)).trans FR.o (fun _ _ h => .inr h.symm)).setCell _ _ (fun _ => .inl rfl)
 · intro T cs hb
   exact blk_gone (hb.fr F0.o id) FR.o HA.o.ne _
 intro k hk
 rcases HV.o with h1 | h1
 · exact .inl (h1.symm.trans hk)
 refine .inr ?_
 obtain ⟨_, cs1, hb1⟩ := R1.o.own hk
 rw [hk] at h1
 have := Option.some.inj h1
 have := hb1.lt
 exact ⟨by omega, by simpa [World.setCell] using hb1.lt⟩) : P := h
theorem yy10 {P : Prop} (h : P := by
 go_enter func119, ntmps119
 go_wp2
 have G1 := (Blk.new w 188 #[.int .i64 0, .bool false, .int .i64 0, .int .u64 0]).alloc (.cells #[.int .i64 0, .bool false, .int .i64 0, .int .u64 0] 188)
 generalize (w.alloc (.cells #[.int .i64 0, .bool false, .int .i64 0, .int .u64 0] 188)).alloc (.cells #[.int .i64 0, .bool false, .int .i64 0, .int .u64 0] 188) = W at *
 have z0 := G1.cell 0
 have z1 := G1.cell 1
 have z2 := G1.cell 2
 have z3 := G1.cell 3
 exact bodyPost_ret (v := .tuple #[.agg #[.int .i64 0, .bool false, .int .i64 0, .int .u64 0], .bool false]) (by simp [results, Tryz.results119, go_sem, z0, z1, z2, z3]) rfl ⟨[.int .i64 0, .bool false, .int .i64 0, .int .u64 0], rfl, zRg_rd _ _, F0.o⟩) : P := h
theorem yy11 {P : Prop} (h : P := by
 go_upto_region 1 with fail
 try simp only [World.size_alloc]
 generalize (w.alloc (.cells (q6x12 A1 A2 f c1 c2) 78)).alloc (.cells (q6x13 B1 B2 g d1 d2) 78) = W at *
 generalize hp : w.heap.size = p at *
 clear hp
 have z0 := G0.o.cell 0
 have z1 := G1.o.cell 0
 go_wp2_with fail
 refine (HP.o _ F0.o).mono ?_
 rintro e w1 ⟨rfl, n, rfl⟩
 clear z0 z1
 have z0 := (G0.o.drewN n).cell 1
 have z1 := (G1.o.drewN n).cell 1
 have F1 := hid (F0.o.drewN n)
 generalize World.drewN W n = W1 at *
 cases q1 with
 | false =>
  go_wp2
  go_ret
  exact ⟨rfl, F1.o⟩
 | true =>
  go_wp2_with fail
  refine (HR.o _ F1.o).mono ?_
  rintro e w2 ⟨rfl, m, rfl⟩
  go_wp2
  go_ret
  exact ⟨by simp, F1.o.drewN m⟩) : P := h
theorem yy12 {P : Prop} (h : P := by
 rintro e w3 ⟨A1, c1, A2, c2, rfl, hn, f3⟩
 have HN := hid hn
 have F3 := ftr F2 f3
 have F3' := hid f3
 clear hn f3
 refine hK _ _ (F3.o) ?_
 clear hK K
 refine rT HX.o ?_
 have Gz := hid (Gz.o.fr F3'.o id)
 have hFZ := hid (fnVar_set HN.o Gz.o F3.o hsl (hge))
 obtain ⟨z0, z1⟩ := (⟨Gz.o.cell 0, Gz.o.cell 1⟩ : _ ∧ _)
 obtain ⟨q0, q1⟩ := (⟨Gz.o.frozen 0, Gz.o.frozen 1⟩ : _ ∧ _)
 refine wpT_eff rfl rfl fun K hK => sz ?_
 refine hK _ _ (hFZ.o.2.2.2) ?_
 clear hK K
 refine rT HX.o ?_
 refine wpT_nil ?_
 go_wp2_with fail
 go_meet
 exact ⟨_, A1, c1, A2, c2, rfl, rfl, hFZ.o⟩) : P := h
theorem yy13 {P : Prop} (h : P := by
 have hgo : ¬ some g = v.ownBlock := fun e => by
  obtain ⟨_, csr, hbr⟩ := (HA.o.row).own e.symm
  have := hbr.lt
  have := HG.o
  omega
 have hY := HX.o W1 F1.o
 exact ⟨(f.cell (p := ⟨P, off, none⟩) (by show P < _; omega) (fun e => HA.o.ne e.symm)).trans hY.1, (f.cell (p := ⟨g, 0, none⟩) (by show g < _; omega) hgo).trans hY.2.1, (f.cell (p := ⟨g, 1, none⟩) (by show g < _; omega) hgo).trans hY.2.2.1, (f.cell (p := ⟨g, 2, none⟩) (by show g < _; omega) hgo).trans hY.2.2.2.1, (f.cell (p := ⟨g, 3, none⟩) (by show g < _; omega) hgo).trans hY.2.2.2.2⟩) : P := h
theorem yy14 {P : Prop} (h : P := by
 go_enter func25, ntmps25
 go_wp2_with fail
 refine (HR.o _ F0.o).mono ?_
 rintro e w1 ⟨rfl, f1⟩
 have F1 := ftr F0 f1
 have G1 := hid (G0.o.fr f1 id)
 clear f1 HR
 have z0 := G1.o.cell 0
 have z1 := G1.o.cell 1
 have z2 := G1.o.cell 2
 have z3 := G1.o.cell 3
 go_wp2
 go_ret
 exact GrTo.no H.o F1.o) : P := h
theorem yy15 {P : Prop} (h : P := by
 go_wp2
 go_ret
 exact ⟨none, 0, rfl, Ty.row.nil _ _ _ _, Fr.refl No w⟩) : P := h
theorem yy16 {P : Prop} (h : P := by
 clear hi E
 go_enter func39, ntmps39
 go_upto_region 2 with fail
 generalize ((w.alloc (.cells cs.toArray 33)).alloc (.cells #[.int .i64 0, .int .i64 0, .bool false, .slice none 0 0] 89)) = W at *
 have HT : Hid (W.there (w.heap.size + 1) 0 4) := there_blk G1.o rfl
 go_wp2_with (first | refine stG (ds := [.int .i64 0, .int .i64 0, .bool false, .slice none 0 0]) HI.o HT.o rfl rfl ?_ | fail)
 exact rafin underlying89 HI.o F0.o om HT.o rfl (fun _ => zRm_rdR _ _)) : P := h
theorem yy17 {P : Prop} (h : P := by
 go_enter func117, ntmps117
 go_wp2
 have G1 := (Blk.new w 80 q4x1).alloc (.cells q4x1 80)
 generalize (w.alloc (.cells q4x1 80)).alloc (.cells q4x1 80) = W at *
 have z0 := G1.cell 0
 have z1 := G1.cell 1
 have z2 := G1.cell 2
 have z3 := G1.cell 3
 exact bodyPost_ret (v := .tuple #[.agg q4x1, .bool false]) (by simp [results, Tryz.results117, go_sem, z0, z1, z2, z3]) rfl ⟨[.slice none 0 0, .slice none 0 0, .int .i64 0, .int .i64 0], rfl, zFi_rd _ _, F0.o⟩) : P := h
theorem yy18 {P : Prop} (h : P := by
 clear hi E
 go_enter func35, ntmps35
 go_upto_region 2 with fail
 generalize ((w.alloc (.cells cs.toArray 33)).alloc (.cells q6x14 80)) = W at *
 have HT : Hid (W.there (w.heap.size + 1) 0 4) := there_blk G1.o rfl
 go_wp2_with (first | refine stG (ds := [.slice none 0 0, .slice none 0 0, .int .i64 0, .int .i64 0]) HI.o HT.o rfl rfl ?_ | fail)
 exact rafin underlying80 HI.o F0.o om HT.o rfl (fun _ => zFi_rdR _ _)) : P := h
theorem yy19 {P : Prop} (h : P := by
 rcases hv1 with e | e
 · exact .inl (e.symm.trans hk)
 refine .inr ?_
 obtain ⟨_, cs1, hb1⟩ := hr1.own hk
 rw [e] at hk; injection hk with hk
 have := HG.o
 exact ⟨by omega, hb1.lt⟩) : P := h
theorem yy20 {P : Prop} (h : P := by
 clear hi E
 go_enter func37, ntmps37
 go_upto_region 2 with fail
 generalize ((w.alloc (.cells cs.toArray 33)).alloc (.cells q6x10 126)) = W at *
 have HT : Hid (W.there (w.heap.size + 1) 0 5) := there_blk G1.o rfl
 go_wp2_with (first | refine stG (ds := q6x11) HI.o HT.o rfl rfl ?_ | fail)
 exact rafin underlying126 HI.o F0.o om HT.o rfl (fun _ => zRt_rdR _ _)) : P := h
theorem yy21 {P : Prop} (h : P := by
 rcases h with h | ⟨b, o, e, _⟩
 · exact h
 cases e) : P := h
theorem yy22 {P : Prop} (h : P := by
 intro i z t h1 h2
 have o := h.tbk (List.mem_of_getElem? h1)
 exact (h.tat i z t h1 h2).fr f (nP o.1 dc dc) (nP o.2 dc dc)) : P := h
theorem yy23 {P : Prop} (h : P := by
 intro i z t h1 h2
 have o := h.mbk (List.mem_of_getElem? h1)
 exact (h.mat i z t h1 h2).fr f (nP o.1 dc dc) (nP o.2 dc dc)) : P := h
theorem yy24 {P : Prop} (h : P := by
 go_wp2_with fail
 refine (HAL.o _).mono ?_
 rintro e w3 ⟨rfl, f3⟩
 have F3 := hid (F2.o.trans f3 (fun _ _ h => h))
 clear f3
 go_wp2_with fail
 go_ret
 exact ⟨rfl, F3.o⟩) : P := h
theorem yy25 {P : Prop} (h : P := by
 intro j oj _ hl
 rw [Array.getD_eq_getD_getElem?] at hl
 rcases Nat.lt_or_ge j l.toArray.size with h' | h'
 · simp at h'; simp [h'] at hl
 simp at h'; simp [h'] at hl) : P := h
theorem yy26 {P : Prop} (h : P := by
 refine ⟨w', hrun, ⟨_, r1, ?_, fun j => ?_⟩, fr_grown r2 rfl⟩
 · obtain ⟨es, rfl⟩ := h2; exact ⟨_, rfl⟩
 by_cases hj : j = i
 · subst hj
   simp only [if_true]
   exact Maps.atKey_put_same (k := .int .i64 j) h2 trivial _ _
 simp only [if_neg hj]
 rw [Maps.atKey_put_other (by simpa using hj), h3]) : P := h
theorem yy27 {P : Prop} (h : P := by
 intro hf
 refine k1 ?_
 cases hd' : d with
 | true =>
  obtain ⟨f, hfm, hl⟩ := hd hd'
  have := hf f hfm
  rw [getD_set_true hl] at this; cases this
 | false =>
  cases hcj : fins.contains j with
  | false => rfl
  | true =>
   have := hf j (by simpa using hcj)
   rw [hin] at this; cases this) : P := h
theorem yy28 {P : Prop} (h : P := by
 go_wp2_with fail
 refine (HAL.o _).mono ?_
 rintro e w3 ⟨rfl, f3⟩
 have F3 := ftr F2 f3
 clear f3
 go_wp2_with fail
 go_ret
 exact ⟨rfl, F3.o⟩) : P := h
theorem yy29 {P : Prop} (h : P := by
 go_enter func115, ntmps115
 go_wp2
 exact bodyPost_ret (v := .tuple #[.agg #[.slice none 0 0, .slice none 0 0], .bool false]) (by simp [results, Tryz.results115, go_sem]) rfl ⟨none, 0, none, 0, rfl, .inl rfl, .inl rfl, ((Fr.refl No X).alloc _).alloc _⟩) : P := h
theorem yy30 {P : Prop} (h : P := by
 exact ⟨h.cell 0, h.cell 1, h.cell 2, h.cell 3, h.cell 4, h.cell 5, h.cell 6, h.cell 7, h.cell 8, h.cell 9, h.cell 10, h.cell 11⟩) : P := h
theorem yy31 {P : Prop} (h : P := by
 go_wp2_with fail
 refine HEX.o.mono ?_
 rintro e w6 ⟨rfl, f6⟩
 have F6 := ftr F5 f6
 clear f6 HEX
 go_wp2_with fail
 refine (HAL.o _).mono ?_
 rintro e w7 ⟨rfl, f7⟩
 have F7 := ftr F6 f7
 clear f7
 go_wp2_with fail
 go_ret
 exact ⟨rfl, F7.o⟩) : P := h
theorem yy32 {P : Prop} (h : P := by
 clear hV
 go_enter func53, ntmps53
 go_wp2
 go_ret
 exact ⟨rfl, F0.o⟩) : P := h
theorem yy33 {P : Prop} (h : P := by
 rw [if_neg hg]
 go_enter func30, ntmps30
 go_wp2_with fail
 refine HP.o.mono ?_
 rintro e w' ⟨rfl, rfl⟩
 go_wp2_with fail
 refine (HN.o _).mono ?_
 rintro e w' ⟨rfl, rfl⟩
 go_wp2
 go_ret
 exact ⟨rfl, q, c, HM.o, Fr.refl _ _, .inl rfl⟩) : P := h
theorem yy34 {P : Prop} (h : P := by
 go_upto_region 6 with fail
 clear y0 y1 y2 y3 y4 y5
 refine rwO (Fr No wr) [] (List.range 28) [] (Fr.refl _ _).drew ?_
 refine rO HY.o ?_
 refine wpO_nil ?_
 go_wp2_with fail
 go_ret
 exact ⟨⟨false, rfl, fun e => by cases e⟩, FDW.o⟩) : P := h
theorem yy35 {P : Prop} (h : P := by
 have := hc (12 + j) u (by rw [List.getElem?_append_right (by omega), hl1, Nat.add_sub_cancel_left]; exact hu)
 rw [show o + k * 18 + 12 + j = o + (k * tRi.size + (12 + j)) by show _ = o + (k * 18 + (12 + j)); omega]
 exact this) : P := h
theorem yy36 {P : Prop} (h : P := by
 go_enter func34, ntmps34
 go_wp2
 exact bodyPost_ret (v := .tuple #[.agg #[.slice none 0 0, .slice none 0 0], .bool false]) (by simp [results, Tryz.results34, go_sem]) rfl ⟨none, 0, none, 0, rfl, .inl rfl, .inl rfl, F1.o⟩) : P := h
theorem yy37 {P : Prop} (h : P := by
 clear el9 ROW hc9
 rw [List.length_map]
 go_wp2_with fail
 go_ret3
 refine ⟨F0.o.trans F.o i3, .inr ⟨fun im him => ?_, A9, c9, HC9.o, rfl, EL9.o⟩⟩
 obtain ⟨j, hj, rfl⟩ := List.getElem_of_mem him
 exact HZ.o j hj hj) : P := h
theorem yy38 {P : Prop} (h : P := by
 go_wp2
 go_roundw
 case rel =>
  refine ⟨k + 1, _, by omega, by go_num, rfl, ?_⟩
  rw [List.take_succ_eq_append_getElem hlt, List.take_succ_eq_append_getElem (by omega), HQ.o, HX.o, HY.o, HXY.o]
 simp [intOf]; omega) : P := h
theorem yy39 {P : Prop} (h : P := by
 have hr := HRX.o
 rw [if_neg dc] at hr
 subst hr
 clear HRX
 go_wp2_with fail
 go_ret
 exact ⟨rfl, F1.o.alloc _⟩) : P := h
theorem yy40 {P : Prop} (h : P := by
 clear hx hg
 go_enter func33, ntmps33
 go_wp2_with fail
 refine HG.o.mono ?_
 rintro e w1 ⟨rfl, f1⟩
 have F1 := ftr F0 f1
 clear HG f1 F0 G0
 simp only [Option.map, ptrV]
 go_wp2
 go_ret
 exact ⟨rfl, F1.o⟩) : P := h
theorem yy41 {P : Prop} (h : P := by
 rw [Array.toArray_toList, Array.toArray_toList] at h
 exact h.mono fun e w' h => ⟨h.1, h.2.below⟩) : P := h
theorem yy42 {P : Prop} (h : P := by
 have hr : ri = (⟨0, 0⟩, 25) := HRI.o.trans (if_neg dc)
 go_wp2_with fail
 go_ret3
 exact ⟨FX5w.o, .inl ⟨k, HLT.o, HZ.o, by rw [← HRK.o, hr]; decide, by rw [← HRK.o, hr]; rfl⟩⟩) : P := h
theorem yy43 {P : Prop} (h : P := by
 refine HK1.o.mono ?_
 rintro e w6 ⟨rfl, f6⟩
 have F36 := ftr F35 f6
 clear f6 HK1
 go_wp2_with fail
 go_roundw
 case rel => exact ⟨k + 1, HLT.o, by go_num, F36.o⟩
 exact meas0 HLT.o) : P := h
theorem yy44 {P : Prop} (h : P := by
 intro c hc
 obtain ⟨i, hi, rfl⟩ := List.getElem_of_mem hc
 exact hok.len _ _ _ _ (h.2 i _ _ (List.getElem?_eq_getElem hi) (List.getElem?_eq_getElem (by rw [← h.1]; exact hi)))) : P := h
theorem yy45 {P : Prop} (h : P := by
 intro hdt
 cases hd' : d with
 | true => obtain ⟨f, hfm, hl⟩ := hd hd'; exact ⟨f, hfm, getD_set_true hl⟩
 | false => rw [hd'] at hdt; exact ⟨j, by simpa using hdt, hin⟩) : P := h
theorem yy46 {P : Prop} (h : P := by
 have F3 := ftr F2 f3
 clear f3 HMA
 go_wp2_with fail
 refine (HAL.o _).mono ?_
 rintro e w4 ⟨rfl, f4⟩
 have F4 := ftr F3 f4
 clear f4
 go_wp2_with fail
 go_ret
 exact ⟨rfl, F4.o⟩) : P := h
theorem yy47 {P : Prop} (h : P := by
 go_wp2
 go_ret
 refine ⟨ret_bool ?_, _, rfl⟩
 symm
 rw [decide_eq_true_eq]
 have h := HQ.o
 have h' := hL.o
 rwa [List.take_of_length_le om, List.take_of_length_le om] at h) : P := h
theorem yy48 {P : Prop} (h : P := by
 have h2 := B1.o.fr f id
 exact ⟨h2.cell 0, h2.cell 1, h2.cell 2, h2.cell 3, h2.cell 4, h2.cell 5, h2.cell 6, h2.cell 7, h2.cell 8, h2.cell 9, h2.cell 10, h2.cell 11⟩) : P := h
theorem yy49 {P : Prop} (h : P := by
 go_wp2
 go_ret2
 exact ⟨rfl, Fr.refl _ _⟩) : P := h
theorem yy50 {P : Prop} (h : P := by
 unfold wpOp
 simp only [ho, hw, if_true]
 exact .inl (h _ fun a' w' h1 h2 => ⟨h1, h2⟩)) : P := h
theorem yy51 {P : Prop} (h : P := by
 go_round
 case measure => show n - (((k : Int) + 1)).toNat < n - ((k : Int)).toNat; omega
 exact ⟨k + 1, hlt, rfl, by rw [hy], F1.o, H0.o, by rw [hy]; exact H1.o⟩) : P := h
theorem yy52 {P : Prop} (h : P := by
 rw [List.take_succ_eq_append_getElem hlt, List.map_append, ← List.append_assoc]
 rfl) : P := h
theorem yy53 {P : Prop} (h : P := by
 go_enter func12, ntmps12
 go_wp2
 go_ret
 exact ⟨rfl, F0.o⟩) : P := h
theorem yy54 {P : Prop} (h : P := by
 go_wp2_with fail
 go_ret
 exact ⟨⟨false, rfl, fun e => by cases e⟩, F.o⟩) : P := h
theorem yy55 {P : Prop} (h : P := by
 go_wp2_with fail
 refine (HAL.o _).mono ?_
 rintro e wa ⟨rfl, fa⟩
 have FA := ftr F1 fa
 clear fa
 go_wp2_with fail
 go_ret
 exact ⟨rfl, FA.o⟩) : P := h
theorem yy56 {P : Prop} (h : P := by
 go_wp2_with fail
 refine (HAL.o _).mono ?_
 rintro e w2 ⟨rfl, f2⟩
 have F2 := ftr F1 f2
 clear f2
 go_wp2_with fail
 go_ret
 exact ⟨rfl, F2.o⟩) : P := h
theorem yy57 {P : Prop} (h : P := by
 unfold lastF
 rw [List.take_succ_eq_append_getElem hk, List.reverse_append, List.reverse_singleton, List.singleton_append, List.find?_cons, h]) : P := h
theorem yy58 {P : Prop} (h : P := by
 rw [hi0] at e1 e2
 simp only [List.getElem?_cons_zero, Option.some.injEq] at e1 e2
 subst e1 e2
 exact hm.fr h3 (nP hz.1 dc dc) (nP hz.2 dc dc)) : P := h
theorem yy59 {P : Prop} (h : P := by
 simp [dec, h0, h2, h3, h4, headN, headX, headL, conts, k1, Utf8.runeError]) : P := h
theorem yy60 {P : Prop} (h : P := by
 simp only [SpV.bring]; split <;> (try simp) <;> omega) : P := h
theorem hid {p : Prop} (h : p) : Hid p := h
theorem zA : (∀ {α : Type} {l : List α} {i : Nat} (h : i < l.toArray.size), l.toArray[i] = l[i]'(by simpa using h)) ∧ (∀ {α : Type} (a : α) (l : List α) (i : Nat) (h : i + 1 < (a :: l).length), (a :: l)[i + 1] = l[i]'(by simpa using h)) ∧ ∀ {α : Type} (a : α) (l : List α) (h : 0 < (a :: l).length), (a :: l)[0] = a :=
 ⟨fun h => List.getElem_toArray h, fun _ _ _ _ => rfl, fun _ _ _ => rfl⟩
theorem zC : (∀ {α : Type} {l : List α} {i : Nat} {a : α}, l.toArray.setIfInBounds i a = (l.set i a).toArray) ∧ (∀ {α : Type} (a b : α) (l : List α), (a :: l).set 0 b = b :: l) ∧ ∀ {α : Type} (a b : α) (l : List α) (i : Nat), (a :: l).set (i + 1) b = a :: l.set i b :=
 ⟨fun {_ l i a} => List.setIfInBounds_toArray l i a, fun _ _ _ => rfl, fun _ _ _ _ => rfl⟩
structure Fr (M : Nat → Prop) (w w' : World) : Prop where
 os : w'.os = w.os
 tape : w'.tape = w.tape
 output : w'.output = w.output
 size : w.heap.size ≤ w'.heap.size
 block : ∀ k, k < w.heap.size → ¬ M k → w'.heap[k]? = w.heap[k]?
def No : Nat → Prop := fun _ => False
def One (q : Nat) : Nat → Prop := fun k => k = q
def Two (p q : Nat) : Nat → Prop := fun k => k = p ∨ k = q
section
variable {M N : Nat → Prop} {a b c w w' : World}
theorem Fr.refl (M : Nat → Prop) (w : World) : Fr M w w := ⟨rfl, rfl, rfl, nr, fun _ _ _ => rfl⟩
theorem Fr.trans (h : Fr M a b) (k : Fr N b c) (hm : ∀ i, i < a.heap.size → N i → M i) : Fr M a c :=
 ⟨k.os.trans h.os, k.tape.trans h.tape, k.output.trans h.output, Nat.le_trans h.size k.size, fun i hi hn =>
  (k.block i (ltl hi h.size) (fun x => hn (hm i hi x))).trans (h.block i hi hn)⟩
theorem Fr.mono (h : Fr N a b) (hm : ∀ i, i < a.heap.size → N i → M i) : Fr M a b :=
 ⟨h.os, h.tape, h.output, h.size, fun i hi hn => h.block i hi (fun x => hn (hm i hi x))⟩
theorem Fr.drew (h : Fr M a w) : Fr M a w.drew := ⟨h.os, h.tape, h.output, h.size, h.block⟩
theorem Fr.drewN (h : Fr M a w) (n : Nat) : Fr M a (w.drewN n) := ⟨h.os, h.tape, h.output, h.size, h.block⟩
theorem Fr.alloc (h : Fr M a w) (o : Obj) : Fr M a (w.alloc o) :=
 ⟨h.os, h.tape, h.output, by have := h.size; simp; omega, fun k hk hn => (Below.heap_alloc w o k (ltl hk h.size)).trans (h.block k hk hn)⟩
theorem Fr.setCell (h : Fr M a w) (p : Addr) (u : Value) (hp : p.block < a.heap.size → M p.block) : Fr M a (w.setCell p u) :=
 ⟨h.os, h.tape, h.output, by simpa [World.setCell] using h.size, fun k hk hn => by
  by_cases e : k = p.block
  · exact absurd (e ▸ hp (e ▸ hk)) (e ▸ hn)
  · exact (Below.heap_setCell w p u k e).trans (h.block k hk hn)⟩
theorem Fr.of_below (h : Below a.heap.size a b) : Fr M a b := ⟨h.os, h.tape, h.output, h.size, fun k hk _ => h.block k hk⟩
theorem Fr.below (h : Fr No a b) : Below a.heap.size a b := ⟨h.os, h.tape, h.output, h.size, fun k hk => h.block k hk id⟩
theorem Fr.of_grown {row : Option Nat} (h : a.grownBy b row) : Fr (fun k => some k = row) a b := ⟨h.os, h.tape, h.output, h.size, h.block⟩
theorem Fr.cell (h : Fr M w w') {p : Addr} (hp : p.block < w.heap.size) (hn : ¬ M p.block) : w'.cell? p = w.cell? p := World.cell?_of_block (w := w) (h.block p.block hp hn)
theorem Fr.frozen (h : Fr M w w') {p : Addr} (hp : p.block < w.heap.size) (hn : ¬ M p.block) : w'.frozen? p = w.frozen? p := World.frozen?_of_block (w := w) (h.block p.block hp hn)
end
def Blk (w : World) (g : Nat) (t : TypeId) (cs : Array Value) : Prop := w.heap[g]? = some (.cells cs t (0, 0))
section
variable {M : Nat → Prop} {w w' : World} {g : Nat} {t : TypeId} {cs : Array Value}
theorem Blk.lt (h : Blk w g t cs) : g < w.heap.size := by
 rcases Nat.lt_or_ge g w.heap.size with hlt | hge
 · exact hlt
 unfold Blk at h; rw [Array.getElem?_eq_none hge] at h; cases h
theorem Blk.cell (h : Blk w g t cs) (i : Nat) : w.cell? ⟨g, i, none⟩ = cs[i]? := cell_of_row w g i cs t (0, 0) h
theorem Blk.frozen (h : Blk w g t cs) (i : Nat) : w.frozen? ⟨g, i, none⟩ = false := by
 unfold Blk at h
 simp [World.frozen?, h]
theorem Blk.new (w : World) (t : TypeId) (cs : Array Value) : Blk (w.alloc (.cells cs t)) w.heap.size t cs := heap_alloc_new w _
theorem Blk.new1 (w : World) (o : Obj) (t : TypeId) (cs : Array Value) : Blk ((w.alloc o).alloc (.cells cs t)) (w.heap.size + 1) t cs := by
 have := Blk.new (w.alloc o) t cs
 simpa using this
theorem Blk.drew (h : Blk w g t cs) : Blk w.drew g t cs := h
theorem Blk.drewN (h : Blk w g t cs) (n : Nat) : Blk (w.drewN n) g t cs := h
theorem Blk.alloc (h : Blk w g t cs) (o : Obj) : Blk (w.alloc o) g t cs := (Below.heap_alloc w o g h.lt).trans h
theorem Blk.set_ (h : Blk w g t cs) (i : Nat) (u : Value) : Blk (w.setCell ⟨g, i, none⟩ u) g t (cs.setIfInBounds i u) := by
 unfold Blk at h ⊢
 simp [World.setCell, Array.getElem?_modify, h]
theorem Blk.far (h : Blk w g t cs) {p : Addr} (hp : g ≠ p.block) (u : Value) : Blk (w.setCell p u) g t cs := (Below.heap_setCell w p u g hp).trans h
theorem Blk.fr (h : Blk w g t cs) (f : Fr M w w') (hg : ¬ M g) : Blk w' g t cs := (f.block g h.lt hg).trans h
theorem Blk.ne_ {g' : Nat} {t' : TypeId} {cs' : Array Value} (h : Blk w g t cs) (h' : Blk w g' t' cs') (hne : t ≠ t') : g ≠ g' := by
 rintro rfl
 unfold Blk at h h'
 rw [h] at h'
 injection h' with h'
 injection h' with _ ht
 exact hne ht
end
def Rd (w : World) (B : Nat) (A : OA) (xs : LV) : Prop :=
 xs = [] ∨ ∃ b o, A = some ⟨b, o, none⟩ ∧ b < B ∧ ∀ k u, xs[k]? = some u → w.cell? ⟨b, o + k, none⟩ = some u
section
variable {M : Nat → Prop} {w w' : World} {B B' : Nat} {A : OA} {xs : LV}
theorem Rd.fr (h : Rd w B A xs) (hb : Fr M w w') (hM : ∀ k, k < B → ¬ M k) : Rd w' B A xs := by
 rcases h with rfl | ⟨b, o, e, hlt, hc⟩
 · exact .inl rfl
 exact .inr ⟨b, o, e, hlt, fun k u hu => (hb.cell (p := ⟨b, o + k, none⟩) (World.block_lt_of_cell? w ⟨b, o + k, none⟩ (hc k u hu)) (hM b hlt)).trans (hc k u hu)⟩
theorem Rd.frNo (h : Rd w B A xs) (hb : Fr No w w') : Rd w' B A xs := h.fr hb (fun _ _ x => x)
theorem Rd.drew (h : Rd w B A xs) : Rd w.drew B A xs := h
theorem Rd.blk {q : Nat} {t : TypeId} {cs : Array Value} (hq : Blk w q t cs) (hb : q < B) (o : Nat) (hx : ∀ (k : Nat) (u : Value), xs[k]? = some u → cs[o + k]? = some u) : Rd w B (some ⟨q, o, none⟩) xs :=
 .inr ⟨q, o, rfl, hb, fun k u hu => by rw [hq.cell]; exact hx k u hu⟩
end
theorem ftr {M : Nat → Prop} {a b c : World} (h : Go.RowKit.Hid (Fr M a b)) (f : Fr M b c) : Go.RowKit.Hid (Fr M a c) := hid (h.o.trans f i3)
theorem sz {G H : Prop} (g : G) (h : G → H := by intro g; simp only [zA]; go_simp; exact g) : H := h g
def oq (l e : List Nat) : List (Nat × Bool) := l.map fun i => (i, !e.contains i)
theorem kHx {n : Int} (h : (Lit.int .u64 n).wf = true) : 0 ≤ n ∧ n < 18446744073709551616 := by
 have : 0 ≤ n ∧ n ≤ 18446744073709551615 := by simpa [Lit.wf, IntKind.min, IntKind.max, IntKind.signed, IntKind.bits] using h
 omega
theorem kCg {n : Int} (h : (Lit.int .i64 n).wf = true) : -9223372036854775808 ≤ n ∧ n ≤ 9223372036854775807 := by
 have : -9223372036854775808 ≤ n ∧ n ≤ 9223372036854775807 := by simpa [Lit.wf, IntKind.min, IntKind.max, IntKind.signed, IntKind.bits] using h
 omega
structure Ty (α : Type) where
 size : Nat
 rd : World → (Nat → Prop) → LV → α → Prop
 le : Nat → α → Prop
 bytes : Nat
 lw : Nat → α → Prop
def Ty.int (k : IntKind) : Ty Int := ⟨1, fun _ _ cs n => cs = [.int k n] ∧ (Lit.int k n).wf = true, fun _ _ => True, k.bits / 8, fun _ _ => True⟩
def Ty.bool : Ty Bool := ⟨1, fun _ _ cs b => cs = [.bool b], fun _ _ => True, 1, fun _ _ => True⟩
def Ty.str : Ty ByteArray := ⟨1, fun _ _ cs s => cs = [.string s] ∧ s.size ≤ maxLen, fun m s => s.size ≤ m, 16, fun m s => s.size ≤ m⟩
def Ty.unit : Ty Unit := ⟨0, fun _ _ cs _ => cs = [], fun _ _ => True, 0, fun _ _ => True⟩
def Ty.pair {α β : Type} (s : Ty α) (t : Ty β) : Ty (α × β) :=
 ⟨s.size + t.size, fun w S cs x => ∃ c1 c2, cs = c1 ++ c2 ∧ s.rd w S c1 x.1 ∧ t.rd w S c2 x.2, fun m x => s.le m x.1 ∧ t.le m x.2, s.bytes + t.bytes, fun m x => s.lw m x.1 ∧ t.lw m x.2⟩
def Ty.iso {α β : Type} (t : Ty β) (g : α → β) : Ty α := ⟨t.size, fun w S cs x => t.rd w S cs (g x), fun m x => t.le m (g x), t.bytes, fun m x => t.lw m (g x)⟩
def Ty.els {α : Type} (t : Ty α) (w : World) (S : Nat → Prop) (A : OA) (xs : List α) : Prop :=
 xs = [] ∨ ∃ b o, A = some ⟨b, o, none⟩ ∧ S b ∧ ∀ (i : Nat) (x : α), xs[i]? = some x →
  ∃ ds, (∀ (j : Nat) (u : Value), ds[j]? = some u → w.cell? ⟨b, o + (i * t.size + j), none⟩ = some u) ∧ t.rd w S ds x
def Ty.slice {α : Type} (t : Ty α) : Ty (List α) :=
 ⟨1, fun w S cs xs => ∃ A c, cs = [.slice A xs.length c] ∧ xs.length ≤ c ∧ c ≤ maxLen ∧ t.els w S A xs, fun m xs => xs.length ≤ m ∧ ∀ x ∈ xs, t.le m x, 24, fun m xs => xs.length ≤ m ∧ xs.length * t.bytes ≤ m ∧ ∀ x ∈ xs, t.lw m x⟩
class TyOk {α : Type} (t : Ty α) : Prop where
 len : ∀ w S cs x, t.rd w S cs x → cs.length = t.size
 keep : ∀ w w' S cs x, t.rd w S cs x → (∀ p : Addr, S p.block → w'.cell? p = w.cell? p) → t.rd w' S cs x
instance (k : IntKind) : TyOk (Ty.int k) := ⟨fun _ _ _ _ h => by rw [h.1]; rfl, fun _ _ _ _ _ h _ => h⟩
instance : TyOk Ty.bool := ⟨fun _ _ _ _ h => by rw [show _ = _ from h]; rfl, fun _ _ _ _ _ h _ => h⟩
instance : TyOk Ty.str := ⟨fun _ _ _ _ h => by rw [h.1]; rfl, fun _ _ _ _ _ h _ => h⟩
instance {α β : Type} (s : Ty α) (t : Ty β) [hs : TyOk s] [ht : TyOk t] : TyOk (s.pair t) :=
 ⟨fun w S cs x ⟨c1, c2, e, h1, h2⟩ => by rw [e, List.length_append, hs.len _ _ _ _ h1, ht.len _ _ _ _ h2]; rfl,
  fun w w' S cs x ⟨c1, c2, e, h1, h2⟩ hk => ⟨c1, c2, e, hs.keep _ _ _ _ _ h1 hk, ht.keep _ _ _ _ _ h2 hk⟩⟩
instance {α β : Type} (t : Ty β) (g : α → β) [ht : TyOk t] : TyOk (t.iso g) :=
 ⟨fun w S cs x h => ht.len w S cs (g x) h, fun w w' S cs x h hk => ht.keep w w' S cs (g x) h hk⟩
theorem Ty.els.keep {α : Type} {t : Ty α} [ht : TyOk t] {w w' : World} {S : Nat → Prop} {A : OA} {xs : List α} (h : t.els w S A xs) (hk : ∀ p : Addr, S p.block → w'.cell? p = w.cell? p) : t.els w' S A xs := by
 rcases h with h | ⟨b, o, e, hb, h⟩
 · exact .inl h
 refine .inr ⟨b, o, e, hb, fun i x hx => ?_⟩
 obtain ⟨ds, h1, h2⟩ := h i x hx
 exact ⟨ds, fun j u hu => (hk _ hb).trans (h1 j u hu), ht.keep _ _ _ _ _ h2 hk⟩
instance {α : Type} (t : Ty α) [ht : TyOk t] : TyOk t.slice :=
 ⟨fun w S cs xs ⟨A, c, e, _⟩ => by rw [e]; rfl, fun w w' S cs xs ⟨A, c, e, h1, h2, h3⟩ hk => ⟨A, c, e, h1, h2, h3.keep hk⟩⟩
theorem Ty.els.fr {α : Type} {t : Ty α} [TyOk t] {w w' : World} {S : Nat → Prop} {A : OA} {xs : List α} {M : Nat → Prop} (h : t.els w S A xs) (f : Fr M w w') (hM : ∀ k, S k → k < w.heap.size ∧ ¬ M k) : t.els w' S A xs :=
 h.keep fun _ hp => f.cell (hM _ hp).1 (hM _ hp).2
theorem Ty.els.at_ {α : Type} {t : Ty α} {w : World} {S : Nat → Prop} {A : OA} {xs : List α} (h : t.els w S A xs) (i : Nat) (hi : i < xs.length) :
    ∃ b o ds, A = some ⟨b, o, none⟩ ∧ S b ∧ (∀ (j : Nat) (u : Value), ds[j]? = some u → w.cell? ⟨b, o + (i * t.size + j), none⟩ = some u) ∧ t.rd w S ds xs[i] := by
 rcases h with h | ⟨b, o, e, hb, h⟩
 · subst h; simp at hi
 obtain ⟨ds, h1, h2⟩ := h i _ (List.getElem?_eq_getElem hi)
 exact ⟨b, o, ds, e, hb, h1, h2⟩
def kAL {α : Type} (P : Program) (t : TypeId) (ty : Ty α) : Prop :=
 ∀ (H : Type) (enc : TypeId × Value → H) (w : World) (fuel : Nat) (cs : LV) (x : DataW H × List MemPlace), DataW.trod enc P w 0 (fun _ => true) true fuel t cs = some x →
  ∃ y, ty.rd w (· < w.heap.size) cs y ∧ (∀ m, Rows.uptoBulk x.1 ≤ m → ty.le m y) ∧ ∀ m, (∀ n ∈ x.1.weights P t, n ≤ m) → ty.lw m y
theorem kAD {P : Program} {t : TypeId} {k : IntKind} (hu : P.underlying t = some (.int k)) : kAL P t (Ty.int k) := by
 intro H enc w fuel cs x h
 obtain ⟨n, h1, _, h3⟩ := DataW.trod_int hu h
 exact ⟨n, ⟨h1, h3⟩, fun _ _ => trivial, fun _ _ => trivial⟩
theorem kAy {P : Program} {t : TypeId} (hu : P.underlying t = some .bool) : kAL P t Ty.bool := by
 intro H enc w fuel cs x h
 obtain ⟨b, h1, _⟩ := DataW.trod_bool hu h
 exact ⟨b, h1, fun _ _ => trivial, fun _ _ => trivial⟩
theorem kAt {P : Program} {t : TypeId} (hu : P.underlying t = some .string) : kAL P t Ty.str := by
 intro H enc w fuel cs x h
 obtain ⟨s, h1, h2, h3⟩ := DataW.trod_string hu h
 refine ⟨s, ⟨h1, h3⟩, fun m hm => ?_, fun m hm => ?_⟩
 · subst h2
   simp only [Rows.uptoBulk, Array.length_toList] at hm
   show s.size ≤ m
   have : s.data.size = s.size := rfl
   omega
 subst h2
 have := hm s.data.toList.length (by simp [DataW.weights])
 show s.size ≤ m
 have : s.data.size = s.size := rfl
 simp at *
 omega
theorem kAH {α β : Type} {P : Program} {t : TypeId} {ty : Ty β} (g : α → β) (f : β → α) (hgf : ∀ y, g (f y) = y) (h : kAL P t ty) : kAL P t (ty.iso g) := by
 intro H enc w fuel cs x hx
 obtain ⟨y, h1, h2, h3⟩ := h H enc w fuel cs x hx
 exact ⟨f y, by show ty.rd _ _ _ (g (f y)); rw [hgf]; exact h1, fun m hm => by show ty.le m (g (f y)); rw [hgf]; exact h2 m hm, fun m hm => by show ty.lw m (g (f y)); rw [hgf]; exact h3 m hm⟩
theorem kDv {H : Type} {d : DataW H} : ∀ {l : List (DataW H)}, d ∈ l → Rows.uptoBulk d ≤ Rows.uptoBulkAll l
 | [], h => by cases h
 | e :: l, h => by
  simp only [Rows.uptoBulkAll]
  cases h with
  | head => omega
  | tail _ h => have := kDv h; omega
theorem kGs {H : Type} (d : DataW H) : 1 ≤ Rows.uptoBulk d := by
 cases d with
 | lit l => cases l <;> simp [Rows.uptoBulk]
 | _ => simp [Rows.uptoBulk]
theorem kDw {H : Type} : ∀ (l : List (DataW H)), l.length ≤ Rows.uptoBulkAll l
 | [] => by simp
 | e :: l => by simp only [Rows.uptoBulkAll, List.length_cons]; have := kDw l; have := kGs e; omega
theorem kCT {H : Type} {P : Program} {e : TypeId} {d : DataW H} {n : Nat} (hn : n ∈ d.weights P e) : ∀ {l : List (DataW H)}, d ∈ l → n ∈ DataW.weightsAll P e l
 | [], h => by cases h
 | c :: l, h => by
  simp only [DataW.weightsAll, List.mem_append]
  cases h with
  | head => exact .inl hn
  | tail _ h => exact .inr (kCT hn h)
theorem kBg {α β : Type} (R : β → α → Prop) : ∀ (l : List β), (∀ b ∈ l, ∃ a, R b a) → ∃ ys : List α, ys.length = l.length ∧ ∀ (i : Nat) (b : β) (a : α), l[i]? = some b → ys[i]? = some a → R b a
 | [], _ => ⟨[], rfl, by simp⟩
 | b :: l, h => by
  obtain ⟨a, ha⟩ := h b sm
  obtain ⟨ys, h1, h2⟩ := kBg R l (fun b hb => h b (by simp [hb]))
  refine ⟨a :: ys, by simp [h1], fun i b' a' e1 e2 => ?_⟩
  cases i with
  | zero => simp at e1 e2; subst e1; subst e2; exact ha
  | succ i => simp at e1 e2; exact h2 i b' a' e1 e2
theorem kAC {α : Type} {P : Program} {t e : TypeId} {ty : Ty α} (hu : P.underlying t = some (.slice e)) (hsz : P.cellsOf e = ty.size) (hpos : 0 < ty.size) (ho : kAL P e ty) (hby : decide (0 < P.bytesOf e) = true := by kernel_rfl) (hbw : decide (ty.bytes ≤ P.bytesOf e) = true := by kernel_rfl) : kAL P t ty.slice := by
 have hby' : 0 < P.bytesOf e := of_decide_eq_true hby
 intro H enc w fuel cs x h
 rcases DataW.trod_slice hu h with ⟨h1, h2⟩ | ⟨a, len, cap, elems, rest, n, _, hcs, hx, _, hlc, hcm, hel, hcells, _, _⟩
 · exact ⟨[], ⟨none, 0, h1, by simp, by simp [maxLen], .inl rfl⟩, fun m _ => ⟨by simp, by simp⟩, fun m _ => ⟨by simp, by simp, by simp⟩⟩
 rw [hsz] at hcells
 have hget : ∀ i, i < len → ∃ (y : α) (ds : LV) (el : DataW H × List MemPlace), elems[i]? = some el ∧ w.cells? 0 (a.add (i * ty.size)) ty.size = some ds ∧ ty.rd w (· < w.heap.size) ds y ∧ (∀ m, Rows.uptoBulk el.1 ≤ m → ty.le m y) ∧ ∀ m, (∀ n ∈ el.1.weights P e, n ≤ m) → ty.lw m y := by
  intro i hi
  have hc := hcells i hi
  have hsome : elems[i]? = some (elems[i]'om) := List.getElem?_eq_getElem om
  rw [hsome, Option.bind_eq_some_iff] at hc
  obtain ⟨ds, h1, h2⟩ := hc
  obtain ⟨y, h3, h4, h5⟩ := ho H enc w n ds _ h2
  exact ⟨y, ds, _, hsome, h1, h3, h4, h5⟩
 obtain ⟨ys, hyl, hys⟩ := kBg (fun (i : Nat) (y : α) => ∃ (ds : LV) (el : DataW H × List MemPlace), elems[i]? = some el ∧ w.cells? 0 (a.add (i * ty.size)) ty.size = some ds ∧ ty.rd w (· < w.heap.size) ds y ∧ (∀ m, Rows.uptoBulk el.1 ≤ m → ty.le m y) ∧ ∀ m, (∀ n ∈ el.1.weights P e, n ≤ m) → ty.lw m y) (List.range len)
  (fun i hi => hget i (by simpa using hi))
 simp only [List.length_range] at hyl
 refine ⟨ys, ⟨some a, cap, by rw [hcs, hyl], by omega, hcm, ?_⟩, fun m hm => ?_, fun m hm => ?_⟩
 · by_cases h0 : len = 0
   · left; exact List.eq_nil_of_length_eq_zero om
   right
   obtain ⟨y0, ds0, el0, _, hd0, _, _, _⟩ := hget 0 om
   obtain ⟨_, hl0, hc0⟩ := World.cells?_some hd0
   have hz := hc0 0 om
   rw [List.getElem?_eq_getElem (by omega)] at hz
   simp only [Nat.zero_mul] at hz
   have hz' : w.cell? a = some ds0[0] := by simpa [Addr.add] using hz
   obtain ⟨b, o, sp⟩ := a
   have hsp : sp = none := World.cell?_spot hz'
   subst hsp
   refine ⟨b, o, rfl, World.block_lt_of_cell? w _ hz', fun i y hy => ?_⟩
   have hi : i < len := by have := (List.getElem?_eq_some_iff.1 hy).1; omega
   obtain ⟨ds, el, _, hd, hr, _, _⟩ := hys i i y (by simp [hi]) hy
   obtain ⟨_, hl, hc⟩ := World.cells?_some hd
   refine ⟨ds, fun j u hu => ?_, hr⟩
   have hj : j < ty.size := by have := (List.getElem?_eq_some_iff.1 hu).1; omega
   have := hc j hj
   rw [hu, add_lit'', add_lit''] at this
   rw [← this, Nat.add_assoc]
 · subst hx
   simp only [Rows.uptoBulk] at hm
   refine ⟨by have := kDw (elems.map (·.1)); simp at this; omega, fun y hy => ?_⟩
   obtain ⟨i, hi, rfl⟩ := List.getElem_of_mem hy
   obtain ⟨ds, el, he, _, _, hle, _⟩ := hys i i _ (List.getElem?_range om) (List.getElem?_eq_getElem hi)
   refine hle m ?_
   have hmem : el ∈ elems := List.mem_of_getElem? he
   have := kDv (List.mem_map_of_mem (f := (·.1)) hmem)
   omega
 subst hx
 simp only [DataW.weights, hu] at hm
 have hl := hm _ (List.mem_cons_self ..)
 simp only [List.length_map] at hl
 refine ⟨?_, ?_, fun y hy => ?_⟩
 · have := Nat.le_mul_of_pos_right (elems.length + rest.length) hby'
   omega
 · exact Nat.le_trans (Nat.mul_le_mul om (of_decide_eq_true hbw)) hl
 obtain ⟨i, hi, rfl⟩ := List.getElem_of_mem hy
 obtain ⟨ds, el, he, _, _, _, hle⟩ := hys i i _ (List.getElem?_range om) (List.getElem?_eq_getElem hi)
 refine hle m fun n hn => hm n (List.mem_cons_of_mem _ (List.mem_append.2 (.inl ?_)))
 exact kCT hn (List.mem_map_of_mem (f := (·.1)) (List.mem_of_getElem? he))
where add_lit'' (b o j : Nat) : (⟨b, o, none⟩ : Addr).add j = ⟨b, o + j, none⟩ := by unfold Addr.add; split <;> simp_all
inductive Flds (P : Program) : {α : Type} → List Field → Nat → Ty α → Prop
 | nil {off : Nat} : Flds P [] off Ty.unit
 | one {α : Type} {f : Field} {off : Nat} {ty : Ty α} (h1 : f.offset = off) (h2 : P.cellsOf f.type = ty.size) (h3 : kAL P f.type ty) : Flds P [f] off ty
 | cons {α β : Type} {f : Field} {fs : List Field} {off : Nat} {ty : Ty α} {tys : Ty β} (h1 : f.offset = off) (h2 : P.cellsOf f.type = ty.size) (h3 : kAL P f.type ty) (h4 : Flds P fs (off + ty.size) tys) :
     Flds P (f :: fs) off (ty.pair tys)
theorem kFu {α : Type} {P : Program} {fs : List Field} {off : Nat} {ty : Ty α} (hf : Flds P fs off ty) : ∀ (H : Type) (enc : TypeId × Value → H) (w : World) (n : Nat) (cs : LV) (xs : List (DataW H × List MemPlace)),
    cs.length = off + ty.size → xs.length = fs.length →
    (∀ (i : Nat) (f : Field), fs[i]? = some f → DataW.trod enc P w 0 (fun _ => true) true n f.type ((cs.drop f.offset).take (P.cellsOf f.type)) = xs[i]?) →
    ∃ y, ty.rd w (· < w.heap.size) (cs.drop off) y ∧ (∀ m, Rows.uptoBulkAll (xs.map (·.1)) ≤ m → ty.le m y) ∧ ∀ m, (∀ n ∈ DataW.weightsEach P (fs.map (·.type)) (xs.map (·.1)), n ≤ m) → ty.lw m y := by
 induction hf with
 | nil =>
  intro H enc w n cs xs hl _ _
  refine ⟨(), ?_, fun _ _ => trivial, fun _ _ => trivial⟩
  show List.drop _ cs = []
  rw [List.drop_eq_nil_iff]
  simp [Ty.unit] at hl
  omega
 | one h1 h2 h3 =>
  rename_i f off ty
  intro H enc w n cs xs hl hx h
  obtain ⟨x, rfl⟩ : ∃ x, xs = [x] := by
   match xs, hx with
   | [x], _ => exact ⟨x, rfl⟩
  have := h 0 f rfl
  rw [h1, h2] at this
  simp only [List.getElem?_cons_zero] at this
  obtain ⟨y, r1, r2, r3⟩ := h3 H enc w n _ _ this
  rw [List.take_of_length_le (by simp; omega)] at r1
  exact ⟨y, r1, fun m hm => r2 m (by simp only [List.map_cons, List.map_nil, Rows.uptoBulkAll] at hm; omega), fun m hm => r3 m fun n hn => hm n (by simp only [List.map_cons, List.map_nil, DataW.weightsEach, List.append_nil]; exact hn)⟩
 | cons h1 h2 h3 h4 ih =>
  rename_i f fs off ty tys
  intro H enc w n cs xs hl hx h
  obtain ⟨x, xs', rfl⟩ : ∃ x xs', xs = x :: xs' := by
   match xs, hx with
   | x :: xs', _ => exact ⟨x, xs', rfl⟩
  have h0 := h 0 f rfl
  rw [h1, h2] at h0
  simp only [List.getElem?_cons_zero] at h0
  obtain ⟨y, r1, r2, r3⟩ := h3 H enc w n _ _ h0
  have hl' : cs.length = off + ty.size + tys.size := by rw [hl]; show off + (ty.size + tys.size) = _; omega
  obtain ⟨z, s1, s2, s3⟩ := ih H enc w n cs xs' hl' (by simpa using hx) (fun i g hg => by
   have := h (i + 1) g (by simpa using hg)
   simpa using this)
  refine ⟨(y, z), ⟨(cs.drop off).take ty.size, cs.drop (off + ty.size), ?_, r1, s1⟩, fun m hm => ?_, fun m hm => ?_⟩
  · rw [← List.drop_drop, List.take_append_drop]
  · simp only [List.map_cons, Rows.uptoBulkAll] at hm
    exact ⟨r2 m om, s2 m om⟩
  · simp only [List.map_cons, DataW.weightsEach, List.mem_append] at hm
    exact ⟨r3 m fun n hn => hm n (.inl hn), s3 m fun n hn => hm n (.inr hn)⟩
theorem kAF {α : Type} {P : Program} {t : TypeId} {fs : List Field} {ty : Ty α} (hu : P.underlying t = some (.struct fs.toArray)) (hsz : P.cellsOf t = ty.size) (hf : Flds P fs 0 ty) : kAL P t ty := by
 intro H enc w fuel cs x h
 obtain ⟨xs, n, _, hx, hl, hxl, hc⟩ := DataW.trod_struct hu h
 obtain ⟨y, h1, h2, h3⟩ := kFu hf H enc w n cs xs om (by simpa using hxl) (fun i f hf' => hc i f (by simpa using hf'))
 refine ⟨y, by simpa using h1, fun m hm => h2 m ?_, fun m hm => h3 m fun n hn => hm n ?_⟩
 · subst hx
   simp only [Rows.uptoBulk] at hm
   omega
 subst hx
 simpa only [DataW.weights, hu] using hn
class TyMore {α : Type} (t : Ty α) : Prop where
 more : ∀ w (S S' : Nat → Prop) cs x, t.rd w S cs x → (∀ k, S k → S' k) → t.rd w S' cs x
instance (k : IntKind) : TyMore (Ty.int k) := ⟨fun _ _ _ _ _ h _ => h⟩
instance : TyMore Ty.bool := ⟨fun _ _ _ _ _ h _ => h⟩
instance : TyMore Ty.str := ⟨fun _ _ _ _ _ h _ => h⟩
instance {α β : Type} (s : Ty α) (t : Ty β) [hs : TyMore s] [ht : TyMore t] : TyMore (s.pair t) :=
 ⟨fun _ _ _ _ _ ⟨c1, c2, e, h1, h2⟩ hB => ⟨c1, c2, e, hs.more _ _ _ _ _ h1 hB, ht.more _ _ _ _ _ h2 hB⟩⟩
instance {α β : Type} (t : Ty β) (g : α → β) [ht : TyMore t] : TyMore (t.iso g) := ⟨fun w S S' cs x h hB => ht.more w S S' cs (g x) h hB⟩
theorem Ty.els.more {α : Type} {t : Ty α} [ht : TyMore t] {w : World} {S S' : Nat → Prop} {A : OA} {xs : List α} (h : t.els w S A xs) (hB : ∀ k, S k → S' k) : t.els w S' A xs := by
 rcases h with h | ⟨b, o, e, hb, h⟩
 · exact .inl h
 refine .inr ⟨b, o, e, hB _ hb, fun i x hx => ?_⟩
 obtain ⟨ds, h1, h2⟩ := h i x hx
 exact ⟨ds, h1, ht.more _ _ _ _ _ h2 hB⟩
instance {α : Type} (t : Ty α) [ht : TyMore t] : TyMore t.slice := ⟨fun _ _ _ _ _ ⟨A, c, e, h1, h2, h3⟩ hB => ⟨A, c, e, h1, h2, h3.more hB⟩⟩
structure ElemOk (P : Program) (t e : TypeId) (size bytes : Nat) (z : Value) : Prop where
 slice : P.underlying t = some (.slice e)
 info : ∃ i, P.info? e = some i ∧ i.zero = some z ∧ i.size = size ∧ i.bytes = bytes
 zs : z.cells.size = size
 pos : 0 < size
theorem ElemOk.mk' {P : Program} {t e : TypeId} {size bytes : Nat} {z : Value} (h : P.underlying t = some (.slice e))
    (hi : (P.info? e).map (fun i => (i.zero, i.size, i.bytes)) = some (some z, size, bytes)) (hz : z.cells.size = size) (hp : 0 < size) : ElemOk P t e size bytes z := by
 refine ⟨h, ?_, hz, hp⟩
 cases hq : P.info? e with
 | none => simp [hq] at hi
 | some i =>
  simp [hq] at hi
  exact ⟨i, rfl, hi.1, hi.2.1, hi.2.2⟩
section
variable {P : Program} {t e : TypeId} {size bytes : Nat} {z : Value} {B base : Nat} {A : OA}
theorem kDe (E : ElemOk P t e size bytes z) (w : World) (ty : TypeId) {v : Value} {n : Nat} {xs : LV} (hown : w.ownsRow base e size v n xs) (c : Nat) :
    (Builtin.append_ #[t, t] ty #[v, .slice none 0 c]).run P w = .ok v w := by
 obtain ⟨i, hi, hz0, hz1, hz2⟩ := E.info
 rcases hown.2 with ⟨rfl, rfl⟩ | ⟨g, cap, cur, rfl, _, _, hnc, _⟩
 · simp [Builtin.append_, run_underlying E.slice, sizeOf, typeInfo, hi, Builtin.lenOf, Builtin.firstCells]
 simp [Builtin.append_, run_underlying E.slice, sizeOf, typeInfo, hi, Builtin.lenOf, Builtin.firstCells, hnc, storeCells]
theorem kCb (b o j : Nat) : (⟨b, o, none⟩ : Addr).add j = ⟨b, o + j, none⟩ := by unfold Addr.add; split <;> simp_all
theorem kCy (E : ElemOk P t e size bytes z) (w : World) (ty : TypeId) {v : Value} {n m : Nat} (c : Nat) {xs news : LV} (hown : w.ownsRow base e size v n xs)
    (hr : Rd w B A news) (hl : news.length = m * size) (h1 : ∀ u ∈ news, u.oneCell' = true)
    (h63 : n + m ≤ maxLen) (hbytes : (n + m) * bytes ≤ 140737488355328) (hbase : base ≤ w.heap.size) :
    ∃ v' w', (Builtin.append_ #[t, t] ty #[v, .slice A m c]).run P w = .ok v' w' ∧ w'.ownsRow base e size v' (n + m) (xs ++ news) ∧ Fr (fun k => some k = v.ownBlock) w w' ∧
     (v' = .slice none 0 0 ↔ v = .slice none 0 0 ∧ m = 0) ∧ (v'.ownBlock = v.ownBlock ∨ v'.ownBlock = some w.heap.size) := by
 obtain ⟨i, hi, hz0, hz1, hz2⟩ := E.info
 have key : A = none ∨ ∃ ad : Addr, A = some ad ∧ ∀ j u, news[j]? = some u → w.cell? (ad.add j) = some u := by
  rcases hr with rfl | ⟨b, o, rfl, hb, hc⟩
  · cases A with
    | none => exact .inl rfl
    | some ad => exact .inr ⟨ad, rfl, fun j u hu => by simp at hu⟩
  exact .inr ⟨⟨b, o, none⟩, rfl, fun j u hu => by rw [kCb]; exact hc j u hu⟩
 rcases key with rfl | ⟨ad, rfl, hc⟩
 · have hn : news = [] := by
    rcases hr with rfl | ⟨b, o, h, _⟩
    · rfl
    cases h
   subst hn
   have hm : m = 0 := by
    rcases Nat.eq_zero_or_pos m with h | h
    · exact h
    have := Nat.mul_pos h E.pos; simp at hl; omega
   subst hm
   exact ⟨v, w, kDe E w ty hown c, by simpa using hown, Fr.refl _ _, by simp, .inl rfl⟩
 obtain ⟨v', w', hrun, h2, h3, h4, h5⟩ := run_append_own_at (P := P) w base t ty e i z size bytes E.slice hi hz0 hz1 hz2 E.zs E.pos v n xs hown ad m c news hl hc h1 h63 hbytes hbase
 exact ⟨v', w', hrun, h2, Fr.of_grown h3, h4, h5⟩
end
def Own (w : World) (q : Nat) (e : TypeId) (c : Nat) (xs : LV) : Prop := w.ownsRow 0 e 1 (.slice (some ⟨q, 0, none⟩) xs.length c) xs.length xs
section
variable {M : Nat → Prop} {w w' : World} {q c : Nat} {e : TypeId} {xs : LV}
theorem Own.cur (h : Own w q e c xs) : ∃ cur, Blk w q e cur ∧ xs.length ≤ c ∧ c ≤ maxLen ∧ cur.size = c ∧ cur.toList.take xs.length = xs := by
 rcases h.2 with ⟨h, _⟩ | ⟨g, cap, cur, hv, _, hg, h1, h2, h3, h4⟩
 · cases h
 injection hv with hv hn hc
 injection hv with hv
 injection hv with hv
 subst hv; subst hc
 exact ⟨cur, hg, h1, h2, by simpa using h3, by simpa using h4⟩
theorem Own.mk {cur : Array Value} (hb : Blk w q e cur) (h1 : xs.length ≤ c) (h2 : c ≤ maxLen) (h3 : cur.size = c) (h4 : cur.toList.take xs.length = xs) : Own w q e c xs :=
 ⟨by simp, .inr ⟨q, c, cur, rfl, nz, hb, h1, h2, by simpa using h3, by simpa using h4⟩⟩
theorem Own.lt (h : Own w q e c xs) : q < w.heap.size := by obtain ⟨cur, hb, _⟩ := h.cur; exact hb.lt
theorem Own.cell (h : Own w q e c xs) (k : Nat) (hk : k < xs.length) : w.cell? ⟨q, k, none⟩ = some xs[k] := by
 have := World.ownsRow.cellAt h k (by simpa using hk)
 rw [this, List.getElem?_eq_getElem hk]
theorem Own.frozen (h : Own w q e c xs) (k : Nat) : w.frozen? ⟨q, k, none⟩ = false := World.ownsRow.frozenAt h k
theorem Own.fr (h : Own w q e c xs) (f : Fr M w w') (hq : ¬ M q) : Own w' q e c xs := by
 obtain ⟨cur, hb, r1, r2, r3, r4⟩ := h.cur
 exact Own.mk (hb.fr f hq) r1 r2 r3 r4
theorem Own.set_ (h : Own w q e c xs) (k : Nat) (u : Value) : Own (w.setCell ⟨q, k, none⟩ u) q e c (xs.set k u) := by
 obtain ⟨cur, hb, r1, r2, r3, r4⟩ := h.cur
 refine Own.mk (hb.set_ k u) (by simpa using r1) r2 (by simpa using r3) ?_
 rw [Array.toList_setIfInBounds, List.length_set, List.take_set, r4]
theorem Own.rd {B : Nat} (h : Own w q e c xs) (hB : q < B) : Rd w B (some ⟨q, 0, none⟩) xs :=
 .inr ⟨q, 0, rfl, hB, fun k u hu => by
  obtain ⟨hk, rfl⟩ := List.getElem?_eq_some_iff.1 hu
  rw [Nat.zero_add]; exact h.cell k hk⟩
theorem Own.of_row {base : Nat} {v : Value} {n : Nat} (h : w.ownsRow base e 1 v n xs) (hv : v ≠ .slice none 0 0) : ∃ q c, v = .slice (some ⟨q, 0, none⟩) n c ∧ base ≤ q ∧ n = xs.length ∧ Own w q e c xs := by
 rcases h.2 with ⟨h, _⟩ | ⟨g, cap, cur, rfl, hb, hg, h1, h2, h3, h4⟩
 · exact absurd h hv
 have hn : n = xs.length := by have := h.1; omega
 subst hn
 exact ⟨g, cap, rfl, hb, rfl, Own.mk hg h1 h2 (by simpa using h3) (by simpa using h4)⟩
end
section
variable {P : Program} {t e : TypeId} {bytes : Nat} {z : Value} {B : Nat} {A : OA}
theorem kGK (E : ElemOk P t e 1 bytes z) (w : World) (ty : TypeId) {q c m : Nat} (cs : Nat) {xs news : LV} (hown : Own w q e c xs)
    (hr : Rd w B A news) (hl : news.length = m) (h1 : ∀ u ∈ news, u.oneCell' = true)
    (h63 : xs.length + m ≤ 16777216) (hbytes : bytes ≤ 64) :
    ∃ q' c' w', (Builtin.append_ #[t, t] ty #[.slice (some ⟨q, 0, none⟩) xs.length c, .slice A m cs]).run P w = .ok (.slice (some ⟨q', 0, none⟩) (xs.length + m) c') w' ∧ Own w' q' e c' (xs ++ news) ∧ Fr (One q) w w' ∧
     (q' = q ∨ q' = w.heap.size) := by
 obtain ⟨v', w', hrun, h2, h3, h4, h5⟩ := kCy E w ty cs hown hr (by simpa using hl) h1 (by simp only [maxLen]; omega)
  (Nat.le_trans (Nat.mul_le_mul h63 hbytes) dc) nz
 obtain ⟨q', c', rfl, _, hn, ho⟩ := Own.of_row h2 (by intro h; have := h4.1 h; simp at this)
 refine ⟨q', c', w', hrun, ho, h3.mono (fun i _ h => by simpa [Value.ownBlock, One] using h), ?_⟩
 simpa [Value.ownBlock] using h5
theorem kDR (z : Value) (hz : z.cells = #[z]) (n : Nat) : madeCells z.cells n = Array.replicate n z := by
 apply Array.ext
 · simp [madeCells]
 intro i h1 h2
 simp [madeCells, hz, Nat.mod_one]
theorem kCm (E : ElemOk P t e 1 bytes z) (hz : z.cells = #[z]) (w : World) (kl kc : IntKind) (n : Nat) (hn : n ≤ 16777216) (hbytes : bytes ≤ 64) :
    (Instr.makeSlice t (.int kl (n : Int)) (.int kc (n : Int))).run P w = .ok (.slice (some ⟨w.heap.size, 0, none⟩) n n) (w.alloc (.cells (Array.replicate n z) e)) := by
 obtain ⟨i, hi, hz0, hz1, hz2⟩ := E.info
 have hb : (i.bytes : Int) * (n : Int) ≤ 281474976710656 := by
  rw [hz2]
  have : ((bytes * n : Nat) : Int) ≤ 281474976710656 := by
   have := Nat.mul_le_mul hbytes hn
   omega
  rwa [Int.natCast_mul] at this
 have hr := run_make (P := P) w t e i z E.slice hi hz0 kl kc n n om om hb om
 rw [hr, hz1, Int.toNat_natCast, Nat.mul_one, kDR z hz]
theorem kCo (w : World) (e : TypeId) (z : Value) (n : Nat) (hn : n ≤ 16777216) : Own (w.alloc (.cells (Array.replicate n z) e)) w.heap.size e n (List.replicate n z) :=
 Own.mk (Blk.new w e _) sm (by simp only [maxLen]; omega) sm sm
end
section
variable {P : Program} {t e : TypeId} {bytes : Nat} {z : Value} {B : Nat} {A : OA}
variable {ops : Array Oper} {rest : List Oper} {o : Oper} {a : Act} {Q : Exit → Act → World → Prop} {w : World}
theorem kEJ {q c m : Nat} {s x : Operand} (cs : Nat) {xs news : LV} (E : ElemOk P t e 1 bytes z) (hgd : o.guard = none)
    (ho : o.op = .call { callee := .builtin .append, args := #[s, x], argTypes := #[t, t] })
    (hs : a.eval s = .slice (some ⟨q, 0, none⟩) xs.length c) (hx : a.eval x = .slice A m cs) (hown : Own w q e c xs)
    (hr : Rd w B A news) (hl : news.length = m) (h1 : ∀ u ∈ news, u.oneCell' = true)
    (h63 : xs.length + m ≤ 16777216) (hbytes : bytes ≤ 64)
    (h : ∀ q' c' w', Own w' q' e c' (xs ++ news) → Fr (One q) w w' → (q' = q ∨ q' = w.heap.size) → wpList P ops Q rest (a.put o.dst (.slice (some ⟨q', 0, none⟩) (xs.length + m) c')) w') :
    wpList P ops Q (o :: rest) a w := by
 refine wpList_plain hgd fun K hK => ?_
 obtain ⟨q', c', w', hrun, h2, h3, h4⟩ := kGK E w o.type cs hown hr hl h1 h63 hbytes
 unfold Oper.wp execOp
 simp only [ho, resolve, invoke, builtin, Sem.run_bind, Sem.run_pure, Result.andThen_ok, List.map_toArray, List.map_cons, List.map_nil, hs, hx, hrun]
 exact hK _ _ (h q' c' w' h2 h3 h4)
theorem kFk (w0 : World) (v : Value) (e : TypeId) : Rd (w0.alloc (.cells #[v] e)) (w0.heap.size + 1) (some ⟨w0.heap.size, 0, none⟩) [v] :=
 .inr ⟨_, 0, rfl, by omega, fun k u hu => by
  rw [(Blk.new w0 e #[v]).cell]
  cases k with
  | zero => simpa using hu
  | succ k => simp at hu⟩
theorem kEQ (w0 : World) (l : LV) (e : TypeId) : Rd (w0.alloc (.cells l.toArray e)) (w0.heap.size + 1) (some ⟨w0.heap.size, 0, none⟩) l :=
 .inr ⟨_, 0, rfl, by omega, fun k u hu => by
  rw [(Blk.new w0 e l.toArray).cell, Nat.zero_add]
  simpa using hu⟩
theorem kEI {w0 : World} {q c n cs : Nat} {s x : Operand} {v : Value} {xs : LV} (E : ElemOk P t e 1 bytes z) (hgd : o.guard = none)
    (ho : o.op = .call { callee := .builtin .append, args := #[s, x], argTypes := #[t, t] })
    (hs : a.eval s = .slice (some ⟨q, 0, none⟩) n c) (hx : a.eval x = .slice (some ⟨w0.heap.size, 0, none⟩) 1 cs) (hown : Own w0 q e c xs) (hn : xs.length = n)
    (hv : v.oneCell' = true) (h63 : n + 1 ≤ 16777216) (hbytes : bytes ≤ 64)
    (h : ∀ q' c' w', Own w' q' e c' (xs ++ [v]) → Fr (One q) w0 w' → (q' = q ∨ w0.heap.size ≤ q') → wpList P ops Q rest (a.put o.dst (.slice (some ⟨q', 0, none⟩) (n + 1) c')) w') :
    wpList P ops Q (o :: rest) a (w0.alloc (.cells #[v] e)) := by
 subst hn
 refine kEJ cs E hgd ho hs hx (hown.fr ((Fr.refl No w0).alloc _) id) (kFk w0 v e) rfl (by simpa using hv) h63 hbytes ?_
 intro q' c' w' h2 h3 h4
 refine h q' c' w' h2 (((Fr.refl (One q) w0).alloc _).trans h3 i3) ?_
 rcases h4 with h4 | h4
 · exact .inl h4
 exact .inr (by rw [h4]; simp)
theorem kCF {w0 : World} {base n cs : Nat} {s x : Operand} {v u : Value} {xs : LV} (E : ElemOk P t e 1 bytes z) (hgd : o.guard = none)
    (ho : o.op = .call { callee := .builtin .append, args := #[s, x], argTypes := #[t, t] })
    (hs : a.eval s = v) (hx : a.eval x = .slice (some ⟨w0.heap.size, 0, none⟩) 1 cs) (hown : w0.ownsRow base e 1 v n xs)
    (hv : u.oneCell' = true) (h63 : n + 1 ≤ 16777216) (hbytes : bytes ≤ 64) (hbase : base ≤ w0.heap.size)
    (h : ∀ v' w', w'.ownsRow base e 1 v' (n + 1) (xs ++ [u]) → Fr (fun k => some k = v.ownBlock) w0 w' → (v'.ownBlock = v.ownBlock ∨ ∃ g, v'.ownBlock = some g ∧ w0.heap.size ≤ g) → wpList P ops Q rest (a.put o.dst v') w') :
    wpList P ops Q (o :: rest) a (w0.alloc (.cells #[u] e)) := by
 refine wpList_plain hgd fun K hK => ?_
 obtain ⟨v', w', hrun, h2, h3, h4, h5⟩ := kCy (B := w0.heap.size + 1) E (w0.alloc (.cells #[u] e)) o.type cs (hown.alloc _) (kFk w0 u e) (m := 1) sm (by simpa using hv)
  (by simp only [maxLen]; omega) (Nat.le_trans (Nat.mul_le_mul h63 hbytes) dc) so
 unfold Oper.wp execOp
 simp only [ho, resolve, invoke, builtin, Sem.run_bind, Sem.run_pure, Result.andThen_ok, List.map_toArray, List.map_cons, List.map_nil, hs, hx, hrun]
 refine hK _ _ (h v' w' h2 (((Fr.refl _ w0).alloc _).trans h3 i3) ?_)
 rcases h5 with h5 | h5
 · exact .inl h5
 exact .inr ⟨_, h5, by simp⟩
theorem kGN {w : World} {base n : Nat} {v : Value} {xs : LV} (h : w.ownsRow base e 1 v n xs) : ∃ A c, v = .slice A xs.length c ∧ xs.length ≤ c ∧ Rd w w.heap.size A xs ∧ (A = none ∨ ∃ b o, A = some ⟨b, o, none⟩) := by
 by_cases hv : v = .slice none 0 0
 · subst hv
   have hx : xs = [] := by
    rcases h.2 with ⟨_, h0⟩ | ⟨g, cap, cur, h0, _⟩
    · have := h.1; rw [h0] at this; exact List.eq_nil_of_length_eq_zero (by simpa using this)
    cases h0
   subst hx
   exact ⟨none, 0, rfl, by simp, .inl rfl, .inl rfl⟩
 obtain ⟨q, c, rfl, _, hn, ho⟩ := Own.of_row h hv
 subst hn
 obtain ⟨_, _, hc, _⟩ := ho.cur
 exact ⟨_, c, rfl, hc, ho.rd ho.lt, .inr ⟨_, _, rfl⟩⟩
end
class kAG {α : Type} (t : Ty α) : Prop where
 one : ∀ w S cs x, t.rd w S cs x → ∀ u ∈ cs, u.oneCell' = true
instance (k : IntKind) : kAG (Ty.int k) := ⟨fun _ _ _ _ h u hu => by rw [h.1] at hu; simp at hu; subst hu; rfl⟩
instance : kAG Ty.bool := ⟨fun _ _ _ _ h u hu => by rw [show _ = _ from h] at hu; simp at hu; subst hu; rfl⟩
instance : kAG Ty.str := ⟨fun _ _ _ _ h u hu => by rw [h.1] at hu; simp at hu; subst hu; rfl⟩
instance {α β : Type} (s : Ty α) (t : Ty β) [hs : kAG s] [ht : kAG t] : kAG (s.pair t) :=
 ⟨fun _ _ _ _ ⟨c1, c2, e, h1, h2⟩ u hu => by
  rw [e, List.mem_append] at hu
  rcases hu with hu | hu
  · exact hs.one _ _ _ _ h1 u hu
  · exact ht.one _ _ _ _ h2 u hu⟩
instance {α β : Type} (t : Ty β) (g : α → β) [ht : kAG t] : kAG (t.iso g) := ⟨fun w S cs x h => ht.one w S cs (g x) h⟩
instance {α : Type} (t : Ty α) : kAG t.slice := ⟨fun _ _ _ _ ⟨A, c, e, _⟩ u hu => by rw [e] at hu; simp at hu; subst hu; rfl⟩
def Css {α : Type} (t : Ty α) (w : World) (S : Nat → Prop) (css : List (LV)) (xs : List α) : Prop :=
 css.length = xs.length ∧ ∀ (i : Nat) (c : LV) (x : α), css[i]? = some c → xs[i]? = some x → t.rd w S c x
section
variable {α : Type} {t : Ty α}
theorem Css.nil {w : World} {S : Nat → Prop} : Css t w S [] [] := ⟨rfl, fun i c x h => by simp at h⟩
theorem Css.append {w : World} {S : Nat → Prop} {css dss : List (LV)} {xs ys : List α} (h : Css t w S css xs) (k : Css t w S dss ys) : Css t w S (css ++ dss) (xs ++ ys) := by
 refine ⟨by simp [h.1, k.1], fun i c x e1 e2 => ?_⟩
 by_cases hi : i < css.length
 · rw [List.getElem?_append_left hi] at e1
   rw [List.getElem?_append_left (by rw [← h.1]; exact hi)] at e2
   exact h.2 i c x e1 e2
 rw [List.getElem?_append_right (by omega)] at e1
 rw [List.getElem?_append_right (by rw [← h.1]; omega)] at e2
 exact k.2 _ c x e1 (by rw [h.1]; exact e2)
theorem Css.one {w : World} {S : Nat → Prop} {c : LV} {x : α} (h : t.rd w S c x) : Css t w S [c] [x] := by
 refine ⟨rfl, fun i c' x' e1 e2 => ?_⟩
 cases i with
 | zero => simp at e1 e2; subst e1; subst e2; exact h
 | succ i => simp at e1
theorem Css.two {w : World} {S : Nat → Prop} {c c' : LV} {x x' : α} (h : t.rd w S c x) (h' : t.rd w S c' x') : Css t w S [c, c'] [x, x'] := Css.append (css := [c]) (dss := [c']) (xs := [x]) (ys := [x']) (Css.one h) (Css.one h')
theorem Css.more [hm : TyMore t] {w : World} {S S' : Nat → Prop} {css : List (LV)} {xs : List α} (h : Css t w S css xs) (hS : ∀ k, S k → S' k) : Css t w S' css xs := ⟨h.1, fun i c x e1 e2 => hm.more _ _ _ _ _ (h.2 i c x e1 e2) hS⟩
theorem Css.ones [ho : kAG t] {w : World} {S : Nat → Prop} {css : List (LV)} {xs : List α} (h : Css t w S css xs) : ∀ u ∈ css.flatten, u.oneCell' = true := by
 intro u hu
 obtain ⟨c, hc, huc⟩ := List.mem_flatten.1 hu
 obtain ⟨i, hi, rfl⟩ := List.getElem_of_mem hc
 exact ho.one _ _ _ _ (h.2 i _ _ (List.getElem?_eq_getElem hi) (List.getElem?_eq_getElem (by rw [← h.1]; exact hi))) u huc
theorem kBv {m : Nat} : ∀ {css : List (LV)} (_ : ∀ c ∈ css, c.length = m) {i j : Nat} {c : LV} {u : Value}, css[i]? = some c → c[j]? = some u → css.flatten[i * m + j]? = some u
 | [], _, i, j, c, u, h, _ => by simp at h
 | d :: css, hl, i, j, c, u, h, hu => by
  have hd := hl d sm
  cases i with
  | zero =>
   simp at h
   subst h
   rw [List.flatten_cons, Nat.zero_mul, Nat.zero_add, List.getElem?_append_left (List.getElem?_eq_some_iff.1 hu).1]
   exact hu
  | succ i =>
   simp at h
   rw [List.flatten_cons, List.getElem?_append_right (by rw [Nat.add_mul]; omega), show (i + 1) * m + j - d.length = i * m + j by rw [Nat.add_mul]; omega]
   exact kBv (fun c hc => hl c (by simp [hc])) h hu
def Ty.row (t : Ty α) (w : World) (base : Nat) (S : Nat → Prop) (e : TypeId) (v : Value) (xs : List α) : Prop :=
 ∃ css, Css t w S css xs ∧ w.ownsRow base e t.size v xs.length css.flatten
theorem Ty.row.nil (w : World) (base : Nat) (S : Nat → Prop) (e : TypeId) : t.row w base S e (.slice none 0 0) [] := ⟨[], Css.nil, by simpa using World.ownsRow_nil w base e t.size⟩
theorem Ty.row.more [hm : TyMore t] {w : World} {base base' : Nat} {S S' : Nat → Prop} {e : TypeId} {v : Value} {xs : List α} (h : t.row w base S e v xs) (hb : base' ≤ base) (hS : ∀ k, S k → S' k) : t.row w base' S' e v xs := by
 obtain ⟨css, h1, h2⟩ := h
 refine ⟨css, h1.more hS, h2.1, ?_⟩
 rcases h2.2 with h0 | ⟨g, cap, cur, rfl, hg, k⟩
 · exact .inl h0
 exact .inr ⟨g, cap, cur, rfl, Nat.le_trans hb hg, k⟩
theorem Ty.row.own {w : World} {base : Nat} {S : Nat → Prop} {e : TypeId} {v : Value} {xs : List α} (h : t.row w base S e v xs) {g : Nat} (hv : v.ownBlock = some g) : base ≤ g ∧ ∃ cs, Blk w g e cs := by
 obtain ⟨css, _, h2⟩ := h
 rcases h2.2 with ⟨rfl, _⟩ | ⟨g', cap, cur, rfl, hb, hg, _⟩
 · cases hv
 simp only [Value.ownBlock, Option.some.injEq] at hv
 subst hv
 exact ⟨hb, cur, hg⟩
end
section
variable {α : Type} {t : Ty α} [hok : TyOk t]
theorem Css.len {w : World} {S : Nat → Prop} : ∀ {css : List (LV)} {xs : List α}, Css t w S css xs → css.flatten.length = xs.length * t.size
 | [], [], _ => by simp
 | [], _ :: _, h => by have := h.1; simp at this
 | _ :: _, [], h => by have := h.1; simp at this
 | c :: css, x :: xs, h => by
  have h1 := hok.len _ _ _ _ (h.2 0 c x rfl rfl)
  have h2 := Css.len (css := css) (xs := xs) ⟨by have := h.1; simpa using this, fun i c' x' e1 e2 => h.2 (i + 1) c' x' (by simpa using e1) (by simpa using e2)⟩
  simp only [List.flatten_cons, List.length_append, List.length_cons, h1, h2, Nat.add_mul]
  omega
theorem Css.keep {w w' : World} {S : Nat → Prop} {css : List (LV)} {xs : List α} (h : Css t w S css xs) (hk : ∀ p : Addr, S p.block → w'.cell? p = w.cell? p) : Css t w' S css xs :=
 ⟨h.1, fun i c x e1 e2 => hok.keep _ _ _ _ _ (h.2 i c x e1 e2) hk⟩
theorem Css.fr {w w' : World} {S : Nat → Prop} {M : Nat → Prop} {css : List (LV)} {xs : List α} (h : Css t w S css xs) (f : Fr M w w') (hM : ∀ k, S k → k < w.heap.size ∧ ¬ M k) : Css t w' S css xs :=
 h.keep fun _ hp => f.cell (hM _ hp).1 (hM _ hp).2
theorem Css.lens {w : World} {S : Nat → Prop} {css : List (LV)} {xs : List α} (h : Css t w S css xs) : ∀ c ∈ css, c.length = t.size := by
 exact yy44
theorem kHm {w : World} {S : Nat → Prop} {A : OA} {xs : List α} (h : t.els w S A xs) : ∃ css, Css t w S css xs ∧ (xs = [] ∨ ∃ b o, A = some ⟨b, o, none⟩ ∧ S b ∧ ∀ k u, css.flatten[k]? = some u → w.cell? ⟨b, o + k, none⟩ = some u) := by
 rcases h with rfl | ⟨b, o, e, hb, h⟩
 · exact ⟨[], Css.nil, .inl rfl⟩
 obtain ⟨css, hl, hc⟩ := kBg (fun (i : Nat) (c : LV) => ∀ x, xs[i]? = some x → (∀ (j : Nat) (u : Value), c[j]? = some u → w.cell? ⟨b, o + (i * t.size + j), none⟩ = some u) ∧ t.rd w S c x) (List.range xs.length)
  (fun i hi => by
   obtain ⟨ds, h1, h2⟩ := h i _ (List.getElem?_eq_getElem (List.mem_range.1 hi))
   exact ⟨ds, fun x hx => by rw [List.getElem?_eq_getElem (List.mem_range.1 hi)] at hx; injection hx with hx; subst hx; exact ⟨h1, h2⟩⟩)
 simp only [List.length_range] at hl
 have hcss : Css t w S css xs := ⟨hl, fun i c x e1 e2 => (hc i i c (by rw [List.getElem?_range]; have := (List.getElem?_eq_some_iff.1 e2).1; exact this) e1 x e2).2⟩
 refine ⟨css, hcss, .inr ⟨b, o, e, hb, fun k u hu => ?_⟩⟩
 have hk : k < xs.length * t.size := by rw [← hcss.len]; exact (List.getElem?_eq_some_iff.1 hu).1
 have hs : 0 < t.size := by
  rcases Nat.eq_zero_or_pos t.size with h0 | h0
  · rw [h0] at hk; simp at hk
  exact h0
 have hi : k / t.size < xs.length := Nat.div_lt_of_lt_mul (by rwa [Nat.mul_comm] at hk)
 have hcl := hcss.lens _ (List.getElem_mem (n := k / t.size) (by omega : k / t.size < css.length))
 have hj : k % t.size < (css[k / t.size]'om).length := by rw [hcl]; exact Nat.mod_lt _ hs
 have e1 := kBv hcss.lens (List.getElem?_eq_getElem (by omega : k / t.size < css.length)) (List.getElem?_eq_getElem hj)
 have e2 : k / t.size * t.size + k % t.size = k := by rw [Nat.mul_comm]; exact Nat.div_add_mod k t.size
 rw [e2, hu] at e1
 have := (hc (k / t.size) (k / t.size) _ (List.getElem?_range hi) (List.getElem?_eq_getElem (by omega : k / t.size < css.length)) _ (List.getElem?_eq_getElem hi)).1 _ _ (List.getElem?_eq_getElem hj)
 rw [e2] at this
 rw [this, e1]
theorem kAk {w : World} {S : Nat → Prop} {A : OA} {xs : List α} {B : Nat} (h : t.els w S A xs) (hS : ∀ k, S k → k < B) : ∃ css, Css t w S css xs ∧ Rd w B A css.flatten := by
 obtain ⟨css, h1, h2⟩ := kHm h
 refine ⟨css, h1, ?_⟩
 rcases h2 with rfl | ⟨b, o, e, hb, h⟩
 · have := h1.len
   exact .inl (List.eq_nil_of_length_eq_zero (by simpa using this))
 exact .inr ⟨b, o, e, hS _ hb, h⟩
theorem kHo {w : World} {S S' : Nat → Prop} {q : Nat} {css : List (LV)} {xs : List α} (h : Css t w S css xs) (hm : TyMore t) (hB : ∀ k, S k → S' k) (hq : S' q) (o : Nat) (hc : ∀ (k : Nat) (u : Value), css.flatten[k]? = some u → w.cell? ⟨q, o + k, none⟩ = some u) : t.els w S' (some ⟨q, o, none⟩) xs := by
 refine .inr ⟨q, o, rfl, hq, fun i x hx => ?_⟩
 have hi : i < css.length := by rw [h.1]; exact (List.getElem?_eq_some_iff.1 hx).1
 exact ⟨css[i], fun j u hu => hc _ u (kBv h.lens (List.getElem?_eq_getElem hi) hu), hm.more _ _ _ _ _ (h.2 i _ x (List.getElem?_eq_getElem hi) hx) hB⟩
theorem Ty.row.els [hm : TyMore t] {w : World} {base : Nat} {S S' : Nat → Prop} {e : TypeId} {v : Value} {xs : List α} (h : t.row w base S e v xs) (hS : ∀ k, S k → S' k) (hv : ∀ g, v.ownBlock = some g → S' g) : ∃ A c, v = .slice A xs.length c ∧ xs.length ≤ c ∧ c ≤ maxLen ∧ t.els w S' A xs := by
 obtain ⟨css, h1, h2⟩ := h
 have hl := h1.len
 rcases h2.2 with ⟨rfl, h0⟩ | ⟨g, cap, cur, rfl, hb, hg, k1, k2, k3, k4⟩
 · have hx : xs = [] := List.eq_nil_of_length_eq_zero h0
   subst hx
   exact ⟨none, 0, rfl, by simp, by simp [maxLen], .inl rfl⟩
 refine ⟨some ⟨g, 0, none⟩, cap, rfl, k1, k2, kHo h1 hm hS (hv g rfl) 0 fun k u hu => ?_⟩
 rw [Nat.zero_add, Blk.cell (t := e) (cs := cur) hg k]
 rw [← k4, List.getElem?_take] at hu
 split at hu
 · simpa using hu
 cases hu
theorem Ty.row.els' [hm : TyMore t] {w : World} {base : Nat} {S S' : Nat → Prop} {e : TypeId} {A : OA} {n c : Nat} {xs : List α} (h : t.row w base S e (.slice A n c) xs) (hS : ∀ k, S k → S' k) (hv : ∀ g, (Value.slice A n c).ownBlock = some g → S' g) : t.els w S' A xs := by
 obtain ⟨A', c', hv, _, _, k⟩ := h.els hS hv
 injection hv with h1 _ _
 subst h1
 exact k
theorem Ty.row.fr {w w' : World} {M : Nat → Prop} {base : Nat} {S : Nat → Prop} {e : TypeId} {v : Value} {xs : List α} (h : t.row w base S e v xs) (f : Fr M w w') (hM : ∀ k, S k → k < w.heap.size ∧ ¬ M k) (hv : ∀ k, v.ownBlock = some k → ¬ M k) : t.row w' base S e v xs := by
 obtain ⟨css, h1, h2⟩ := h
 refine ⟨css, h1.fr f hM, h2.1, ?_⟩
 rcases h2.2 with h0 | ⟨g, cap, cur, rfl, hb, hg, k⟩
 · exact .inl h0
 exact .inr ⟨g, cap, cur, rfl, hb, Blk.fr (t := e) (cs := cur) hg f (hv g rfl), k⟩
theorem Ty.row.lit {w : World} {base q : Nat} {S : Nat → Prop} {e : TypeId} {css : List (LV)} {xs : List α} (hb : Blk w q e css.flatten.toArray) (hq : base ≤ q) (h : Css t w S css xs) (hm : xs.length ≤ maxLen) : t.row w base S e (.slice (some ⟨q, 0, none⟩) xs.length xs.length) xs :=
 ⟨css, h, h.len, .inr ⟨q, xs.length, css.flatten.toArray, rfl, hq, hb, nr, hm, by simp [h.len], by rw [← h.len, List.take_of_length_le (by simp)]⟩⟩
theorem kDf [kAG t] {P : Program} {ts e : TypeId} {bytes : Nat} {z : Value} {base B2 : Nat} {S : Nat → Prop} {A : OA} (E : ElemOk P ts e t.size bytes z) (w : World) (ty : TypeId) {v : Value} (m c : Nat) {xs ys : List α} {dss : List (LV)} (hown : t.row w base S e v xs)
    (k1 : Css t w S dss ys) (k2 : Rd w B2 A dss.flatten) (hl : ys.length = m) (h63 : (xs.length + m) ≤ maxLen) (hbytes : (xs.length + m) * bytes ≤ 140737488355328) (hS : ∀ k, S k → k < w.heap.size ∧ ¬ some k = v.ownBlock) (hbase : base ≤ w.heap.size) :
    ∃ v' w', (Builtin.append_ #[ts, ts] ty #[v, .slice A m c]).run P w = .ok v' w' ∧ t.row w' base S e v' (xs ++ ys) ∧ Fr (fun k => some k = v.ownBlock) w w' ∧
     (v' = .slice none 0 0 ↔ v = .slice none 0 0 ∧ m = 0) ∧ (v'.ownBlock = v.ownBlock ∨ v'.ownBlock = some w.heap.size) := by
 obtain ⟨css, h1, h2⟩ := hown
 subst hl
 obtain ⟨v', w', hrun, r1, r2, r3, r4⟩ := kCy E w ty c h2 k2 (by rw [k1.len]) k1.ones h63 hbytes hbase
 refine ⟨v', w', hrun, ⟨css ++ dss, Css.append (h1.fr r2 hS) (k1.fr r2 hS), ?_⟩, r2, r3, r4⟩
 rw [List.flatten_append, List.length_append]; exact r1
end
section
variable {α : Type} {t : Ty α} [hok : TyOk t] [hone : kAG t]
variable {P : Program} {ts e : TypeId} {bytes : Nat} {z : Value} {base : Nat} {S : Nat → Prop} {A : OA}
variable {ops : Array Oper} {rest : List Oper} {o : Oper} {a : Act} {Q : Exit → Act → World → Prop} {w : World}
theorem kAK {m cs B2 : Nat} {s x : Operand} {v : Value} {xs ys : List α} {dss : List (LV)} (E : ElemOk P ts e t.size bytes z) (hgd : o.guard = none)
    (ho : o.op = .call { callee := .builtin .append, args := #[s, x], argTypes := #[ts, ts] })
    (hs : a.eval s = v) (hx : a.eval x = .slice A m cs) (hown : t.row w base S e v xs) (k1 : Css t w S dss ys) (k2 : Rd w B2 A dss.flatten) (hl : ys.length = m)
    (h63 : xs.length + m ≤ 140737488355328) (hbytes : (xs.length + m) * bytes ≤ 140737488355328) (hS : ∀ k, S k → k < w.heap.size ∧ ¬ some k = v.ownBlock) (hbase : base ≤ w.heap.size)
    (h : ∀ v' w', t.row w' base S e v' (xs ++ ys) → Fr (fun k => some k = v.ownBlock) w w' → (v'.ownBlock = v.ownBlock ∨ v'.ownBlock = some w.heap.size) → wpList P ops Q rest (a.put o.dst v') w') :
    wpList P ops Q (o :: rest) a w := by
 refine wpList_plain hgd fun K hK => ?_
 obtain ⟨v', w', hrun, h2, h3, h4, h5⟩ := kDf E w o.type m cs hown k1 k2 hl (by simp only [maxLen]; omega) hbytes hS hbase
 unfold Oper.wp execOp
 simp only [ho, resolve, invoke, builtin, Sem.run_bind, Sem.run_pure, Result.andThen_ok, List.map_toArray, List.map_cons, List.map_nil, hs, hx, hrun]
 exact hK _ _ (h v' w' h2 h3 h5)
theorem kBV {K : Act → World → Prop} {m cs B2 : Nat} {s x : Operand} {v : Value} {xs ys : List α} {dss : List (LV)} (E : ElemOk P ts e t.size bytes z)
    (ho : o.op = .call { callee := .builtin .append, args := #[s, x], argTypes := #[ts, ts] })
    (hs : a.eval s = v) (hx : a.eval x = .slice A m cs) (hown : t.row w base S e v xs) (k1 : Css t w S dss ys) (k2 : Rd w B2 A dss.flatten) (hl : ys.length = m)
    (h63 : xs.length + m ≤ 140737488355328) (hbytes : (xs.length + m) * bytes ≤ 140737488355328) (hS : ∀ k, S k → k < w.heap.size ∧ ¬ some k = v.ownBlock) (hbase : base ≤ w.heap.size)
    (h : ∀ v' w', t.row w' base S e v' (xs ++ ys) → Fr (fun k => some k = v.ownBlock) w w' → (v'.ownBlock = v.ownBlock ∨ v'.ownBlock = some w.heap.size) → K (a.put o.dst v') w') : o.wp P a w K Q := by
 obtain ⟨v', w', hrun, h2, h3, h4, h5⟩ := kDf E w o.type m cs hown k1 k2 hl (by simp only [maxLen]; omega) hbytes hS hbase
 unfold Oper.wp execOp
 simp only [ho, resolve, invoke, builtin, Sem.run_bind, Sem.run_pure, Result.andThen_ok, List.map_toArray, List.map_cons, List.map_nil, hs, hx, hrun]
 exact h v' w' h2 h3 h5
end
class kAQ {α : Type} (t : Ty α) : Prop where
 flat : ∀ w w' S S' cs x, t.rd w S cs x → t.rd w' S' cs x
instance (k : IntKind) : kAQ (Ty.int k) := ⟨fun _ _ _ _ _ _ h => h⟩
instance : kAQ Ty.bool := ⟨fun _ _ _ _ _ _ h => h⟩
instance : kAQ Ty.str := ⟨fun _ _ _ _ _ _ h => h⟩
instance {α β : Type} (s : Ty α) (t : Ty β) [hs : kAQ s] [ht : kAQ t] : kAQ (s.pair t) :=
 ⟨fun _ _ _ _ _ _ ⟨c1, c2, e, h1, h2⟩ => ⟨c1, c2, e, hs.flat _ _ _ _ _ _ h1, ht.flat _ _ _ _ _ _ h2⟩⟩
instance {α β : Type} (t : Ty β) (g : α → β) [ht : kAQ t] : kAQ (t.iso g) := ⟨fun w w' S S' cs x h => ht.flat w w' S S' cs (g x) h⟩
theorem Css.flat {α : Type} {t : Ty α} [hf : kAQ t] {w : World} {S : Nat → Prop} {css : List (LV)} {xs : List α} (h : Css t w S css xs) (w' : World) (S' : Nat → Prop) : Css t w' S' css xs :=
 ⟨h.1, fun i c x e1 e2 => hf.flat _ _ _ _ _ _ (h.2 i c x e1 e2)⟩
theorem kEu {α : Type} {t : Ty α} [TyOk t] [hf : kAQ t] {w : World} {S : Nat → Prop} {A : OA} {xs : List α} {B : Nat} (h : t.els w S A xs) (hS : ∀ k, S k → k < B) : ∃ css, (∀ w' S', Css t w' S' css xs) ∧ Rd w B A css.flatten := by
 obtain ⟨css, h1, h2⟩ := kAk h hS
 exact ⟨css, fun w' S' => h1.flat w' S', h2⟩
end Go.Proofs.YthggdemiddjlgaaGreat
