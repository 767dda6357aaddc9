/- Part 9 of the proof: lemmas and contracts of functions. No condition. -/
import Derived.Test.YthggdemiddjlgaaGreatS7
import Derived.Test.YthggdemiddjlgaaGreatS8
import Derived.Test.YthggdemiddjlgaaGreatS1
import Derived.Test.YthggdemiddjlgaaGreatS2
set_option maxRecDepth 100000
set_option maxHeartbeats 12800000
set_option linter.unusedVariables false
set_option linter.unusedSimpArgs false
set_option linter.unusedSectionVars false
namespace Go.Proofs.YthggdemiddjlgaaGreat
open Go.RowKit Go.Proofs.Tryz
structure AdB (a : Ad) : Prop where
 funcs : a.funcs.length ≤ 1048576
 tables : a.tables.length ≤ 1048576
 mems : a.mems.length ≤ 1048576
 globals : a.globals.length ≤ 1048576
 elems : a.elems.length ≤ 1048576
 datas : a.datas.length ≤ 1048576
def kBZ (x : Rx) (m : Md) (a : Ad) : Rx × Int := if 16 ≤ x.insts.length then (x, -1) else ({ x with insts := x.insts ++ [⟨m, a⟩] }, x.insts.length)
theorem kIF : ∀ {l : LV}, l.length = 12 → ∃ m0 m1 m2 m3 m4 m5 m6 m7 m8 m9 m10 m11, l = [m0, m1, m2, m3, m4, m5, m6, m7, m8, m9, m10, m11]
 | [m0, m1, m2, m3, m4, m5, m6, m7, m8, m9, m10, m11], _ => ⟨_, _, _, _, _, _, _, _, _, _, _, _, rfl⟩
theorem kIa : ∀ {l : LV}, l.length = 6 → ∃ m0 m1 m2 m3 m4 m5, l = [m0, m1, m2, m3, m4, m5]
 | [m0, m1, m2, m3, m4, m5], _ => ⟨_, _, _, _, _, _, rfl⟩
theorem kHs {w : World} {S : Nat → Prop} {m : Md} {a : Ad} {ms ns : LV} (h : tMd.rd w S ms m) (k : tAd.rd w S ns a) : tRi.rd w S (ms ++ ns) ⟨m, a⟩ := ⟨ms, ns, rfl, h, k⟩
section
variable {w : World} {R : Nat → Prop} {V : Pl} {x : Rx}
theorem kEc (h : StIn w R V x) (m : Md) (a : Ad) {ms ns : LV} (S : Nat → Prop) (hm : tMd.rd w S ms m) (ha : tAd.rd w S ns a) (hS : Lt S w) (hb : MdB m) (hab : AdB a) (hn : x.insts.length ≤ 1000000) :
    Calls prog 31 #[.pointer (some ⟨V.P, 0, none⟩), .agg ms.toArray, .agg ns.toArray] w (GrTo R V (.int .i64 (kBZ x m a).2) (kBZ x m a).1 w) := by
 have F0 := hid (((Fr.refl No w).alloc (.cells ms.toArray 55)).alloc (.cells ns.toArray 100))
 have G0 := hid ((Blk.new w 55 ms.toArray).alloc (.cells ns.toArray 100))
 have G1 := hid (Blk.new1 w (.cells ms.toArray 55) 100 ns.toArray)
 have HM := hid hm
 have HA := hid ha
 have HS := hid hS
 have HB := hid hb
 have HAB := hid hab
 have H := hid (h.frNo F0.o)
 have HPl := hid (h.lt V.oP)
 have HLO := hid h.low
 have HON := hid h.own
 have hl1 : ms.length = 12 := TyOk.len _ _ _ _ hm
 have hl2 : ns.length = 6 := TyOk.len _ _ _ _ ha
 have HL1 := hid hl1
 have HL2 := hid hl2
 clear hm ha hS hb hab h hl1 hl2
 go_enter func31, ntmps31
 go_upto_region 1 with fail
 generalize (w.alloc (.cells ms.toArray 55)).alloc (.cells ns.toArray 100) = W at *
 obtain ⟨A, c, hv, _, _⟩ := H.o.sl_is
 have hcell : W.cell? ⟨V.P, 9, none⟩ = some (.slice A x.insts.length c) := by rw [← hv]; exact H.o.blk.cell 9
 clear hv
 have HNN := hid hn
 by_cases hf : 16 ≤ x.insts.length
 · have d1 : decide ((x.insts.length : Int) < 16) = false := by simp; omega
   have d2 : decide (x.insts.length < 16) = false := by simp; omega
   have i1 : (16 : Int) ≤ x.insts.length := om
   have HF := hid hf
   clear hf
   go_wp2
   go_ret
   have e : kBZ x m a = (x, -1) := by unfold kBZ; rw [if_pos HF.o]
   rw [e]
   exact ⟨V, R, rfl, H.o, Grown.of_no F0.o⟩
 have d1 : decide ((x.insts.length : Int) < 16) = true := by simp; omega
 have i1 : (x.insts.length : Int) < 16 := om
 have HF := hid hf
 clear hf
 go_wp2_with fail
 clear hcell d1 i1
 have HX : Hid (∀ X : World, X.heap[w.heap.size]? = W.heap[w.heap.size]? → X.heap[w.heap.size + 1]? = W.heap[w.heap.size + 1]? → X.rangeAt w.heap.size 0 ms ∧ X.rangeAt (w.heap.size + 1) 0 ns) := fun X e1 e2 => ⟨by simpa using kBJ (cs := ms.toArray) (t := 55) (show Blk X _ _ _ from e1.trans G0.o), by simpa using kBJ (cs := ns.toArray) (t := 100) (show Blk X _ _ _ from e2.trans G1.o)⟩
 have HI1 : Hid ((prog.info? 55).map (·.size) = some ms.length) := by unfold Hid; rw [HL1.o]; kernel_rfl
 have HI2 : Hid ((prog.info? 100).map (·.size) = some ns.length) := by unfold Hid; rw [HL2.o]; kernel_rfl
 have HGL := hid (And.intro G0.o.lt G1.o.lt)
 have HXN : Hid (∀ X, Fr No W X → X.rangeAt w.heap.size 0 ms ∧ X.rangeAt (w.heap.size + 1) 0 ns) := fun X f => HX.o X (f.block _ HGL.o.1 id) (f.block _ HGL.o.2 id)
 have FZ := hid (Fr.refl No W).drew
 refine rwP (fun X => X.rangeAt w.heap.size 0 ms ∧ X.rangeAt (w.heap.size + 1) 0 ns) [] [0, 1, 2, 3, 5, 4, 6, 7, 8, 9] [4, 6, 8] (HXN.o _ FZ.o) ?_
 iterate 3 (first | (refine kCf rfl rfl rfl ?_; simp only [zA]; apply Exists.intro; refine ⟨fun X => ?_, ?_⟩; (go_simp; exact stillUpon_value); simp only [zC, Act.put]) | (refine kBN rfl rfl rfl ?_; simp only [zA]; apply Exists.intro; refine ⟨fun X hX => ?_, ?_⟩; (clear hX; go_simp; exact stillUpon_value); simp only [zC, Act.put]))
 refine kBq rfl rfl rfl 55 _ rfl (w.heap.size) (0) (by rfl) ms _ (fun X hX => hX.1) underlying55 (by rfl) HI1.o ?_
 simp only [zA, zC, Act.put]
 refine kBq rfl rfl rfl 100 _ rfl (w.heap.size + 1) (0) (by rfl) ns _ (fun X hX => hX.2) underlying100 (by rfl) HI2.o ?_
 simp only [zA, zC, Act.put]
 refine kAI rfl rfl fun K hK => sz ?_
 refine (kDs m S _ (kAO HM.o (F0.o.trans FZ.o i3) HS.o i2) (fun k hk => ltl (HS.o k hk) (F0.o.trans FZ.o i3).size) HB.o).mono ?_
 rintro e w1 ⟨ms', rfl, hr1, f1⟩
 have R1 : Hid (tMd.rd w1 (Nw W w1) ms' m) := TyMore.more _ _ _ _ _ hr1 (fun k hk => ⟨Nat.le_trans FZ.o.size hk.1, hk.2⟩)
 replace FZ := ftr FZ f1
 clear hr1 f1
 refine hK _ _ (fun _ => HXN.o _ FZ.o) ?_
 clear hK K
 refine kAI rfl rfl fun K hK => sz ?_
 refine (kCD a S _ (kAO HA.o (F0.o.trans FZ.o i3) HS.o i2) (fun k hk => ltl (HS.o k hk) (F0.o.trans FZ.o i3).size) (by have := HAB.o.funcs; omega) (by have := HAB.o.tables; omega) (by have := HAB.o.mems; omega) (by have := HAB.o.globals; omega) (by have := HAB.o.elems; omega) (by have := HAB.o.datas; omega)).mono ?_
 rintro e w2 ⟨ns', rfl, hr2, f2⟩
 have R2 : Hid (tAd.rd w2 (Nw W w2) ns' a) := TyMore.more _ _ _ _ _ hr2 (fun k hk => ⟨Nat.le_trans FZ.o.size hk.1, hk.2⟩)
 replace R1 : Hid (tMd.rd w2 (Nw W w2) ms' m) := kAO R1.o f2 (fun k hk => hk.2) (fun k hk => ⟨hk.1, ltl hk.2 f2.size⟩)
 replace FZ := ftr FZ f2
 clear hr2 f2
 have hl1' : ms'.length = 12 := TyOk.len _ _ _ _ R1.o
 have hl2' : ns'.length = 6 := TyOk.len _ _ _ _ R2.o
 have K1 := hid (H.o.frNo FZ.o)
 have HLW : Hid (Lt R W) := fun k r => ltl (HLO.o k r) F0.o.size
 have RX : Hid (tRi.rd w2 (Sd w2 R) (ms' ++ ns') ⟨m, a⟩) := TyMore.more _ _ _ _ _ (kHs R1.o R2.o) (fun k hk => kIA HLW.o hk)
 have HAD := hid (kGD V.P 9 (Sd w2 R) V.is x.insts (ms' ++ ns') ⟨m, a⟩ w2 (K1.o.addIn_is RX.o HNN.o))
 refine hK _ _ (fun _ => HXN.o _ FZ.o) ?_
 clear hK K
 obtain ⟨m0, m1, m2, m3, m4, m5, m6, m7, m8, m9, m10, m11, hms⟩ := kIF hl1'
 obtain ⟨n0, n1, n2, n3, n4, n5, hns⟩ := kIa hl2'
 subst hms hns
 clear hl1' hl2' R1 R2 RX
 repeat (first | refine pS ?_ | refine pF ?_ | refine pX (fun (X : World) (h : X.rangeAt w.heap.size 0 ms ∧ X.rangeAt (w.heap.size + 1) 0 ns) => h) ?_)
 refine kAI rfl rfl fun K hK => sz ?_
 refine HAD.o.mono ?_
 intro e w3 ha
 obtain ⟨V', R', rfl, h2, h3⟩ := K1.o.added_is ha
 have hno : ∀ k, w.heap.size ≤ k → k < w2.heap.size → w3.heap[k]? = w2.heap[k]? := fun k hk hk2 => h3.fr.block k hk2 (fun o => by have := HLO.o k (HON.o k o); omega)
 have hX3 : w3.rangeAt w.heap.size 0 ms ∧ w3.rangeAt (w.heap.size + 1) 0 ns := by
  have s2 := FZ.o.size
  have g1 := HGL.o.1
  have g2 := HGL.o.2
  exact HX.o _ ((hno _ nr om).trans (FZ.o.block _ g1 id)) ((hno _ om om).trans (FZ.o.block _ g2 id))
 refine hK _ _ (fun _ => hX3) ?_
 clear hK K
 repeat (first | refine pS ?_ | refine pF ?_ | refine pX (fun (X : World) (h : X.rangeAt w.heap.size 0 ms ∧ X.rangeAt (w.heap.size + 1) 0 ns) => h) ?_)
 refine kAs ?_
 clear HX HXN HAD ha
 have H2 := hid h2
 have H3 := hid h3
 clear h2 h3 hno hX3
 go_wp2
 go_ret
 have e : kBZ x m a = ({ x with insts := x.insts ++ [⟨m, a⟩] }, ((x.insts.length : Nat) : Int)) := by unfold kBZ; rw [if_neg HF.o]
 rw [e]
 exact ⟨V', R', rfl, H2.o, (Grown.of_no (F0.o.trans FZ.o i3)).trans H3.o⟩
end
def MapI (P : Program) (k e : TypeId) (w : World) (b n : Nat) (f : Int → Int) : Prop :=
 ∃ D : DataW Unit, w.ownsMap P k (plainElem P e) b n D ∧ Maps.IsMap D ∧ ∀ i, D.atKey (.int .i64 i) (.lit (.int .i64 0)) = .lit (.int .i64 (f i))
def MapB (P : Program) (k e : TypeId) (w : World) (b n : Nat) (f : Int → Bool) : Prop :=
 ∃ D : DataW Unit, w.ownsMap P k (plainElem P e) b n D ∧ Maps.IsMap D ∧ ∀ i, D.atKey (.int .i64 i) (.lit (.bool false)) = .lit (.bool (f i))
section
variable {P : Program} {t k e : TypeId} {w w' : World} {b n : Nat}
theorem kGq {M : Nat → Prop} {R : Value → Option (DataW Unit × List MemPlace)} {D : DataW Unit} (h : w.ownsMap P k R b n D) (f : Fr M w w') (hb : ¬ M b) : w'.ownsMap P k R b n D := by
 have hlt := h.lt
 obtain ⟨es, clock, h1, h2, h3, h4⟩ := h
 exact ⟨es, clock, (f.block b hlt hb).trans h1, h2, h3, h4⟩
theorem fr_grown {row : Option Nat} {b : Nat} (h : w.grownBy w' row) (hr : row = some b) : Fr (One b) w w' := by
 subst hr
 exact (Fr.of_grown h).mono (fun i _ hi => by simpa [One] using hi)
theorem MapI.lt {f : Int → Int} (h : MapI P k e w b n f) : b < w.heap.size := by obtain ⟨D, h1, _⟩ := h; exact h1.lt
theorem MapB.lt {f : Int → Bool} (h : MapB P k e w b n f) : b < w.heap.size := by obtain ⟨D, h1, _⟩ := h; exact h1.lt
theorem MapI.made (w : World) : MapI P k e (w.alloc (.map #[] 0)) w.heap.size 0 (fun _ => 0) := ⟨.map [], World.ownsMap_made w P k _, ⟨_, rfl⟩, fun _ => rfl⟩
theorem MapB.made (w : World) : MapB P k e (w.alloc (.map #[] 0)) w.heap.size 0 (fun _ => false) := ⟨.map [], World.ownsMap_made w P k _, ⟨_, rfl⟩, fun _ => rfl⟩
theorem MapI.fr {M : Nat → Prop} {f : Int → Int} (h : MapI P k e w b n f) (g : Fr M w w') (hb : ¬ M b) : MapI P k e w' b n f := by
 obtain ⟨D, h1, h2⟩ := h; exact ⟨D, kGq h1 g hb, h2⟩
theorem MapB.fr {M : Nat → Prop} {f : Int → Bool} (h : MapB P k e w b n f) (g : Fr M w w') (hb : ¬ M b) : MapB P k e w' b n f := by
 obtain ⟨D, h1, h2⟩ := h; exact ⟨D, kGq h1 g hb, h2⟩
theorem MapB.mono {f : Int → Bool} {n' : Nat} (h : MapB P k e w b n f) (hn : n ≤ n') : MapB P k e w b n' f := by
 obtain ⟨D, h1, h2⟩ := h; exact ⟨D, h1.mono hn, h2⟩
theorem MapI.get {f : Int → Int} (h : MapI P k e w b n f) (ht : P.underlying t = some (.map k e)) (hk : P.underlying k = some (.int .i64)) (he : P.underlying e = some (.int .i64)) (hz : ∀ w, (zeroValue e).run P w = .ok (.int .i64 0) w)
    {i : Int} (hi : (Lit.int .i64 i).wf = true) : (Instr.lookup t (.map (some b)) (.int .i64 i) false).run P w = .ok (.int .i64 (f i)) w := by
 obtain ⟨D, h1, _, h3⟩ := h
 obtain ⟨c, hrun, hat, _⟩ := h1.lookup_int (Maps.int_keyed hk) ht he (hz w) (Maps.keyOf_int_mk hk hi)
 rw [h3 i] at hat
 simp only [DataW.lit.injEq, Lit.int.injEq, true_and] at hat
 rw [hrun, hat]
theorem MapI.put {f : Int → Int} (h : MapI P k e w b n f) (ht : P.underlying t = some (.map k e)) (hk : P.underlying k = some (.int .i64)) (he : P.underlying e = some (.int .i64)) (hn : n < maxLen)
    {i v : Int} (hi : (Lit.int .i64 i).wf = true) (hv : (Lit.int .i64 v).wf = true) :
    ∃ w', (Instr.mapUpdate t (.map (some b)) (.int .i64 i) (.int .i64 v)).run P w = .ok () w' ∧ MapI P k e w' b (n + 1) (fun j => if j = i then v else f j) ∧ Fr (One b) w w' := by
 obtain ⟨D, h1, h2, h3⟩ := h
 obtain ⟨w', hrun, r1, r2⟩ := h1.update (Maps.int_keyed hk) ht hn (Maps.keyOf_int_mk hk hi) (plainElem_int he hv)
 exact yy26
theorem MapB.put {f : Int → Bool} (h : MapB P k e w b n f) (ht : P.underlying t = some (.map k e)) (hk : P.underlying k = some (.int .i64)) (he : P.underlying e = some .bool) (hn : n < maxLen)
    {i : Int} {v : Bool} (hi : (Lit.int .i64 i).wf = true) :
    ∃ w', (Instr.mapUpdate t (.map (some b)) (.int .i64 i) (.bool v)).run P w = .ok () w' ∧ MapB P k e w' b (n + 1) (fun j => if j = i then v else f j) ∧ Fr (One b) w w' := by
 obtain ⟨D, h1, h2, h3⟩ := h
 obtain ⟨w', hrun, r1, r2⟩ := h1.update (Maps.int_keyed hk) ht hn (Maps.keyOf_int_mk hk hi) (plainElem_bool he v)
 exact yy26
end
theorem kJy : ElemOk prog 44 78 2 48 (.agg #[.slice none 0 0, .slice none 0 0]) := ElemOk.mk' underlying44 kr rfl dc
theorem kJl : ElemOk prog 47 39 4 32 (.agg #[.int .i64 0, .int .i64 0, .int .i64 0, .bool false]) := ElemOk.mk' underlying47 kr rfl dc
theorem kJT : ElemOk prog 48 37 3 24 (.agg #[.int .i64 0, .int .i64 0, .bool false]) := ElemOk.mk' underlying48 kr rfl dc
theorem kJm : ElemOk prog 263 41 2 16 (.agg #[.int .i64 0, .bool false]) := ElemOk.mk' underlying263 kr rfl dc
structure FnNew (w : World) (base : Nat) (A1 : OA) (c1 : Nat) (A2 : OA) (c2 : Nat) (f : Fn) : Prop where
 p : tI.row w base Emp 35 (.slice A1 f.params.length c1) f.params
 r : tI.row w base Emp 35 (.slice A2 f.results.length c2) f.results
 ne : ∀ g, (Value.slice A1 f.params.length c1).ownBlock = some g → (Value.slice A2 f.results.length c2).ownBlock ≠ some g
abbrev q9x2 (a0 a1 : Option Addr) (a2 : Fn) (a3 a4 : Nat) : Array Value := #[.slice a0 a2.params.length a3, .slice a1 a2.results.length a4]
def kKD (f : Fn) (w : World) (e : Ending) (w' : World) : Prop :=
 ∃ (A1 : OA) (c1 : Nat) (A2 : OA) (c2 : Nat), e = .returned (.agg (q9x2 A1 A2 f c1 c2)) ∧ FnNew w' w.heap.size A1 c1 A2 c2 f ∧ Fr No w w'
theorem kGt (f : Fn) (A1 A2 : OA) (c1 c2 : Nat) (S : Nat → Prop) (w : World) (hS : Lt S w) (h1 : tI.els w S A1 f.params) (h2 : tI.els w S A2 f.results) (l1 : f.params.length ≤ 140737488351232) (l2 : f.results.length ≤ 140737488351232) (b1 : f.params.length * 8 ≤ 140737488355328) (b2 : f.results.length * 8 ≤ 140737488355328) :
    Calls prog 112 #[.agg (q9x2 A1 A2 f c1 c2)] w (kKD f w) := by
 have F0 := hid (((Fr.refl No w).alloc (.cells (q9x2 A1 A2 f c1 c2) 78)).alloc (.cells #[.slice none 0 0, .slice none 0 0] 78))
 have G0 := hid ((Blk.new w 78 (q9x2 A1 A2 f c1 c2)).alloc (.cells #[.slice none 0 0, .slice none 0 0] 78))
 have G1 := hid (Blk.new1 w (.cells (q9x2 A1 A2 f c1 c2) 78) 78 #[.slice none 0 0, .slice none 0 0])
 have H1 := hid (kEu (h1.fr F0.o (fun k hk => ⟨hS k hk, fun x => x⟩)) hS)
 have H2 := hid (kEu (h2.fr F0.o (fun k hk => ⟨hS k hk, fun x => x⟩)) hS)
 have HB1 := hid b1
 have HB2 := hid b2
 have L1 := hid l1
 have L2 := hid l2
 clear h1 h2 b1 b2 l1 l2 hS
 go_enter func112, ntmps112
 go_wp2
 generalize (w.alloc (.cells (q9x2 A1 A2 f c1 c2) 78)).alloc (.cells #[.slice none 0 0, .slice none 0 0] 78) = W at *
 have hW : w.heap.size + 1 < W.heap.size := G1.o.lt
 have HX : Hid (∀ X, Fr (One (w.heap.size + 1)) W X → Ce X w.heap.size 0 (.slice A1 f.params.length c1) ∧ Ce X w.heap.size 1 (.slice A2 f.results.length c2)) := fun X g => ⟨(G0.o.fr g (fun x => by simp [One] at x)).cell 0, (G0.o.fr g (fun x => by simp [One] at x)).cell 1⟩
 refine rwO (fun X => Ce X w.heap.size 0 (.slice A1 f.params.length c1) ∧ Ce X w.heap.size 1 (.slice A2 f.results.length c2)) [] [0, 1, 3, 4, 2, 5, 6, 7] [2, 5, 7] (HX.o _ (Fr.refl _ _).drew) ?_
 refine rC ?_
 obtain ⟨css, hcss, hrd⟩ := H1.o
 obtain ⟨dss, hdss, hrd2⟩ := H2.o
 refine wpO_eff rfl rfl (fun K hK => ?_)
 simp only [List.getElem_toArray, List.getElem_cons_succ, List.getElem_cons_zero]
 refine kBV (t := tI) (P := prog) (base := w.heap.size) (S := Emp) (v := .slice none 0 0) (xs := []) (ys := f.params) kIO rfl rfl rfl (Ty.row.nil _ _ _ _) (hcss _ _) hrd.drew rfl (by have := L1.o; simp; omega) (by have := HB1.o; simp; omega) (fun _ h => h.elim) (by show w.heap.size ≤ W.heap.size; omega) ?_
 intro v1 w1 hr1 fr1 hv1
 have F1 := hid ((Fr.refl No W).drew.trans fr1 (fun _ _ h => by simp [Value.ownBlock] at h))
 have g1 : ∀ g, v1.ownBlock = some g → W.heap.size ≤ g ∧ g < w1.heap.size := fun g hg => by
  obtain ⟨_, cs, hb⟩ := hr1.own hg
  rcases hv1 with h | h
  · rw [h] at hg; simp [Value.ownBlock] at hg
  rw [h] at hg; injection hg with hg; subst hg; exact ⟨nr, hb.lt⟩
 refine hK _ _ (fun _ => HX.o _ (F1.o.mono (fun _ _ h => h.elim))) ?_
 clear hK K
 simp only [Act.put, List.setIfInBounds_toArray, List.set_cons_zero, List.set_cons_succ]
 refine wpO_eff rfl rfl (fun K hK => ?_)
 simp only [List.getElem_toArray, List.getElem_cons_succ, List.getElem_cons_zero]
 refine kBV (t := tI) (P := prog) (base := w.heap.size) (S := Emp) (v := .slice none 0 0) (xs := []) (ys := f.results) (B2 := w.heap.size) kIO rfl rfl rfl (Ty.row.nil _ _ _ _) (hdss _ _) (hrd2.fr F1.o (fun _ _ x => x)) rfl (by have := L2.o; simp; omega) (by have := HB2.o; simp; omega) (fun _ h => h.elim) (by have := F1.o.size; omega) ?_
 intro v2 w2 hr2 fr2 hv2
 have F2 := hid (F1.o.trans fr2 (fun _ _ h => by simp [Value.ownBlock] at h))
 have R1 := hid (hr1.fr fr2 (fun _ h => h.elim) (fun k hk h => by simp [Value.ownBlock] at h))
 have R2 := hid hr2
 have g2 : ∀ g, v2.ownBlock = some g → w1.heap.size ≤ g ∧ g < w2.heap.size := fun g hg => by
  obtain ⟨_, cs, hb⟩ := hr2.own hg
  rcases hv2 with h | h
  · rw [h] at hg; simp [Value.ownBlock] at hg
  rw [h] at hg; injection hg with hg; subst hg; exact ⟨nr, hb.lt⟩
 have HG1 := hid g1
 have HG2 := hid g2
 refine hK _ _ (fun _ => HX.o _ (F2.o.mono (fun _ _ h => h.elim))) ?_
 clear hK K hr1 fr1 hv1 hr2 fr2 hv2 g1 g2 hrd hrd2 hcss hdss
 simp only [Act.put, List.setIfInBounds_toArray, List.set_cons_zero, List.set_cons_succ]
 obtain ⟨B1, d1, rfl, _, _, _⟩ := R1.o.els (S' := fun _ => True) tvv tvv
 obtain ⟨B2, d2, rfl, _, _, _⟩ := R2.o.els (S' := fun _ => True) tvv tvv
 have GZ := hid (G1.o.fr F2.o id)
 have u0 : w2.cell? ⟨w.heap.size + 1, 0, none⟩ = some (.slice none 0 0) := GZ.o.cell 0
 have u1 : w2.cell? ⟨w.heap.size + 1, 1, none⟩ = some (.slice none 0 0) := GZ.o.cell 1
 have u2 : w2.frozen? ⟨w.heap.size + 1, 0, none⟩ = false := GZ.o.frozen 0
 have u3 : w2.frozen? ⟨w.heap.size + 1, 1, none⟩ = false := GZ.o.frozen 1
 refine rC ?_
 refine wpO_eff rfl rfl fun K hK => sz ?_
 have FZ := hid (((Fr.refl (One (w.heap.size + 1)) w2).setCell ⟨w.heap.size + 1, 0, none⟩ (.slice B1 f.params.length d1) (fun _ => rfl)).setCell ⟨w.heap.size + 1, 1, none⟩ (.slice B2 f.results.length d2) (fun _ => rfl))
 have GY := hid ((GZ.o.set_ 0 (.slice B1 f.params.length d1)).set_ 1 (.slice B2 f.results.length d2))
 generalize (w2.setCell ⟨w.heap.size + 1, 0, none⟩ (.slice B1 f.params.length d1)).setCell ⟨w.heap.size + 1, 1, none⟩ (.slice B2 f.results.length d2) = X at *
 refine hK _ _ (fun _ => HX.o _ ((F2.o.mono (M := One (w.heap.size + 1)) (fun _ _ h => h.elim)).trans FZ.o i3)) ?_
 clear hK K
 refine wpO_nil ?_
 have y0 : Ce X (w.heap.size + 1) 0 (.slice B1 f.params.length d1) := GY.o.cell 0
 have y1 : Ce X (w.heap.size + 1) 1 (.slice B2 f.results.length d2) := GY.o.cell 1
 clear u0 u1 u2 u3 GZ GY
 go_wp2
 refine bodyPost_ret (v := .agg #[.slice B1 f.params.length d1, .slice B2 f.results.length d2]) (by simp [results, Tryz.results112, go_sem, y0, y1]) rfl ⟨B1, d1, B2, d2, rfl, ⟨?_, ?_, ?_⟩, ?_⟩
 · exact R1.o.fr FZ.o (fun _ h => h.elim) (fun k hk h => by have := (HG1.o k hk).1; simp only [One] at h; omega)
 · exact R2.o.fr FZ.o (fun _ h => h.elim) (fun k hk h => by have := (HG2.o k hk).1; have := F1.o.size; simp only [One] at h; omega)
 · intro g h1 h2
   have := (HG1.o g h1).2
   have := (HG2.o g h2).1
   omega
 exact F0.o.trans ((F2.o.mono (M := One (w.heap.size + 1)) (fun _ _ h => h.elim)).trans FZ.o i3) (fun i hi h => by simp only [One] at h; omega)
structure SpV where
 types : List Fn
 funcs : List Int
 tables : List Tb
 mems : List Lim
 globals : List Gl
 elems : List Int
 datas : Int
 imp : Int → Int
 dec : Int → Bool
def kCz : Nat → TypeId
 | 0 => 78 | 1 => 3 | 2 => 39 | 3 => 37 | 4 => 41 | _ => 35
theorem kCM (j : Nat) : kCz j ≠ 265 := by unfold kCz; split <;> decide
theorem kDj (j : Nat) : kCz j ≠ 260 := by unfold kCz; split <;> decide
theorem kJO {i j : Nat} (hi : i < 6) (hj : j < 6) (h : i ≠ j) : kCz i ≠ kCz j := by
 have : ∀ i : Fin 6, ∀ j : Fin 6, i ≠ j → kCz i ≠ kCz j := by decide
 exact this ⟨i, hi⟩ ⟨j, hj⟩ (by simpa using h)
def rowAt (base : Nat) (ST : Nat → Prop) (j : Nat) (X : World) (v : Value) (x : SpV) : Prop :=
 match j with
 | 0 => tFn.row X base ST 78 v x.types
 | 1 => tI.row X base Emp 3 v x.funcs
 | 2 => tTb.row X base Emp 39 v x.tables
 | 3 => tLim.row X base Emp 37 v x.mems
 | 4 => tGl.row X base Emp 41 v x.globals
 | _ => tI.row X base Emp 35 v x.elems
theorem rowAt.own {base : Nat} {ST : Nat → Prop} {j : Nat} {X : World} {v : Value} {x : SpV} (h : rowAt base ST j X v x) {g : Nat} (hv : v.ownBlock = some g) : base ≤ g ∧ ∃ cs, Blk X g (kCz j) cs := by
 unfold rowAt at h
 unfold kCz
 split at h <;> exact h.own hv
theorem rowAt.fr {base : Nat} {ST M : Nat → Prop} {j : Nat} {X X' : World} {v : Value} {x : SpV} (h : rowAt base ST j X v x) (f : Fr M X X') (hv : ∀ k, v.ownBlock = some k → ¬ M k) (hS : j = 0 → ∀ k, ST k → k < X.heap.size ∧ ¬ M k) : rowAt base ST j X' v x := by
 unfold rowAt at h ⊢
 split at h
 · exact h.fr f (hS rfl) hv
 all_goals exact h.fr f (fun _ h => h.elim) hv
theorem kEf {P : Program} {k e : TypeId} {w : World} {b n : Nat} {f : Int → Int} {g : Nat} {t : TypeId} {cs : Array Value} (h : MapI P k e w b n f) (hb : Blk w g t cs) : b ≠ g := by
 rintro rfl
 obtain ⟨D, ⟨es, clock, h1, _⟩, _⟩ := h
 unfold Blk at hb
 rw [hb] at h1
 cases h1
theorem kEg {P : Program} {k e : TypeId} {w : World} {b n : Nat} {f : Int → Bool} {g : Nat} {t : TypeId} {cs : Array Value} (h : MapB P k e w b n f) (hb : Blk w g t cs) : b ≠ g := by
 rintro rfl
 obtain ⟨D, ⟨es, clock, h1, _⟩, _⟩ := h
 unfold Blk at hb
 rw [hb] at h1
 cases h1
structure SpSt (base : Nat) (X : World) (gx gs bi bd : Nat) (ST : Nat → Prop) (nI nD : Nat) (v0 v1 v2 v3 v4 v5 : Value) (x : SpV) : Prop where
 hx : Blk X gx 260 #[.pointer (some ⟨gs, 0, none⟩)]
 hs : Blk X gs 265 #[v0, v1, v2, v3, v4, v5, .int .i64 x.datas, .map (some bi), .map (some bd)]
 row : ∀ j v, [v0, v1, v2, v3, v4, v5][j]? = some v → rowAt base ST j X v x
 mi : MapI prog 34 3 X bi nI x.imp
 md : MapB prog 3 4 X bd nD x.dec
 ne : bi ≠ bd
 lx : base ≤ gx
 ls : base ≤ gs
 li : base ≤ bi
 ld : base ≤ bd
 st : ∀ k, ST k → base ≤ k ∧ (∃ cs, Blk X k 35 cs) ∧ v5.ownBlock ≠ some k
section
variable {base : Nat} {X X' : World} {gx gs bi bd : Nat} {ST M : Nat → Prop} {nI nD : Nat} {v0 v1 v2 v3 v4 v5 : Value} {x : SpV}
def kDU (gx gs bi bd : Nat) (ST : Nat → Prop) (vs : LV) (k : Nat) : Prop := k = gx ∨ k = gs ∨ k = bi ∨ k = bd ∨ ST k ∨ ∃ v ∈ vs, v.ownBlock = some k
theorem SpSt.lt (h : SpSt base X gx gs bi bd ST nI nD v0 v1 v2 v3 v4 v5 x) {k : Nat} (hk : kDU gx gs bi bd ST [v0, v1, v2, v3, v4, v5] k) : base ≤ k ∧ k < X.heap.size := by
 rcases hk with rfl | rfl | rfl | rfl | hk | ⟨v, hv, hk⟩
 · exact ⟨h.lx, h.hx.lt⟩
 · exact ⟨h.ls, h.hs.lt⟩
 · exact ⟨h.li, h.mi.lt⟩
 · exact ⟨h.ld, h.md.lt⟩
 · obtain ⟨h1, ⟨cs, h2⟩, _⟩ := h.st _ hk
   exact ⟨h1, h2.lt⟩
 obtain ⟨j, hj, rfl⟩ := List.getElem_of_mem hv
 obtain ⟨h1, cs, h2⟩ := (h.row j _ (List.getElem?_eq_getElem hj)).own hk
 exact ⟨h1, h2.lt⟩
theorem SpSt.fr (h : SpSt base X gx gs bi bd ST nI nD v0 v1 v2 v3 v4 v5 x) (f : Fr M X X') (hM : ∀ k, kDU gx gs bi bd ST [v0, v1, v2, v3, v4, v5] k → ¬ M k) : SpSt base X' gx gs bi bd ST nI nD v0 v1 v2 v3 v4 v5 x := by
 refine ⟨h.hx.fr f (hM _ (.inl rfl)), h.hs.fr f (hM _ (.inr (.inl rfl))), fun j v hv => ?_, h.mi.fr f (hM _ (.inr (.inr (.inl rfl)))), h.md.fr f (hM _ (.inr (.inr (.inr (.inl rfl))))), h.ne, h.lx, h.ls, h.li, h.ld, fun k hk => ?_⟩
 · exact (h.row j v hv).fr f (fun k hk => hM _ (.inr (.inr (.inr (.inr (.inr ⟨v, List.mem_of_getElem? hv, hk⟩)))))) (fun _ k hk => ⟨(h.lt (.inr (.inr (.inr (.inr (.inl hk)))))).2, hM _ (.inr (.inr (.inr (.inr (.inl hk)))))⟩)
 obtain ⟨h1, ⟨cs, h2⟩, h3⟩ := h.st k hk
 exact ⟨h1, ⟨cs, h2.fr f (hM _ (.inr (.inr (.inr (.inr (.inl hk))))))⟩, h3⟩
theorem SpSt.frNo (h : SpSt base X gx gs bi bd ST nI nD v0 v1 v2 v3 v4 v5 x) (f : Fr No X X') : SpSt base X' gx gs bi bd ST nI nD v0 v1 v2 v3 v4 v5 x := h.fr f (fun _ _ hn => hn)
theorem SpSt.putI (h : SpSt base X gx gs bi bd ST nI nD v0 v1 v2 v3 v4 v5 x) {g : Int → Int} {n' : Nat} (hm : MapI prog 34 3 X' bi n' g) (f : Fr (One bi) X X') :
    SpSt base X' gx gs bi bd ST n' nD v0 v1 v2 v3 v4 v5 { x with imp := g } := by
 have hr : ∀ j v, [v0, v1, v2, v3, v4, v5][j]? = some v → rowAt base ST j X' v x := fun j v hv => (h.row j v hv).fr f (fun k hk e => by
     obtain ⟨_, cs, hb⟩ := (h.row j v hv).own hk
     exact kEf h.mi hb e.symm) (fun _ k hk => ⟨(h.lt (.inr (.inr (.inr (.inr (.inl hk)))))).2, fun e => by
      obtain ⟨_, ⟨cs, hb⟩, _⟩ := h.st k hk
      exact kEf h.mi hb e.symm⟩)
 refine ⟨h.hx.fr f (fun e => kEf h.mi h.hx e.symm), h.hs.fr f (fun e => kEf h.mi h.hs e.symm), fun j v hv => ?_, hm, h.md.fr f (fun e => h.ne e.symm), h.ne, h.lx, h.ls, h.li, h.ld, fun k hk => ?_⟩
 · have := hr j v hv
   unfold rowAt at this ⊢
   split at this <;> exact this
 obtain ⟨h1, ⟨cs, h2⟩, h3⟩ := h.st k hk
 exact ⟨h1, ⟨cs, h2.fr f (fun e => kEf h.mi h2 e.symm)⟩, h3⟩
theorem SpSt.putB (h : SpSt base X gx gs bi bd ST nI nD v0 v1 v2 v3 v4 v5 x) {g : Int → Bool} {n' : Nat} (hm : MapB prog 3 4 X' bd n' g) (f : Fr (One bd) X X') :
    SpSt base X' gx gs bi bd ST nI n' v0 v1 v2 v3 v4 v5 { x with dec := g } := by
 have hr : ∀ j v, [v0, v1, v2, v3, v4, v5][j]? = some v → rowAt base ST j X' v x := fun j v hv => (h.row j v hv).fr f (fun k hk e => by
     obtain ⟨_, cs, hb⟩ := (h.row j v hv).own hk
     exact kEg h.md hb e.symm) (fun _ k hk => ⟨(h.lt (.inr (.inr (.inr (.inr (.inl hk)))))).2, fun e => by
      obtain ⟨_, ⟨cs, hb⟩, _⟩ := h.st k hk
      exact kEg h.md hb e.symm⟩)
 refine ⟨h.hx.fr f (fun e => kEg h.md h.hx e.symm), h.hs.fr f (fun e => kEg h.md h.hs e.symm), fun j v hv => ?_, h.mi.fr f (fun e => h.ne e), hm, h.ne, h.lx, h.ls, h.li, h.ld, fun k hk => ?_⟩
 · have := hr j v hv
   unfold rowAt at this ⊢
   split at this <;> exact this
 obtain ⟨h1, ⟨cs, h2⟩, h3⟩ := h.st k hk
 exact ⟨h1, ⟨cs, h2.fr f (fun e => kEg h.md h2 e.symm)⟩, h3⟩
theorem SpSt.app (h : SpSt base X gx gs bi bd ST nI nD v0 v1 v2 v3 v4 v5 x) {j : Nat} (hj : j < 6) {v v' : Value} {x' : SpV} {u0 u1 u2 u3 u4 u5 : Value} (hv : [v0, v1, v2, v3, v4, v5][j]? = some v) (f : Fr (fun k => some k = v.ownBlock) X X')
    (hr : rowAt base ST j X' v' x') (ho : v'.ownBlock = v.ownBlock ∨ v'.ownBlock = some X.heap.size) (hx : ∀ i, i < 6 → i ≠ j → ∀ Y u, rowAt base ST i Y u x → rowAt base ST i Y u x')
    (hu : [u0, u1, u2, u3, u4, u5] = [v0, v1, v2, v3, v4, v5].set j v') (hd : x'.datas = x.datas) (hi : x'.imp = x.imp) (hdc : x'.dec = x.dec) :
    SpSt base (X'.setCell ⟨gs, j, none⟩ v') gx gs bi bd ST nI nD u0 u1 u2 u3 u4 u5 x' := by
 have hown : ∀ k, some k = v.ownBlock → base ≤ k ∧ ∃ cs, Blk X k (kCz j) cs := fun k hk => (h.row j v hv).own hk.symm
 have hneS : ∀ k, ST k → ¬ some k = v.ownBlock := by
  intro k hk e
  obtain ⟨_, cs, hb⟩ := hown k e
  obtain ⟨_, ⟨cs', hb'⟩, h5⟩ := h.st k hk
  by_cases h5j : j = 5
  · subst h5j
    simp only [List.getElem?_cons_succ, List.getElem?_cons_zero, Option.some.injEq] at hv
    subst hv
    exact h5 e.symm
  refine Blk.ne_ hb hb' ?_ rfl
  have := kJO hj (show 5 < 6 by omega) h5j
  exact this
 have hgs : Blk X' gs 265 #[v0, v1, v2, v3, v4, v5, .int .i64 x.datas, .map (some bi), .map (some bd)] := h.hs.fr f (fun e => by
  obtain ⟨_, cs, hb⟩ := hown gs e
  exact Blk.ne_ hb h.hs (kCM j) rfl)
 have hgx := h.hx.fr f (fun e => by
  obtain ⟨_, cs, hb⟩ := hown gx e
  exact Blk.ne_ hb h.hx (kDj j) rfl)
 have F2 : Fr (One gs) X' (X'.setCell ⟨gs, j, none⟩ v') := (Fr.refl _ _).setCell _ _ (fun _ => rfl)
 have hst : ∀ k, ST k → base ≤ k ∧ (∃ cs, Blk X' k 35 cs) ∧ u5.ownBlock ≠ some k := by
  intro k hk
  obtain ⟨h1, ⟨cs, h2⟩, h3⟩ := h.st k hk
  refine ⟨h1, ⟨cs, h2.fr f (hneS k hk)⟩, ?_⟩
  by_cases h5j : j = 5
  · subst h5j
    simp only [List.set_cons_succ, List.set_cons_zero, List.cons.injEq, and_true] at hu
    obtain ⟨_, _, _, _, _, rfl⟩ := hu
    simp only [List.getElem?_cons_succ, List.getElem?_cons_zero, Option.some.injEq] at hv
    subst hv
    rcases ho with ho | ho
    · rw [ho]; exact h3
    rw [ho]; intro e; injection e with e; have := h2.lt; omega
  have : u5 = v5 := by
   have e1 : [u0, u1, u2, u3, u4, u5][5]? = ([v0, v1, v2, v3, v4, v5].set j v')[5]? := by rw [hu]
   rw [List.getElem?_set_ne h5j] at e1
   simpa using e1
  rw [this]; exact h3
 refine ⟨hgx.far (fun e => ?_) _, ?_, fun i u hu' => ?_, ?_, ?_, h.ne, h.lx, h.ls, h.li, h.ld, fun k hk => ?_⟩
 · simp only at e; subst e; exact Blk.ne_ hgx hgs dc rfl
 · have := hgs.set_ j v'
   rw [hd]
   have e : (#[v0, v1, v2, v3, v4, v5, .int .i64 x.datas, .map (some bi), .map (some bd)] : Array Value).setIfInBounds j v' = #[u0, u1, u2, u3, u4, u5, .int .i64 x.datas, .map (some bi), .map (some bd)] := by
    have : ∀ j, j < 6 → [u0, u1, u2, u3, u4, u5] = [v0, v1, v2, v3, v4, v5].set j v' → (#[v0, v1, v2, v3, v4, v5, .int .i64 x.datas, .map (some bi), .map (some bd)] : Array Value).setIfInBounds j v' = #[u0, u1, u2, u3, u4, u5, .int .i64 x.datas, .map (some bi), .map (some bd)] := by
     intro j hj hu
     match j, hj with
     | 0, _ => simp at hu; obtain ⟨rfl, rfl, rfl, rfl, rfl, rfl⟩ := hu; rfl
     | 1, _ => simp at hu; obtain ⟨rfl, rfl, rfl, rfl, rfl, rfl⟩ := hu; rfl
     | 2, _ => simp at hu; obtain ⟨rfl, rfl, rfl, rfl, rfl, rfl⟩ := hu; rfl
     | 3, _ => simp at hu; obtain ⟨rfl, rfl, rfl, rfl, rfl, rfl⟩ := hu; rfl
     | 4, _ => simp at hu; obtain ⟨rfl, rfl, rfl, rfl, rfl, rfl⟩ := hu; rfl
     | 5, _ => simp at hu; obtain ⟨rfl, rfl, rfl, rfl, rfl, rfl⟩ := hu; rfl
    exact this j hj hu
   rw [e] at this
   exact this
 · have hi6 : i < 6 := by have := (List.getElem?_eq_some_iff.1 hu').1; simpa using this
   rw [hu] at hu'
   by_cases hij : i = j
   · subst hij
     rw [List.getElem?_set_self (by simpa using hj)] at hu'
     injection hu' with hu'
     subst hu'
     refine hr.fr F2 (fun k hk e => ?_) (fun _ k hk => ⟨?_, fun e => ?_⟩)
     · simp only [One] at e; subst e
       obtain ⟨_, cs, hb⟩ := hr.own hk
       exact Blk.ne_ hb hgs (kCM _) rfl
     · obtain ⟨_, ⟨cs, hb⟩, _⟩ := hst k hk; exact hb.lt
     simp only [One] at e; subst e
     obtain ⟨_, ⟨cs, hb⟩, _⟩ := hst _ hk
     exact Blk.ne_ hb hgs dc rfl
   rw [List.getElem?_set_ne (fun e => hij e.symm)] at hu'
   have r0 := h.row i u hu'
   refine hx i hi6 hij _ _ ((r0.fr f (fun k hk e => ?_) (fun _ k hk => ⟨?_, hneS k hk⟩)).fr F2 (fun k hk e => ?_) (fun _ k hk => ⟨?_, fun e => ?_⟩))
   · obtain ⟨_, cs, hb⟩ := hown k e
     obtain ⟨_, cs', hb'⟩ := r0.own hk
     exact Blk.ne_ hb hb' (kJO hj hi6 (fun e => hij e.symm)) rfl
   · obtain ⟨_, ⟨cs, hb⟩, _⟩ := h.st k hk; exact hb.lt
   · simp only [One] at e; subst e
     obtain ⟨_, cs', hb'⟩ := r0.own hk
     exact Blk.ne_ hb' h.hs (kCM _) rfl
   · obtain ⟨_, ⟨cs, hb⟩, _⟩ := hst k hk; exact hb.lt
   simp only [One] at e; subst e
   obtain ⟨_, ⟨cs, hb⟩, _⟩ := hst _ hk
   exact Blk.ne_ hb hgs dc rfl
 · rw [hi]
   exact (h.mi.fr f (fun e => by obtain ⟨_, cs, hb⟩ := hown _ e; exact kEf h.mi hb rfl)).fr F2 (fun e => kEf h.mi h.hs e)
 · rw [hdc]
   exact (h.md.fr f (fun e => by obtain ⟨_, cs, hb⟩ := hown _ e; exact kEg h.md hb rfl)).fr F2 (fun e => kEg h.md h.hs e)
 obtain ⟨h1, ⟨cs, h2⟩, h3⟩ := hst k hk
 exact ⟨h1, ⟨cs, h2.far (fun e => by simp only at e; subst e; exact Blk.ne_ h2 hgs dc rfl) _⟩, h3⟩
end
def SpV.bring (x : SpV) (im : Im) : SpV :=
 { x with
  imp := fun j => if j = im.kind then x.imp im.kind + 1 else x.imp j
  funcs := if im.kind = 0 then x.funcs ++ [im.func] else x.funcs
  tables := if im.kind = 1 then x.tables ++ [im.table] else x.tables
  mems := if im.kind = 2 then x.mems ++ [im.mem] else x.mems
  globals := if im.kind = 3 then x.globals ++ [im.glob] else x.globals }
def SpTo (base : Nat) (X : World) (gx gs bi bd : Nat) (ST : Nat → Prop) (nI nD : Nat) (vs : LV) (x' : SpV) (w' : World) : Prop :=
 ∃ u0 u1 u2 u3 u4 u5 : Value, SpSt base w' gx gs bi bd ST nI nD u0 u1 u2 u3 u4 u5 x' ∧ Fr (kDU gx gs bi bd ST vs) X w'
abbrev q9x0 (a0 : Im) : Array Value := #[.string a0.mod, .string a0.name, .int .i64 a0.kind, .int .i64 a0.func, .int .i64 a0.table.elem, .int .i64 a0.table.lim.min, .int .i64 a0.table.lim.max, .bool a0.table.lim.has, .int .i64 a0.mem.min, .int .i64 a0.mem.max, .bool a0.mem.has, .int .i64 a0.glob.val, .bool a0.glob.mut_]
def imv (im : Im) : Value := .agg (q9x0 im)
theorem zI : ∀ w, (zeroValue 3).run prog w = .ok (.int .i64 0) w := fun _ => by kernel_rfl
abbrev q9x1 (a0 : Im) : List Value := [.int .i64 a0.table.elem, .int .i64 a0.table.lim.min, .int .i64 a0.table.lim.max, .bool a0.table.lim.has]
structure ImOk (im : Im) : Prop where
 kind : (Lit.int .i64 im.kind).wf = true
 func : (Lit.int .i64 im.func).wf = true
 table : ∀ w S, tTb.rd w S (q9x1 im) im.table
 mem : ∀ w S, tLim.rd w S [.int .i64 im.mem.min, .int .i64 im.mem.max, .bool im.mem.has] im.mem
 glob : ∀ w S, tGl.rd w S [.int .i64 im.glob.val, .bool im.glob.mut_] im.glob
theorem kJv (base : Nat) (X : World) (gx gs bi bd : Nat) (ST : Nat → Prop) (nI nD : Nat) (v0 v1 v2 v3 v4 v5 : Value) (x : SpV) (im : Im) (h : SpSt base X gx gs bi bd ST nI nD v0 v1 v2 v3 v4 v5 x) (ok : ImOk im)
    (hi0 : -1000000 ≤ x.imp im.kind) (hi1 : x.imp im.kind ≤ 1000000) (hnI : nI ≤ 1000000) (hk0 : ¬ im.kind = 0) (hk1 : ¬ im.kind = 1) (hk2 : ¬ im.kind = 2) (hk3 : ¬ im.kind = 3) :
    Calls prog 113 #[imv im, .pointer (some ⟨gx, 0, none⟩)] X fun e w' => e = .returned (.tuple #[]) ∧ SpTo base X gx gs bi bd ST (nI + 1) nD [v0, v1, v2, v3, v4, v5] (x.bring im) w' := by
 unfold imv
 have F0 := hid ((Fr.refl No X).alloc (.cells (q9x0 im) 43))
 have G0 := hid (Blk.new X 43 (q9x0 im))
 have HS := hid (h.frNo F0.o)
 have HL : Hid (∀ k, kDU gx gs bi bd ST [v0, v1, v2, v3, v4, v5] k → k < X.heap.size) := fun k hk => (h.lt hk).2
 have HK := hid ok
 clear h ok
 go_enter func113, ntmps113
 go_wp2
 generalize X.alloc (.cells (q9x0 im) 43) = W at *
 have hg : X.heap.size < W.heap.size := G0.o.lt
 have y2 : W.cell? ⟨X.heap.size, 2, none⟩ = some (.int .i64 im.kind) := G0.o.cell 2
 generalize X.heap.size = g at *
 have hw1 : IntKind.i64.wrap (x.imp im.kind + 1) = x.imp im.kind + 1 := IntWalk.i64_in _ om
 have HSd := hid (HS.o.frNo (Fr.refl No W).drew)
 obtain ⟨w1, hrun, hm1, hf1⟩ := HSd.o.mi.put (v := x.imp im.kind + 1) underlying261 underlying34 underlying3 (by simp only [maxLen]; omega) HK.o.kind (kFf ⟨by omega, by omega⟩)
 have HP := hid (HSd.o.putI hm1 hf1)
 have HF1 := hid hf1
 have hrun' : Sem.run prog (Instr.mapUpdate 261 (.map (some bi)) (.int .i64 im.kind) (.int .i64 (x.imp im.kind + 1))) W.drew = .ok () w1 := hrun
 have HRUN := hid hrun'
 clear hm1 hf1 hrun hrun'
 refine rwO (fun Y => Y.cell? ⟨gx, 0, none⟩ = some (.pointer (some ⟨gs, 0, none⟩)) ∧ Y.cell? ⟨gs, 7, none⟩ = some (.map (some bi)) ∧ Y.cell? ⟨g, 2, none⟩ = some (.int .i64 im.kind) ∧ MapI prog 34 3 Y bi nI x.imp) [8] (List.range 9) [8] ⟨HS.o.hx.drew.cell 0, HS.o.hs.drew.cell 7, y2, HS.o.mi⟩ ?_
 refine rC ?_
 refine kAY rfl rfl ?_
 simp only [zA]
 apply Exists.intro
 refine ⟨fun X hX => ?_, ?_⟩
 · (rcases id hX with ⟨s0, s1, s2, s3⟩; go_simp; rw [MapI.get s3 underlying261 underlying34 underlying3 zI HK.o.kind]; exact stillUpon_value)
 simp only [zC, Act.put]
 refine rC ?_
 refine wpO_eff rfl rfl (fun K hK => ?_)
 simp only [List.getElem_toArray, List.getElem_cons_succ, List.getElem_cons_zero]
 go_simp
 rw [HRUN.o]
 go_simp
 refine hK _ _ (fun h => by cases h) ?_
 clear hK K
 refine wpO_nil ?_
 have y3 : w1.cell? ⟨g, 2, none⟩ = some (.int .i64 im.kind) := by
  rw [(G0.o.drew.fr HF1.o (fun e => by simp only [One] at e; have := HL.o bi (.inr (.inr (.inl rfl))); omega)).cell]
  rfl
 clear y2
 have e0 : (im.kind == 0) = false := by simpa using hk0
 have e1 : (im.kind == 1) = false := by simpa using hk1
 have e2 : (im.kind == 2) = false := by simpa using hk2
 have e3 : (im.kind == 3) = false := by simpa using hk3
 go_wp2
 go_end0
 have hx : x.bring im = { x with imp := fun j => if j = im.kind then x.imp im.kind + 1 else x.imp j } := by
  simp only [SpV.bring, if_neg hk0, if_neg hk1, if_neg hk2, if_neg hk3]
 rw [hx]
 refine ⟨rfl, v0, v1, v2, v3, v4, v5, HP.o, ?_⟩
 exact (F0.o.mono (M := kDU gx gs bi bd ST [v0, v1, v2, v3, v4, v5]) (fun _ _ h => h.elim)).trans ((Fr.refl (One bi) W).drew.trans HF1.o i3) (fun i hi h => .inr (.inr (.inl h)))
theorem kJu (base : Nat) (X : World) (gx gs bi bd : Nat) (ST : Nat → Prop) (nI nD : Nat) (v0 v1 v2 v3 v4 v5 : Value) (x : SpV) (im : Im) (h : SpSt base X gx gs bi bd ST nI nD v0 v1 v2 v3 v4 v5 x) (ok : ImOk im)
    (hi0 : -1000000 ≤ x.imp im.kind) (hi1 : x.imp im.kind ≤ 1000000) (hnI : nI ≤ 1000000) (hk : Hid (im.kind = 0)) (hlen : x.funcs.length ≤ 1000000) :
    Calls prog 113 #[imv im, .pointer (some ⟨gx, 0, none⟩)] X fun e w' => e = .returned (.tuple #[]) ∧ SpTo base X gx gs bi bd ST (nI + 1) nD [v0, v1, v2, v3, v4, v5] (x.bring im) w' := by
 unfold imv
 have F0 := hid ((Fr.refl No X).alloc (.cells (q9x0 im) 43))
 have G0 := hid (Blk.new X 43 (q9x0 im))
 have HS := hid (h.frNo F0.o)
 have HL : Hid (∀ k, kDU gx gs bi bd ST [v0, v1, v2, v3, v4, v5] k → k < X.heap.size) := fun k hk => (h.lt hk).2
 have HK := hid ok
 clear h ok
 go_enter func113, ntmps113
 go_wp2
 generalize X.alloc (.cells (q9x0 im) 43) = W at *
 have hg : X.heap.size < W.heap.size := G0.o.lt
 have y2 : W.cell? ⟨X.heap.size, 2, none⟩ = some (.int .i64 im.kind) := G0.o.cell 2
 generalize X.heap.size = g at *
 have hw1 : IntKind.i64.wrap (x.imp im.kind + 1) = x.imp im.kind + 1 := IntWalk.i64_in _ om
 have HSd := hid (HS.o.frNo (Fr.refl No W).drew)
 obtain ⟨w1, hrun, hm1, hf1⟩ := HSd.o.mi.put (v := x.imp im.kind + 1) underlying261 underlying34 underlying3 (by simp only [maxLen]; omega) HK.o.kind (kFf ⟨by omega, by omega⟩)
 have HP := hid (HSd.o.putI hm1 hf1)
 have HF1 := hid hf1
 have hrun' : Sem.run prog (Instr.mapUpdate 261 (.map (some bi)) (.int .i64 im.kind) (.int .i64 (x.imp im.kind + 1))) W.drew = .ok () w1 := hrun
 have HRUN := hid hrun'
 clear hm1 hf1 hrun hrun'
 refine rwO (fun Y => Y.cell? ⟨gx, 0, none⟩ = some (.pointer (some ⟨gs, 0, none⟩)) ∧ Y.cell? ⟨gs, 7, none⟩ = some (.map (some bi)) ∧ Y.cell? ⟨g, 2, none⟩ = some (.int .i64 im.kind) ∧ MapI prog 34 3 Y bi nI x.imp) [8] (List.range 9) [8] ⟨HS.o.hx.drew.cell 0, HS.o.hs.drew.cell 7, y2, HS.o.mi⟩ ?_
 refine rC ?_
 refine kAY rfl rfl ?_
 simp only [zA]
 apply Exists.intro
 refine ⟨fun X hX => ?_, ?_⟩
 · (rcases id hX with ⟨s0, s1, s2, s3⟩; go_simp; rw [MapI.get s3 underlying261 underlying34 underlying3 zI HK.o.kind]; exact stillUpon_value)
 simp only [zC, Act.put]
 refine rC ?_
 refine wpO_eff rfl rfl (fun K hK => ?_)
 simp only [List.getElem_toArray, List.getElem_cons_succ, List.getElem_cons_zero]
 go_simp
 rw [HRUN.o]
 go_simp
 refine hK _ _ (fun h => by cases h) ?_
 clear hK K
 refine wpO_nil ?_
 have GB := hid (G0.o.drew.fr HF1.o (fun e => by simp only [One] at e; have := HL.o bi (.inr (.inr (.inl rfl))); omega))
 have y3 : w1.cell? ⟨g, 2, none⟩ = some (.int .i64 im.kind) := GB.o.cell 2
 clear y2
 have e0 : (im.kind == 0) = true := by rw [hk.o]; rfl
 have e1 : (im.kind == 1) = false := by rw [hk.o]; rfl
 have e2 : (im.kind == 2) = false := by rw [hk.o]; rfl
 have e3 : (im.kind == 3) = false := by rw [hk.o]; rfl
 go_wp2
 have HPd := hid (HP.o.frNo (Fr.refl No w1).drew)
 have hs1 : base ≤ w1.heap.size := Nat.le_trans (HP.o.lt (.inl rfl)).1 (Nat.le_of_lt HP.o.hx.lt)
 have HX : Hid (∀ Y, Fr (fun k => some k = v1.ownBlock) w1 Y → (fun Y => Y.cell? ⟨gx, 0, none⟩ = some (.pointer (some ⟨gs, 0, none⟩)) ∧ Y.cell? ⟨gs, 1, none⟩ = some v1 ∧ Y.cell? ⟨g, 3, none⟩ = some (.int .i64 im.func)) Y) := fun Y f => by
  have hown : ∀ k, some k = v1.ownBlock → ∃ cs, Blk w1 k (kCz 1) cs := fun k hk => ((HP.o.row 1 v1 rfl).own hk.symm).2
  have b1 := HP.o.hx.fr f (fun e => by obtain ⟨cs, hb⟩ := hown _ e; exact Blk.ne_ hb HP.o.hx (kDj 1) rfl)
  have b2 := HP.o.hs.fr f (fun e => by obtain ⟨cs, hb⟩ := hown _ e; exact Blk.ne_ hb HP.o.hs (kCM 1) rfl)
  have b3 := GB.o.fr f (fun e => by obtain ⟨cs, hb⟩ := hown _ e; exact Blk.ne_ hb GB.o dc rfl)
  exact ⟨b1.cell 0, b2.cell 1, b3.cell 3⟩
 refine rwO (fun Y => Y.cell? ⟨gx, 0, none⟩ = some (.pointer (some ⟨gs, 0, none⟩)) ∧ Y.cell? ⟨gs, 1, none⟩ = some v1 ∧ Y.cell? ⟨g, 3, none⟩ = some (.int .i64 im.func)) [11] (List.range 12) [7, 8, 11] (HX.o _ (Fr.refl _ _).drew) ?_
 refine rC ?_
 refine wpO_eff rfl rfl fun K hK => sz ?_
 refine hK _ _ (fun _ => HX.o _ ((Fr.refl _ _).drew.alloc _)) ?_
 clear hK K
 have HA := hid (HP.o.frNo ((Fr.refl No w1).drew.alloc (.cells #[.int .i64 im.func] 3)))
 have hrd := kEQ w1.drew [.int .i64 im.func] 3
 refine wpO_eff rfl rfl (fun K hK => ?_)
 simp only [List.getElem_toArray, List.getElem_cons_succ, List.getElem_cons_zero]
 refine kBV (t := tI) (P := prog) (base := base) (S := Emp) (v := v1) (xs := x.funcs) (ys := [im.func]) (dss := [[.int .i64 im.func]]) kFx rfl rfl rfl (HA.o.row 1 v1 rfl) (Css.one (kIJ HK.o.func)) hrd rfl (by first | omega | (simp; omega)) (by first | omega | (simp; omega)) (fun _ h => h.elim) (by show base ≤ (w1.drew.alloc _).heap.size; rw [World.size_alloc]; show base ≤ w1.heap.size + 1; omega) ?_
 intro v' w3 hr3 fr3 ho3
 have HR3 := hid hr3
 have HF3 := hid fr3
 have HO3 := hid ho3
 have F3 := hid (((Fr.refl (fun k => some k = v1.ownBlock) w1).drew.alloc (.cells #[.int .i64 im.func] 3)).trans fr3 i3)
 obtain ⟨A3, c3, rfl, _, _, _⟩ := hr3.els (S' := fun _ => True) tvv tvv
 refine hK _ _ (fun _ => HX.o _ F3.o) ?_
 clear hK K hr3 fr3 ho3 hrd
 simp only [Act.put, List.setIfInBounds_toArray, List.set_cons_zero, List.set_cons_succ]
 refine rC ?_
 have HB3 := hid (HA.o.hs.fr HF3.o (fun e => by obtain ⟨_, cs, hb⟩ := (HA.o.row 1 v1 rfl).own e.symm; exact Blk.ne_ hb HA.o.hs (kCM 1) rfl))
 have z0 : w3.cell? ⟨gs, 1, none⟩ = some v1 := HB3.o.cell 1
 have z1 : w3.frozen? ⟨gs, 1, none⟩ = false := HB3.o.frozen 1
 refine wpO_eff rfl rfl fun K hK => sz ?_
 refine hK _ _ (fun h => by cases h) ?_
 clear hK K z0 z1
 refine wpO_nil ?_
 have HZ := hid (HA.o.app (j := 1) (v := v1) (x' := { x with imp := fun j => if j = im.kind then x.imp im.kind + 1 else x.imp j, funcs := x.funcs ++ [im.func] }) (u0 := v0) (u1 := .slice A3 (x.funcs ++ [im.func]).length c3) (u2 := v2) (u3 := v3) (u4 := v4) (u5 := v5) om rfl HF3.o HR3.o HO3.o (fun i hi hne Y u h => by
     match i, hi with
     | 0, _ => exact h
     | 1, _ => exact absurd rfl hne
     | 2, _ => exact h
     | 3, _ => exact h
     | 4, _ => exact h
     | 5, _ => exact h
) rfl rfl rfl rfl)
 simp only [List.length_append, List.length_cons, List.length_nil, Nat.zero_add] at HZ
 go_wp2
 go_end0
 have hx : x.bring im = { x with imp := fun j => if j = im.kind then x.imp im.kind + 1 else x.imp j, funcs := x.funcs ++ [im.func] } := by
  simp [SpV.bring, hk.o]
 rw [hx]
 refine ⟨rfl, _, _, _, _, _, _, HZ.o, ?_⟩
 refine (((F0.o.mono (M := kDU gx gs bi bd ST [v0, v1, v2, v3, v4, v5]) (fun _ _ h => h.elim)).trans ((Fr.refl (One bi) W).drew.trans HF1.o i3) (fun i hi h => .inr (.inr (.inl h)))).trans F3.o (fun i hi h => .inr (.inr (.inr (.inr (.inr ⟨v1, by simp, h.symm⟩)))))).trans ((Fr.refl (One gs) w3).setCell _ _ (fun _ => rfl)) (fun i hi h => .inr (.inl h))
theorem kJt (base : Nat) (X : World) (gx gs bi bd : Nat) (ST : Nat → Prop) (nI nD : Nat) (v0 v1 v2 v3 v4 v5 : Value) (x : SpV) (im : Im) (h : SpSt base X gx gs bi bd ST nI nD v0 v1 v2 v3 v4 v5 x) (ok : ImOk im)
    (hi0 : -1000000 ≤ x.imp im.kind) (hi1 : x.imp im.kind ≤ 1000000) (hnI : nI ≤ 1000000) (hk : Hid (im.kind = 1)) (hlen : x.tables.length ≤ 1000000) :
    Calls prog 113 #[imv im, .pointer (some ⟨gx, 0, none⟩)] X fun e w' => e = .returned (.tuple #[]) ∧ SpTo base X gx gs bi bd ST (nI + 1) nD [v0, v1, v2, v3, v4, v5] (x.bring im) w' := by
 unfold imv
 have F0 := hid ((Fr.refl No X).alloc (.cells (q9x0 im) 43))
 have G0 := hid (Blk.new X 43 (q9x0 im))
 have HS := hid (h.frNo F0.o)
 have HL : Hid (∀ k, kDU gx gs bi bd ST [v0, v1, v2, v3, v4, v5] k → k < X.heap.size) := fun k hk => (h.lt hk).2
 have HK := hid ok
 clear h ok
 go_enter func113, ntmps113
 go_wp2
 generalize X.alloc (.cells (q9x0 im) 43) = W at *
 have hg : X.heap.size < W.heap.size := G0.o.lt
 have y2 : W.cell? ⟨X.heap.size, 2, none⟩ = some (.int .i64 im.kind) := G0.o.cell 2
 generalize X.heap.size = g at *
 have hw1 : IntKind.i64.wrap (x.imp im.kind + 1) = x.imp im.kind + 1 := IntWalk.i64_in _ om
 have HSd := hid (HS.o.frNo (Fr.refl No W).drew)
 obtain ⟨w1, hrun, hm1, hf1⟩ := HSd.o.mi.put (v := x.imp im.kind + 1) underlying261 underlying34 underlying3 (by simp only [maxLen]; omega) HK.o.kind (kFf ⟨by omega, by omega⟩)
 have HP := hid (HSd.o.putI hm1 hf1)
 have HF1 := hid hf1
 have hrun' : Sem.run prog (Instr.mapUpdate 261 (.map (some bi)) (.int .i64 im.kind) (.int .i64 (x.imp im.kind + 1))) W.drew = .ok () w1 := hrun
 have HRUN := hid hrun'
 clear hm1 hf1 hrun hrun'
 refine rwO (fun Y => Y.cell? ⟨gx, 0, none⟩ = some (.pointer (some ⟨gs, 0, none⟩)) ∧ Y.cell? ⟨gs, 7, none⟩ = some (.map (some bi)) ∧ Y.cell? ⟨g, 2, none⟩ = some (.int .i64 im.kind) ∧ MapI prog 34 3 Y bi nI x.imp) [8] (List.range 9) [8] ⟨HS.o.hx.drew.cell 0, HS.o.hs.drew.cell 7, y2, HS.o.mi⟩ ?_
 refine rC ?_
 refine kAY rfl rfl ?_
 simp only [zA]
 apply Exists.intro
 refine ⟨fun X hX => ?_, ?_⟩
 · (rcases id hX with ⟨s0, s1, s2, s3⟩; go_simp; rw [MapI.get s3 underlying261 underlying34 underlying3 zI HK.o.kind]; exact stillUpon_value)
 simp only [zC, Act.put]
 refine rC ?_
 refine wpO_eff rfl rfl (fun K hK => ?_)
 simp only [List.getElem_toArray, List.getElem_cons_succ, List.getElem_cons_zero]
 go_simp
 rw [HRUN.o]
 go_simp
 refine hK _ _ (fun h => by cases h) ?_
 clear hK K
 refine wpO_nil ?_
 have GB := hid (G0.o.drew.fr HF1.o (fun e => by simp only [One] at e; have := HL.o bi (.inr (.inr (.inl rfl))); omega))
 have y3 : w1.cell? ⟨g, 2, none⟩ = some (.int .i64 im.kind) := GB.o.cell 2
 clear y2
 have e0 : (im.kind == 0) = false := by rw [hk.o]; rfl
 have e1 : (im.kind == 1) = true := by rw [hk.o]; rfl
 have e2 : (im.kind == 2) = false := by rw [hk.o]; rfl
 have e3 : (im.kind == 3) = false := by rw [hk.o]; rfl
 go_wp2
 have HPd := hid (HP.o.frNo (Fr.refl No w1).drew)
 have hs1 : base ≤ w1.heap.size := Nat.le_trans (HP.o.lt (.inl rfl)).1 (Nat.le_of_lt HP.o.hx.lt)
 have HX : Hid (∀ Y, Fr (fun k => some k = v2.ownBlock) w1 Y → (fun Y => Y.cell? ⟨gx, 0, none⟩ = some (.pointer (some ⟨gs, 0, none⟩)) ∧ Y.cell? ⟨gs, 2, none⟩ = some v2 ∧ Y.cell? ⟨g, 4, none⟩ = some (.int .i64 im.table.elem) ∧ Y.cell? ⟨g, 5, none⟩ = some (.int .i64 im.table.lim.min) ∧ Y.cell? ⟨g, 6, none⟩ = some (.int .i64 im.table.lim.max) ∧ Y.cell? ⟨g, 7, none⟩ = some (.bool im.table.lim.has)) Y) := fun Y f => by
  have hown : ∀ k, some k = v2.ownBlock → ∃ cs, Blk w1 k (kCz 2) cs := fun k hk => ((HP.o.row 2 v2 rfl).own hk.symm).2
  have b1 := HP.o.hx.fr f (fun e => by obtain ⟨cs, hb⟩ := hown _ e; exact Blk.ne_ hb HP.o.hx (kDj 2) rfl)
  have b2 := HP.o.hs.fr f (fun e => by obtain ⟨cs, hb⟩ := hown _ e; exact Blk.ne_ hb HP.o.hs (kCM 2) rfl)
  have b3 := GB.o.fr f (fun e => by obtain ⟨cs, hb⟩ := hown _ e; exact Blk.ne_ hb GB.o dc rfl)
  exact ⟨b1.cell 0, b2.cell 2, b3.cell 4, b3.cell 5, b3.cell 6, b3.cell 7⟩
 refine rwO (fun Y => Y.cell? ⟨gx, 0, none⟩ = some (.pointer (some ⟨gs, 0, none⟩)) ∧ Y.cell? ⟨gs, 2, none⟩ = some v2 ∧ Y.cell? ⟨g, 4, none⟩ = some (.int .i64 im.table.elem) ∧ Y.cell? ⟨g, 5, none⟩ = some (.int .i64 im.table.lim.min) ∧ Y.cell? ⟨g, 6, none⟩ = some (.int .i64 im.table.lim.max) ∧ Y.cell? ⟨g, 7, none⟩ = some (.bool im.table.lim.has)) [11] (List.range 12) [7, 8, 11] (HX.o _ (Fr.refl _ _).drew) ?_
 refine rC ?_
 refine wpO_eff rfl rfl fun K hK => sz ?_
 refine hK _ _ (fun _ => HX.o _ ((Fr.refl _ _).drew.alloc _)) ?_
 clear hK K
 have HA := hid (HP.o.frNo ((Fr.refl No w1).drew.alloc (.cells #[.int .i64 im.table.elem, .int .i64 im.table.lim.min, .int .i64 im.table.lim.max, .bool im.table.lim.has] 39)))
 have hrd := kEQ w1.drew (q9x1 im) 39
 refine wpO_eff rfl rfl (fun K hK => ?_)
 simp only [List.getElem_toArray, List.getElem_cons_succ, List.getElem_cons_zero]
 refine kBV (t := tTb) (P := prog) (base := base) (S := Emp) (v := v2) (xs := x.tables) (ys := [im.table]) (dss := [(q9x1 im)]) kJl rfl rfl rfl (HA.o.row 2 v2 rfl) (Css.one (HK.o.table _ _)) hrd rfl (by first | omega | (simp; omega)) (by first | omega | (simp; omega)) (fun _ h => h.elim) (by show base ≤ (w1.drew.alloc _).heap.size; rw [World.size_alloc]; show base ≤ w1.heap.size + 1; omega) ?_
 intro v' w3 hr3 fr3 ho3
 have HR3 := hid hr3
 have HF3 := hid fr3
 have HO3 := hid ho3
 have F3 := hid (((Fr.refl (fun k => some k = v2.ownBlock) w1).drew.alloc (.cells #[.int .i64 im.table.elem, .int .i64 im.table.lim.min, .int .i64 im.table.lim.max, .bool im.table.lim.has] 39)).trans fr3 i3)
 obtain ⟨A3, c3, rfl, _, _, _⟩ := hr3.els (S' := fun _ => True) tvv tvv
 refine hK _ _ (fun _ => HX.o _ F3.o) ?_
 clear hK K hr3 fr3 ho3 hrd
 simp only [Act.put, List.setIfInBounds_toArray, List.set_cons_zero, List.set_cons_succ]
 refine rC ?_
 have HB3 := hid (HA.o.hs.fr HF3.o (fun e => by obtain ⟨_, cs, hb⟩ := (HA.o.row 2 v2 rfl).own e.symm; exact Blk.ne_ hb HA.o.hs (kCM 2) rfl))
 have z0 : w3.cell? ⟨gs, 2, none⟩ = some v2 := HB3.o.cell 2
 have z1 : w3.frozen? ⟨gs, 2, none⟩ = false := HB3.o.frozen 2
 refine wpO_eff rfl rfl fun K hK => sz ?_
 refine hK _ _ (fun h => by cases h) ?_
 clear hK K z0 z1
 refine wpO_nil ?_
 have HZ := hid (HA.o.app (j := 2) (v := v2) (x' := { x with imp := fun j => if j = im.kind then x.imp im.kind + 1 else x.imp j, tables := x.tables ++ [im.table] }) (u0 := v0) (u1 := v1) (u2 := .slice A3 (x.tables ++ [im.table]).length c3) (u3 := v3) (u4 := v4) (u5 := v5) om rfl HF3.o HR3.o HO3.o (fun i hi hne Y u h => by
     match i, hi with
     | 0, _ => exact h
     | 1, _ => exact h
     | 2, _ => exact absurd rfl hne
     | 3, _ => exact h
     | 4, _ => exact h
     | 5, _ => exact h
) rfl rfl rfl rfl)
 simp only [List.length_append, List.length_cons, List.length_nil, Nat.zero_add] at HZ
 go_wp2
 go_end0
 have hx : x.bring im = { x with imp := fun j => if j = im.kind then x.imp im.kind + 1 else x.imp j, tables := x.tables ++ [im.table] } := by
  simp [SpV.bring, hk.o]
 rw [hx]
 refine ⟨rfl, _, _, _, _, _, _, HZ.o, ?_⟩
 refine (((F0.o.mono (M := kDU gx gs bi bd ST [v0, v1, v2, v3, v4, v5]) (fun _ _ h => h.elim)).trans ((Fr.refl (One bi) W).drew.trans HF1.o i3) (fun i hi h => .inr (.inr (.inl h)))).trans F3.o (fun i hi h => .inr (.inr (.inr (.inr (.inr ⟨v2, by simp, h.symm⟩)))))).trans ((Fr.refl (One gs) w3).setCell _ _ (fun _ => rfl)) (fun i hi h => .inr (.inl h))
theorem kJs (base : Nat) (X : World) (gx gs bi bd : Nat) (ST : Nat → Prop) (nI nD : Nat) (v0 v1 v2 v3 v4 v5 : Value) (x : SpV) (im : Im) (h : SpSt base X gx gs bi bd ST nI nD v0 v1 v2 v3 v4 v5 x) (ok : ImOk im)
    (hi0 : -1000000 ≤ x.imp im.kind) (hi1 : x.imp im.kind ≤ 1000000) (hnI : nI ≤ 1000000) (hk : Hid (im.kind = 2)) (hlen : x.mems.length ≤ 1000000) :
    Calls prog 113 #[imv im, .pointer (some ⟨gx, 0, none⟩)] X fun e w' => e = .returned (.tuple #[]) ∧ SpTo base X gx gs bi bd ST (nI + 1) nD [v0, v1, v2, v3, v4, v5] (x.bring im) w' := by
 unfold imv
 have F0 := hid ((Fr.refl No X).alloc (.cells (q9x0 im) 43))
 have G0 := hid (Blk.new X 43 (q9x0 im))
 have HS := hid (h.frNo F0.o)
 have HL : Hid (∀ k, kDU gx gs bi bd ST [v0, v1, v2, v3, v4, v5] k → k < X.heap.size) := fun k hk => (h.lt hk).2
 have HK := hid ok
 clear h ok
 go_enter func113, ntmps113
 go_wp2
 generalize X.alloc (.cells (q9x0 im) 43) = W at *
 have hg : X.heap.size < W.heap.size := G0.o.lt
 have y2 : W.cell? ⟨X.heap.size, 2, none⟩ = some (.int .i64 im.kind) := G0.o.cell 2
 generalize X.heap.size = g at *
 have hw1 : IntKind.i64.wrap (x.imp im.kind + 1) = x.imp im.kind + 1 := IntWalk.i64_in _ om
 have HSd := hid (HS.o.frNo (Fr.refl No W).drew)
 obtain ⟨w1, hrun, hm1, hf1⟩ := HSd.o.mi.put (v := x.imp im.kind + 1) underlying261 underlying34 underlying3 (by simp only [maxLen]; omega) HK.o.kind (kFf ⟨by omega, by omega⟩)
 have HP := hid (HSd.o.putI hm1 hf1)
 have HF1 := hid hf1
 have hrun' : Sem.run prog (Instr.mapUpdate 261 (.map (some bi)) (.int .i64 im.kind) (.int .i64 (x.imp im.kind + 1))) W.drew = .ok () w1 := hrun
 have HRUN := hid hrun'
 clear hm1 hf1 hrun hrun'
 refine rwO (fun Y => Y.cell? ⟨gx, 0, none⟩ = some (.pointer (some ⟨gs, 0, none⟩)) ∧ Y.cell? ⟨gs, 7, none⟩ = some (.map (some bi)) ∧ Y.cell? ⟨g, 2, none⟩ = some (.int .i64 im.kind) ∧ MapI prog 34 3 Y bi nI x.imp) [8] (List.range 9) [8] ⟨HS.o.hx.drew.cell 0, HS.o.hs.drew.cell 7, y2, HS.o.mi⟩ ?_
 refine rC ?_
 refine kAY rfl rfl ?_
 simp only [zA]
 apply Exists.intro
 refine ⟨fun X hX => ?_, ?_⟩
 · (rcases id hX with ⟨s0, s1, s2, s3⟩; go_simp; rw [MapI.get s3 underlying261 underlying34 underlying3 zI HK.o.kind]; exact stillUpon_value)
 simp only [zC, Act.put]
 refine rC ?_
 refine wpO_eff rfl rfl (fun K hK => ?_)
 simp only [List.getElem_toArray, List.getElem_cons_succ, List.getElem_cons_zero]
 go_simp
 rw [HRUN.o]
 go_simp
 refine hK _ _ (fun h => by cases h) ?_
 clear hK K
 refine wpO_nil ?_
 have GB := hid (G0.o.drew.fr HF1.o (fun e => by simp only [One] at e; have := HL.o bi (.inr (.inr (.inl rfl))); omega))
 have y3 : w1.cell? ⟨g, 2, none⟩ = some (.int .i64 im.kind) := GB.o.cell 2
 clear y2
 have e0 : (im.kind == 0) = false := by rw [hk.o]; rfl
 have e1 : (im.kind == 1) = false := by rw [hk.o]; rfl
 have e2 : (im.kind == 2) = true := by rw [hk.o]; rfl
 have e3 : (im.kind == 3) = false := by rw [hk.o]; rfl
 go_wp2
 have HPd := hid (HP.o.frNo (Fr.refl No w1).drew)
 have hs1 : base ≤ w1.heap.size := Nat.le_trans (HP.o.lt (.inl rfl)).1 (Nat.le_of_lt HP.o.hx.lt)
 have HX : Hid (∀ Y, Fr (fun k => some k = v3.ownBlock) w1 Y → (fun Y => Y.cell? ⟨gx, 0, none⟩ = some (.pointer (some ⟨gs, 0, none⟩)) ∧ Y.cell? ⟨gs, 3, none⟩ = some v3 ∧ Y.cell? ⟨g, 8, none⟩ = some (.int .i64 im.mem.min) ∧ Y.cell? ⟨g, 9, none⟩ = some (.int .i64 im.mem.max) ∧ Y.cell? ⟨g, 10, none⟩ = some (.bool im.mem.has)) Y) := fun Y f => by
  have hown : ∀ k, some k = v3.ownBlock → ∃ cs, Blk w1 k (kCz 3) cs := fun k hk => ((HP.o.row 3 v3 rfl).own hk.symm).2
  have b1 := HP.o.hx.fr f (fun e => by obtain ⟨cs, hb⟩ := hown _ e; exact Blk.ne_ hb HP.o.hx (kDj 3) rfl)
  have b2 := HP.o.hs.fr f (fun e => by obtain ⟨cs, hb⟩ := hown _ e; exact Blk.ne_ hb HP.o.hs (kCM 3) rfl)
  have b3 := GB.o.fr f (fun e => by obtain ⟨cs, hb⟩ := hown _ e; exact Blk.ne_ hb GB.o dc rfl)
  exact ⟨b1.cell 0, b2.cell 3, b3.cell 8, b3.cell 9, b3.cell 10⟩
 refine rwO (fun Y => Y.cell? ⟨gx, 0, none⟩ = some (.pointer (some ⟨gs, 0, none⟩)) ∧ Y.cell? ⟨gs, 3, none⟩ = some v3 ∧ Y.cell? ⟨g, 8, none⟩ = some (.int .i64 im.mem.min) ∧ Y.cell? ⟨g, 9, none⟩ = some (.int .i64 im.mem.max) ∧ Y.cell? ⟨g, 10, none⟩ = some (.bool im.mem.has)) [11] (List.range 12) [7, 8, 11] (HX.o _ (Fr.refl _ _).drew) ?_
 refine rC ?_
 refine wpO_eff rfl rfl fun K hK => sz ?_
 refine hK _ _ (fun _ => HX.o _ ((Fr.refl _ _).drew.alloc _)) ?_
 clear hK K
 have HA := hid (HP.o.frNo ((Fr.refl No w1).drew.alloc (.cells #[.int .i64 im.mem.min, .int .i64 im.mem.max, .bool im.mem.has] 37)))
 have hrd := kEQ w1.drew [.int .i64 im.mem.min, .int .i64 im.mem.max, .bool im.mem.has] 37
 refine wpO_eff rfl rfl (fun K hK => ?_)
 simp only [List.getElem_toArray, List.getElem_cons_succ, List.getElem_cons_zero]
 refine kBV (t := tLim) (P := prog) (base := base) (S := Emp) (v := v3) (xs := x.mems) (ys := [im.mem]) (dss := [[.int .i64 im.mem.min, .int .i64 im.mem.max, .bool im.mem.has]]) kJT rfl rfl rfl (HA.o.row 3 v3 rfl) (Css.one (HK.o.mem _ _)) hrd rfl (by first | omega | (simp; omega)) (by first | omega | (simp; omega)) (fun _ h => h.elim) (by show base ≤ (w1.drew.alloc _).heap.size; rw [World.size_alloc]; show base ≤ w1.heap.size + 1; omega) ?_
 intro v' w3 hr3 fr3 ho3
 have HR3 := hid hr3
 have HF3 := hid fr3
 have HO3 := hid ho3
 have F3 := hid (((Fr.refl (fun k => some k = v3.ownBlock) w1).drew.alloc (.cells #[.int .i64 im.mem.min, .int .i64 im.mem.max, .bool im.mem.has] 37)).trans fr3 i3)
 obtain ⟨A3, c3, rfl, _, _, _⟩ := hr3.els (S' := fun _ => True) tvv tvv
 refine hK _ _ (fun _ => HX.o _ F3.o) ?_
 clear hK K hr3 fr3 ho3 hrd
 simp only [Act.put, List.setIfInBounds_toArray, List.set_cons_zero, List.set_cons_succ]
 refine rC ?_
 have HB3 := hid (HA.o.hs.fr HF3.o (fun e => by obtain ⟨_, cs, hb⟩ := (HA.o.row 3 v3 rfl).own e.symm; exact Blk.ne_ hb HA.o.hs (kCM 3) rfl))
 have z0 : w3.cell? ⟨gs, 3, none⟩ = some v3 := HB3.o.cell 3
 have z1 : w3.frozen? ⟨gs, 3, none⟩ = false := HB3.o.frozen 3
 refine wpO_eff rfl rfl fun K hK => sz ?_
 refine hK _ _ (fun h => by cases h) ?_
 clear hK K z0 z1
 refine wpO_nil ?_
 have HZ := hid (HA.o.app (j := 3) (v := v3) (x' := { x with imp := fun j => if j = im.kind then x.imp im.kind + 1 else x.imp j, mems := x.mems ++ [im.mem] }) (u0 := v0) (u1 := v1) (u2 := v2) (u3 := .slice A3 (x.mems ++ [im.mem]).length c3) (u4 := v4) (u5 := v5) om rfl HF3.o HR3.o HO3.o (fun i hi hne Y u h => by
     match i, hi with
     | 0, _ => exact h
     | 1, _ => exact h
     | 2, _ => exact h
     | 3, _ => exact absurd rfl hne
     | 4, _ => exact h
     | 5, _ => exact h
) rfl rfl rfl rfl)
 simp only [List.length_append, List.length_cons, List.length_nil, Nat.zero_add] at HZ
 go_wp2
 go_end0
 have hx : x.bring im = { x with imp := fun j => if j = im.kind then x.imp im.kind + 1 else x.imp j, mems := x.mems ++ [im.mem] } := by
  simp [SpV.bring, hk.o]
 rw [hx]
 refine ⟨rfl, _, _, _, _, _, _, HZ.o, ?_⟩
 refine (((F0.o.mono (M := kDU gx gs bi bd ST [v0, v1, v2, v3, v4, v5]) (fun _ _ h => h.elim)).trans ((Fr.refl (One bi) W).drew.trans HF1.o i3) (fun i hi h => .inr (.inr (.inl h)))).trans F3.o (fun i hi h => .inr (.inr (.inr (.inr (.inr ⟨v3, by simp, h.symm⟩)))))).trans ((Fr.refl (One gs) w3).setCell _ _ (fun _ => rfl)) (fun i hi h => .inr (.inl h))
theorem kJr (base : Nat) (X : World) (gx gs bi bd : Nat) (ST : Nat → Prop) (nI nD : Nat) (v0 v1 v2 v3 v4 v5 : Value) (x : SpV) (im : Im) (h : SpSt base X gx gs bi bd ST nI nD v0 v1 v2 v3 v4 v5 x) (ok : ImOk im)
    (hi0 : -1000000 ≤ x.imp im.kind) (hi1 : x.imp im.kind ≤ 1000000) (hnI : nI ≤ 1000000) (hk : Hid (im.kind = 3)) (hlen : x.globals.length ≤ 1000000) :
    Calls prog 113 #[imv im, .pointer (some ⟨gx, 0, none⟩)] X fun e w' => e = .returned (.tuple #[]) ∧ SpTo base X gx gs bi bd ST (nI + 1) nD [v0, v1, v2, v3, v4, v5] (x.bring im) w' := by
 unfold imv
 have F0 := hid ((Fr.refl No X).alloc (.cells (q9x0 im) 43))
 have G0 := hid (Blk.new X 43 (q9x0 im))
 have HS := hid (h.frNo F0.o)
 have HL : Hid (∀ k, kDU gx gs bi bd ST [v0, v1, v2, v3, v4, v5] k → k < X.heap.size) := fun k hk => (h.lt hk).2
 have HK := hid ok
 clear h ok
 go_enter func113, ntmps113
 go_wp2
 generalize X.alloc (.cells (q9x0 im) 43) = W at *
 have hg : X.heap.size < W.heap.size := G0.o.lt
 have y2 : W.cell? ⟨X.heap.size, 2, none⟩ = some (.int .i64 im.kind) := G0.o.cell 2
 generalize X.heap.size = g at *
 have hw1 : IntKind.i64.wrap (x.imp im.kind + 1) = x.imp im.kind + 1 := IntWalk.i64_in _ om
 have HSd := hid (HS.o.frNo (Fr.refl No W).drew)
 obtain ⟨w1, hrun, hm1, hf1⟩ := HSd.o.mi.put (v := x.imp im.kind + 1) underlying261 underlying34 underlying3 (by simp only [maxLen]; omega) HK.o.kind (kFf ⟨by omega, by omega⟩)
 have HP := hid (HSd.o.putI hm1 hf1)
 have HF1 := hid hf1
 have hrun' : Sem.run prog (Instr.mapUpdate 261 (.map (some bi)) (.int .i64 im.kind) (.int .i64 (x.imp im.kind + 1))) W.drew = .ok () w1 := hrun
 have HRUN := hid hrun'
 clear hm1 hf1 hrun hrun'
 refine rwO (fun Y => Y.cell? ⟨gx, 0, none⟩ = some (.pointer (some ⟨gs, 0, none⟩)) ∧ Y.cell? ⟨gs, 7, none⟩ = some (.map (some bi)) ∧ Y.cell? ⟨g, 2, none⟩ = some (.int .i64 im.kind) ∧ MapI prog 34 3 Y bi nI x.imp) [8] (List.range 9) [8] ⟨HS.o.hx.drew.cell 0, HS.o.hs.drew.cell 7, y2, HS.o.mi⟩ ?_
 refine rC ?_
 refine kAY rfl rfl ?_
 simp only [zA]
 apply Exists.intro
 refine ⟨fun X hX => ?_, ?_⟩
 · (rcases id hX with ⟨s0, s1, s2, s3⟩; go_simp; rw [MapI.get s3 underlying261 underlying34 underlying3 zI HK.o.kind]; exact stillUpon_value)
 simp only [zC, Act.put]
 refine rC ?_
 refine wpO_eff rfl rfl (fun K hK => ?_)
 simp only [List.getElem_toArray, List.getElem_cons_succ, List.getElem_cons_zero]
 go_simp
 rw [HRUN.o]
 go_simp
 refine hK _ _ (fun h => by cases h) ?_
 clear hK K
 refine wpO_nil ?_
 have GB := hid (G0.o.drew.fr HF1.o (fun e => by simp only [One] at e; have := HL.o bi (.inr (.inr (.inl rfl))); omega))
 have y3 : w1.cell? ⟨g, 2, none⟩ = some (.int .i64 im.kind) := GB.o.cell 2
 clear y2
 have e0 : (im.kind == 0) = false := by rw [hk.o]; rfl
 have e1 : (im.kind == 1) = false := by rw [hk.o]; rfl
 have e2 : (im.kind == 2) = false := by rw [hk.o]; rfl
 have e3 : (im.kind == 3) = true := by rw [hk.o]; rfl
 go_wp2
 have HPd := hid (HP.o.frNo (Fr.refl No w1).drew)
 have hs1 : base ≤ w1.heap.size := Nat.le_trans (HP.o.lt (.inl rfl)).1 (Nat.le_of_lt HP.o.hx.lt)
 have HX : Hid (∀ Y, Fr (fun k => some k = v4.ownBlock) w1 Y → (fun Y => Y.cell? ⟨gx, 0, none⟩ = some (.pointer (some ⟨gs, 0, none⟩)) ∧ Y.cell? ⟨gs, 4, none⟩ = some v4 ∧ Y.cell? ⟨g, 11, none⟩ = some (.int .i64 im.glob.val) ∧ Y.cell? ⟨g, 12, none⟩ = some (.bool im.glob.mut_)) Y) := fun Y f => by
  have hown : ∀ k, some k = v4.ownBlock → ∃ cs, Blk w1 k (kCz 4) cs := fun k hk => ((HP.o.row 4 v4 rfl).own hk.symm).2
  have b1 := HP.o.hx.fr f (fun e => by obtain ⟨cs, hb⟩ := hown _ e; exact Blk.ne_ hb HP.o.hx (kDj 4) rfl)
  have b2 := HP.o.hs.fr f (fun e => by obtain ⟨cs, hb⟩ := hown _ e; exact Blk.ne_ hb HP.o.hs (kCM 4) rfl)
  have b3 := GB.o.fr f (fun e => by obtain ⟨cs, hb⟩ := hown _ e; exact Blk.ne_ hb GB.o dc rfl)
  exact ⟨b1.cell 0, b2.cell 4, b3.cell 11, b3.cell 12⟩
 refine rwO (fun Y => Y.cell? ⟨gx, 0, none⟩ = some (.pointer (some ⟨gs, 0, none⟩)) ∧ Y.cell? ⟨gs, 4, none⟩ = some v4 ∧ Y.cell? ⟨g, 11, none⟩ = some (.int .i64 im.glob.val) ∧ Y.cell? ⟨g, 12, none⟩ = some (.bool im.glob.mut_)) [11] (List.range 12) [7, 8, 11] (HX.o _ (Fr.refl _ _).drew) ?_
 refine rC ?_
 refine wpO_eff rfl rfl fun K hK => sz ?_
 refine hK _ _ (fun _ => HX.o _ ((Fr.refl _ _).drew.alloc _)) ?_
 clear hK K
 have HA := hid (HP.o.frNo ((Fr.refl No w1).drew.alloc (.cells #[.int .i64 im.glob.val, .bool im.glob.mut_] 41)))
 have hrd := kEQ w1.drew [.int .i64 im.glob.val, .bool im.glob.mut_] 41
 refine wpO_eff rfl rfl (fun K hK => ?_)
 simp only [List.getElem_toArray, List.getElem_cons_succ, List.getElem_cons_zero]
 refine kBV (t := tGl) (P := prog) (base := base) (S := Emp) (v := v4) (xs := x.globals) (ys := [im.glob]) (dss := [[.int .i64 im.glob.val, .bool im.glob.mut_]]) kJm rfl rfl rfl (HA.o.row 4 v4 rfl) (Css.one (HK.o.glob _ _)) hrd rfl (by first | omega | (simp; omega)) (by first | omega | (simp; omega)) (fun _ h => h.elim) (by show base ≤ (w1.drew.alloc _).heap.size; rw [World.size_alloc]; show base ≤ w1.heap.size + 1; omega) ?_
 intro v' w3 hr3 fr3 ho3
 have HR3 := hid hr3
 have HF3 := hid fr3
 have HO3 := hid ho3
 have F3 := hid (((Fr.refl (fun k => some k = v4.ownBlock) w1).drew.alloc (.cells #[.int .i64 im.glob.val, .bool im.glob.mut_] 41)).trans fr3 i3)
 obtain ⟨A3, c3, rfl, _, _, _⟩ := hr3.els (S' := fun _ => True) tvv tvv
 refine hK _ _ (fun _ => HX.o _ F3.o) ?_
 clear hK K hr3 fr3 ho3 hrd
 simp only [Act.put, List.setIfInBounds_toArray, List.set_cons_zero, List.set_cons_succ]
 refine rC ?_
 have HB3 := hid (HA.o.hs.fr HF3.o (fun e => by obtain ⟨_, cs, hb⟩ := (HA.o.row 4 v4 rfl).own e.symm; exact Blk.ne_ hb HA.o.hs (kCM 4) rfl))
 have z0 : w3.cell? ⟨gs, 4, none⟩ = some v4 := HB3.o.cell 4
 have z1 : w3.frozen? ⟨gs, 4, none⟩ = false := HB3.o.frozen 4
 refine wpO_eff rfl rfl fun K hK => sz ?_
 refine hK _ _ (fun h => by cases h) ?_
 clear hK K z0 z1
 refine wpO_nil ?_
 have HZ := hid (HA.o.app (j := 4) (v := v4) (x' := { x with imp := fun j => if j = im.kind then x.imp im.kind + 1 else x.imp j, globals := x.globals ++ [im.glob] }) (u0 := v0) (u1 := v1) (u2 := v2) (u3 := v3) (u4 := .slice A3 (x.globals ++ [im.glob]).length c3) (u5 := v5) om rfl HF3.o HR3.o HO3.o (fun i hi hne Y u h => by
     match i, hi with
     | 0, _ => exact h
     | 1, _ => exact h
     | 2, _ => exact h
     | 3, _ => exact h
     | 4, _ => exact absurd rfl hne
     | 5, _ => exact h
) rfl rfl rfl rfl)
 simp only [List.length_append, List.length_cons, List.length_nil, Nat.zero_add] at HZ
 go_wp2
 go_end0
 have hx : x.bring im = { x with imp := fun j => if j = im.kind then x.imp im.kind + 1 else x.imp j, globals := x.globals ++ [im.glob] } := by
  simp [SpV.bring, hk.o]
 rw [hx]
 refine ⟨rfl, _, _, _, _, _, _, HZ.o, ?_⟩
 refine (((F0.o.mono (M := kDU gx gs bi bd ST [v0, v1, v2, v3, v4, v5]) (fun _ _ h => h.elim)).trans ((Fr.refl (One bi) W).drew.trans HF1.o i3) (fun i hi h => .inr (.inr (.inl h)))).trans F3.o (fun i hi h => .inr (.inr (.inr (.inr (.inr ⟨v4, by simp, h.symm⟩)))))).trans ((Fr.refl (One gs) w3).setCell _ _ (fun _ => rfl)) (fun i hi h => .inr (.inl h))
def kDi (f : Int → Bool) (l : List Ins) : Int → Bool := fun j => f j || l.any (fun i => i.op == 210 && i.a == j)
theorem kJV (f : Int → Bool) : kDi f [] = f := by funext j; simp [kDi]
theorem kJj {f : Int → Bool} {l : List Ins} {k : Nat} (hk : k < l.length) (h : (l[k].op == 210) = false) : kDi f (l.take (k + 1)) = kDi f (l.take k) := by
 funext j; rw [List.take_succ_eq_append_getElem hk]; simp only [kDi, List.any_append, List.any_cons, List.any_nil, h, Bool.false_and, Bool.or_false]
theorem kJU {f : Int → Bool} {l : List Ins} {k : Nat} (hk : k < l.length) (h : (l[k].op == 210) = true) : kDi f (l.take (k + 1)) = fun j => if j = l[k].a then true else kDi f (l.take k) j := by
 funext j; rw [List.take_succ_eq_append_getElem hk]; simp only [kDi, List.any_append, List.any_cons, List.any_nil, h, Bool.true_and, Bool.or_false]
 by_cases e : j = l[k].a
 · subst e; simp
 have : (l[k].a == j) = false := by simpa using fun h => e h.symm
 rw [this, if_neg e]; simp
theorem SpSt.monoD {base : Nat} {X : World} {gx gs bi bd : Nat} {ST : Nat → Prop} {nI nD : Nat} {v0 v1 v2 v3 v4 v5 : Value} {x : SpV} (h : SpSt base X gx gs bi bd ST nI nD v0 v1 v2 v3 v4 v5 x) {n' : Nat} (hn : nD ≤ n') : SpSt base X gx gs bi bd ST nI n' v0 v1 v2 v3 v4 v5 x :=
 ⟨h.hx, h.hs, h.row, h.mi, h.md.mono hn, h.ne, h.lx, h.ls, h.li, h.ld, h.st⟩
theorem kGC (base : Nat) (X : World) (gx gs bi bd : Nat) (ST S0 : Nat → Prop) (nI nD : Nat) (v0 v1 v2 v3 v4 v5 : Value) (x : SpV) (l : List Ins) (n c : Nat) (A : OA) (h : SpSt base X gx gs bi bd ST nI nD v0 v1 v2 v3 v4 v5 x)
    (hl : tIns.els X S0 A l) (hS0 : ∀ k, S0 k → k < base) (hn : Hid (l.length = n)) (hn' : n ≤ 140737488351232) (hnD : nD ≤ 5000000000000000000) :
    Calls prog 114 #[.slice A n c, .pointer (some ⟨gx, 0, none⟩)] X fun e w' => e = .returned (.tuple #[]) ∧ SpSt base w' gx gs bi bd ST nI (nD + n) v0 v1 v2 v3 v4 v5 { x with dec := kDi x.dec l } ∧ Fr (One bd) X w' := by
 have HS := hid h
 have HL := hid hl
 have HS0 := hid hS0
 have HND := hid hnD
 clear h hl hS0 hnD
 go_enter func114, ntmps114
 go_wp2
 go_loopw [7] (fun i wr => ∃ k nd : Nat, i = .int .i64 k ∧ k ≤ n ∧ Hid (nd ≤ nD + k) ∧ Hid (SpSt base wr gx gs bi bd ST nI nd v0 v1 v2 v3 v4 v5 { x with dec := kDi x.dec (l.take k) }) ∧ Hid (Fr (One bd) X wr)) (fun i _ => n - (intOf i).toNat)
 case atStart => exact ⟨0, nD, rfl, by omega, nr, by rw [List.take_zero, kJV]; exact HS.o, Fr.refl _ _⟩
 obtain ⟨k, nd, rfl, hk, HD, HW, HF⟩ := hrel
 by_cases hlt : k < n
 · have hlt' : k < l.length := by rw [hn.o]; exact hlt
   have HLr := HL.o.fr HF.o (fun q hq => ⟨ltl (HS0.o q hq) (Nat.le_trans (HS.o.lt (.inl rfl)).1 (Nat.le_of_lt HS.o.hx.lt)), fun e => by simp only [One] at e; have := HS0.o q hq; have := HS.o.ld; omega⟩)
   obtain ⟨b, o, At, ct, Al, cl, rfl, hb, y0, y1, y2, y3, y4, y5, y6, y7, y8, w0, w1, -⟩ := kIU HLr k hlt'
   have hbr : b < wr.heap.size := ltl (ltl (HS0.o b hb) (Nat.le_trans (HS.o.lt (.inl rfl)).1 (Nat.le_of_lt HS.o.hx.lt))) HF.o.size
   have i0 := nki k
   have i1 : (k : Int) < n := om
   have HNo := hid (kJj (f := x.dec) hlt')
   have HYe := hid (kJU (f := x.dec) hlt')
   have HWA := hid w1
   clear HLr w0 w1
   generalize l[k] = it at *
   have F1 := hid ((Fr.refl No wr).alloc (.cells #[.int .i64 it.op, .int .i64 it.a, .int .i64 it.b, .int .u64 it.n, .int .i64 it.block.kind, .int .i64 it.block.val, .int .i64 it.block.index, .slice At it.types.length ct, .slice Al it.labels.length cl] 159))
   have G1 := hid (Blk.new wr 159 #[.int .i64 it.op, .int .i64 it.a, .int .i64 it.b, .int .u64 it.n, .int .i64 it.block.kind, .int .i64 it.block.val, .int .i64 it.block.index, .slice At it.types.length ct, .slice Al it.labels.length cl])
   cases hop : (it.op == 210) with
   | false =>
    have HOP := hid hop
    go_wp2
    go_roundw
    case rel => exact ⟨k + 1, nd, by go_num, by omega, by have := HD.o; show nd ≤ _; omega, by rw [Hid, HNo.o HOP.o]; exact HW.o.frNo F1.o, HF.o.trans (F1.o.mono (M := One bd) (fun _ _ h => h.elim)) i3⟩
    case measure => simp [intOf]; omega
   | true =>
    have HOP := hid hop
    go_wp2
    have HA := hid (HW.o.frNo F1.o.drew)
    generalize wr.alloc (.cells #[.int .i64 it.op, .int .i64 it.a, .int .i64 it.b, .int .u64 it.n, .int .i64 it.block.kind, .int .i64 it.block.val, .int .i64 it.block.index, .slice At it.types.length ct, .slice Al it.labels.length cl] 159) = W1 at *
    generalize wr.heap.size = g at *
    obtain ⟨w1, hrun, hm1, hf1⟩ := HA.o.md.put (v := true) underlying262 underlying3 underlying4 (by have := HD.o; have := HND.o; simp only [maxLen]; omega) HWA.o
    have HRUN := hid hrun
    have HP := hid (HA.o.putB hm1 hf1)
    have HF1 := hid hf1
    clear hrun hm1 hf1
    refine rwO (fun Y => Y.cell? ⟨gx, 0, none⟩ = some (.pointer (some ⟨gs, 0, none⟩)) ∧ Y.cell? ⟨gs, 8, none⟩ = some (.map (some bd)) ∧ Y.cell? ⟨g, 1, none⟩ = some (.int .i64 it.a)) [6] (List.range 7) [6] ⟨HA.o.hx.cell 0, HA.o.hs.cell 8, G1.o.drew.cell 1⟩ ?_
    refine rC ?_
    refine wpO_eff rfl rfl (fun K hK => ?_)
    simp only [List.getElem_toArray, List.getElem_cons_succ, List.getElem_cons_zero]
    go_simp
    rw [HRUN.o]
    go_simp
    refine hK _ _ (fun h => by cases h) ?_
    clear hK K
    refine wpO_nil ?_
    go_wp2
    go_roundw
    case rel => exact ⟨k + 1, nd + 1, by go_num, by omega, by have := HD.o; show nd + 1 ≤ _; omega, by rw [Hid, HYe.o HOP.o]; exact HP.o, (HF.o.trans (F1.o.drew.mono (M := One bd) (fun _ _ h => h.elim)) i3).trans HF1.o i3⟩
    case measure => simp [intOf]; omega
 go_wp2
 go_end0
 obtain rfl : k = n := om
 rw [show l.take k = l from List.take_of_length_le (by rw [hn.o]; exact nr)] at HW
 exact ⟨rfl, HW.o.monoD (by have := HD.o; omega), HF.o⟩
theorem kER {α β : Type} {f : β → α → β} {a : β} {l : List α} {k : Nat} (hk : k < l.length) : (l.take (k + 1)).foldl f a = f ((l.take k).foldl f a) l[k] := by
 rw [List.take_succ_eq_append_getElem hk, List.foldl_append]; rfl
def SpV.zero (datas : Int) : SpV := ⟨[], [], [], [], [], [], datas, fun _ => 0, fun _ => false⟩
def SpV.glob (x : SpV) (g : Gd) : SpV := { x with globals := x.globals ++ [g.type], dec := kDi x.dec g.init }
def SpV.elem (x : SpV) (e : El) : SpV := { x with elems := x.elems ++ [e.type], dec := e.items.foldl kDi x.dec }
def SpV.exp (x : SpV) (e : Ex) : SpV := if e.kind = 0 then { x with dec := fun j => if j = e.index then true else x.dec j } else x
def SpV.s1 (m : Md) : SpV := { SpV.zero m.datas.length with types := m.types }
def SpV.s2 (m : Md) : SpV := m.imports.foldl SpV.bring (SpV.s1 m)
def SpV.s3 (m : Md) : SpV := { SpV.s2 m with funcs := (SpV.s2 m).funcs ++ m.funcs.map (·.type) }
def SpV.s4 (m : Md) : SpV := { SpV.s3 m with tables := (SpV.s3 m).tables ++ m.tables }
def SpV.s5 (m : Md) : SpV := { SpV.s4 m with mems := (SpV.s4 m).mems ++ m.mems }
def SpV.s6 (m : Md) : SpV := m.globals.foldl SpV.glob (SpV.s5 m)
def SpV.s7 (m : Md) : SpV := m.elems.foldl SpV.elem (SpV.s6 m)
def SpV.of (m : Md) : SpV := m.exports.foldl SpV.exp (SpV.s7 m)
def OfSt (W : World) (base gx gs bi bd nI nD : Nat) (x : SpV) (Y : World) : Prop :=
 Fr (fun k => base ≤ k) W Y ∧ ∃ (ST : Nat → Prop) (v0 v1 v2 v3 v4 v5 : Value), SpSt base Y gx gs bi bd ST nI nD v0 v1 v2 v3 v4 v5 x
section
variable {base : Nat} {X X' : World} {gx gs bi bd : Nat} {ST : Nat → Prop} {nI nD : Nat} {v0 v1 v2 v3 v4 v5 : Value} {x : SpV}
theorem SpSt.stMore (h : SpSt base X gx gs bi bd ST nI nD v0 v1 v2 v3 v4 v5 x) {ST' : Nat → Prop} (hs : ∀ k, ST k → ST' k) (hn : ∀ k, ST' k → ¬ ST k → base ≤ k ∧ (∃ cs, Blk X k 35 cs) ∧ v5.ownBlock ≠ some k) : SpSt base X gx gs bi bd ST' nI nD v0 v1 v2 v3 v4 v5 x := by
 refine ⟨h.hx, h.hs, fun j v hv => ?_, h.mi, h.md, h.ne, h.lx, h.ls, h.li, h.ld, fun k hk => ?_⟩
 · have := h.row j v hv
   unfold rowAt at this ⊢
   split at this
   · exact this.more nr hs
   all_goals exact this
 by_cases hk' : ST k
 · exact h.st k hk'
 exact hn k hk hk'
theorem SpSt.size (h : SpSt base X gx gs bi bd ST nI nD v0 v1 v2 v3 v4 v5 x) : base ≤ X.heap.size := Nat.le_trans h.lx (Nat.le_of_lt h.hx.lt)
theorem SpSt.rests (h : SpSt base X gx gs bi bd ST nI nD v0 v1 v2 v3 v4 v5 x) (f : Fr (kDU gx gs bi bd ST [v0, v1, v2, v3, v4, v5]) X X') : Fr (fun k => base ≤ k) X X' := f.mono fun i _ hi => (h.lt hi).1
theorem SpSt.ownTag (h : SpSt base X gx gs bi bd ST nI nD v0 v1 v2 v3 v4 v5 x) {j : Nat} {v : Value} (hv : [v0, v1, v2, v3, v4, v5][j]? = some v) {k : Nat} (hk : some k = v.ownBlock) : base ≤ k ∧ k < X.heap.size ∧ ∃ cs, Blk X k (kCz j) cs := by
 obtain ⟨h1, cs, h2⟩ := (h.row j v hv).own hk.symm
 exact ⟨h1, h2.lt, cs, h2⟩
end
theorem kJX (base : Nat) (X : World) (gx gs bi bd : Nat) (ST : Nat → Prop) (nI nD : Nat) (v0 v1 v2 v3 v4 v5 : Value) (x : SpV) (im : Im) (h : SpSt base X gx gs bi bd ST nI nD v0 v1 v2 v3 v4 v5 x) (ok : ImOk im)
    (hi0 : -1000000 ≤ x.imp im.kind) (hi1 : x.imp im.kind ≤ 1000000) (hnI : nI ≤ 1000000) (l1 : x.funcs.length ≤ 1000000) (l2 : x.tables.length ≤ 1000000) (l3 : x.mems.length ≤ 1000000) (l4 : x.globals.length ≤ 1000000) :
    Calls prog 113 #[imv im, .pointer (some ⟨gx, 0, none⟩)] X fun e w' => e = .returned (.tuple #[]) ∧ SpTo base X gx gs bi bd ST (nI + 1) nD [v0, v1, v2, v3, v4, v5] (x.bring im) w' := by
 by_cases h0 : im.kind = 0
 · exact kJu base X gx gs bi bd ST nI nD v0 v1 v2 v3 v4 v5 x im h ok hi0 hi1 hnI h0 l1
 by_cases h1 : im.kind = 1
 · exact kJt base X gx gs bi bd ST nI nD v0 v1 v2 v3 v4 v5 x im h ok hi0 hi1 hnI h1 l2
 by_cases h2 : im.kind = 2
 · exact kJs base X gx gs bi bd ST nI nD v0 v1 v2 v3 v4 v5 x im h ok hi0 hi1 hnI h2 l3
 by_cases h3 : im.kind = 3
 · exact kJr base X gx gs bi bd ST nI nD v0 v1 v2 v3 v4 v5 x im h ok hi0 hi1 hnI h3 l4
 exact kJv base X gx gs bi bd ST nI nD v0 v1 v2 v3 v4 v5 x im h ok hi0 hi1 hnI h0 h1 h2 h3
structure SpLe (x : SpV) (n : Nat) : Prop where
 f : x.funcs.length ≤ n
 t : x.tables.length ≤ n
 m : x.mems.length ≤ n
 g : x.globals.length ≤ n
 i0 : ∀ j, 0 ≤ x.imp j
 i1 : ∀ j, x.imp j ≤ n
theorem SpLe.bring {x : SpV} {n : Nat} (h : SpLe x n) (im : Im) : SpLe (x.bring im) (n + 1) := by
 obtain ⟨h1, h2, h3, h4, h5, h6⟩ := h
 refine ⟨?_, ?_, ?_, ?_, fun j => ?_, fun j => ?_⟩
 · exact yy60
 · exact yy60
 · exact yy60
 · exact yy60
 · have := h5 j; have := h5 im.kind; simp only [SpV.bring]; split <;> omega
 have := h6 j; have := h6 im.kind; simp only [SpV.bring]; split <;> omega
theorem SpLe.fold {x : SpV} {n : Nat} (h : SpLe x n) : ∀ (l : List Im), SpLe (l.foldl SpV.bring x) (n + l.length) := by
 intro l
 induction l generalizing x n with
 | nil => exact h
 | cons a l ih =>
  have := ih (h.bring a)
  rw [List.foldl_cons, List.length_cons, show n + (l.length + 1) = n + 1 + l.length by omega]
  exact this
theorem kHO (m : Md) : SpLe (SpV.s1 m) 0 := ⟨by simp [SpV.s1, SpV.zero], by simp [SpV.s1, SpV.zero], by simp [SpV.s1, SpV.zero], by simp [SpV.s1, SpV.zero], fun j => by simp [SpV.s1, SpV.zero], fun j => by simp [SpV.s1, SpV.zero]⟩
theorem kJf (x : SpV) (l : List Gd) : (l.foldl SpV.glob x).globals.length = x.globals.length + l.length := by
 induction l generalizing x with
 | nil => rfl
 | cons a l ih => rw [List.foldl_cons, ih]; simp [SpV.glob]; omega
theorem kJi (x : SpV) (l : List El) : (l.foldl SpV.elem x).elems.length = x.elems.length + l.length := by
 induction l generalizing x with
 | nil => rfl
 | cons a l ih => rw [List.foldl_cons, ih]; simp [SpV.elem]; omega
theorem kJd {α : Type} {t : Ty α} {w : World} {S : Nat → Prop} {A : OA} {ls : List (List α)} (h : t.slice.els w S A ls) (k : Nat) (hk : k < ls.length) : ∃ (b o : Nat) (A' : OA) (c' : Nat), A = some ⟨b, o, none⟩ ∧ S b ∧ w.cell? ⟨b, o + k, none⟩ = some (.slice A' ls[k].length c') ∧ t.els w S A' ls[k] := by
 obtain ⟨b, o, ds, rfl, hb, hc, A', c', rfl, _, _, he⟩ := h.at_ k hk
 have := hc 0 _ rfl
 have e : (Ty.slice t).size = 1 := rfl
 rw [e, Nat.mul_one, Nat.add_zero] at this
 exact ⟨b, o, A', c', rfl, hb, this, he⟩
theorem kJF (x : SpV) (l : List Im) : (l.foldl SpV.bring x).elems = x.elems := by
 induction l generalizing x with
 | nil => rfl
 | cons a l ih => rw [List.foldl_cons, ih]; rfl
theorem kJM (x : SpV) (l : List Gd) : (l.foldl SpV.glob x).elems = x.elems := by
 induction l generalizing x with
 | nil => rfl
 | cons a l ih => rw [List.foldl_cons, ih]; rfl
theorem kJa (m : Md) : (SpV.s6 m).elems.length = 0 := by
 rw [SpV.s6, kJM]
 show (SpV.s2 m).elems.length = 0
 rw [SpV.s2, kJF]; rfl
theorem SpSt.base {base base' : Nat} {X : World} {gx gs bi bd : Nat} {ST : Nat → Prop} {nI nD : Nat} {v0 v1 v2 v3 v4 v5 : Value} {x : SpV} (h : SpSt base X gx gs bi bd ST nI nD v0 v1 v2 v3 v4 v5 x) (hb : base' ≤ base) : SpSt base' X gx gs bi bd ST nI nD v0 v1 v2 v3 v4 v5 x := by
 refine ⟨h.hx, h.hs, fun j v hv => ?_, h.mi, h.md, h.ne, Nat.le_trans hb h.lx, Nat.le_trans hb h.ls, Nat.le_trans hb h.li, Nat.le_trans hb h.ld, fun k hk => ⟨Nat.le_trans hb (h.st k hk).1, (h.st k hk).2⟩⟩
 have := h.row j v hv
 unfold rowAt at this ⊢
 split at this <;> exact this.more hb i2
theorem kJg {w : World} {base : Nat} {A1 A2 : OA} {c1 c2 : Nat} {f : Fn} (h : FnNew w base A1 c1 A2 c2 f) {S' : Nat → Prop} (h1 : ∀ g, (Value.slice A1 f.params.length c1).ownBlock = some g → S' g) (h2 : ∀ g, (Value.slice A2 f.results.length c2).ownBlock = some g → S' g) :
    tFn.rd w S' [.slice A1 f.params.length c1, .slice A2 f.results.length c2] f := by
 obtain ⟨A, c, e1, l1, m1, k1⟩ := h.p.els (S' := S') (fun _ h => h.elim) h1
 obtain ⟨A', c', e2, l2, m2, k2⟩ := h.r.els (S' := S') (fun _ h => h.elim) h2
 injection e1 with a1 _ a2
 injection e2 with b1 _ b2
 subst a1 a2 b1 b2
 exact kHN l1 m1 k1 l2 m2 k2
end Go.Proofs.YthggdemiddjlgaaGreat
