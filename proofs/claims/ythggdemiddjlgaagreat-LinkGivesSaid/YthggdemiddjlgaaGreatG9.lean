/- Part 9 of the proof: lemmas and contracts of functions. No condition. -/
import Derived.Test.YthggdemiddjlgaaGreatG7
import Derived.Test.YthggdemiddjlgaaGreatG8
import Derived.Test.YthggdemiddjlgaaGreatG5
import Derived.Test.YthggdemiddjlgaaGreatG1
set_option maxRecDepth 100000
set_option maxHeartbeats 12800000
set_option linter.unusedVariables false
set_option linter.unusedSimpArgs false
set_option linter.unusedSectionVars false
namespace Go.Proofs.YthggdemiddjlgaaGreat
open Go.RowKit Go.Proofs.Tryz
structure AdB (a : Ad) : Prop where
 funcs : a.funcs.length ≤ 1048576
 tables : a.tables.length ≤ 1048576
 mems : a.mems.length ≤ 1048576
 globals : a.globals.length ≤ 1048576
 elems : a.elems.length ≤ 1048576
 datas : a.datas.length ≤ 1048576
def kBZ (x : Rx) (m : Md) (a : Ad) : Rx × Int := if 16 ≤ x.insts.length then (x, -1) else ({ x with insts := x.insts ++ [⟨m, a⟩] }, x.insts.length)
theorem kIF : ∀ {l : LV}, l.length = 12 → ∃ m0 m1 m2 m3 m4 m5 m6 m7 m8 m9 m10 m11, l = [m0, m1, m2, m3, m4, m5, m6, m7, m8, m9, m10, m11]
 | [m0, m1, m2, m3, m4, m5, m6, m7, m8, m9, m10, m11], _ => ⟨_, _, _, _, _, _, _, _, _, _, _, _, rfl⟩
theorem kIa : ∀ {l : LV}, l.length = 6 → ∃ m0 m1 m2 m3 m4 m5, l = [m0, m1, m2, m3, m4, m5]
 | [m0, m1, m2, m3, m4, m5], _ => ⟨_, _, _, _, _, _, rfl⟩
theorem kHs {w : World} {S : Nat → Prop} {m : Md} {a : Ad} {ms ns : LV} (h : tMd.rd w S ms m) (k : tAd.rd w S ns a) : tRi.rd w S (ms ++ ns) ⟨m, a⟩ := ⟨ms, ns, rfl, h, k⟩
section
variable {w : World} {R : Nat → Prop} {V : Pl} {x : Rx}
theorem kEc (h : StIn w R V x) (m : Md) (a : Ad) {ms ns : LV} (S : Nat → Prop) (hm : tMd.rd w S ms m) (ha : tAd.rd w S ns a) (hS : Lt S w) (hb : MdB m) (hab : AdB a) (hn : x.insts.length ≤ 1000000) :
    Calls prog 31 #[.pointer (some ⟨V.P, 0, none⟩), .agg ms.toArray, .agg ns.toArray] w (GrTo R V (.int .i64 (kBZ x m a).2) (kBZ x m a).1 w) := by
 have F0 := hid (((Fr.refl No w).alloc (.cells ms.toArray 55)).alloc (.cells ns.toArray 100))
 have G0 := hid ((Blk.new w 55 ms.toArray).alloc (.cells ns.toArray 100))
 have G1 := hid (Blk.new1 w (.cells ms.toArray 55) 100 ns.toArray)
 have HM := hid hm
 have HA := hid ha
 have HS := hid hS
 have HB := hid hb
 have HAB := hid hab
 have H := hid (h.frNo F0.o)
 have HPl := hid (h.lt V.oP)
 have HLO := hid h.low
 have HON := hid h.own
 have hl1 : ms.length = 12 := TyOk.len _ _ _ _ hm
 have hl2 : ns.length = 6 := TyOk.len _ _ _ _ ha
 have HL1 := hid hl1
 have HL2 := hid hl2
 clear hm ha hS hb hab h hl1 hl2
 go_enter func31, ntmps31
 go_upto_region 1 with fail
 generalize (w.alloc (.cells ms.toArray 55)).alloc (.cells ns.toArray 100) = W at *
 obtain ⟨A, c, hv, _, _⟩ := H.o.sl_is
 have hcell : W.cell? ⟨V.P, 9, none⟩ = some (.slice A x.insts.length c) := by rw [← hv]; exact H.o.blk.cell 9
 clear hv
 have HNN := hid hn
 by_cases hf : 16 ≤ x.insts.length
 · have d1 : decide ((x.insts.length : Int) < 16) = false := by simp; omega
   have d2 : decide (x.insts.length < 16) = false := by simp; omega
   have i1 : (16 : Int) ≤ x.insts.length := om
   have HF := hid hf
   clear hf
   go_wp2
   go_ret
   have e : kBZ x m a = (x, -1) := by unfold kBZ; rw [if_pos HF.o]
   rw [e]
   exact ⟨V, R, rfl, H.o, Grown.of_no F0.o⟩
 have d1 : decide ((x.insts.length : Int) < 16) = true := by simp; omega
 have i1 : (x.insts.length : Int) < 16 := om
 have HF := hid hf
 clear hf
 go_wp2_with fail
 clear hcell d1 i1
 have HX : Hid (∀ X : World, X.heap[w.heap.size]? = W.heap[w.heap.size]? → X.heap[w.heap.size + 1]? = W.heap[w.heap.size + 1]? → X.rangeAt w.heap.size 0 ms ∧ X.rangeAt (w.heap.size + 1) 0 ns) := fun X e1 e2 => ⟨by simpa using rangeAt_blk (cs := ms.toArray) (t := 55) (show Blk X _ _ _ from e1.trans G0.o), by simpa using rangeAt_blk (cs := ns.toArray) (t := 100) (show Blk X _ _ _ from e2.trans G1.o)⟩
 have HI1 : Hid ((prog.info? 55).map (·.size) = some ms.length) := by unfold Hid; rw [HL1.o]; kernel_rfl
 have HI2 : Hid ((prog.info? 100).map (·.size) = some ns.length) := by unfold Hid; rw [HL2.o]; kernel_rfl
 have HGL := hid (And.intro G0.o.lt G1.o.lt)
 have HXN : Hid (∀ X, Fr No W X → X.rangeAt w.heap.size 0 ms ∧ X.rangeAt (w.heap.size + 1) 0 ns) := fun X f => HX.o X (f.block _ HGL.o.1 id) (f.block _ HGL.o.2 id)
 have FZ := hid (Fr.refl No W).drew
 refine rwP (fun X => X.rangeAt w.heap.size 0 ms ∧ X.rangeAt (w.heap.size + 1) 0 ns) [] [0, 1, 2, 3, 5, 4, 6, 7, 8, 9] [4, 6, 8] (HXN.o _ FZ.o) ?_
 iterate 3 (first | (refine kCf rfl rfl rfl ?_; simp only [zA]; apply Exists.intro; refine ⟨fun X => ?_, ?_⟩; (go_simp; exact stillUpon_value); simp only [zC, Act.put]) | (refine kBN rfl rfl rfl ?_; simp only [zA]; apply Exists.intro; refine ⟨fun X hX => ?_, ?_⟩; (clear hX; go_simp; exact stillUpon_value); simp only [zC, Act.put]))
 refine kBq rfl rfl rfl 55 _ rfl (w.heap.size) (0) (by rfl) ms _ (fun X hX => hX.1) underlying55 (by rfl) HI1.o ?_
 simp only [zA, zC, Act.put]
 refine kBq rfl rfl rfl 100 _ rfl (w.heap.size + 1) (0) (by rfl) ns _ (fun X hX => hX.2) underlying100 (by rfl) HI2.o ?_
 simp only [zA, zC, Act.put]
 refine kAI rfl rfl fun K hK => sz ?_
 refine (kDs m S _ (kAO HM.o (F0.o.trans FZ.o i3) HS.o i2) (fun k hk => ltl (HS.o k hk) (F0.o.trans FZ.o i3).size) HB.o).mono ?_
 rintro e w1 ⟨ms', rfl, hr1, f1⟩
 have R1 : Hid (tMd.rd w1 (Nw W w1) ms' m) := TyMore.more _ _ _ _ _ hr1 (fun k hk => ⟨Nat.le_trans FZ.o.size hk.1, hk.2⟩)
 replace FZ := ftr FZ f1
 clear hr1 f1
 refine hK _ _ (fun _ => HXN.o _ FZ.o) ?_
 clear hK K
 refine kAI rfl rfl fun K hK => sz ?_
 refine (kCD a S _ (kAO HA.o (F0.o.trans FZ.o i3) HS.o i2) (fun k hk => ltl (HS.o k hk) (F0.o.trans FZ.o i3).size) (by have := HAB.o.funcs; omega) (by have := HAB.o.tables; omega) (by have := HAB.o.mems; omega) (by have := HAB.o.globals; omega) (by have := HAB.o.elems; omega) (by have := HAB.o.datas; omega)).mono ?_
 rintro e w2 ⟨ns', rfl, hr2, f2⟩
 have R2 : Hid (tAd.rd w2 (Nw W w2) ns' a) := TyMore.more _ _ _ _ _ hr2 (fun k hk => ⟨Nat.le_trans FZ.o.size hk.1, hk.2⟩)
 replace R1 : Hid (tMd.rd w2 (Nw W w2) ms' m) := kAO R1.o f2 (fun k hk => hk.2) (fun k hk => ⟨hk.1, ltl hk.2 f2.size⟩)
 replace FZ := ftr FZ f2
 clear hr2 f2
 have hl1' : ms'.length = 12 := TyOk.len _ _ _ _ R1.o
 have hl2' : ns'.length = 6 := TyOk.len _ _ _ _ R2.o
 have K1 := hid (H.o.frNo FZ.o)
 have HLW : Hid (Lt R W) := fun k r => ltl (HLO.o k r) F0.o.size
 have RX : Hid (tRi.rd w2 (Sd w2 R) (ms' ++ ns') ⟨m, a⟩) := TyMore.more _ _ _ _ _ (kHs R1.o R2.o) (fun k hk => kIA HLW.o hk)
 have HAD := hid (kGD V.P 9 (Sd w2 R) V.is x.insts (ms' ++ ns') ⟨m, a⟩ w2 (K1.o.addIn_is RX.o HNN.o))
 refine hK _ _ (fun _ => HXN.o _ FZ.o) ?_
 clear hK K
 obtain ⟨m0, m1, m2, m3, m4, m5, m6, m7, m8, m9, m10, m11, hms⟩ := kIF hl1'
 obtain ⟨n0, n1, n2, n3, n4, n5, hns⟩ := kIa hl2'
 subst hms hns
 clear hl1' hl2' R1 R2 RX
 repeat (first | refine pS ?_ | refine pF ?_ | refine pX (fun (X : World) (h : X.rangeAt w.heap.size 0 ms ∧ X.rangeAt (w.heap.size + 1) 0 ns) => h) ?_)
 refine kAI rfl rfl fun K hK => sz ?_
 refine HAD.o.mono ?_
 intro e w3 ha
 obtain ⟨V', R', rfl, h2, h3⟩ := K1.o.added_is ha
 have hno : ∀ k, w.heap.size ≤ k → k < w2.heap.size → w3.heap[k]? = w2.heap[k]? := fun k hk hk2 => h3.fr.block k hk2 (fun o => by have := HLO.o k (HON.o k o); omega)
 have hX3 : w3.rangeAt w.heap.size 0 ms ∧ w3.rangeAt (w.heap.size + 1) 0 ns := by
  have s2 := FZ.o.size
  have g1 := HGL.o.1
  have g2 := HGL.o.2
  exact HX.o _ ((hno _ nr om).trans (FZ.o.block _ g1 id)) ((hno _ om om).trans (FZ.o.block _ g2 id))
 refine hK _ _ (fun _ => hX3) ?_
 clear hK K
 repeat (first | refine pS ?_ | refine pF ?_ | refine pX (fun (X : World) (h : X.rangeAt w.heap.size 0 ms ∧ X.rangeAt (w.heap.size + 1) 0 ns) => h) ?_)
 refine kAs ?_
 clear HX HXN HAD ha
 have H2 := hid h2
 have H3 := hid h3
 clear h2 h3 hno hX3
 go_wp2
 go_ret
 have e : kBZ x m a = ({ x with insts := x.insts ++ [⟨m, a⟩] }, ((x.insts.length : Nat) : Int)) := by unfold kBZ; rw [if_neg HF.o]
 rw [e]
 exact ⟨V', R', rfl, H2.o, (Grown.of_no (F0.o.trans FZ.o i3)).trans H3.o⟩
abbrev q9x1 : List Value := [.slice none 0 0, .slice none 0 0, .slice none 0 0, .slice none 0 0, .slice none 0 0, .slice none 0 0, .slice none 0 0, .bool false, .int .i64 0, .slice none 0 0, .slice none 0 0, .slice none 0 0]
abbrev q9x3 : List Value := [.slice none 0 0, .slice none 0 0, .slice none 0 0, .slice none 0 0, .slice none 0 0, .slice none 0 0]
theorem kEf (w : World) (S : Nat → Prop) : tMd.rd w S q9x1 zRi.m ∧ tAd.rd w S q9x3 zRi.a := ⟨Md_mk (a := zRi.m) nz nz (.inl rfl) nz nz (.inl rfl) nz nz (.inl rfl) nz nz (.inl rfl) nz nz (.inl rfl) nz nz (.inl rfl) nz nz (.inl rfl) rfl nz nz (.inl rfl) nz nz (.inl rfl) nz nz (.inl rfl), Ad_mk (a := zRi.a) nz nz (.inl rfl) nz nz (.inl rfl) nz nz (.inl rfl) nz nz (.inl rfl) nz nz (.inl rfl) nz nz (.inl rfl)⟩
theorem kDT : MdB zRi.m ∧ AdB zRi.a := by
 refine ⟨?_, ?_⟩
 · constructor <;> simp [zRi]
 constructor <;> simp [zRi]
def kHv (y : Ri) (ok : Bool) (w : World) (e : Ending) (w' : World) : Prop := ∃ ms ns, e = .returned (.tuple #[.agg ms.toArray, .agg ns.toArray, .bool ok]) ∧ tMd.rd w' (Nw w w') ms y.m ∧ tAd.rd w' (Nw w w') ns y.a ∧ Fr No w w'
abbrev q9x0 : Array Value := #[.slice none 0 0, .slice none 0 0, .slice none 0 0, .slice none 0 0, .slice none 0 0, .slice none 0 0, .slice none 0 0, .bool false, .int .i64 0, .slice none 0 0, .slice none 0 0, .slice none 0 0]
abbrev q9x2 : Array Value := #[.slice none 0 0, .slice none 0 0, .slice none 0 0, .slice none 0 0, .slice none 0 0, .slice none 0 0]
theorem kGm (h : StIn w R V x) (i : Int) (hn : x.insts.length ≤ 1000000) (hb : ∀ y ∈ x.insts, MdB y.m ∧ AdB y.a) :
    Calls prog 44 #[.pointer (some ⟨V.P, 0, none⟩), .int .i64 i] w (kHv (atD zRi x.insts i).1 (atD zRi x.insts i).2 w) := by
 obtain ⟨A, c, hv, _, hel⟩ := h.sl_is
 have hcell : w.cell? ⟨V.P, 9, none⟩ = some (.slice A x.insts.length c) := by rw [← hv]; exact h.blk.cell 9
 have hPl : V.P < w.heap.size := h.lt V.oP
 have HA := hid (fun (X : World) (f : Fr No w X) => kGt V.P 9 A c x.insts i (· < w.heap.size) X ((f.cell (p := ⟨V.P, 9, none⟩) hPl id).trans hcell) (hel.fr f (fun k hk => ⟨hk, fun x => x⟩)) (fun k hk => ltl hk f.size) hn)
 have HBL : Hid (MdB (atD zRi x.insts i).1.m ∧ AdB (atD zRi x.insts i).1.a) := kBn (p := fun y : Ri => MdB y.m ∧ AdB y.a) kDT hb
 have HZ : Hid ((atD zRi x.insts i).2 = false → (atD zRi x.insts i).1 = zRi) := fun e => by
  unfold atD at e ⊢
  split at e
  · cases e
  next h0 => rw [dif_neg h0]
 clear hel hcell hv h hPl hb hn
 obtain ⟨ok, hok⟩ : ∃ ok, ok = (atD zRi x.insts i).2 := ⟨_, rfl⟩
 rw [← hok] at HZ ⊢
 have HOK := hid hok.symm
 clear hok
 obtain ⟨s, hs⟩ : ∃ s, s = (atD zRi x.insts i).1 := ⟨_, rfl⟩
 rw [← hs] at HBL HZ ⊢
 have HSS := hid hs.symm
 clear hs
 have F0 := hid (((Fr.refl No w).alloc (.cells q9x0 55)).alloc (.cells q9x2 100))
 have G0 := hid ((Blk.new w 55 q9x0).alloc (.cells q9x2 100))
 have G1 := hid (Blk.new1 w (.cells q9x0 55) 100 q9x2)
 go_enter func44, ntmps44
 go_upto_region 1 with fail
 have HWW : Hid (((w.alloc (.cells q9x0 55)).alloc (.cells q9x2 100)).heap.size = w.heap.size + 2) := by unfold Hid; simp
 generalize (w.alloc (.cells q9x0 55)).alloc (.cells q9x2 100) = W at *
 go_wp2_with fail
 refine (HA.o _ F0.o).mono ?_
 rintro e w1 ⟨cs, rfl, hr, f1⟩
 rw [HSS.o] at hr
 rw [HOK.o]
 obtain ⟨e1, e2, rfl, hm, ha⟩ := hr
 have hm' : tMd.rd w1 (· < w.heap.size) e1 s.m := hm
 have ha' : tAd.rd w1 (· < w.heap.size) e2 s.a := ha
 have hl1 : e1.length = 12 := TyOk.len _ _ _ _ hm'
 have hl2 : e2.length = 6 := TyOk.len _ _ _ _ ha'
 have hln : (e1 ++ e2).length = 18 := by rw [List.length_append, hl1, hl2]
 have HLN := hid hln
 have HI : Hid ((prog.info? 210).map (·.size) = some (e1 ++ e2).length) := by unfold Hid; rw [HLN.o]; kernel_rfl
 have HON : Hid ((e1 ++ e2).all (·.oneCell') = true) := List.all_eq_true.2 (fun u hu => (List.mem_append.1 hu).elim (fun hu => (inferInstance : kAG tMd).one _ _ _ _ hm' u hu) (fun hu => (inferInstance : kAG tAd).one _ _ _ _ ha' u hu))
 have HM := hid hm'
 have HAd := hid ha'
 have HL1 := hid hl1
 have HL2 := hid hl2
 have F1 := ftr F0 f1
 have FW := hid f1
 replace G0 := hid (G0.o.fr f1 id)
 replace G1 := hid (G1.o.fr f1 id)
 clear HA f1 F0 hm ha hm' ha' hl1 hl2 hln
 go_upto_region 4 with (first
  | (refine kAm (by rfl) 210 _ _ (by rfl) #[.slice none 0 0, .slice none 0 0, .slice none 0 0, .slice none 0 0, .slice none 0 0, .slice none 0 0, .slice none 0 0, .bool false, .int .i64 0, .slice none 0 0, .slice none 0 0, .slice none 0 0, .slice none 0 0, .slice none 0 0, .slice none 0 0, .slice none 0 0, .slice none 0 0, .slice none 0 0] (e1 ++ e2) (by rfl) (by rfl) HI.o (by rw [HLN.o]; rfl) HON.o ?_)
  | fail)
 have f2 := (Fr.refl No w1).alloc (.cells (e1 ++ e2).toArray 210)
 have F2 := ftr F1 f2
 have FW2 := ftr FW f2
 replace G0 := hid (G0.o.fr f2 id)
 replace G1 := hid (G1.o.fr f2 id)
 have G2 := hid (Blk.new w1 210 (e1 ++ e2).toArray)
 replace HM : Hid (tMd.rd (w1.alloc (.cells (e1 ++ e2).toArray 210)) (· < w.heap.size) e1 s.m) := kAO HM.o f2 (fun k hk => ltl hk F1.o.size) i2
 replace HAd : Hid (tAd.rd (w1.alloc (.cells (e1 ++ e2).toArray 210)) (· < w.heap.size) e2 s.a) := kAO HAd.o f2 (fun k hk => ltl hk F1.o.size) i2
 have HQ : Hid (w.heap.size + 2 ≤ w1.heap.size) := by have := FW.o.size; have := HWW.o; show w.heap.size + 2 ≤ w1.heap.size; omega
 have HQ2 : Hid ((w1.alloc (.cells (e1 ++ e2).toArray 210)).heap.size = w1.heap.size + 1) := by unfold Hid; simp
 clear f2 FW
 generalize w1.alloc (.cells (e1 ++ e2).toArray 210) = W1 at *
 generalize w1.heap.size = q at *
 have HI1 : Hid ((prog.info? 55).map (·.size) = some 12) := by unfold Hid; kernel_rfl
 have HI2 : Hid ((prog.info? 100).map (·.size) = some 6) := by unfold Hid; kernel_rfl
 cases ok with
 | false =>
  have hz := HZ.o rfl
  subst hz
  have T0 : Hid (W1.there w.heap.size 0 12) := there_blk G0.o rfl
  have T1 : Hid ((W1.setCells w.heap.size 0 q9x1).there (w.heap.size + 1) 0 6) := World.there_setCells (there_blk G1.o rfl) _ _ _
  go_wp2_with (first
   | (refine wpList_store_mid (by rfl) 55 _ _ (by rfl) (w.heap.size) 0 q9x0 (by rfl) (by rfl) (by exact T0.o) (by exact HI1.o) (by simp [Value.oneCell']) ?_)
   | (refine wpList_store_mid (by rfl) 100 _ _ (by rfl) (w.heap.size + 1) 0 q9x2 (by rfl) (by rfl) (by exact T1.o) (by exact HI2.o) (by simp [Value.oneCell']) ?_)
   | fail)
  have M1 := World.rangeAt_setCells_apart (World.rangeAt_setCells_same W1 w.heap.size 0 q9x1 T0.o) (w.heap.size + 1) 0 q9x3 (.inl om)
  have M2 := World.rangeAt_setCells_same (W1.setCells w.heap.size 0 q9x1) (w.heap.size + 1) 0 q9x3 T1.o
  have FT := Fr.setCells' (a := w) (M := No) (b := w.heap.size + 1) (fun h => absurd h om) q9x3 0 _ (Fr.setCells' (a := w) (M := No) (b := w.heap.size) (fun h => absurd h om) q9x1 0 _ F2.o)
  refine bodyPost_ret (v := .tuple #[.agg q9x1.toArray, .agg q9x3.toArray, .bool false]) (kBJ (fn := f44) (p := 4) (q := 5) (t := 6) (ty := 55) (tz := 100) rfl _ _ (w.heap.size) (w.heap.size + 1) _ _ _ _ (by rfl) (by rfl) M1 M2 underlying55 (by rfl) HI1.o underlying100 (by rfl) HI2.o) rfl ?_
  exact ⟨_, _, rfl, (kEf _ _).1, (kEf _ _).2, FT⟩
 | true =>
  obtain ⟨hmb, hab⟩ := HBL.o
  have HMB := hid hmb
  have HAB := hid hab
  clear hmb hab HBL HZ
  go_wp2_with fail
  have r12 : W1.rangeAt q 0 (e1 ++ e2) := by simpa using rangeAt_blk G2.o
  have HXR : Hid (∀ X : World, X.heap[q]? = W1.heap[q]? → X.rangeAt q 0 e1 ∧ X.rangeAt q 12 e2) := fun X e0 => by
   have r : X.rangeAt q 0 (e1 ++ e2) := by simpa using rangeAt_blk (cs := (e1 ++ e2).toArray) (t := 210) (show Blk X _ _ _ from e0.trans G2.o)
   refine ⟨fun j u hu => r j u (by rw [List.getElem?_append_left (List.getElem?_eq_some_iff.1 hu).1]; exact hu), fun j u hu => ?_⟩
   have := r (12 + j) u (by rw [List.getElem?_append_right (by rw [HL1.o]; omega), HL1.o, Nat.add_sub_cancel_left]; exact hu)
   rw [Nat.zero_add] at this
   exact this
  clear r12
  have HGL := hid (And.intro G2.o.lt (And.intro G0.o.lt G1.o.lt))
  have HXN : Hid (∀ X, Fr No W1 X → X.rangeAt q 0 e1 ∧ X.rangeAt q 12 e2) := fun X f => HXR.o X (f.block _ HGL.o.1 id)
  have HE1 : Hid ((prog.info? 55).map (·.size) = some e1.length) := by unfold Hid; rw [HL1.o]; kernel_rfl
  have HE2 : Hid ((prog.info? 100).map (·.size) = some e2.length) := by unfold Hid; rw [HL2.o]; kernel_rfl
  have FZ := hid (Fr.refl No W1).drew
  refine rwP (fun X => X.rangeAt q 0 e1 ∧ X.rangeAt q 12 e2) [] [0, 1, 3, 4, 2, 5, 6, 7, 8] [2, 5, 6, 7] (HXN.o _ FZ.o) ?_
  iterate 1 (first | (refine kCf rfl rfl rfl ?_; simp only [zA]; apply Exists.intro; refine ⟨fun X => ?_, ?_⟩; (go_simp; exact stillUpon_value); simp only [zC, Act.put]) | (refine kBN rfl rfl rfl ?_; simp only [zA]; apply Exists.intro; refine ⟨fun X hX => ?_, ?_⟩; (clear hX; go_simp; exact stillUpon_value); simp only [zC, Act.put]))
  refine kBq rfl rfl rfl 55 _ rfl (q) (0) (by rfl) e1 _ (fun X hX => hX.1) underlying55 (by rfl) HE1.o ?_
  simp only [zA, zC, Act.put]
  iterate 1 (first | (refine kCf rfl rfl rfl ?_; simp only [zA]; apply Exists.intro; refine ⟨fun X => ?_, ?_⟩; (go_simp; exact stillUpon_value); simp only [zC, Act.put]) | (refine kBN rfl rfl rfl ?_; simp only [zA]; apply Exists.intro; refine ⟨fun X hX => ?_, ?_⟩; (clear hX; go_simp; exact stillUpon_value); simp only [zC, Act.put]))
  refine kBq rfl rfl rfl 100 _ rfl (q) (12) (by rfl) e2 _ (fun X hX => hX.2) underlying100 (by rfl) HE2.o ?_
  simp only [zA, zC, Act.put]
  refine kAI rfl rfl fun K hK => sz ?_
  refine (kDs s.m (· < w.heap.size) _ (kAO HM.o FZ.o (fun k hk => ltl hk F2.o.size) i2) (fun k hk => ltl hk (F2.o.trans FZ.o i3).size) HMB.o).mono ?_
  rintro e w3 ⟨ms, rfl, hr1, f1⟩
  have R1 : Hid (tMd.rd w3 (Nw W1 w3) ms s.m) := TyMore.more _ _ _ _ _ hr1 (fun k hk => ⟨Nat.le_trans FZ.o.size hk.1, hk.2⟩)
  replace FZ := ftr FZ f1
  clear hr1 f1
  refine hK _ _ (fun _ => HXN.o _ FZ.o) ?_
  clear hK K
  refine kAI rfl rfl fun K hK => sz ?_
  refine (kCD s.a (· < w.heap.size) _ (kAO HAd.o FZ.o (fun k hk => ltl hk F2.o.size) i2) (fun k hk => ltl hk (F2.o.trans FZ.o i3).size) (by have := HAB.o.funcs; omega) (by have := HAB.o.tables; omega) (by have := HAB.o.mems; omega) (by have := HAB.o.globals; omega) (by have := HAB.o.elems; omega) (by have := HAB.o.datas; omega)).mono ?_
  rintro e w4 ⟨ns, rfl, hr2, f2⟩
  have R2 : Hid (tAd.rd w4 (Nw W1 w4) ns s.a) := TyMore.more _ _ _ _ _ hr2 (fun k hk => ⟨Nat.le_trans FZ.o.size hk.1, hk.2⟩)
  replace R1 : Hid (tMd.rd w4 (Nw W1 w4) ms s.m) := kAO R1.o f2 (fun k hk => hk.2) (fun k hk => ⟨hk.1, ltl hk.2 f2.size⟩)
  replace FZ := ftr FZ f2
  clear hr2 f2
  have hl1 : ms.length = 12 := TyOk.len _ _ _ _ R1.o
  have hl2 : ns.length = 6 := TyOk.len _ _ _ _ R2.o
  have HM1 := hid hl1
  have HM2 := hid hl2
  clear hl1 hl2
  refine hK _ _ (fun _ => HXN.o _ FZ.o) ?_
  clear hK K
  replace G0 := hid (G0.o.fr FZ.o id)
  replace G1 := hid (G1.o.fr FZ.o id)
  have HJ1 : Hid ((prog.info? 55).map (·.size) = some ms.toArray.size) := by unfold Hid; rw [List.size_toArray, HM1.o]; kernel_rfl
  have HJ2 : Hid ((prog.info? 100).map (·.size) = some ns.toArray.size) := by unfold Hid; rw [List.size_toArray, HM2.o]; kernel_rfl
  have HO1 := hid (all_oneCell_toArray ((inferInstance : kAG tMd).one _ _ _ _ R1.o))
  have HO2 := hid (all_oneCell_toArray ((inferInstance : kAG tAd).one _ _ _ _ R2.o))
  have T0 : Hid (w4.there w.heap.size 0 ms.toArray.size) := by have h := there_blk (n := 12) G0.o rfl; rw [← HM1.o] at h; exact h
  have T1 : Hid ((w4.setCells w.heap.size 0 ms).there (w.heap.size + 1) 0 ns.toArray.size) := by have h := there_blk (n := 6) G1.o rfl; rw [← HM2.o] at h; exact World.there_setCells h _ _ _
  have hXs : ∀ (X : World), Fr (fun k => k = w.heap.size ∨ k = w.heap.size + 1) w4 X → X.rangeAt q 0 e1 ∧ X.rangeAt q 12 e2 := fun X f => HXR.o X ((f.block q (ltl HGL.o.1 FZ.o.size) (by have := HQ.o; rintro (h | h) <;> omega)).trans (FZ.o.block q HGL.o.1 id))
  have HXS := hid hXs
  clear hXs
  have FY1 := hid (Fr.setCells' (M := fun k => k = w.heap.size ∨ k = w.heap.size + 1) (b := w.heap.size) (fun _ => .inl rfl) ms 0 _ (Fr.refl _ w4))
  have FY2 := hid (Fr.setCells' (M := fun k => k = w.heap.size ∨ k = w.heap.size + 1) (b := w.heap.size + 1) (fun _ => .inr rfl) ns 0 _ FY1.o)
  refine kAI rfl rfl (fun K hK => ?_)
  simp only [zA]
  refine wp_store_mid 55 _ _ (by rfl) (w.heap.size) 0 ms.toArray (by rfl) (by rfl) T0.o HJ1.o HO1.o ?_
  refine hK _ _ (fun _ => HXS.o _ FY1.o) ?_
  clear hK K
  refine kAI rfl rfl (fun K hK => ?_)
  simp only [zA]
  refine wp_store_mid 100 _ _ (by rfl) (w.heap.size + 1) 0 ns.toArray (by rfl) (by rfl) T1.o HJ2.o HO2.o ?_
  refine hK _ _ (fun _ => HXS.o _ FY2.o) ?_
  clear hK K
  repeat (first | refine pS ?_ | refine pF ?_ | refine pX (fun (X : World) (h : X.rangeAt q 0 e1 ∧ X.rangeAt q 12 e2) => h) ?_)
  refine kAs ?_
  have M1 := World.rangeAt_setCells_apart (World.rangeAt_setCells_same w4 w.heap.size 0 ms T0.o) (w.heap.size + 1) 0 ns (.inl om)
  have M2 := World.rangeAt_setCells_same (w4.setCells w.heap.size 0 ms) (w.heap.size + 1) 0 ns T1.o
  have FT := Fr.setCells' (a := w) (M := No) (b := w.heap.size + 1) (fun h => absurd h om) ns 0 _ (Fr.setCells' (a := w) (M := No) (b := w.heap.size) (fun h => absurd h om) ms 0 _ (F2.o.trans FZ.o i3))
  clear HXN HXR HXS T0 T1
  go_wp2
  have hj1 : (prog.info? 55).map (·.size) = some ms.length := by have := HJ1.o; simpa using this
  have hj2 : (prog.info? 100).map (·.size) = some ns.length := by have := HJ2.o; simpa using this
  refine bodyPost_ret (v := .tuple #[.agg ms.toArray, .agg ns.toArray, .bool true]) (kBJ (fn := f44) (p := 4) (q := 5) (t := 6) (ty := 55) (tz := 100) rfl _ _ (w.heap.size) (w.heap.size + 1) _ _ _ _ (by rfl) (by rfl) M1 M2 underlying55 (by rfl) hj1 underlying100 (by rfl) hj2) rfl ?_
  have hsub : ∀ k, Nw W1 w4 k → Nw w ((w4.setCells w.heap.size 0 ms).setCells (w.heap.size + 1) 0 ns) k ∧ k < w4.heap.size ∧ ¬ (k = w.heap.size ∨ k = w.heap.size + 1) := fun k hk => by
   have s2 := FY2.o.size
   have q1 := HQ2.o
   have q2 := HQ.o
   have h1 := hk.1
   have h2 := hk.2
   exact ⟨⟨by omega, ltl h2 s2⟩, h2, by omega⟩
  exact ⟨_, _, rfl, TyMore.more _ _ _ _ _ (TyOk.keep _ _ _ _ _ R1.o (fun p hp => FY2.o.cell (hsub _ hp).2.1 (hsub _ hp).2.2)) (fun k hk => (hsub k hk).1), TyMore.more _ _ _ _ _ (TyOk.keep _ _ _ _ _ R2.o (fun p hp => FY2.o.cell (hsub _ hp).2.1 (hsub _ hp).2.2)) (fun k hk => (hsub k hk).1), FT⟩
end
def kAJ {α : Type} (f : α → Nat) (l : List α) : Nat := (l.map f).sum
section
variable {α : Type} {f : α → Nat} {l : List α}
theorem sumBy_take {k : Nat} (h : k < l.length) : kAJ f (l.take (k + 1)) = kAJ f (l.take k) + f l[k] := by
 unfold kAJ
 rw [List.take_succ_eq_append_getElem h]
 simp only [List.map_append, List.sum_append, List.map_cons, List.map_nil, List.sum_cons, List.sum_nil, Nat.add_zero]
theorem kBA {a : α} (h : a ∈ l) : f a ≤ kAJ f l := by
 induction l with
 | nil => cases h
 | cons b l ih =>
  unfold kAJ at *
  simp only [List.map_cons, List.sum_cons]
  rcases List.mem_cons.1 h with rfl | h
  · omega
  · have := ih h
    omega
theorem kAn {b : Nat} (h : ∀ a ∈ l, f a ≤ b) : kAJ f l ≤ l.length * b := by
 induction l with
 | nil => simp [kAJ]
 | cons c l ih =>
  have h1 := h c List.mem_cons_self
  have h2 := ih (fun a ha => h a (List.mem_cons_of_mem _ ha))
  have e : kAJ f (c :: l) = f c + kAJ f l := by simp [kAJ]
  rw [e, List.length_cons, Nat.add_mul]
  omega
theorem kAW {b n k : Nat} (h : ∀ a ∈ l, f a ≤ b) (hn : l.length ≤ n) : kAJ f (l.take k) ≤ n * b := by
 refine Nat.le_trans (kAn (fun a ha => h a (List.mem_of_mem_take ha))) (Nat.mul_le_mul ?_ (Nat.le_refl b))
 rw [List.length_take]
 omega
end
def InsOk (l : List Ins) : Prop := l.length ≤ 3000 ∧ ∀ i ∈ l, i.labels.length ≤ 100 ∧ i.types.length ≤ 100
def sFn (a : Fn) : Nat := a.params.length + a.results.length
def sIm (a : Im) : Nat := a.mod.size + a.name.size
def sCd (a : Cd) : Nat := a.locals.length
def sEx (a : Ex) : Nat := a.name.size
def sDa (a : Da) : Nat := a.bytes.length
def sCu (a : Cu) : Nat := a.bytes.length + a.name.size
structure LtB (m : Md) : Prop where
 types : m.types.length ≤ 100
 imports : m.imports.length ≤ 100
 funcs : m.funcs.length ≤ 100
 tables : m.tables.length ≤ 100
 mems : m.mems.length ≤ 100
 globals : m.globals.length ≤ 100
 exports : m.exports.length ≤ 100
 elems : m.elems.length ≤ 100
 datas : m.datas.length ≤ 100
 customs : m.customs.length ≤ 100
 fn : ∀ a ∈ m.types, sFn a ≤ 9000
 im : ∀ a ∈ m.imports, sIm a ≤ 9000
 cd : ∀ a ∈ m.funcs, sCd a ≤ 9000 ∧ InsOk a.body
 gd : ∀ a ∈ m.globals, InsOk a.init
 ex : ∀ a ∈ m.exports, sEx a ≤ 9000
 el : ∀ a ∈ m.elems, a.items.length ≤ 300 ∧ InsOk a.off ∧ ∀ l ∈ a.items, InsOk l
 da : ∀ a ∈ m.datas, sDa a ≤ 9000 ∧ InsOk a.off
 cu : ∀ a ∈ m.customs, sCu a ≤ 9000
theorem InsOk.body {l : List Ins} (h : InsOk l) : kBb l := ⟨by have := h.1; omega, fun i hi => ⟨by have := (h.2 i hi).2; omega, by have := (h.2 i hi).1; omega⟩⟩
theorem LtB.md {m : Md} (h : LtB m) : MdB m where
 types := ⟨by have := h.types; omega, fun a ha => by have := h.fn a ha; unfold sFn at this; exact ⟨by omega, by omega⟩⟩
 imports := by have := h.imports; omega
 funcs := ⟨by have := h.funcs; omega, fun a ha => ⟨by have := (h.cd a ha).1; unfold sCd at this; omega, (h.cd a ha).2.body⟩⟩
 tables := by have := h.tables; omega
 mems := by have := h.mems; omega
 globals := ⟨by have := h.globals; omega, fun a ha => (h.gd a ha).body⟩
 exports := by have := h.exports; omega
 elems := ⟨by have := h.elems; omega, fun a ha => ⟨(h.el a ha).2.1.body, by have := (h.el a ha).1; omega, fun l hl => ((h.el a ha).2.2 l hl).body⟩⟩
 datas := ⟨by have := h.datas; omega, fun a ha => ⟨(h.da a ha).2.body, by have := (h.da a ha).1; unfold sDa at this; omega⟩⟩
 customs := ⟨by have := h.customs; omega, fun a ha => by have := h.cu a ha; unfold sCu at this; unfold CuB; omega⟩
def kAR (l : List El) : List (List Ins) := l.flatMap fun e => e.off :: e.items
def kDg (m : Md) : List (List Ins) := m.funcs.map (·.body) ++ m.globals.map (·.init) ++ kAR m.elems ++ m.datas.map (·.off)
def kCx (m : Md) : Nat := kAJ sFn m.types + kAJ sIm m.imports + kAJ sCd m.funcs + kAJ sEx m.exports + kAJ sDa m.datas + kAJ sCu m.customs
theorem kCp {l : List El} {e : El} (h : e ∈ l) : e.off ∈ kAR l ∧ ∀ x ∈ e.items, x ∈ kAR l := by
 unfold kAR
 exact ⟨List.mem_flatMap.2 ⟨e, h, List.mem_cons_self⟩, fun x hx => List.mem_flatMap.2 ⟨e, h, List.mem_cons_of_mem _ hx⟩⟩
theorem kEP {l : List El} {k : Nat} (h : k < l.length) : kAR (l.take (k + 1)) = kAR (l.take k) ++ [l[k].off] ++ l[k].items := by
 unfold kAR
 rw [List.take_succ_eq_append_getElem h, List.flatMap_append]
 simp
theorem kCn {l : List El} (h : ∀ e ∈ l, e.items.length ≤ 300) : (kAR l).length ≤ l.length * 301 := by
 induction l with
 | nil => simp [kAR]
 | cons e l ih =>
  have h1 := h e List.mem_cons_self
  have h2 := ih (fun a ha => h a (List.mem_cons_of_mem _ ha))
  unfold kAR at *
  simp only [List.flatMap_cons, List.length_append, List.length_cons]
  omega
theorem kID {m : Md} (h0 : m.types.length ≤ 100 ∧ m.imports.length ≤ 100 ∧ m.funcs.length ≤ 100 ∧ m.tables.length ≤ 100 ∧ m.mems.length ≤ 100 ∧ m.globals.length ≤ 100 ∧ m.exports.length ≤ 100 ∧ m.elems.length ≤ 100 ∧ m.datas.length ≤ 100 ∧ m.customs.length ≤ 100)
    (hi : ∀ e ∈ m.elems, e.items.length ≤ 300) (hs : kCx m ≤ 9000) (hr : ∀ x ∈ kDg m, InsOk x) : LtB m := by
 obtain ⟨k0, k1, k2, k3, k4, k5, k6, k7, k8, k9⟩ := h0
 unfold kCx at hs
 unfold kDg at hr
 have r1 : ∀ a ∈ m.funcs, InsOk a.body := fun a ha => hr _ (by simp only [List.mem_append, List.mem_map]; exact .inl (.inl (.inl ⟨a, ha, rfl⟩)))
 have r2 : ∀ a ∈ m.globals, InsOk a.init := fun a ha => hr _ (by simp only [List.mem_append, List.mem_map]; exact .inl (.inl (.inr ⟨a, ha, rfl⟩)))
 have r3 : ∀ x ∈ kAR m.elems, InsOk x := fun x hx => hr _ (by simp only [List.mem_append, List.mem_map]; exact .inl (.inr hx))
 have r4 : ∀ a ∈ m.datas, InsOk a.off := fun a ha => hr _ (by simp only [List.mem_append, List.mem_map]; exact .inr ⟨a, ha, rfl⟩)
 exact ⟨k0, k1, k2, k3, k4, k5, k6, k7, k8, k9, fun a ha => by have := kBA (f := sFn) ha; omega, fun a ha => by have := kBA (f := sIm) ha; omega, fun a ha => ⟨by have := kBA (f := sCd) ha; omega, r1 a ha⟩, r2,
  fun a ha => by have := kBA (f := sEx) ha; omega, fun a ha => ⟨hi a ha, r3 _ (kCp ha).1, fun l hl => r3 _ ((kCp ha).2 l hl)⟩, fun a ha => ⟨by have := kBA (f := sDa) ha; omega, r4 a ha⟩, fun a ha => by have := kBA (f := sCu) ha; omega⟩
def kIQ (l : List (List Ins)) (w : World) (e : Ending) (w' : World) : Prop := (∃ r, e = .returned (.bool r) ∧ (r = true → ∀ x ∈ l, InsOk x)) ∧ Fr No w w'
theorem kGL (l : List (List Ins)) (A : OA) (c : Nat) (S : Nat → Prop) (w : World) (h : tIns.slice.els w S A l) (hS : Lt S w) (hb : ∀ x ∈ l, x.length ≤ 140737488351232) (hl : l.length ≤ 1000000) :
    Calls prog 20 #[.slice A l.length c, .int .i64 3000] w (kIQ l w) := by
 have H := hid h
 have HS := hid hS
 have HB := hid hb
 have HLL := hid hl
 clear h hS hb hl
 go_enter func20, ntmps20
 go_wp2_with fail
 go_loopw [5, 6] (fun n i wr => ∃ k : Nat, k ≤ l.length ∧ n = .int .i64 ((kAJ List.length (l.take k) : Nat) : Int) ∧ i = .int .i64 k ∧ Hid (Fr No w wr) ∧ Hid (kAJ List.length (l.take k) ≤ 3000 ∧ ∀ x ∈ l.take k, InsOk x)) (fun _ i _ => l.length - (intOf i).toNat)
 case atStart => exact ⟨0, by omega, rfl, rfl, Fr.refl _ _, by simp [kAJ], fun x hx => by simp at hx⟩
 case round =>
 obtain ⟨k, hk, rfl, rfl, F, HN⟩ := hrel
 by_cases hlt : k < l.length
 · have d1 : decide ((k : Int) < (l.length : Nat)) = true := by simp; omega
   have i0 := nki k
   have i1 : (k : Int) < (l.length : Nat) := om
   have HLT : Hid (k + 1 ≤ l.length) := hlt
   obtain ⟨b, o, ds, eB, hb, hc, hr⟩ := (els_up H.o F.o HS.o i2).at_ k hlt
   have HXB := hid (HB.o _ (List.getElem_mem hlt))
   have HTK := hid (And.intro (sumBy_take (f := List.length) hlt) (List.take_succ_eq_append_getElem hlt))
   generalize l[k] = x at *
   obtain ⟨s, hs⟩ : ∃ s, s = kAJ List.length (l.take k) := ⟨_, rfl⟩
   rw [← hs] at HN HTK ⊢
   clear hs
   subst eB
   obtain ⟨A2, c2, rfl, hc1, hc2, he⟩ := hr
   have y : wr.cell? ⟨b, o + k, none⟩ = some (.slice A2 x.length c2) := by
    have h := hc 0 _ rfl
    rwa [show o + (k * tIns.slice.size + 0) = o + k by show o + (k * 1 + 0) = _; omega] at h
   have HE := hid he
   have s3 : s ≤ 3000 := HN.o.1
   have x3 := HXB.o
   have hw : wrap64 ((s : Int) + (x.length : Nat)) = ((s + x.length : Nat) : Int) := by simp only [wrap64]; omega
   have hw2 : IntKind.i64.wrap ((s : Int) + (x.length : Nat)) = ((s + x.length : Nat) : Int) := by rw [IntKind.wrap_i64]; omega
   clear hc he hb hc1 hc2
   by_cases hbig : 3000 < s + x.length
   · have d2 : decide ((3000 : Int) < (s : Int) + (x.length : Nat)) = true := by simp; omega
     clear s3 x3 hbig
     exact yy36
   have d2 : decide ((3000 : Int) < (s : Int) + (x.length : Nat)) = false := by simp; omega
   have HSX : Hid (s + x.length ≤ 3000) := by unfold Hid; omega
   clear s3 x3 hbig
   go_wp2_with fail
   go_loopw [7] (fun j wr2 => ∃ q : Nat, q ≤ x.length ∧ j = .int .i64 q ∧ wr2 = wr ∧ Hid (∀ p (hp : p < x.length), p < q → x[p].labels.length ≤ 100 ∧ x[p].types.length ≤ 100)) (fun j _ => x.length - (intOf j).toNat)
   case atStart => exact ⟨0, by omega, rfl, rfl, fun p hp h => by omega⟩
   case round =>
   obtain ⟨q, hq, rfl, rfl, HQ⟩ := hrel
   by_cases hql : q < x.length
   · have q1 : decide ((q : Int) < (x.length : Nat)) = true := by simp; omega
     have q0 := nki q
     have q2 : (q : Int) < (x.length : Nat) := om
     have HQL : Hid (q + 1 ≤ x.length) := hql
     have hx3 := HXB.o
     obtain ⟨g, o2, P1, p1, P2, p2, eg, -, -, -, -, -, -, -, -, z7, z8, -⟩ := kIU HE.o q hql
     subst eg
     have HNX : Hid (x[q].labels.length ≤ 100 → x[q].types.length ≤ 100 → ∀ p (hp : p < x.length), p < q + 1 → x[p].labels.length ≤ 100 ∧ x[p].types.length ≤ 100) := fun h1 h2 p hp h => by
      rcases Nat.lt_or_ge p q with h3 | h3
      · exact HQ.o p hp h3
      have e : p = q := om
      subst e
      exact ⟨h1, h2⟩
     generalize x[q] = it at z7 z8 HNX
     by_cases t1 : 100 < it.labels.length
     · have t2 : decide ((100 : Int) < (it.labels.length : Nat)) = true := by simp; omega
       clear t1 hql
       exact yy36
     have t2 : decide ((100 : Int) < (it.labels.length : Nat)) = false := by simp; omega
     have T1 : Hid (it.labels.length ≤ 100) := by unfold Hid; omega
     clear t1
     by_cases t3 : 100 < it.types.length
     · have t4 : decide ((100 : Int) < (it.types.length : Nat)) = true := by simp; omega
       clear t3 hql
       exact yy36
     have t4 : decide ((100 : Int) < (it.types.length : Nat)) = false := by simp; omega
     have T3 : Hid (it.types.length ≤ 100) := by unfold Hid; omega
     clear t3 hql
     go_wp2_with fail
     go_roundw
     case rel => exact ⟨q + 1, HQL.o, by go_num, trivial, HNX.o T1.o T3.o⟩
     have := HQL.o; simp [intOf]; omega
   have q1 : decide ((q : Int) < (x.length : Nat)) = false := by simp; omega
   have q2 : ¬ ((q : Int) < (x.length : Nat)) := om
   have HXO : Hid (InsOk x) := by
    refine ⟨by have := HSX.o; omega, fun i hi => ?_⟩
    obtain ⟨p, hp, rfl⟩ := List.getElem_of_mem hi
    exact HQ.o p hp om
   clear hql
   have hll := HLL.o
   have hlt2 := HLT.o
   go_wp2_with fail
   go_roundw
   case rel =>
    refine ⟨k + 1, HLT.o, by rw [HTK.o.1, Int.natCast_add], by go_num, F.o, by rw [HTK.o.1]; exact HSX.o, fun z hz => ?_⟩
    rw [HTK.o.2] at hz
    rcases List.mem_append.1 hz with h1 | h1
    · exact HN.o.2 z h1
    rw [List.mem_singleton.1 h1]; exact HXO.o
   have := HLT.o; simp [intOf]; omega
 have d1 : decide ((k : Int) < (l.length : Nat)) = false := by simp; omega
 have d2 : ¬ ((k : Int) < (l.length : Nat)) := om
 go_wp2_with fail
 go_ret
 refine ⟨⟨true, rfl, fun _ x hx => HN.o.2 x ?_⟩, F.o⟩
 rwa [List.take_of_length_le om]
theorem kAl {n k : Nat} (h : k < n) : n - (intOf (.int .i64 ((k + 1 : Nat) : Int))).toNat < n - (intOf (.int .i64 (k : Int))).toNat := by
 simp only [intOf, Int.toNat_natCast]
 omega
theorem kDZ {n s a b : Nat} (hn : n ≤ 150000000000000000) (hs : s ≤ 100 * 281474976702464) (ha : a ≤ 140737488351232) (hb : b ≤ 140737488351232) : IntKind.i64.wrap ((n : Int) + s + IntKind.i64.wrap ((a : Int) + b)) = ((n + (s + (a + b)) : Nat) : Int) := by
 simp only [IntKind.wrap_i64]
 omega
structure LtW (m : Md) : Prop where
 fn : ∀ a ∈ m.types, a.params.length ≤ 140737488351232 ∧ a.results.length ≤ 140737488351232
 im : ∀ a ∈ m.imports, a.mod.size ≤ 140737488351232 ∧ a.name.size ≤ 140737488351232
 cd : ∀ a ∈ m.funcs, a.locals.length ≤ 140737488351232 ∧ a.body.length ≤ 140737488351232
 gd : ∀ a ∈ m.globals, a.init.length ≤ 140737488351232
 ex : ∀ a ∈ m.exports, a.name.size ≤ 140737488351232
 el : ∀ a ∈ m.elems, a.off.length ≤ 140737488351232 ∧ ∀ l ∈ a.items, l.length ≤ 140737488351232
 da : ∀ a ∈ m.datas, a.bytes.length ≤ 140737488351232 ∧ a.off.length ≤ 140737488351232
 cu : ∀ a ∈ m.customs, a.bytes.length ≤ 140737488351232 ∧ a.name.size ≤ 140737488351232
def kHt (m : Md) (w : World) (e : Ending) (w' : World) : Prop := (∃ r, e = .returned (.bool r) ∧ (r = true → LtB m)) ∧ Fr No w w'
theorem kES (m : Md) {ms : LV} (w : World) (hm : tMd.rd w (· < w.heap.size) ms m) (hw : LtW m) :
    Calls prog 9 #[.agg ms.toArray] w (kHt m w) := by
 obtain ⟨A0, c0, A1, c1, A2, c2, A3, c3, A4, c4, A5, c5, A6, c6, A7, c7, A8, c8, A9, c9, hms, -, -, e0, -, -, e1, -, -, e2, -, -, e3, -, -, e4, -, -, e5, -, -, e6, -, -, -, e7, -, -, e8, -, -, e9⟩ := kBS hm
 have E0 := hid e0
 have E1 := hid e1
 have E2 := hid e2
 have E3 := hid e3
 have E4 := hid e4
 have E5 := hid e5
 have E6 := hid e6
 have E7 := hid e7
 have E8 := hid e8
 have E9 := hid e9
 have HW := hid hw
 have HL : Hid (ms.length = 12) := TyOk.len _ _ _ _ hm
 have F0 := hid ((Fr.refl No w).alloc (.cells ms.toArray 55))
 have B0 := hid (Blk.new w 55 ms.toArray)
 have HC : Hid (∀ (X : World) (p : Nat), Blk X p 55 ms.toArray → Ce X p 0 (.slice A0 m.types.length c0) ∧ Ce X p 1 (.slice A1 m.imports.length c1) ∧ Ce X p 2 (.slice A2 m.funcs.length c2) ∧ Ce X p 3 (.slice A3 m.tables.length c3) ∧ Ce X p 4 (.slice A4 m.mems.length c4) ∧ Ce X p 5 (.slice A5 m.globals.length c5) ∧ Ce X p 6 (.slice A6 m.exports.length c6) ∧ Ce X p 9 (.slice A7 m.elems.length c7) ∧ Ce X p 10 (.slice A8 m.datas.length c8) ∧ Ce X p 11 (.slice A9 m.customs.length c9)) := fun X p b => by
  rw [hms] at b
  exact ⟨b.cell 0, b.cell 1, b.cell 2, b.cell 3, b.cell 4, b.cell 5, b.cell 6, b.cell 9, b.cell 10, b.cell 11⟩
 clear hm hw hms e0 e1 e2 e3 e4 e5 e6 e7 e8 e9
 go_enter func9, ntmps9
 go_upto_region 1 with fail
 generalize w.alloc (.cells ms.toArray 55) = W at *
 obtain ⟨p, hp⟩ : ∃ p, p = w.heap.size := ⟨_, rfl⟩
 rw [← hp] at B0 ⊢
 have HP := hid hp
 clear hp
 have HX : Hid (∀ X, Fr No W X → Ce X p 0 (.slice A0 m.types.length c0) ∧ Ce X p 1 (.slice A1 m.imports.length c1) ∧ Ce X p 2 (.slice A2 m.funcs.length c2) ∧ Ce X p 3 (.slice A3 m.tables.length c3) ∧ Ce X p 4 (.slice A4 m.mems.length c4) ∧ Ce X p 5 (.slice A5 m.globals.length c5) ∧ Ce X p 6 (.slice A6 m.exports.length c6) ∧ Ce X p 9 (.slice A7 m.elems.length c7) ∧ Ce X p 10 (.slice A8 m.datas.length c8) ∧ Ce X p 11 (.slice A9 m.customs.length c9)) := fun X f => HC.o X p (B0.o.fr f id)
 clear HC
 obtain ⟨y0, y1, y2, y3, y4, y5, y6, y7, y8, y9⟩ := HX.o _ (Fr.refl No W)
 by_cases h0 : 100 < m.types.length
 · have d0 : decide ((100 : Int) < (m.types.length : Nat)) = true := by simp; omega
   clear h0
   exact yy9
 have d0 : decide ((100 : Int) < (m.types.length : Nat)) = false := by simp; omega
 have H0 : Hid (m.types.length ≤ 100) := by unfold Hid; omega
 clear h0
 by_cases h1 : 100 < m.imports.length
 · have d1 : decide ((100 : Int) < (m.imports.length : Nat)) = true := by simp; omega
   clear h1
   exact yy9
 have d1 : decide ((100 : Int) < (m.imports.length : Nat)) = false := by simp; omega
 have H1 : Hid (m.imports.length ≤ 100) := by unfold Hid; omega
 clear h1
 by_cases h2 : 100 < m.funcs.length
 · have d2 : decide ((100 : Int) < (m.funcs.length : Nat)) = true := by simp; omega
   clear h2
   exact yy9
 have d2 : decide ((100 : Int) < (m.funcs.length : Nat)) = false := by simp; omega
 have H2 : Hid (m.funcs.length ≤ 100) := by unfold Hid; omega
 clear h2
 by_cases h3 : 100 < m.tables.length
 · have d3 : decide ((100 : Int) < (m.tables.length : Nat)) = true := by simp; omega
   clear h3
   exact yy9
 have d3 : decide ((100 : Int) < (m.tables.length : Nat)) = false := by simp; omega
 have H3 : Hid (m.tables.length ≤ 100) := by unfold Hid; omega
 clear h3
 by_cases h4 : 100 < m.mems.length
 · have d4 : decide ((100 : Int) < (m.mems.length : Nat)) = true := by simp; omega
   clear h4
   exact yy9
 have d4 : decide ((100 : Int) < (m.mems.length : Nat)) = false := by simp; omega
 have H4 : Hid (m.mems.length ≤ 100) := by unfold Hid; omega
 clear h4
 by_cases h5 : 100 < m.globals.length
 · have d5 : decide ((100 : Int) < (m.globals.length : Nat)) = true := by simp; omega
   clear h5
   exact yy9
 have d5 : decide ((100 : Int) < (m.globals.length : Nat)) = false := by simp; omega
 have H5 : Hid (m.globals.length ≤ 100) := by unfold Hid; omega
 clear h5
 by_cases h6 : 100 < m.exports.length
 · have d6 : decide ((100 : Int) < (m.exports.length : Nat)) = true := by simp; omega
   clear h6
   exact yy9
 have d6 : decide ((100 : Int) < (m.exports.length : Nat)) = false := by simp; omega
 have H6 : Hid (m.exports.length ≤ 100) := by unfold Hid; omega
 clear h6
 by_cases h7 : 100 < m.elems.length
 · have d7 : decide ((100 : Int) < (m.elems.length : Nat)) = true := by simp; omega
   clear h7
   exact yy9
 have d7 : decide ((100 : Int) < (m.elems.length : Nat)) = false := by simp; omega
 have H7 : Hid (m.elems.length ≤ 100) := by unfold Hid; omega
 clear h7
 by_cases h8 : 100 < m.datas.length
 · have d8 : decide ((100 : Int) < (m.datas.length : Nat)) = true := by simp; omega
   clear h8
   exact yy9
 have d8 : decide ((100 : Int) < (m.datas.length : Nat)) = false := by simp; omega
 have H8 : Hid (m.datas.length ≤ 100) := by unfold Hid; omega
 clear h8
 by_cases h9 : 100 < m.customs.length
 · have d9 : decide ((100 : Int) < (m.customs.length : Nat)) = true := by simp; omega
   clear h9
   exact yy9
 have d9 : decide ((100 : Int) < (m.customs.length : Nat)) = false := by simp; omega
 have H9 : Hid (m.customs.length ≤ 100) := by unfold Hid; omega
 clear h9
 go_wp2_with fail
 clear y0 y1 y2 y3 y4 y5 y6 y7 y8 y9 d0 d1 d2 d3 d4 d5 d6 d7 d8 d9
 have FW0 := hid (Fr.refl No W)
 go_loopw [4, 5] (fun n i wr => ∃ k : Nat, k ≤ m.types.length ∧ n = .int .i64 ((kAJ sFn (m.types.take k) : Nat) : Int) ∧ i = .int .i64 k ∧ Hid (Fr No W wr)) (fun _ i _ => m.types.length - (intOf i).toNat)
 case atStart => exact ⟨0, by omega, by simp [kAJ], rfl, Fr.refl _ _⟩
 case round =>
 obtain ⟨k, hk, rfl, rfl, F⟩ := hrel
 obtain ⟨y0, y1, y2, y3, y4, y5, y6, y7, y8, y9⟩ := HX.o _ (FW0.o.trans F.o i3)
 have h100 := H0.o
 by_cases hlt : k < m.types.length
 · have d1 : decide ((k : Int) < (m.types.length : Nat)) = true := by simp; omega
   have i0 := nki k
   have i1 : (k : Int) < (m.types.length : Nat) := om
   have HLT : Hid (k + 1 ≤ m.types.length) := hlt
   have FW := hid (F0.o.trans (FW0.o.trans F.o i3) i3)
   obtain ⟨b, o, P1, p1, P2, p2, eA, hbS, z0, z1, -⟩ := kIq (els_up E0.o FW.o i2 i2) k hlt
   subst eA
   have hbl : b < wr.heap.size := ltl hbS FW.o.size
   have HAB := hid (HW.o.fn _ (List.getElem_mem hlt))
   have HTK := hid (sumBy_take (f := sFn) hlt)
   have HSB := hid (kAW (f := sFn) (l := m.types) (b := 281474976702464) (n := 100) (k := k) (fun a ha => by have := HW.o.fn a ha; unfold sFn; omega) H0.o)
   generalize m.types[k] = f at z0 z1 HAB HTK
   have HY : Hid (∀ X, Fr No wr X → Ce X p 0 (.slice (some ⟨b, o, none⟩) m.types.length c0) ∧ Ce X b (o + k * 2) (.slice P1 f.params.length p1) ∧ Ce X b (o + k * 2 + 1) (.slice P2 f.results.length p2)) := fun X g =>
    ⟨(HX.o _ (FW0.o.trans (F.o.trans g i3) i3)).1, (g.cell (p := ⟨b, o + k * 2, none⟩) hbl id).trans z0, (g.cell (p := ⟨b, o + k * 2 + 1, none⟩) hbl id).trans z1⟩
   clear z0 z1 hbl hbS
   go_upto_region 8 with fail
   clear y0 y1 y2 y3 y4 y5 y6 y7 y8 y9
   generalize kAJ sFn (m.types.take k) = s at *
   have s1 := HSB.o
   have s2 := HAB.o.1
   have s3 := HAB.o.2
   refine rwO (Fr No wr) [] (List.range 18) [] (Fr.refl _ _).drew ?_
   refine rO HY.o ?_
   refine wpO_nil ?_
   have FD := hid (F.o.trans (Fr.refl No wr).drew i3)
   go_wp2
   go_roundw
   case rel => exact ⟨k + 1, HLT.o, by rw [HTK.o]; refine congrArg (Value.int .i64) ?_; simp only [sFn]; simp only [IntKind.wrap_i64]; omega, by go_num, FD.o⟩
   exact kAl HLT.o
 have hkn : k = m.types.length := om
 subst hkn
 rw [List.take_length]
 obtain ⟨W1, hY⟩ : ∃ Y, Y = wr := ⟨_, rfl⟩
 subst hY
 have FW1 := ftr FW0 F.o
 clear F hk hlt
 go_wp2_with fail
 clear y0 y1 y2 y3 y4 y5 y6 y7 y8 y9
 have HS0 := hid (kAn (f := sFn) (l := m.types) (b := 281474976702464) (fun a ha => by have := HW.o.fn a ha; unfold sFn; omega))
 have K0 := H0.o
 obtain ⟨n0, hn0⟩ : ∃ n, n = kAJ sFn m.types := ⟨_, rfl⟩
 rw [← hn0] at HS0 ⊢
 have N0 : Hid (n0 ≤ 28147497670246400) := hid (by have := HS0.o; omega)
 have HN0 := hid hn0
 clear hn0 HS0 K0
 have b0 := N0.o
 go_loopw [4, 6] (fun n i wr => ∃ k : Nat, k ≤ m.imports.length ∧ n = .int .i64 ((n0 + kAJ sIm (m.imports.take k) : Nat) : Int) ∧ i = .int .i64 k ∧ Hid (Fr No W1 wr)) (fun _ i _ => m.imports.length - (intOf i).toNat)
 case atStart => exact ⟨0, by omega, by simp [kAJ], rfl, Fr.refl _ _⟩
 case round =>
 obtain ⟨k, hk, rfl, rfl, F⟩ := hrel
 obtain ⟨y0, y1, y2, y3, y4, y5, y6, y7, y8, y9⟩ := HX.o _ (FW1.o.trans F.o i3)
 have h100 := H1.o
 by_cases hlt : k < m.imports.length
 · have d1 : decide ((k : Int) < (m.imports.length : Nat)) = true := by simp; omega
   have i0 := nki k
   have i1 : (k : Int) < (m.imports.length : Nat) := om
   have HLT : Hid (k + 1 ≤ m.imports.length) := hlt
   have FW := hid (F0.o.trans (FW1.o.trans F.o i3) i3)
   obtain ⟨b, o, eA, hbS, z0, z1, -⟩ := kHM (els_up E1.o FW.o i2 i2) k hlt
   subst eA
   have hbl : b < wr.heap.size := ltl hbS FW.o.size
   have HAB := hid (HW.o.im _ (List.getElem_mem hlt))
   have HTK := hid (sumBy_take (f := sIm) hlt)
   have HSB := hid (kAW (f := sIm) (l := m.imports) (b := 281474976702464) (n := 100) (k := k) (fun a ha => by have := HW.o.im a ha; unfold sIm; omega) H1.o)
   generalize m.imports[k] = f at z0 z1 HAB HTK
   have HY : Hid (∀ X, Fr No wr X → Ce X p 1 (.slice (some ⟨b, o, none⟩) m.imports.length c1) ∧ Ce X b (o + k * 13) (.string f.mod) ∧ Ce X b (o + k * 13 + 1) (.string f.name)) := fun X g =>
    ⟨(HX.o _ (FW1.o.trans (F.o.trans g i3) i3)).2.1, (g.cell (p := ⟨b, o + k * 13, none⟩) hbl id).trans z0, (g.cell (p := ⟨b, o + k * 13 + 1, none⟩) hbl id).trans z1⟩
   clear z0 z1 hbl hbS
   go_upto_region 12 with fail
   clear y0 y1 y2 y3 y4 y5 y6 y7 y8 y9
   generalize kAJ sIm (m.imports.take k) = s at *
   have s1 := HSB.o
   have s2 := HAB.o.1
   have s3 := HAB.o.2
   refine rwO (Fr No wr) [] (List.range 18) [] (Fr.refl _ _).drew ?_
   refine rO HY.o ?_
   refine wpO_nil ?_
   have FD := hid (F.o.trans (Fr.refl No wr).drew i3)
   go_wp2
   go_roundw
   case rel => exact ⟨k + 1, HLT.o, by rw [HTK.o]; refine congrArg (Value.int .i64) ?_; simp only [sIm]; exact kDZ (Nat.le_trans N0.o dc) HSB.o HAB.o.1 HAB.o.2, by go_num, FD.o⟩
   exact kAl HLT.o
 have hkn : k = m.imports.length := om
 subst hkn
 rw [List.take_length]
 obtain ⟨W2, hY⟩ : ∃ Y, Y = wr := ⟨_, rfl⟩
 subst hY
 have FW2 := ftr FW1 F.o
 clear F hk hlt
 go_wp2_with fail
 clear y0 y1 y2 y3 y4 y5 y6 y7 y8 y9
 have HS1 := hid (kAn (f := sIm) (l := m.imports) (b := 281474976702464) (fun a ha => by have := HW.o.im a ha; unfold sIm; omega))
 have K1 := H1.o
 obtain ⟨n1, hn1⟩ : ∃ n, n = n0 + kAJ sIm m.imports := ⟨_, rfl⟩
 rw [← hn1]
 have N1 : Hid (n1 ≤ 60000000000000000) := hid (by have := HS1.o; have := N0.o; rw [hn1]; omega)
 have HN1 := hid hn1
 clear hn1 HS1 K1
 have b1 := N1.o
 have R0 : Hid (tIns.slice.row W2 W.heap.size (· < w.heap.size) 104 (.slice none 0 0) []) := Ty.row.nil _ _ _ _
 obtain ⟨r0, hr0⟩ : ∃ r : List (List Ins), r = [] := ⟨_, rfl⟩
 rw [← hr0] at R0
 have RW := hid R0.o
 have r0L : Hid (r0.length ≤ 0) := by rw [hr0]; exact Nat.le_refl 0
 have HRr0 := hid hr0
 clear hr0 R0
 go_loopw [3, 4, 7] (fun al n i wr => ∃ k : Nat, k ≤ m.funcs.length ∧ n = .int .i64 ((n1 + kAJ sCd (m.funcs.take k) : Nat) : Int) ∧ i = .int .i64 k ∧ Hid (tIns.slice.row wr W.heap.size (· < w.heap.size) 104 al (r0 ++ (m.funcs.take k).map (·.body))) ∧ Hid (Fr No W wr)) (fun _ _ i _ => m.funcs.length - (intOf i).toNat)
 case atStart => exact ⟨0, by omega, by simp [kAJ], rfl, by simpa [Hid] using RW.o, FW2.o⟩
 case round =>
 clear RW
 obtain ⟨k, hk, rfl, rfl, ROW, FX⟩ := hrel
 obtain ⟨y0, y1, y2, y3, y4, y5, y6, y7, y8, y9⟩ := HX.o _ FX.o
 have h100 := H2.o
 by_cases hlt : k < m.funcs.length
 · have d1 : decide ((k : Int) < (m.funcs.length : Nat)) = true := by simp; omega
   have i0 := nki k
   have i1 : (k : Int) < (m.funcs.length : Nat) := om
   have HLT : Hid (k + 1 ≤ m.funcs.length) := hlt
   have FW := ftr F0 FX.o
   have HLOW : Hid (∀ k, k < w.heap.size → k < wr.heap.size) := fun k hk => ltl hk FW.o.size
   have HBS : Hid (W.heap.size ≤ wr.heap.size) := FX.o.size
   obtain ⟨b, o, P1, p1, P2, p2, eA, hbS, z0, z1, z2, -, -, -, -, l3, l4, el2⟩ := kIy (els_up E2.o FW.o i2 i2) k hlt
   subst eA
   have HAB := hid (HW.o.cd _ (List.getElem_mem hlt))
   have HSU := hid (sumBy_take (f := sCd) hlt)
   have HSB := hid (kAW (f := sCd) (l := m.funcs) (b := 281474976702464) (n := 100) (k := k) (fun a ha => by have := HW.o.cd a ha; unfold sCd; omega) H2.o)
   have HTK : Hid (r0 ++ (m.funcs.take (k + 1)).map (·.body) = (r0 ++ (m.funcs.take k).map (·.body)) ++ [m.funcs[k].body]) := by
    exact yy35
   have HRD : Hid (∀ X, Fr No wr X → tIns.slice.rd X (· < w.heap.size) [.slice P2 m.funcs[k].body.length p2] m.funcs[k].body) := fun X g => ⟨P2, p2, rfl, l3, l4, els_up el2 g (fun k hk => ltl hk FW.o.size) i2⟩
   have HLX : Hid ((r0 ++ (m.funcs.take k).map (·.body)).length ≤ 0 + 100) := hid (by have := r0L.o; rw [List.length_append, List.length_map, List.length_take]; omega)
   clear l3 l4 el2 hbS
   generalize m.funcs[k] = f at z0 z1 z2 HAB HTK HRD HSU
   have F5 := hid ((Fr.refl No wr).alloc (.cells #[.slice P2 f.body.length p2] 104))
   have G5 := hid (Blk.new wr 104 #[.slice P2 f.body.length p2])
   generalize r0 ++ (m.funcs.take k).map (·.body) = xs at *
   generalize kAJ sCd (m.funcs.take k) = s at *
   have s1 := HSB.o
   have s2 := HAB.o.1
   have hlt2 := HLT.o
   go_wp2_with (at_builtin; refine kAK (t := tIns.slice) (base := W.heap.size) (S := (· < w.heap.size)) (xs := xs) (ys := [f.body]) (dss := [[.slice P2 f.body.length p2]]) (B2 := (wr.alloc (.cells #[.slice P2 f.body.length p2] 104)).heap.size) kBl rfl rfl rfl rfl (ROW.o.fr F5.o (fun k hk => ⟨HLOW.o k hk, fun x => x⟩) (fun _ _ x => x)) (Css.one (HRD.o _ F5.o)) (Rd.blk G5.o G5.o.lt 0 (fun k u hu => by rw [Nat.zero_add]; simpa using hu)) rfl (by have := HLX.o; simp; omega) (by have := HLX.o; simp; omega) (fun k hk => ⟨ltl (HLOW.o k hk) F5.o.size, fun e => by have h1 := (ROW.o.own e.symm).1; have h2 : k < w.heap.size := hk; have h3 := F0.o.size; omega⟩) (Nat.le_trans HBS.o F5.o.size) ?_; intro al2 w2 hr2 fr2 _; have R2 := hid hr2; have FR2 := hid (kAP (w0 := W) (ROW.o.fr F5.o (fun k hk => ⟨HLOW.o k hk, fun x => x⟩) (fun _ _ x => x)) (FX.o.trans F5.o i3) fr2 nr); clear hr2 fr2)
   go_roundw
   case rel => exact ⟨k + 1, HLT.o, by rw [HSU.o]; refine congrArg (Value.int .i64) ?_; simp only [sCd]; omega, by go_num, by rw [HTK.o]; exact R2.o, FR2.o⟩
   exact kAl HLT.o
 have hkn : k = m.funcs.length := om
 subst hkn
 rw [List.take_length] at ROW
 rw [List.take_length]
 obtain ⟨W3, hY⟩ : ∃ Y, Y = wr := ⟨_, rfl⟩
 subst hY
 have FW3 := hid FX.o
 clear FX hk hlt
 have r1L : Hid ((r0 ++ m.funcs.map (·.body)).length ≤ 0 + 100) := hid (by have := r0L.o; rw [List.length_append, List.length_map]; omega)
 obtain ⟨r1, hr1⟩ : ∃ r, r = r0 ++ m.funcs.map (·.body) := ⟨_, rfl⟩
 rw [← hr1] at ROW r1L
 have HRr1 := hid hr1
 clear hr1
 have RW := hid ROW.o
 clear ROW
 go_wp2_with fail
 clear y0 y1 y2 y3 y4 y5 y6 y7 y8 y9
 have HS2 := hid (kAn (f := sCd) (l := m.funcs) (b := 281474976702464) (fun a ha => by have := HW.o.cd a ha; unfold sCd; omega))
 have K2 := H2.o
 obtain ⟨n2, hn2⟩ : ∃ n, n = n1 + kAJ sCd m.funcs := ⟨_, rfl⟩
 rw [← hn2]
 have N2 : Hid (n2 ≤ 90000000000000000) := hid (by have := HS2.o; have := N1.o; rw [hn2]; omega)
 have HN2 := hid hn2
 clear hn2 HS2 K2
 have b2 := N2.o
 go_loopw [3, 8] (fun al i wr => ∃ k : Nat, k ≤ m.globals.length ∧ i = .int .i64 k ∧ Hid (tIns.slice.row wr W.heap.size (· < w.heap.size) 104 al (r1 ++ (m.globals.take k).map (·.init))) ∧ Hid (Fr No W wr)) (fun _ i _ => m.globals.length - (intOf i).toNat)
 case atStart => exact ⟨0, by omega, rfl, by simpa [Hid] using RW.o, FW3.o⟩
 case round =>
 clear RW
 obtain ⟨k, hk, rfl, ROW, FX⟩ := hrel
 obtain ⟨y0, y1, y2, y3, y4, y5, y6, y7, y8, y9⟩ := HX.o _ FX.o
 have h100 := H5.o
 by_cases hlt : k < m.globals.length
 · have d1 : decide ((k : Int) < (m.globals.length : Nat)) = true := by simp; omega
   have i0 := nki k
   have i1 : (k : Int) < (m.globals.length : Nat) := om
   have HLT : Hid (k + 1 ≤ m.globals.length) := hlt
   have FW := ftr F0 FX.o
   have HLOW : Hid (∀ k, k < w.heap.size → k < wr.heap.size) := fun k hk => ltl hk FW.o.size
   have HBS : Hid (W.heap.size ≤ wr.heap.size) := FX.o.size
   obtain ⟨b, o, P2, p2, eA, hbS, z0, z1, z2, -, l3, l4, el2⟩ := kIp (els_up E5.o FW.o i2 i2) k hlt
   subst eA
   have HAB := hid (HW.o.gd _ (List.getElem_mem hlt))
   have HTK : Hid (r1 ++ (m.globals.take (k + 1)).map (·.init) = (r1 ++ (m.globals.take k).map (·.init)) ++ [m.globals[k].init]) := by
    exact yy35
   have HRD : Hid (∀ X, Fr No wr X → tIns.slice.rd X (· < w.heap.size) [.slice P2 m.globals[k].init.length p2] m.globals[k].init) := fun X g => ⟨P2, p2, rfl, l3, l4, els_up el2 g (fun k hk => ltl hk FW.o.size) i2⟩
   have HLX : Hid ((r1 ++ (m.globals.take k).map (·.init)).length ≤ 100 + 100) := hid (by have := r1L.o; rw [List.length_append, List.length_map, List.length_take]; omega)
   clear l3 l4 el2 hbS
   generalize m.globals[k] = f at z0 z1 z2 HAB HTK HRD
   have F5 := hid ((Fr.refl No wr).alloc (.cells #[.slice P2 f.init.length p2] 104))
   have G5 := hid (Blk.new wr 104 #[.slice P2 f.init.length p2])
   generalize r1 ++ (m.globals.take k).map (·.init) = xs at *
   have hlt2 := HLT.o
   go_wp2_with (at_builtin; refine kAK (t := tIns.slice) (base := W.heap.size) (S := (· < w.heap.size)) (xs := xs) (ys := [f.init]) (dss := [[.slice P2 f.init.length p2]]) (B2 := (wr.alloc (.cells #[.slice P2 f.init.length p2] 104)).heap.size) kBl rfl rfl rfl rfl (ROW.o.fr F5.o (fun k hk => ⟨HLOW.o k hk, fun x => x⟩) (fun _ _ x => x)) (Css.one (HRD.o _ F5.o)) (Rd.blk G5.o G5.o.lt 0 (fun k u hu => by rw [Nat.zero_add]; simpa using hu)) rfl (by have := HLX.o; simp; omega) (by have := HLX.o; simp; omega) (fun k hk => ⟨ltl (HLOW.o k hk) F5.o.size, fun e => by have h1 := (ROW.o.own e.symm).1; have h2 : k < w.heap.size := hk; have h3 := F0.o.size; omega⟩) (Nat.le_trans HBS.o F5.o.size) ?_; intro al2 w2 hr2 fr2 _; have R2 := hid hr2; have FR2 := hid (kAP (w0 := W) (ROW.o.fr F5.o (fun k hk => ⟨HLOW.o k hk, fun x => x⟩) (fun _ _ x => x)) (FX.o.trans F5.o i3) fr2 nr); clear hr2 fr2)
   go_roundw
   case rel => exact ⟨k + 1, HLT.o, by go_num, by rw [HTK.o]; exact R2.o, FR2.o⟩
   exact kAl HLT.o
 have hkn : k = m.globals.length := om
 subst hkn
 rw [List.take_length] at ROW
 obtain ⟨W4, hY⟩ : ∃ Y, Y = wr := ⟨_, rfl⟩
 subst hY
 have FW4 := hid FX.o
 clear FX hk hlt
 have r2L : Hid ((r1 ++ m.globals.map (·.init)).length ≤ 100 + 100) := hid (by have := r1L.o; rw [List.length_append, List.length_map]; omega)
 obtain ⟨r2, hr2⟩ : ∃ r, r = r1 ++ m.globals.map (·.init) := ⟨_, rfl⟩
 rw [← hr2] at ROW r2L
 have HRr2 := hid hr2
 clear hr2
 have RW := hid ROW.o
 clear ROW
 go_wp2_with fail
 clear y0 y1 y2 y3 y4 y5 y6 y7 y8 y9
 go_loopw [4, 9] (fun n i wr => ∃ k : Nat, k ≤ m.exports.length ∧ n = .int .i64 ((n2 + kAJ sEx (m.exports.take k) : Nat) : Int) ∧ i = .int .i64 k ∧ Hid (Fr No W4 wr)) (fun _ i _ => m.exports.length - (intOf i).toNat)
 case atStart => exact ⟨0, by omega, by simp [kAJ], rfl, Fr.refl _ _⟩
 case round =>
 obtain ⟨k, hk, rfl, rfl, F⟩ := hrel
 obtain ⟨y0, y1, y2, y3, y4, y5, y6, y7, y8, y9⟩ := HX.o _ (FW4.o.trans F.o i3)
 have h100 := H6.o
 by_cases hlt : k < m.exports.length
 · have d1 : decide ((k : Int) < (m.exports.length : Nat)) = true := by simp; omega
   have i0 := nki k
   have i1 : (k : Int) < (m.exports.length : Nat) := om
   have HLT : Hid (k + 1 ≤ m.exports.length) := hlt
   have FW := hid (F0.o.trans (FW4.o.trans F.o i3) i3)
   obtain ⟨b, o, eA, hbS, z0, -⟩ := kFX (els_up E6.o FW.o i2 i2) k hlt
   subst eA
   have HAB := hid (HW.o.ex _ (List.getElem_mem hlt))
   have HSU := hid (sumBy_take (f := sEx) hlt)
   have HSB := hid (kAW (f := sEx) (l := m.exports) (b := 281474976702464) (n := 100) (k := k) (fun a ha => by have := HW.o.ex a ha; unfold sEx; omega) H6.o)
   clear hbS
   generalize m.exports[k] = f at z0 HAB HSU
   generalize kAJ sEx (m.exports.take k) = s at *
   have s1 := HSB.o
   have s2 := HAB.o
   have hlt2 := HLT.o
   go_wp2_with fail
   go_roundw
   case rel => exact ⟨k + 1, HLT.o, by rw [HSU.o]; refine congrArg (Value.int .i64) ?_; simp only [sEx]; omega, by go_num, F.o⟩
   exact kAl HLT.o
 have hkn : k = m.exports.length := om
 subst hkn
 rw [List.take_length]
 obtain ⟨W5, hY⟩ : ∃ Y, Y = wr := ⟨_, rfl⟩
 subst hY
 have FW5 := ftr FW4 F.o
 replace RW := hid (RW.o.fr F.o (fun k hk => ⟨ltl hk (F0.o.trans FW4.o i3).size, fun x => x⟩) (fun _ _ x => x))
 clear F hk hlt
 go_wp2_with fail
 clear y0 y1 y2 y3 y4 y5 y6 y7 y8 y9
 have HS3 := hid (kAn (f := sEx) (l := m.exports) (b := 281474976702464) (fun a ha => by have := HW.o.ex a ha; unfold sEx; omega))
 have K3 := H6.o
 obtain ⟨n3, hn3⟩ : ∃ n, n = n2 + kAJ sEx m.exports := ⟨_, rfl⟩
 rw [← hn3]
 have N3 : Hid (n3 ≤ 120000000000000000) := hid (by have := HS3.o; have := N2.o; rw [hn3]; omega)
 have HN3 := hid hn3
 clear hn3 HS3 K3
 have b3 := N3.o
 go_loopw [3, 10] (fun al i wr => ∃ k : Nat, k ≤ m.elems.length ∧ i = .int .i64 k ∧ Hid (tIns.slice.row wr W.heap.size (· < w.heap.size) 104 al (r2 ++ kAR (m.elems.take k))) ∧ Hid (Fr No W wr) ∧ Hid (∀ e ∈ m.elems.take k, e.items.length ≤ 300)) (fun _ i _ => m.elems.length - (intOf i).toNat)
 case atStart => exact ⟨0, by omega, rfl, by simpa [Hid, kAR] using RW.o, FW5.o, fun e he => by simp at he⟩
 case round =>
 clear RW
 obtain ⟨k, hk, rfl, ROW, FX, HI3⟩ := hrel
 obtain ⟨y0, y1, y2, y3, y4, y5, y6, y7, y8, y9⟩ := HX.o _ FX.o
 have h100 := H7.o
 by_cases hlt : k < m.elems.length
 · have d1 : decide ((k : Int) < (m.elems.length : Nat)) = true := by simp; omega
   have i0 := nki k
   have i1 : (k : Int) < (m.elems.length : Nat) := om
   have HLT : Hid (k + 1 ≤ m.elems.length) := hlt
   have FW := ftr F0 FX.o
   have HLOW : Hid (∀ k, k < w.heap.size → k < wr.heap.size) := fun k hk => ltl hk FW.o.size
   have HBS : Hid (W.heap.size ≤ wr.heap.size) := FX.o.size
   obtain ⟨b, o, P2, p2, P3, p3, eA, hbS, z0, z1, z2, z3, z4, -, -, l3, l4, el2, -, l5, l6, el3⟩ := kIs (els_up E7.o F0.o i2 i2) k hlt
   subst eA
   have HBL : Hid (b < W.heap.size) := ltl hbS F0.o.size
   have g2 := (FX.o.cell (p := ⟨b, o + k * 5 + 2, none⟩) (ltl hbS F0.o.size) id).trans z2
   have g4 := (FX.o.cell (p := ⟨b, o + k * 5 + 4, none⟩) (ltl hbS F0.o.size) id).trans z4
   have HTK : Hid (r2 ++ kAR (m.elems.take (k + 1)) = ((r2 ++ kAR (m.elems.take k)) ++ [m.elems[k].off]) ++ m.elems[k].items ∧ m.elems.take (k + 1) = m.elems.take k ++ [m.elems[k]]) := by
    refine ⟨?_, List.take_succ_eq_append_getElem hlt⟩
    rw [kEP hlt]
    simp only [List.append_assoc, List.cons_append, List.nil_append]
    rfl
   have HRD : Hid (∀ X, Fr No wr X → tIns.slice.rd X (· < w.heap.size) [.slice P2 m.elems[k].off.length p2] m.elems[k].off) := fun X g => ⟨P2, p2, rfl, l3, l4, els_up el2 (FX.o.trans g i3) (fun k hk => ltl hk F0.o.size) i2⟩
   have HLX : Hid ((r2 ++ kAR (m.elems.take k)).length ≤ 200 + 30100) := hid (by
    have h1 := r2L.o
    have h2 := kCn HI3.o
    rw [List.length_take] at h2
    rw [List.length_append]
    omega)
   obtain ⟨css, hcs, hri⟩ := kAk (B := W.heap.size) el3 (fun k hk => ltl hk F0.o.size)
   have HCS : Hid (∀ X, Fr No W X → Css tIns.slice X (· < w.heap.size) css m.elems[k].items) := hid (fun X g => hcs.fr g (fun k hk => ⟨ltl hk F0.o.size, fun x => x⟩))
   have HRI : Hid (∀ X, Fr No W X → Rd X W.heap.size P3 css.flatten) := hid (fun X g => hri.frNo g)
   have HNI : Hid (m.elems[k].items.length ≤ 300 → ∀ e ∈ m.elems.take (k + 1), e.items.length ≤ 300) := hid (fun h e he => by
    rw [HTK.o.2] at he
    rcases List.mem_append.1 he with h1 | h1
    · exact HI3.o e h1
    · rw [List.mem_singleton.1 h1]; exact h)
   clear l3 l4 el2 l5 l6 el3 hcs hri z0 z1 z2 z3 hbS
   have HZ4 := hid z4
   clear z4
   generalize m.elems[k] = f at g2 g4 HTK HRD HCS HNI HZ4
   have F5 := hid ((Fr.refl No wr).alloc (.cells #[.slice P2 f.off.length p2] 104))
   have G5 := hid (Blk.new wr 104 #[.slice P2 f.off.length p2])
   generalize r2 ++ kAR (m.elems.take k) = xs at *
   have hlt2 := HLT.o
   by_cases t1 : 300 < f.items.length
   · have t2 : decide ((300 : Int) < (f.items.length : Nat)) = true := by simp; omega
     clear t1 hlt
     go_wp2_with fail
     go_ret
     exact ⟨⟨false, rfl, fun e => by cases e⟩, FW.o⟩
   have t2 : decide ((300 : Int) < (f.items.length : Nat)) = false := by simp; omega
   have HIT : Hid (f.items.length ≤ 300) := by unfold Hid; omega
   clear t1 hlt
   go_upto_region 32 with (at_builtin; refine kAK (t := tIns.slice) (base := W.heap.size) (S := (· < w.heap.size)) (xs := xs) (ys := [f.off]) (dss := [[.slice P2 f.off.length p2]]) (B2 := (wr.alloc (.cells #[.slice P2 f.off.length p2] 104)).heap.size) kBl rfl rfl rfl rfl (ROW.o.fr F5.o (fun k hk => ⟨HLOW.o k hk, fun x => x⟩) (fun _ _ x => x)) (Css.one (HRD.o _ F5.o)) (Rd.blk G5.o G5.o.lt 0 (fun k u hu => by rw [Nat.zero_add]; simpa using hu)) rfl (by have := HLX.o; simp; omega) (by have := HLX.o; simp; omega) (fun k hk => ⟨ltl (HLOW.o k hk) F5.o.size, fun e => by have h1 := (ROW.o.own e.symm).1; have h2 : k < w.heap.size := hk; have h3 := F0.o.size; omega⟩) (Nat.le_trans HBS.o F5.o.size) ?_; intro al2 w2 hr2 fr2 _; have R2 := hid hr2; have FR2 := hid (kAP (w0 := W) (ROW.o.fr F5.o (fun k hk => ⟨HLOW.o k hk, fun x => x⟩) (fun _ _ x => x)) (FX.o.trans F5.o i3) fr2 nr); clear hr2 fr2)
   obtain ⟨v0, v1, v2, v3, v4, v5, v6, v7, v8, v9⟩ := HX.o _ FR2.o
   have g5 := (FR2.o.cell (p := ⟨b, o + k * 5 + 4, none⟩) HBL.o id).trans HZ4.o
   go_wp2_with (at_builtin; refine kAK (t := tIns.slice) (base := W.heap.size) (S := (· < w.heap.size)) (xs := xs ++ [f.off]) (ys := f.items) (dss := css) (B2 := W.heap.size) kBl rfl rfl rfl rfl R2.o (HCS.o _ FR2.o) (HRI.o _ FR2.o) rfl (by have := HLX.o; have := HIT.o; simp; omega) (by have := HLX.o; have := HIT.o; simp; omega) (fun k hk => ⟨ltl hk (F0.o.trans FR2.o i3).size, fun e => by have h1 := (R2.o.own e.symm).1; have h2 : k < w.heap.size := hk; have h3 := F0.o.size; omega⟩) (FR2.o.size) ?_; intro al3 w3 hr3 fr3 _; have R3 := hid hr3; have FR3 := hid (kAP (w0 := W) R2.o FR2.o fr3 nr); clear hr3 fr3)
   go_roundw
   case rel => exact ⟨k + 1, HLT.o, by go_num, by rw [HTK.o.1]; exact R3.o, FR3.o, HNI.o HIT.o⟩
   exact kAl HLT.o
 have hkn : k = m.elems.length := om
 subst hkn
 rw [List.take_length] at ROW HI3
 obtain ⟨W6, hY⟩ : ∃ Y, Y = wr := ⟨_, rfl⟩
 subst hY
 have FW6 := hid FX.o
 clear FX hk hlt
 have r3L : Hid ((r2 ++ kAR m.elems).length ≤ 30300) := hid (by
  have h1 := r2L.o
  have h2 := kCn HI3.o
  rw [List.length_append]
  omega)
 obtain ⟨r3, hr3⟩ : ∃ r, r = r2 ++ kAR m.elems := ⟨_, rfl⟩
 rw [← hr3] at ROW r3L
 have HRr3 := hid hr3
 clear hr3
 have RW := hid ROW.o
 clear ROW
 go_wp2_with fail
 clear y0 y1 y2 y3 y4 y5 y6 y7 y8 y9
 go_loopw [3, 4, 11] (fun al n i wr => ∃ k : Nat, k ≤ m.datas.length ∧ n = .int .i64 ((n3 + kAJ sDa (m.datas.take k) : Nat) : Int) ∧ i = .int .i64 k ∧ Hid (tIns.slice.row wr W.heap.size (· < w.heap.size) 104 al (r3 ++ (m.datas.take k).map (·.off))) ∧ Hid (Fr No W wr)) (fun _ _ i _ => m.datas.length - (intOf i).toNat)
 case atStart => exact ⟨0, by omega, by simp [kAJ], rfl, by simpa [Hid] using RW.o, FW6.o⟩
 case round =>
 clear RW
 obtain ⟨k, hk, rfl, rfl, ROW, FX⟩ := hrel
 obtain ⟨y0, y1, y2, y3, y4, y5, y6, y7, y8, y9⟩ := HX.o _ FX.o
 have h100 := H8.o
 by_cases hlt : k < m.datas.length
 · have d1 : decide ((k : Int) < (m.datas.length : Nat)) = true := by simp; omega
   have i0 := nki k
   have i1 : (k : Int) < (m.datas.length : Nat) := om
   have HLT : Hid (k + 1 ≤ m.datas.length) := hlt
   have FW := ftr F0 FX.o
   have HLOW : Hid (∀ k, k < w.heap.size → k < wr.heap.size) := fun k hk => ltl hk FW.o.size
   have HBS : Hid (W.heap.size ≤ wr.heap.size) := FX.o.size
   obtain ⟨b, o, P2, p2, P1, p1, eA, hbS, z0, z1, z2, z3, -, -, l3, l4, el2, -⟩ := kIu (els_up E8.o FW.o i2 i2) k hlt
   subst eA
   have HAB := hid (HW.o.da _ (List.getElem_mem hlt))
   have HSU := hid (sumBy_take (f := sDa) hlt)
   have HSB := hid (kAW (f := sDa) (l := m.datas) (b := 281474976702464) (n := 100) (k := k) (fun a ha => by have := HW.o.da a ha; unfold sDa; omega) H8.o)
   have HTK : Hid (r3 ++ (m.datas.take (k + 1)).map (·.off) = (r3 ++ (m.datas.take k).map (·.off)) ++ [m.datas[k].off]) := by
    exact yy35
   have HRD : Hid (∀ X, Fr No wr X → tIns.slice.rd X (· < w.heap.size) [.slice P2 m.datas[k].off.length p2] m.datas[k].off) := fun X g => ⟨P2, p2, rfl, l3, l4, els_up el2 g (fun k hk => ltl hk FW.o.size) i2⟩
   have HLX : Hid ((r3 ++ (m.datas.take k).map (·.off)).length ≤ 30300 + 100) := hid (by have := r3L.o; rw [List.length_append, List.length_map, List.length_take]; omega)
   clear l3 l4 el2 hbS
   generalize m.datas[k] = f at z0 z1 z2 z3 HAB HTK HRD HSU
   have F5 := hid ((Fr.refl No wr).alloc (.cells #[.slice P2 f.off.length p2] 104))
   have G5 := hid (Blk.new wr 104 #[.slice P2 f.off.length p2])
   generalize r3 ++ (m.datas.take k).map (·.off) = xs at *
   generalize kAJ sDa (m.datas.take k) = s at *
   have s1 := HSB.o
   have s2 := HAB.o.1
   have hlt2 := HLT.o
   go_wp2_with (at_builtin; refine kAK (t := tIns.slice) (base := W.heap.size) (S := (· < w.heap.size)) (xs := xs) (ys := [f.off]) (dss := [[.slice P2 f.off.length p2]]) (B2 := (wr.alloc (.cells #[.slice P2 f.off.length p2] 104)).heap.size) kBl rfl rfl rfl rfl (ROW.o.fr F5.o (fun k hk => ⟨HLOW.o k hk, fun x => x⟩) (fun _ _ x => x)) (Css.one (HRD.o _ F5.o)) (Rd.blk G5.o G5.o.lt 0 (fun k u hu => by rw [Nat.zero_add]; simpa using hu)) rfl (by have := HLX.o; simp; omega) (by have := HLX.o; simp; omega) (fun k hk => ⟨ltl (HLOW.o k hk) F5.o.size, fun e => by have h1 := (ROW.o.own e.symm).1; have h2 : k < w.heap.size := hk; have h3 := F0.o.size; omega⟩) (Nat.le_trans HBS.o F5.o.size) ?_; intro al2 w2 hr2 fr2 _; have R2 := hid hr2; have FR2 := hid (kAP (w0 := W) (ROW.o.fr F5.o (fun k hk => ⟨HLOW.o k hk, fun x => x⟩) (fun _ _ x => x)) (FX.o.trans F5.o i3) fr2 nr); clear hr2 fr2)
   go_roundw
   case rel => exact ⟨k + 1, HLT.o, by rw [HSU.o]; refine congrArg (Value.int .i64) ?_; simp only [sDa]; omega, by go_num, by rw [HTK.o]; exact R2.o, FR2.o⟩
   exact kAl HLT.o
 have hkn : k = m.datas.length := om
 subst hkn
 rw [List.take_length] at ROW
 rw [List.take_length]
 obtain ⟨W7, hY⟩ : ∃ Y, Y = wr := ⟨_, rfl⟩
 subst hY
 have FW7 := hid FX.o
 clear FX hk hlt
 have r4L : Hid ((r3 ++ m.datas.map (·.off)).length ≤ 30300 + 100) := hid (by have := r3L.o; rw [List.length_append, List.length_map]; omega)
 obtain ⟨r4, hr4⟩ : ∃ r, r = r3 ++ m.datas.map (·.off) := ⟨_, rfl⟩
 rw [← hr4] at ROW r4L
 have HRr4 := hid hr4
 clear hr4
 have RW := hid ROW.o
 clear ROW
 go_wp2_with fail
 clear y0 y1 y2 y3 y4 y5 y6 y7 y8 y9
 have HS4 := hid (kAn (f := sDa) (l := m.datas) (b := 281474976702464) (fun a ha => by have := HW.o.da a ha; unfold sDa; omega))
 have K4 := H8.o
 obtain ⟨n4, hn4⟩ : ∃ n, n = n3 + kAJ sDa m.datas := ⟨_, rfl⟩
 rw [← hn4]
 have N4 : Hid (n4 ≤ 150000000000000000) := hid (by have := HS4.o; have := N3.o; rw [hn4]; omega)
 have HN4 := hid hn4
 clear hn4 HS4 K4
 have b4 := N4.o
 go_loopw [4, 12] (fun n i wr => ∃ k : Nat, k ≤ m.customs.length ∧ n = .int .i64 ((n4 + kAJ sCu (m.customs.take k) : Nat) : Int) ∧ i = .int .i64 k ∧ Hid (Fr No W7 wr)) (fun _ i _ => m.customs.length - (intOf i).toNat)
 case atStart => exact ⟨0, by omega, by simp [kAJ], rfl, Fr.refl _ _⟩
 case round =>
 obtain ⟨k, hk, rfl, rfl, F⟩ := hrel
 obtain ⟨y0, y1, y2, y3, y4, y5, y6, y7, y8, y9⟩ := HX.o _ (FW7.o.trans F.o i3)
 have h100 := H9.o
 by_cases hlt : k < m.customs.length
 · have d1 : decide ((k : Int) < (m.customs.length : Nat)) = true := by simp; omega
   have i0 := nki k
   have i1 : (k : Int) < (m.customs.length : Nat) := om
   have HLT : Hid (k + 1 ≤ m.customs.length) := hlt
   have FW := hid (F0.o.trans (FW7.o.trans F.o i3) i3)
   obtain ⟨b, o, P1, p1, eA, hbS, -, z1, z0, -⟩ := kIw (els_up E9.o FW.o i2 i2) k hlt
   subst eA
   have hbl : b < wr.heap.size := ltl hbS FW.o.size
   have HAB := hid (HW.o.cu _ (List.getElem_mem hlt))
   have HTK := hid (sumBy_take (f := sCu) hlt)
   have HSB := hid (kAW (f := sCu) (l := m.customs) (b := 281474976702464) (n := 100) (k := k) (fun a ha => by have := HW.o.cu a ha; unfold sCu; omega) H9.o)
   generalize m.customs[k] = f at z0 z1 HAB HTK
   have HY : Hid (∀ X, Fr No wr X → Ce X p 11 (.slice (some ⟨b, o, none⟩) m.customs.length c9) ∧ Ce X b (o + k * 3 + 2) (.slice P1 f.bytes.length p1) ∧ Ce X b (o + k * 3 + 1) (.string f.name)) := fun X g =>
    ⟨(HX.o _ (FW7.o.trans (F.o.trans g i3) i3)).2.2.2.2.2.2.2.2.2, (g.cell (p := ⟨b, o + k * 3 + 2, none⟩) hbl id).trans z0, (g.cell (p := ⟨b, o + k * 3 + 1, none⟩) hbl id).trans z1⟩
   clear z0 z1 hbl hbS
   go_upto_region 41 with fail
   clear y0 y1 y2 y3 y4 y5 y6 y7 y8 y9
   generalize kAJ sCu (m.customs.take k) = s at *
   have s1 := HSB.o
   have s2 := HAB.o.1
   have s3 := HAB.o.2
   refine rwO (Fr No wr) [] (List.range 18) [] (Fr.refl _ _).drew ?_
   refine rO HY.o ?_
   refine wpO_nil ?_
   have FD := hid (F.o.trans (Fr.refl No wr).drew i3)
   go_wp2
   go_roundw
   case rel => exact ⟨k + 1, HLT.o, by rw [HTK.o]; refine congrArg (Value.int .i64) ?_; simp only [sCu]; exact kDZ (Nat.le_trans N4.o dc) HSB.o HAB.o.1 HAB.o.2, by go_num, FD.o⟩
   exact kAl HLT.o
 have hkn : k = m.customs.length := om
 subst hkn
 rw [List.take_length]
 clear hk hlt
 have RW8 := hid (RW.o.fr F.o (fun k hk => ⟨ltl hk (F0.o.trans FW7.o i3).size, fun x => x⟩) (fun _ _ x => x))
 have FW8 := hid (F0.o.trans (FW7.o.trans F.o i3) i3)
 obtain ⟨AV, CV, hv, -, -, HEL⟩ := RW8.o.els (S' := (· < wr.heap.size)) (fun k hk => ltl hk FW8.o.size) (fun g hg => (kAB RW8.o hg).lt)
 subst hv
 have HE := hid HEL
 clear HEL RW RW8
 have HS5 := hid (kAn (f := sCu) (l := m.customs) (b := 281474976702464) (fun a ha => by have := HW.o.cu a ha; unfold sCu; omega))
 have K5 := H9.o
 obtain ⟨n5, hn5⟩ : ∃ n, n = n4 + kAJ sCu m.customs := ⟨_, rfl⟩
 rw [← hn5]
 have HN5 := hid hn5
 have HRS : Hid (∀ x ∈ r4, x.length ≤ 140737488351232) := hid (fun x hx => by
  rw [HRr4.o, HRr3.o, HRr2.o, HRr1.o, HRr0.o] at hx
  simp only [List.nil_append, List.mem_append, List.mem_map] at hx
  rcases hx with ((⟨a, ha, rfl⟩ | ⟨a, ha, rfl⟩) | hx) | ⟨a, ha, rfl⟩
  · exact (HW.o.cd a ha).2
  · exact HW.o.gd a ha
  · unfold kAR at hx
    obtain ⟨e, he, hx⟩ := List.mem_flatMap.1 hx
    rcases List.mem_cons.1 hx with rfl | hx
    · exact (HW.o.el e he).1
    exact (HW.o.el e he).2 x hx
  · exact (HW.o.da a ha).2)
 clear hn5 HS5 K5
 by_cases t9 : n5 ≤ 9000
 · have d9 : decide ((n5 : Int) ≤ 9000) = true := by simp; omega
   have HT9 := hid t9
   clear t9
   go_wp2_with fail
   refine (kGL r4 AV CV (· < wr.heap.size) wr HE.o i2 HRS.o (by have := r4L.o; omega)).mono ?_
   rintro e w9 ⟨⟨r, rfl, hr⟩, f9⟩
   have HR := hid hr
   have F9 := ftr FW8 f9
   clear hr f9
   go_wp2
   go_ret
   refine ⟨⟨r, rfl, fun e => kID ⟨H0.o, H1.o, H2.o, H3.o, H4.o, H5.o, H6.o, H7.o, H8.o, H9.o⟩ HI3.o ?_ ?_⟩, F9.o⟩
   · have h := HT9.o
     rw [HN5.o, HN4.o, HN3.o, HN2.o, HN1.o, HN0.o] at h
     unfold kCx
     exact h
   intro x hx
   refine HR.o e x ?_
   rw [HRr4.o, HRr3.o, HRr2.o, HRr1.o, HRr0.o]
   unfold kDg at hx
   simpa using hx
 have d9 : decide ((n5 : Int) ≤ 9000) = false := by simp; omega
 clear t9
 go_wp2_with fail
 go_ret
 exact ⟨⟨false, rfl, fun e => by cases e⟩, FW8.o⟩
theorem meas {n k : Nat} (h : k < n) : n - (intOf (.int .i64 ((k + 1 : Nat) : Int))).toNat < n - (intOf (.int .i64 (k : Int))).toNat := by
 simp only [intOf, Int.toNat_natCast]
 omega
def tabN (t : Rt) : Rt := ⟨t.t, List.replicate (t.t.lim.min.toNat + (t.l.length - t.t.lim.min.toNat) % 4294967296) 0⟩
def memN (m : Rm) : Rm := ⟨m.lim, List.replicate ((m.lim.min.toNat + (m.b.length / 256 - m.lim.min.toNat) % 4294967296) * 256) 0⟩
def kAE (x : Rx) (a b c d e : Nat) : Rx :=
 { hosts := x.hosts, counts := List.replicate x.hosts.length 0, calls := [], funcs := x.funcs.take a, tabs := (x.tabs.take b).map tabN, mems := (x.mems.take c).map memN, globs := x.globs.take d, elems := [], datas := [], insts := x.insts.take e }
structure MkQ (x : Rx) (b c : Nat) : Prop where
 t : ∀ t ∈ x.tabs.take b, 0 ≤ t.t.lim.min ∧ t.t.lim.min ≤ (t.l.length : Int)
 m : ∀ m ∈ x.mems.take c, 0 ≤ m.lim.min ∧ m.lim.min ≤ ((m.b.length / 256 : Nat) : Int) ∧ (memN m).b.length ≤ 65536
theorem MkQ.tab {x : Rx} {k c : Nat} {t : Rt} (h : MkQ x k c) (e : x.tabs.take (k + 1) = x.tabs.take k ++ [t]) (ht : 0 ≤ t.t.lim.min ∧ t.t.lim.min ≤ (t.l.length : Int)) : MkQ x (k + 1) c :=
 ⟨fun a ha => by
  rw [e] at ha
  rcases List.mem_append.1 ha with h1 | h1
  · exact h.t a h1
  · rw [List.mem_singleton.1 h1]; exact ht, h.m⟩
theorem MkQ.mem {x : Rx} {b k : Nat} {m : Rm} (h : MkQ x b k) (e : x.mems.take (k + 1) = x.mems.take k ++ [m]) (hm : 0 ≤ m.lim.min ∧ m.lim.min ≤ ((m.b.length / 256 : Nat) : Int) ∧ (memN m).b.length ≤ 65536) : MkQ x b (k + 1) :=
 ⟨h.t, fun a ha => by
  rw [e] at ha
  rcases List.mem_append.1 ha with h1 | h1
  · exact h.m a h1
  · rw [List.mem_singleton.1 h1]; exact hm⟩
structure Mk (w : World) (p : Nat) (x : Rx) (cs : LV) (a b c d e : Nat) (P : Nat) (X : World) : Prop where
 ex : ∃ (V : Pl) (R : Nat → Prop), V.P = P ∧ StIn X R V (kAE x a b c d e) ∧ (∀ k, R k → w.heap.size ≤ k) ∧ ¬ R p
 f : Fr No w X
 q : MkQ x b c
 bx : Blk X p 33 cs.toArray
theorem Mk.no {w X Y : World} {p P a b c d e : Nat} {x : Rx} {cs : LV} (h : Mk w p x cs a b c d e P X) (f : Fr No X Y) : Mk w p x cs a b c d e P Y := by
 obtain ⟨V, R, h1, h2, h3, h4⟩ := h.ex
 exact ⟨⟨V, R, h1, h2.frNo f, h3, h4⟩, h.f.trans f i3, h.q, h.bx.fr f id⟩
theorem Mk.grown {w X Y : World} {p P a b c d e a' b' c' d' e' : Nat} {x : Rx} {cs : LV} {V V' : Pl} {R R' : Nat → Prop} (hb : Blk X p 33 cs.toArray) (hf : Fr No w X) (hq : MkQ x b' c') (h3 : ∀ k, R k → w.heap.size ≤ k) (h4 : ¬ R p)
    (hs : StIn X R V (kAE x a b c d e)) (k : StIn Y R' V' (kAE x a' b' c' d' e')) (g : Grown X Y R R' V V') (hP : V.P = P) : Mk w p x cs a' b' c' d' e' P Y := by
 refine ⟨⟨V', R', g.P.trans hP, k, fun i r => ?_, fun r => h4 (g.up p hb.lt r)⟩, hf.trans g.fr (fun i hi o => by have := h3 i (hs.own i o); omega), hq, hb.fr g.fr (fun o => h4 (hs.own p o))⟩
 by_cases hi : i < X.heap.size
 · exact h3 i (g.up i hi r)
 have := hf.size
 omega
theorem StIn.growT {Y Z W : World} {R' : Nat → Prop} {V' : Pl} {y : Rx} (k2 : StIn Y R' V' y) (f : Fr No Y Z) {k : Nat} {z : Nat × Nat × Nat} (hz : V'.tp[k]? = some z) {t : Rt} (ht : y.tabs[k]? = some t) {l : List Int}
    (G : kEC z.1 z.2.1 t.t.elem t.t.lim.min t.t.lim.max t.t.lim.has l Z W) : ∃ R2 V2, StIn W R2 V2 { y with tabs := y.tabs.set k ⟨t.t, l⟩ } ∧ Grown Y W R' R2 V' V2 := by
 obtain ⟨q', c', T, fr, hq⟩ := G
 obtain ⟨k3, g3⟩ := (k2.frNo f).setTab (t' := ⟨t.t, l⟩) hz ht fr T hq
 exact ⟨_, _, k3, (Grown.of_no f).trans g3⟩
theorem StIn.growM {Y Z W : World} {R' : Nat → Prop} {V' : Pl} {y : Rx} (k2 : StIn Y R' V' y) (f : Fr No Y Z) {k : Nat} {z : Nat × Nat × Nat} (hz : V'.mp[k]? = some z) {t : Rm} (ht : y.mems[k]? = some t) {l : List Int} {q' c' : Nat}
    (T : Mo W z.1 q' c' t.lim l) (fr : Fr (Two z.1 z.2.1) Z W) (hq : q' = z.2.1 ∨ Z.heap.size ≤ q') : ∃ R2 V2, StIn W R2 V2 { y with mems := y.mems.set k ⟨t.lim, l⟩ } ∧ Grown Y W R' R2 V' V2 := by
 obtain ⟨k3, g3⟩ := (k2.frNo f).setMem (t' := ⟨t.lim, l⟩) hz ht fr T hq
 exact ⟨_, _, k3, (Grown.of_no f).trans g3⟩
theorem kDc {α : Type} {l : List α} {a b : α} {k : Nat} (h : l.length = k) : (l ++ [a]).set k b = l ++ [b] := by
 subst h
 simp
theorem kHP {t : Rt} {n : Int} {N : Nat} (h0 : 0 ≤ t.t.lim.min) (hn : n = (t.l.length : Int) - t.t.lim.min) (h1 : 0 ≤ n) (hN : n % 4294967296 = N) : tabN t = ⟨t.t, List.replicate t.t.lim.min.toNat 0 ++ List.replicate N 0⟩ := by
 have e : (t.l.length - t.t.lim.min.toNat) % 4294967296 = N := om
 unfold tabN
 rw [e, List.replicate_append_replicate]
theorem kHV {m : Rm} {n : Int} (h0 : 0 ≤ m.lim.min) (hn : n = ((m.b.length / 256 : Nat) : Int) - m.lim.min) (h1 : 0 ≤ n) {N : Nat} (hN : (n % 4294967296).toNat = N) : memN m = ⟨m.lim, List.replicate (m.lim.min.toNat * 256) 0 ++ List.replicate (N * 256) 0⟩ := by
 have e : (m.b.length / 256 - m.lim.min.toNat) % 4294967296 = N := om
 unfold memN
 rw [e, List.replicate_append_replicate, Nat.add_mul]
structure RxB (x : Rx) : Prop where
 hl : x.hosts.length ≤ 20
 hb : ∀ h ∈ x.hosts, HoBd h
 fl : x.funcs.length ≤ 40
 fb : ∀ f ∈ x.funcs, f.ty.params.length ≤ 40 ∧ f.ty.results.length ≤ 40
 tl : x.tabs.length ≤ 20
 tb : ∀ t ∈ x.tabs, t.l.length ≤ 140737488351232
 ml : x.mems.length ≤ 20
 mb : ∀ m ∈ x.mems, m.b.length ≤ 140737488351232
 gl : x.globs.length ≤ 40
 il : x.insts.length ≤ 10
 ib : ∀ i ∈ x.insts, MdB i.m ∧ AdB i.a
def kIS (x : Rx) (w : World) (e : Ending) (w' : World) : Prop :=
 (e = .returned (.tuple #[.pointer none, .bool false]) ∧ Fr No w w') ∨
 ∃ (V : Pl) (R : Nat → Prop), e = .returned (.tuple #[.pointer (some ⟨V.P, 0, none⟩), .bool true]) ∧ StIn w' R V (kAE x x.funcs.length x.tabs.length x.mems.length x.globs.length x.insts.length) ∧ (∀ k, R k → w.heap.size ≤ k) ∧ Fr No w w' ∧ mayB x.hosts = true ∧ MkQ x x.tabs.length x.mems.length
theorem kGk (x : Rx) {cs : LV} (w : World) (hx : tRx.rd w (· < w.heap.size) cs x) (hb : RxB x) :
    Calls prog 11 #[.agg cs.toArray] w (kIS x w) := by
 obtain ⟨A0, c0, A1, c1, A2, c2, A3, c3, A4, c4, A5, c5, A6, c6, A7, c7, A8, c8, A9, c9, hcs, -, -, e0, -, -, -, -, -, -, -, -, e3, -, -, e4, -, -, e5, -, -, e6, -, -, -, -, -, -, -, -, e9⟩ := kBz hx
 have E0 := hid e0
 have E3 := hid e3
 have E4 := hid e4
 have E5 := hid e5
 have E6 := hid e6
 have E9 := hid e9
 have HB := hid hb
 have F0 := hid ((Fr.refl No w).alloc (.cells cs.toArray 33))
 have B0 := hid (Blk.new w 33 cs.toArray)
 have HC : Hid (∀ (X : World) (p : Nat), Blk X p 33 cs.toArray → Ce X p 0 (.slice A0 x.hosts.length c0) ∧ Ce X p 3 (.slice A3 x.funcs.length c3) ∧ Ce X p 4 (.slice A4 x.tabs.length c4) ∧ Ce X p 5 (.slice A5 x.mems.length c5) ∧ Ce X p 6 (.slice A6 x.globs.length c6) ∧ Ce X p 9 (.slice A9 x.insts.length c9)) := fun X p b => by
  rw [hcs] at b
  exact ⟨b.cell 0, b.cell 3, b.cell 4, b.cell 5, b.cell 6, b.cell 9⟩
 have HL : Hid (cs.length = 10) := TyOk.len _ _ _ _ hx
 clear hx hb hcs e0 e3 e4 e5 e6 e9
 go_enter func11, ntmps11
 go_upto_region 1 with fail
 generalize w.alloc (.cells cs.toArray 33) = W at *
 obtain ⟨p, hp⟩ : ∃ p, p = w.heap.size := ⟨_, rfl⟩
 rw [← hp] at B0 ⊢
 have HP := hid hp
 clear hp
 have y := (HC.o W p B0.o).1
 go_wp2_with fail
 refine (kDm A0 c0 x.hosts (· < w.heap.size) W (els_up E0.o F0.o i2 i2) (fun k hk => ltl hk F0.o.size) (by have := HB.o.hl; omega) HB.o.hb).mono ?_
 rintro e w1 hN
 unfold kBp at hN
 clear y
 by_cases hm : mayB x.hosts = true
 case neg =>
  rw [if_neg hm] at hN
  obtain ⟨rfl, f1⟩ := hN
  go_wp2_with fail
  go_ret2
  exact .inl ⟨rfl, F0.o.trans f1 i3⟩
 rw [if_pos hm] at hN
 obtain ⟨V0, rfl, hst, hown, f1⟩ := hN
 have HM := hid hm
 have MK : Hid (Mk w p x cs 0 0 0 0 0 V0.P w1) := ⟨⟨V0, V0.own, rfl, (show kAE x 0 0 0 0 0 = sto0 x.hosts from rfl) ▸ hst, fun k o => by have := hown k o; have := F0.o.size; omega, fun o => by have h1 := hown p o; have h2 := B0.o.lt; omega⟩, F0.o.trans f1 i3, ⟨fun t ht => by simp at ht, fun t ht => by simp at ht⟩, B0.o.fr f1 id⟩
 clear hm hst hown f1 B0 F0
 generalize V0.P = P at *
 clear V0 W
 have y := (HC.o w1 p MK.o.bx).2.1
 go_wp2_with fail
 clear y
 go_loopw [5] (fun i wr => ∃ k : Nat, k ≤ x.funcs.length ∧ i = .int .i64 k ∧ Hid (Mk w p x cs k 0 0 0 0 P wr)) (fun i _ => x.funcs.length - (intOf i).toNat)
 case atStart => exact ⟨0, by omega, rfl, MK.o⟩
 case round =>
 clear MK
 obtain ⟨k, hk, rfl, MK⟩ := hrel
 have y := (HC.o wr p MK.o.bx).2.1
 by_cases hlt : k < x.funcs.length
 · have d1 : decide ((k : Int) < (x.funcs.length : Nat)) = true := by simp; omega
   have i0 := nki k
   have i1 : (k : Int) < (x.funcs.length : Nat) := om
   have HLT : Hid (k + 1 ≤ x.funcs.length) := hlt
   have hfl := HB.o.fl
   have e9 : wrap64 ((k : Int) + 1) = ((k + 1 : Nat) : Int) := by simp only [wrap64]; omega
   obtain ⟨b, o, P1, p1, P2, p2, eA, hbS, z0, z1, z2, z3, -, -, g1, -, -, g2, wi, wx⟩ := kFW (els_up E3.o MK.o.f i2 i2) k hlt
   subst eA
   have HG := hid (And.intro (els_up g1 (Fr.refl No wr) (fun _ h => ltl h MK.o.f.size) (fun _ h => ltl h MK.o.f.size)) (els_up g2 (Fr.refl No wr) (fun _ h => ltl h MK.o.f.size) (fun _ h => ltl h MK.o.f.size)))
   have HW := hid (And.intro wi wx)
   have HFB := hid (HB.o.fb _ (List.getElem_mem hlt))
   have HTK := hid (List.take_succ_eq_append_getElem hlt)
   clear g1 g2 wi wx hbS
   generalize x.funcs[k] = f at z0 z1 z2 z3 HG HW HFB HTK
   clear hlt
   go_wp2_with fail
   clear z0 z1 z2 z3 y
   obtain ⟨V, R, hP, st, r1, r2⟩ := MK.o.ex
   subst hP
   have HST := hid st
   have HA := hid (kEd st f P1 P2 p1 p2 HG.o.1 HG.o.2 (by simp only [kAE, List.length_take]; omega) (by have := HFB.o.1; omega) (by have := HFB.o.2; omega) HW.o.1 HW.o.2 (fun a ha => ⟨by have := (HB.o.hb a ha).p; omega, by have := (HB.o.hb a ha).r; omega⟩))
   clear st
   cases hv : kAz (kAE x k 0 0 0 0) f with
   | false =>
    rw [kBD hv] at HA
    refine HA.o.mono ?_
    rintro e w2 ⟨V', R', rfl, k2, g⟩
    have FW := hid (MK.o.f.trans g.fr (fun i hi o => by have := r1 i (HST.o.own i o); omega))
    have hne : ((-1 : Int) == (k : Int)) = false := by simp
    clear HA g k2
    go_wp2_with fail
    go_ret2
    exact .inl ⟨rfl, FW.o⟩
   | true =>
    rw [kCI hv] at HA
    refine HA.o.mono ?_
    rintro e w2 ⟨V', R', rfl, k2, g⟩
    have el : (((kAE x k 0 0 0 0).funcs.length : Nat) : Int) = (k : Int) := by have := HLT.o; simp only [kAE, List.length_take]; omega
    have MK2 : Hid (Mk w p x cs (k + 1) 0 0 0 0 V.P w2) := by
     refine Mk.grown MK.o.bx MK.o.f MK.o.q r1 r2 HST.o ?_ g rfl
     unfold kAE at k2 ⊢
     rw [HTK.o]
     exact k2
    rw [el]
    clear HA g k2 el MK HST
    go_wp2_with fail
    go_roundw
    case rel => exact ⟨k + 1, HLT.o, by go_num, MK2.o⟩
    case measure => exact meas HLT.o
 have hkn : k = x.funcs.length := om
 subst hkn
 obtain ⟨W1, hY⟩ : ∃ Y, Y = wr := ⟨_, rfl⟩
 subst hY
 go_wp2_with fail
 clear y hk hlt
 go_loopw [6] (fun i wr => ∃ k : Nat, k ≤ x.tabs.length ∧ i = .int .i64 k ∧ Hid (Mk w p x cs x.funcs.length k 0 0 0 P wr)) (fun i _ => x.tabs.length - (intOf i).toNat)
 case atStart => exact ⟨0, by omega, rfl, MK.o⟩
 case round =>
 clear MK
 obtain ⟨k, hk, rfl, MK⟩ := hrel
 have y := (HC.o wr p MK.o.bx).2.2.1
 have htl := HB.o.tl
 by_cases hlt : k < x.tabs.length
 · have d1 : decide ((k : Int) < (x.tabs.length : Nat)) = true := by simp; omega
   have i0 := nki k
   have i1 : (k : Int) < (x.tabs.length : Nat) := om
   have HLT : Hid (k + 1 ≤ x.tabs.length) := hlt
   obtain ⟨b, o, P1, p1, eA, hbS, z0, z1, z2, z3, z4, w0, w1, w2, -⟩ := kIi (els_up E4.o MK.o.f i2 i2) k hlt
   subst eA
   have hbl : b < wr.heap.size := ltl hbS MK.o.f.size
   have HTB := hid (HB.o.tb _ (List.getElem_mem hlt))
   have HTK := hid (List.take_succ_eq_append_getElem hlt)
   have HWF := hid (And.intro w0 (And.intro w1 w2))
   clear w0 w1 w2 hbS
   generalize x.tabs[k] = t at z0 z1 z2 z3 z4 HTB HTK HWF
   have HY : Hid (∀ X, Fr No wr X → Ce X p 4 (.slice (some ⟨b, o, none⟩) x.tabs.length c4) ∧ Ce X b (o + k * 5) (.int .i64 t.t.elem) ∧ Ce X b (o + k * 5 + 1) (.int .i64 t.t.lim.min) ∧ Ce X b (o + k * 5 + 2) (.int .i64 t.t.lim.max) ∧ Ce X b (o + k * 5 + 3) (.bool t.t.lim.has) ∧ Ce X b (o + k * 5 + 4) (.slice P1 t.l.length p1)) := fun X g =>
    ⟨(HC.o X p (MK.o.bx.fr g id)).2.2.1, (g.cell (p := ⟨b, o + k * 5, none⟩) hbl id).trans z0, (g.cell (p := ⟨b, o + k * 5 + 1, none⟩) hbl id).trans z1, (g.cell (p := ⟨b, o + k * 5 + 2, none⟩) hbl id).trans z2, (g.cell (p := ⟨b, o + k * 5 + 3, none⟩) hbl id).trans z3, (g.cell (p := ⟨b, o + k * 5 + 4, none⟩) hbl id).trans z4⟩
   clear z0 z1 z2 z3 z4 hbl hlt
   go_upto_region 12 with fail
   clear y
   refine rwO (Fr No wr) [] (List.range 17) [] (Fr.refl _ _).drew ?_
   refine rO HY.o ?_
   refine wpO_nil ?_
   obtain ⟨y, z0, z1, z2, z3, z4⟩ := HY.o _ (Fr.refl No wr).drew
   have MK1 := hid (MK.o.no (Fr.refl No wr).drew)
   generalize wr.drew = W2 at *
   generalize hn : IntKind.i64.wrap (((t.l.length : Nat) : Int) - t.t.lim.min) = n
   have HN := hid hn
   clear hn
   go_wp2_with fail
   obtain ⟨V, R, hP, st, r1, r2⟩ := MK1.o.ex
   subst hP
   have HST := hid st
   have HA := hid (kDy st t.t (by simp only [kAE, List.length_map, List.length_take]; omega))
   clear st
   have elk : (((kAE x x.funcs.length k 0 0 0).tabs.length : Nat) : Int) = (k : Int) := by have := HLT.o; simp only [kAE, List.length_map, List.length_take]; omega
   cases hv : tbB t.t with
   | false =>
    have ea : kBy (kAE x x.funcs.length k 0 0 0) t.t = (kAE x x.funcs.length k 0 0 0, -1) := by unfold kBy; rw [hv]; rfl
    rw [ea] at HA
    refine HA.o.mono ?_
    rintro e w2 ⟨V', R', rfl, k2, g⟩
    have FW := hid (MK1.o.f.trans g.fr (fun i hi o => by have := r1 i (HST.o.own i o); omega))
    have hne : ((-1 : Int) == (k : Int)) = false := by simp
    clear HA g k2 y z0 z1 z2 z3 z4 elk ea hv
    go_wp2_with fail
    go_ret2
    exact .inl ⟨rfl, FW.o⟩
   | true =>
    have ea : kBy (kAE x x.funcs.length k 0 0 0) t.t = ({ kAE x x.funcs.length k 0 0 0 with tabs := (kAE x x.funcs.length k 0 0 0).tabs ++ [⟨t.t, List.replicate t.t.lim.min.toNat 0⟩] }, (k : Int)) := by unfold kBy; rw [hv, elk]; rfl
    rw [ea] at HA
    refine HA.o.mono ?_
    rintro e w2 ⟨V', R', rfl, k2, g⟩
    have HV := hid hv
    have HK2 := hid k2
    have HG := hid g
    have HLK : Hid (k < V'.tp.length) := hid (by have h := k2.tl; have := HLT.o; simp only [kAE, List.length_append, List.length_map, List.length_take, List.length_singleton] at h; omega)
    obtain ⟨z, hz⟩ : ∃ z, z = V'.tp[k]'HLK.o := ⟨_, rfl⟩
    have hgz : getI (V'.tp.map (·.1)) (k : Int) = some z.1 := by rw [kAp (by rw [List.length_map]; exact HLK.o)]; simp [hz]
    have HZ := hid hz
    have HTT : Hid (∀ X, Fr No w2 X → Calls prog 27 #[.pointer (some ⟨V.P, 0, none⟩), .int .i64 k] X fun e w' => e = .returned (ptrV (some z.1)) ∧ Fr No X w') := hid (fun X f => by
     have HT := kEL (k2.frNo f) (k : Int) (by have := HLT.o; simp only [kAE, List.length_append, List.length_map, List.length_take, List.length_singleton]; omega)
     rw [hgz, g.P] at HT
     exact HT)
    clear HA g k2 y z0 z1 z2 z3 z4 elk ea hv hz hgz
    go_wp2_with fail
    refine (HTT.o _ (Fr.refl No w2)).mono ?_
    rintro e w3 ⟨rfl, f3⟩
    have F3 := hid f3
    clear f3
    simp only [ptrV]
    have FW3 := hid ((MK1.o.f.trans HG.o.fr (fun i hi o => by have := r1 i (HST.o.own i o); omega)).trans F3.o i3)
    by_cases n1 : n < 0
    · have d3 : decide (n < 0) = true := by simpa using n1
      clear n1
      go_wp2_with fail
      go_ret2
      exact .inl ⟨rfl, FW3.o⟩
    by_cases n2 : 0 < n
    · have d3 : decide (n < 0) = false := by simpa using n1
      have d4 : decide (0 < n) = true := by simpa using n2
      have HNP := hid n2
      clear n1 n2
      go_wp2_with fail
      refine (HTT.o _ F3.o).mono ?_
      rintro e w4 ⟨rfl, f4⟩
      have F4 := ftr F3 f4
      clear f4
      simp only [ptrV]
      go_wp2_with fail
      obtain ⟨h0, h1, h2⟩ := kDb HV.o
      have enn : n = (t.l.length : Int) - t.t.lim.min := by
       have h := HN.o
       have h3 := HTB.o
       rw [IntKind.wrap_i64] at h
       omega
      have HQT := hid (MK1.o.q.tab HTK.o ⟨h0, by have := HNP.o; omega⟩)
      have hnp := HNP.o
      have h3 := HTB.o
      have ew : IntKind.u64.wrap n = n := by rw [IntKind.wrap_u64]; omega
      obtain ⟨m, hm⟩ := Int.eq_ofNat_of_zero_le h0
      have em : t.t.lim.min.toNat = m := om
      obtain ⟨N, hN⟩ := Int.eq_ofNat_of_zero_le (show 0 ≤ n % 4294967296 by omega)
      have et := kHP (t := t) h0 enn om hN
      have HZ1 : Hid (V'.tp[k]? = some z) := by rw [HZ.o]; exact List.getElem?_eq_getElem HLK.o
      have hlen : (kAE x x.funcs.length k 0 0 0).tabs.length = k := by have := HLT.o; simp only [kAE, List.length_map, List.length_take]; omega
      have HT1 : Hid (((kAE x x.funcs.length k 0 0 0).tabs ++ [⟨t.t, List.replicate t.t.lim.min.toNat 0⟩])[k]? = some ⟨t.t, List.replicate t.t.lim.min.toNat 0⟩) := by unfold Hid; rw [List.getElem?_append_right (by omega)]; simp [hlen]
      have HTA := hid ((HK2.o.frNo F4.o).tat k z _ HZ1.o HT1.o)
      have HLN := hid hlen
      have HET := hid et
      rw [ew]
      clear et hlen h3 hnp ew
      by_cases hgr : kBt t.t.lim.max t.t.lim.has < ((List.replicate t.t.lim.min.toNat (0 : Int)).length : Int) + n % 4294967296
      · refine (kHj HTA.o n 0 (by have := HNP.o; omega) hgr).mono ?_
        rintro e w5 ⟨rfl, rfl⟩
        have FW4 := hid ((MK1.o.f.trans HG.o.fr (fun i hi o => by have := r1 i (HST.o.own i o); omega)).trans F4.o i3)
        clear hgr enn h0 h1 h2 hm em hN
        go_wp2_with fail
        go_ret2
        exact .inl ⟨rfl, FW4.o⟩
      have hgi : ((List.replicate t.t.lim.min.toNat (0 : Int)).length : Int) + (N : Int) ≤ kBt t.t.lim.max t.t.lim.has := by rw [← hN]; exact Int.not_lt.1 hgr
      refine (kGn HTA.o n 0 N (by have := HNP.o; omega) hN hgi).mono ?_
      rintro e w5 ⟨rfl, g⟩
      rw [List.length_replicate, em]
      have hne : ((m : Int) == 4294967295) = false := by simp; omega
      obtain ⟨R2, V2, k5, g5⟩ := HK2.o.growT F4.o HZ1.o HT1.o g
      have MK5 : Hid (Mk w p x cs x.funcs.length (k + 1) 0 0 0 V.P w5) := by
       refine Mk.grown MK1.o.bx MK1.o.f HQT.o r1 r2 HST.o ?_ (HG.o.trans g5) rfl
       have e2 : kAE x x.funcs.length (k + 1) 0 0 0 = { kAE x x.funcs.length k 0 0 0 with tabs := (kAE x x.funcs.length k 0 0 0).tabs ++ [⟨t.t, List.replicate t.t.lim.min.toNat 0 ++ List.replicate N 0⟩] } := by
        unfold kAE
        rw [HTK.o, List.map_append, List.map_cons, List.map_nil, HET.o]
       rw [e2, ← kDc (a := ⟨t.t, List.replicate t.t.lim.min.toNat 0⟩) HLN.o]
       exact k5
      clear hgr hgi enn h0 h1 h2 hm em hN g k5 g5
      go_wp2_with fail
      go_roundw
      case rel => exact ⟨k + 1, HLT.o, by go_num, MK5.o⟩
      exact meas HLT.o
    · have d3 : decide (n < 0) = false := by simpa using n1
      have d4 : decide (0 < n) = false := by simpa using n2
      have HNZ : Hid (n = 0) := by unfold Hid; omega
      clear n1 n2
      go_wp2_with fail
      go_roundw
      case rel =>
       refine ⟨k + 1, HLT.o, by go_num, ?_⟩
       obtain ⟨h0, h1, -⟩ := kDb HV.o
       have HQT := hid (MK1.o.q.tab HTK.o ⟨h0, by
        have hnn := HN.o
        have hz0 := HNZ.o
        have htb := HTB.o
        rw [hz0, IntKind.wrap_i64] at hnn
        omega⟩)
       have hv := HV.o
       unfold tbB tabB limB at hv
       simp at hv
       have hnn := HN.o
       have hz0 := HNZ.o
       have htb := HTB.o
       rw [hz0, IntKind.wrap_i64] at hnn
       have em : t.l.length - t.t.lim.min.toNat = 0 := om
       have e : tabN t = ⟨t.t, List.replicate t.t.lim.min.toNat 0⟩ := by unfold tabN; rw [em]; rfl
       have e2 : kAE x x.funcs.length (k + 1) 0 0 0 = { kAE x x.funcs.length k 0 0 0 with tabs := (kAE x x.funcs.length k 0 0 0).tabs ++ [⟨t.t, List.replicate t.t.lim.min.toNat 0⟩] } := by
        unfold kAE
        rw [HTK.o, List.map_append, List.map_cons, List.map_nil, e]
       exact (Mk.grown MK1.o.bx MK1.o.f HQT.o r1 r2 HST.o (e2 ▸ HK2.o) HG.o rfl).no F3.o
      exact meas HLT.o
 have hkn : k = x.tabs.length := om
 subst hkn
 obtain ⟨W1, hY⟩ : ∃ Y, Y = wr := ⟨_, rfl⟩
 subst hY
 go_wp2_with fail
 clear y hk hlt htl
 go_loopw [8] (fun i wr => ∃ k : Nat, k ≤ x.mems.length ∧ i = .int .i64 k ∧ Hid (Mk w p x cs x.funcs.length x.tabs.length k 0 0 P wr)) (fun i _ => x.mems.length - (intOf i).toNat)
 case atStart => exact ⟨0, by omega, rfl, MK.o⟩
 case round =>
 clear MK
 obtain ⟨k, hk, rfl, MK⟩ := hrel
 have y := (HC.o wr p MK.o.bx).2.2.2.1
 have hml := HB.o.ml
 by_cases hlt : k < x.mems.length
 · have d1 : decide ((k : Int) < (x.mems.length : Nat)) = true := by simp; omega
   have i0 := nki k
   have i1 : (k : Int) < (x.mems.length : Nat) := om
   have HLT : Hid (k + 1 ≤ x.mems.length) := hlt
   obtain ⟨b, o, P1, p1, eA, hbS, z0, z1, z2, z3, w0, w1, -⟩ := kIj (els_up E5.o MK.o.f i2 i2) k hlt
   subst eA
   have hbl : b < wr.heap.size := ltl hbS MK.o.f.size
   have HTB := hid (HB.o.mb _ (List.getElem_mem hlt))
   have HTK := hid (List.take_succ_eq_append_getElem hlt)
   have HWF := hid (And.intro w0 w1)
   clear w0 w1 hbS
   generalize x.mems[k] = t at z0 z1 z2 z3 HTB HTK HWF
   have HY : Hid (∀ X, Fr No wr X → Ce X p 5 (.slice (some ⟨b, o, none⟩) x.mems.length c5) ∧ Ce X b (o + k * 4) (.int .i64 t.lim.min) ∧ Ce X b (o + k * 4 + 1) (.int .i64 t.lim.max) ∧ Ce X b (o + k * 4 + 2) (.bool t.lim.has) ∧ Ce X b (o + k * 4 + 3) (.slice P1 t.b.length p1)) := fun X g =>
    ⟨(HC.o X p (MK.o.bx.fr g id)).2.2.2.1, (g.cell (p := ⟨b, o + k * 4, none⟩) hbl id).trans z0, (g.cell (p := ⟨b, o + k * 4 + 1, none⟩) hbl id).trans z1, (g.cell (p := ⟨b, o + k * 4 + 2, none⟩) hbl id).trans z2, (g.cell (p := ⟨b, o + k * 4 + 3, none⟩) hbl id).trans z3⟩
   clear z0 z1 z2 z3 hbl hlt
   go_upto_region 18 with fail
   clear y
   refine rwO (Fr No wr) [] (List.range 17) [] (Fr.refl _ _).drew ?_
   refine rO HY.o ?_
   refine wpO_nil ?_
   obtain ⟨y, z0, z1, z2, z3⟩ := HY.o _ (Fr.refl No wr).drew
   have MK1 := hid (MK.o.no (Fr.refl No wr).drew)
   generalize wr.drew = W2 at *
   generalize hn : IntKind.i64.wrap (IntKind.i64.wrap (((t.b.length : Nat) : Int) / 256) - t.lim.min) = n
   have HN := hid hn
   clear hn
   go_wp2_with fail
   obtain ⟨V, R, hP, st, r1, r2⟩ := MK1.o.ex
   subst hP
   have HST := hid st
   have HA := hid (kCw st t.lim (by simp only [kAE, List.length_map, List.length_take]; omega))
   clear st
   have elk : (((kAE x x.funcs.length x.tabs.length k 0 0).mems.length : Nat) : Int) = (k : Int) := by have := HLT.o; simp only [kAE, List.length_map, List.length_take]; omega
   cases hv : kBh t.lim with
   | false =>
    have ea : kBY (kAE x x.funcs.length x.tabs.length k 0 0) t.lim = (kAE x x.funcs.length x.tabs.length k 0 0, -1) := by unfold kBY; rw [hv]; rfl
    rw [ea] at HA
    refine HA.o.mono ?_
    rintro e w2 ⟨V', R', rfl, k2, g⟩
    have FW := hid (MK1.o.f.trans g.fr (fun i hi o => by have := r1 i (HST.o.own i o); omega))
    have hne : ((-1 : Int) == (k : Int)) = false := by simp
    clear HA g k2 y z0 z1 z2 z3 elk ea hv
    go_wp2_with fail
    go_ret2
    exact .inl ⟨rfl, FW.o⟩
   | true =>
    have ea : kBY (kAE x x.funcs.length x.tabs.length k 0 0) t.lim = ({ kAE x x.funcs.length x.tabs.length k 0 0 with mems := (kAE x x.funcs.length x.tabs.length k 0 0).mems ++ [⟨t.lim, List.replicate (t.lim.min.toNat * 256) 0⟩] }, (k : Int)) := by unfold kBY; rw [hv, elk]; rfl
    rw [ea] at HA
    refine HA.o.mono ?_
    rintro e w2 ⟨V', R', rfl, k2, g⟩
    have HV := hid hv
    have HK2 := hid k2
    have HG := hid g
    have HLK : Hid (k < V'.mp.length) := hid (by have h := k2.ml; have := HLT.o; simp only [kAE, List.length_append, List.length_map, List.length_take, List.length_singleton] at h; omega)
    obtain ⟨z, hz⟩ : ∃ z, z = V'.mp[k]'HLK.o := ⟨_, rfl⟩
    have hgz : getI (V'.mp.map (·.1)) (k : Int) = some z.1 := by rw [kAp (by rw [List.length_map]; exact HLK.o)]; simp [hz]
    have HZ := hid hz
    have HTT : Hid (∀ X, Fr No w2 X → Calls prog 29 #[.pointer (some ⟨V.P, 0, none⟩), .int .i64 k] X fun e w' => e = .returned (ptrV (some z.1)) ∧ Fr No X w') := hid (fun X f => by
     have HT := kEj (k2.frNo f) (k : Int) (by have := HLT.o; simp only [kAE, List.length_append, List.length_map, List.length_take, List.length_singleton]; omega)
     rw [hgz, g.P] at HT
     exact HT)
    clear HA g k2 y z0 z1 z2 z3 elk ea hv hz hgz
    go_wp2_with fail
    refine (HTT.o _ (Fr.refl No w2)).mono ?_
    rintro e w3 ⟨rfl, f3⟩
    have F3 := hid f3
    clear f3
    simp only [ptrV]
    have FW3 := hid ((MK1.o.f.trans HG.o.fr (fun i hi o => by have := r1 i (HST.o.own i o); omega)).trans F3.o i3)
    by_cases n1 : n < 0
    · have d3 : decide (n < 0) = true := by simpa using n1
      clear n1
      go_wp2_with fail
      go_ret2
      exact .inl ⟨rfl, FW3.o⟩
    have hvl := HV.o
    unfold kBh at hvl
    simp only [decide_eq_true_eq] at hvl
    obtain ⟨h0, h1, h2, h4⟩ := hvl
    have h3 := HTB.o
    have enn : n = ((t.b.length / 256 : Nat) : Int) - t.lim.min := by
     have h := HN.o
     rw [IntKind.wrap_i64, IntKind.wrap_i64] at h
     omega
    obtain ⟨m, hm⟩ := Int.eq_ofNat_of_zero_le h0
    have em : t.lim.min.toNat = m := om
    have HQ0 : Hid (0 ≤ t.lim.min ∧ t.lim.min ≤ ((t.b.length / 256 : Nat) : Int)) := ⟨h0, by omega⟩
    have HEN := hid (fun (N : Nat) (hN : (n % 4294967296).toNat = N) => kHV (m := t) h0 enn om hN)
    by_cases n2 : 0 < n
    · have d3 : decide (n < 0) = false := by simpa using n1
      have d4 : decide (0 < n) = true := by simpa using n2
      have ew : IntKind.u64.wrap n = n := by rw [IntKind.wrap_u64]; omega
      have HEW := hid ew
      have HNB : Hid (0 ≤ n ∧ n < 18446744073709551616) := hid om
      have HMS : Hid (t.lim.min.toNat = m ∧ m ≤ 256 ∧ (m : Int) ≤ most t.lim ∧ most t.lim ≤ 256) := by
       refine ⟨em, by omega, ?_, ?_⟩
       · unfold most; cases hh : t.lim.has with
         | true => have := h2 hh; simp; omega
         | false => simp; omega
       unfold most; cases hh : t.lim.has with
       | true => have := h2 hh; simp; omega
       | false => simp
      clear n1 n2 ew h0 h1 h2 h3 h4 enn hm em
      go_wp2_with fail
      refine (HTT.o _ F3.o).mono ?_
      rintro e w4 ⟨rfl, f4⟩
      have F4 := ftr F3 f4
      clear f4
      simp only [ptrV]
      go_wp2_with fail
      rw [HEW.o]
      have HZ1 : Hid (V'.mp[k]? = some z) := by rw [HZ.o]; exact List.getElem?_eq_getElem HLK.o
      have hlen : (kAE x x.funcs.length x.tabs.length k 0 0).mems.length = k := by have := HLT.o; simp only [kAE, List.length_map, List.length_take]; omega
      have HT1 : Hid (((kAE x x.funcs.length x.tabs.length k 0 0).mems ++ [⟨t.lim, List.replicate (t.lim.min.toNat * 256) 0⟩])[k]? = some ⟨t.lim, List.replicate (t.lim.min.toNat * 256) 0⟩) := by unfold Hid; rw [List.getElem?_append_right (by omega)]; simp [hlen]
      have HMA := hid ((HK2.o.frNo F4.o).mat k z _ HZ1.o HT1.o)
      have HLN := hid hlen
      have hgc := kFm _ _ _ _ _ n w4 HMA.o (by rw [List.length_replicate, HMS.o.1]; have := HMS.o.2.1; omega) (by rw [List.length_replicate, HMS.o.1, Nat.mul_div_cancel _ dc]; exact HMS.o.2.2.1) HMS.o.2.2.2 HNB.o
      clear hlen
      unfold kDW at hgc
      rw [List.length_replicate, HMS.o.1, Nat.mul_div_cancel _ dc] at hgc
      by_cases hgr : ((lo n : Nat) : Int) ≤ most t.lim - (m : Int)
      · rw [if_pos hgr] at hgc
        refine hgc.mono ?_
        rintro e w5 ⟨rfl, q', c', hM5, fr5, hq5⟩
        obtain ⟨R2, V2, k5, g5⟩ := HK2.o.growM F4.o HZ1.o HT1.o hM5 fr5 hq5
        have hne : ((m : Int) == 4294967295) = false := by have := HMS.o.2.1; simp; omega
        have HQT := hid (MK1.o.q.mem HTK.o ⟨HQ0.o.1, HQ0.o.2, by
         rw [HEN.o (lo n) rfl, HMS.o.1]
         have h1 := HMS.o.2.2.2
         simp only [List.length_append, List.length_replicate]
         omega⟩)
        have MK5 : Hid (Mk w p x cs x.funcs.length x.tabs.length (k + 1) 0 0 V.P w5) := by
         refine Mk.grown MK1.o.bx MK1.o.f HQT.o r1 r2 HST.o ?_ (HG.o.trans g5) rfl
         have e2 : kAE x x.funcs.length x.tabs.length (k + 1) 0 0 = { kAE x x.funcs.length x.tabs.length k 0 0 with mems := (kAE x x.funcs.length x.tabs.length k 0 0).mems ++ [⟨t.lim, List.replicate (m * 256) 0 ++ List.replicate (lo n * 256) 0⟩] } := by
          unfold kAE
          rw [HTK.o, List.map_append, List.map_cons, List.map_nil, HEN.o (lo n) rfl, HMS.o.1]
         rw [e2, ← kDc (a := ⟨t.lim, List.replicate (t.lim.min.toNat * 256) 0⟩) HLN.o]
         exact k5
        clear hgr hgc k5 g5 hM5 fr5 hq5
        go_wp2_with fail
        go_roundw
        case rel => exact ⟨k + 1, HLT.o, by go_num, MK5.o⟩
        exact meas HLT.o
      rw [if_neg hgr] at hgc
      refine hgc.mono ?_
      rintro e w5 ⟨rfl, q', c', hM5, fr5, hq5⟩
      obtain ⟨R2, V2, k5, g5⟩ := HK2.o.growM F4.o HZ1.o HT1.o hM5 fr5 hq5
      have FW5 := hid (MK1.o.f.trans (HG.o.trans g5).fr (fun i hi o => by have := r1 i (HST.o.own i o); omega))
      clear hgr hgc k5 g5 hM5 fr5 hq5
      go_wp2_with fail
      go_ret2
      exact .inl ⟨rfl, FW5.o⟩
    · have d3 : decide (n < 0) = false := by simpa using n1
      have d4 : decide (0 < n) = false := by simpa using n2
      have HNZ : Hid (n = 0) := by unfold Hid; omega
      have HM256 : Hid (t.lim.min.toNat ≤ 256) := by unfold Hid; omega
      clear n1 n2 h0 h1 h2 h3 h4 enn hm em
      go_wp2_with fail
      go_roundw
      case rel =>
       refine ⟨k + 1, HLT.o, by go_num, ?_⟩
       have e := HEN.o 0 (by rw [HNZ.o]; rfl)
       rw [Nat.zero_mul, List.replicate_zero, List.append_nil] at e
       have HQT := hid (MK1.o.q.mem HTK.o ⟨HQ0.o.1, HQ0.o.2, by
        rw [e]
        have h1 := HM256.o
        simp only [List.length_replicate]
        omega⟩)
       have e2 : kAE x x.funcs.length x.tabs.length (k + 1) 0 0 = { kAE x x.funcs.length x.tabs.length k 0 0 with mems := (kAE x x.funcs.length x.tabs.length k 0 0).mems ++ [⟨t.lim, List.replicate (t.lim.min.toNat * 256) 0⟩] } := by
        unfold kAE
        rw [HTK.o, List.map_append, List.map_cons, List.map_nil, e]
       exact (Mk.grown MK1.o.bx MK1.o.f HQT.o r1 r2 HST.o (e2 ▸ HK2.o) HG.o rfl).no F3.o
      exact meas HLT.o
 have hkn : k = x.mems.length := om
 subst hkn
 obtain ⟨W1, hY⟩ : ∃ Y, Y = wr := ⟨_, rfl⟩
 subst hY
 go_wp2_with fail
 clear y hk hlt hml
 go_loopw [10] (fun i wr => ∃ k : Nat, k ≤ x.globs.length ∧ i = .int .i64 k ∧ Hid (Mk w p x cs x.funcs.length x.tabs.length x.mems.length k 0 P wr)) (fun i _ => x.globs.length - (intOf i).toNat)
 case atStart => exact ⟨0, by omega, rfl, MK.o⟩
 case round =>
 clear MK
 obtain ⟨k, hk, rfl, MK⟩ := hrel
 have y := (HC.o wr p MK.o.bx).2.2.2.2.1
 have hgl := HB.o.gl
 by_cases hlt : k < x.globs.length
 · have d1 : decide ((k : Int) < (x.globs.length : Nat)) = true := by simp; omega
   have i0 := nki k
   have i1 : (k : Int) < (x.globs.length : Nat) := om
   have HLT : Hid (k + 1 ≤ x.globs.length) := hlt
   obtain ⟨b, o, eA, hbS, z0, z1, z2, z3, w0, w1, w2⟩ := kHL (els_up E6.o MK.o.f i2 i2) k hlt
   subst eA
   have hbl : b < wr.heap.size := ltl hbS MK.o.f.size
   have HTK := hid (List.take_succ_eq_append_getElem hlt)
   have HWF := hid (And.intro w0 (And.intro w1 w2))
   have HBB := hid hbS
   clear w0 w1 w2 hbS
   generalize x.globs[k] = t at z0 z1 z2 z3 HTK HWF
   have HY : Hid (∀ X, Fr No wr X → Ce X p 6 (.slice (some ⟨b, o, none⟩) x.globs.length c6) ∧ Ce X b (o + k * 4) (.int .i64 t.t.val) ∧ Ce X b (o + k * 4 + 1) (.bool t.t.mut_) ∧ Ce X b (o + k * 4 + 2) (.int .i64 t.v.t) ∧ Ce X b (o + k * 4 + 3) (.int .u64 t.v.n)) := fun X g =>
    ⟨(HC.o X p (MK.o.bx.fr g id)).2.2.2.2.1, (g.cell (p := ⟨b, o + k * 4, none⟩) hbl id).trans z0, (g.cell (p := ⟨b, o + k * 4 + 1, none⟩) hbl id).trans z1, (g.cell (p := ⟨b, o + k * 4 + 2, none⟩) hbl id).trans z2, (g.cell (p := ⟨b, o + k * 4 + 3, none⟩) hbl id).trans z3⟩
   clear z0 z1 z2 z3 hbl hlt
   go_upto_region 24 with fail
   clear y
   refine rwO (fun X => Ce X p 6 (.slice (some ⟨b, o, none⟩) x.globs.length c6) ∧ Ce X b (o + k * 4) (.int .i64 t.t.val) ∧ Ce X b (o + k * 4 + 1) (.bool t.t.mut_) ∧ Ce X b (o + k * 4 + 2) (.int .i64 t.v.t) ∧ Ce X b (o + k * 4 + 3) (.int .u64 t.v.n)) [] [0, 1, 2, 3, 4, 5, 6, 7, 8, 9, 10, 11, 12, 14, 13, 15] [13] (HY.o _ (Fr.refl _ _).drew) ?_
   repeat (first | refine oS ?_ | refine oX (fun X h => h) ?_)
   have MK1 := hid (MK.o.no (Fr.refl No wr).drew)
   have HCC := hid (HY.o _ (Fr.refl No wr).drew)
   have HBW : Hid (b < w.heap.size ∧ w.heap.size ≤ wr.drew.heap.size) := ⟨HBB.o, Nat.le_trans MK.o.f.size (Fr.refl No wr).drew.size⟩
   generalize wr.drew = W2 at *
   obtain ⟨V, R, hP, st, r1, r2⟩ := MK1.o.ex
   subst hP
   have HST := hid st
   have HNB : Hid (¬ V.own b ∧ ¬ V.own p ∧ b < W2.heap.size ∧ p < W2.heap.size) := ⟨fun o => by have h1 := r1 b (HST.o.own b o); have h2 := HBW.o.1; omega, fun o => r2 (HST.o.own p o), by have h2 := HBW.o; omega, MK1.o.bx.lt⟩
   have HA := hid (kCE st t.t t.v HWF.o.1 HWF.o.2.1 HWF.o.2.2 (by simp only [kAE, List.length_take]; omega))
   clear st
   have elk : (((kAE x x.funcs.length x.tabs.length x.mems.length k 0).globs.length : Nat) : Int) = (k : Int) := by have := HLT.o; simp only [kAE, List.length_take]; omega
   cases hv : kAc t.t.val && kBj t.v t.t.val with
   | false =>
    have ea : kBa (kAE x x.funcs.length x.tabs.length x.mems.length k 0) t.t t.v = (kAE x x.funcs.length x.tabs.length x.mems.length k 0, -1) := by unfold kBa; rw [hv]; rfl
    rw [ea] at HA
    refine wpO_eff rfl rfl fun K hK => sz ?_
    refine HA.o.mono ?_
    rintro e w2 ⟨V', R', rfl, k2, g⟩
    have FW := hid (MK1.o.f.trans g.fr (fun i hi o => by have := r1 i (HST.o.own i o); omega))
    have hne : ((-1 : Int) == (k : Int)) = false := by simp
    have HSW := hid (And.intro ((g.fr.cell (p := ⟨p, 6, none⟩) HNB.o.2.2.2 HNB.o.2.1).trans HCC.o.1) (And.intro ((g.fr.cell (p := ⟨b, o + k * 4, none⟩) HNB.o.2.2.1 HNB.o.1).trans HCC.o.2.1) (And.intro ((g.fr.cell (p := ⟨b, o + k * 4 + 1, none⟩) HNB.o.2.2.1 HNB.o.1).trans HCC.o.2.2.1) (And.intro ((g.fr.cell (p := ⟨b, o + k * 4 + 2, none⟩) HNB.o.2.2.1 HNB.o.1).trans HCC.o.2.2.2.1) ((g.fr.cell (p := ⟨b, o + k * 4 + 3, none⟩) HNB.o.2.2.1 HNB.o.1).trans HCC.o.2.2.2.2)))))
    clear HA g k2 elk ea hv
    refine hK _ _ (fun _ => HSW.o) ?_
    clear hK K
    refine rC ?_
    refine wpO_nil ?_
    go_wp2_with fail
    go_ret2
    exact .inl ⟨rfl, FW.o⟩
   | true =>
    have ea : kBa (kAE x x.funcs.length x.tabs.length x.mems.length k 0) t.t t.v = ({ kAE x x.funcs.length x.tabs.length x.mems.length k 0 with globs := (kAE x x.funcs.length x.tabs.length x.mems.length k 0).globs ++ [⟨t.t, t.v⟩] }, (k : Int)) := by unfold kBa; rw [hv, elk]; rfl
    rw [ea] at HA
    refine wpO_eff rfl rfl fun K hK => sz ?_
    refine HA.o.mono ?_
    rintro e w2 ⟨V', R', rfl, k2, g⟩
    have MK2 : Hid (Mk w p x cs x.funcs.length x.tabs.length x.mems.length (k + 1) 0 V.P w2) := by
     refine Mk.grown MK1.o.bx MK1.o.f MK1.o.q r1 r2 HST.o ?_ g rfl
     unfold kAE at k2 ⊢
     rw [HTK.o]
     exact k2
    have HSW := hid (And.intro ((g.fr.cell (p := ⟨p, 6, none⟩) HNB.o.2.2.2 HNB.o.2.1).trans HCC.o.1) (And.intro ((g.fr.cell (p := ⟨b, o + k * 4, none⟩) HNB.o.2.2.1 HNB.o.1).trans HCC.o.2.1) (And.intro ((g.fr.cell (p := ⟨b, o + k * 4 + 1, none⟩) HNB.o.2.2.1 HNB.o.1).trans HCC.o.2.2.1) (And.intro ((g.fr.cell (p := ⟨b, o + k * 4 + 2, none⟩) HNB.o.2.2.1 HNB.o.1).trans HCC.o.2.2.2.1) ((g.fr.cell (p := ⟨b, o + k * 4 + 3, none⟩) HNB.o.2.2.1 HNB.o.1).trans HCC.o.2.2.2.2)))))
    clear HA g k2 elk ea hv
    refine hK _ _ (fun _ => HSW.o) ?_
    clear hK K
    refine rC ?_
    refine wpO_nil ?_
    go_wp2_with fail
    go_roundw
    case rel => exact ⟨k + 1, HLT.o, by go_num, MK2.o⟩
    case measure => exact meas HLT.o
 have hkn : k = x.globs.length := om
 subst hkn
 obtain ⟨W1, hY⟩ : ∃ Y, Y = wr := ⟨_, rfl⟩
 subst hY
 go_wp2_with fail
 clear y hk hlt hgl
 go_loopw [11] (fun i wr => ∃ k : Nat, k ≤ x.insts.length ∧ i = .int .i64 k ∧ Hid (Mk w p x cs x.funcs.length x.tabs.length x.mems.length x.globs.length k P wr)) (fun i _ => x.insts.length - (intOf i).toNat)
 case atStart => exact ⟨0, by omega, rfl, MK.o⟩
 case round =>
 clear MK
 obtain ⟨k, hk, rfl, MK⟩ := hrel
 have y := (HC.o wr p MK.o.bx).2.2.2.2.2
 have hil := HB.o.il
 by_cases hlt : k < x.insts.length
 · have d1 : decide ((k : Int) < (x.insts.length : Nat)) = true := by simp; omega
   have i0 := nki k
   have i1 : (k : Int) < (x.insts.length : Nat) := om
   have HLT : Hid (k + 1 ≤ x.insts.length) := hlt
   have HIB := hid (HB.o.ib _ (List.getElem_mem hlt))
   obtain ⟨b, o, ds, eA, hb, hc, hr⟩ := (els_up E9.o MK.o.f i2 i2).at_ k hlt
   subst eA
   have hbl : b < wr.heap.size := ltl hb MK.o.f.size
   have HTK := hid (List.take_succ_eq_append_getElem hlt)
   generalize x.insts[k] = t at *
   obtain ⟨e1, e2, rfl, hm, ha⟩ := hr
   have hm' : tMd.rd wr (· < w.heap.size) e1 t.m := hm
   have ha' : tAd.rd wr (· < w.heap.size) e2 t.a := ha
   have hl1 : e1.length = 12 := TyOk.len _ _ _ _ hm'
   have hl2 : e2.length = 6 := TyOk.len _ _ _ _ ha'
   have r1 : wr.rangeAt b (o + k * 18) e1 := fun j u hu => by
    exact yy27
   have r2 : wr.rangeAt b (o + k * 18 + 12) e2 := fun j u hu => by
    exact yy17
   have HM := hid hm'
   have HA := hid ha'
   have HI1 : Hid ((prog.info? 55).map (·.size) = some e1.length) := by unfold Hid; rw [hl1]; kernel_rfl
   have HI2 : Hid ((prog.info? 100).map (·.size) = some e2.length) := by unfold Hid; rw [hl2]; kernel_rfl
   have HX : Hid (∀ X, Fr No wr X → Ce X p 9 (.slice (some ⟨b, o, none⟩) x.insts.length c9) ∧ X.rangeAt b (o + k * 18) e1 ∧ X.rangeAt b (o + k * 18 + 12) e2) := fun X f => ⟨(HC.o X p (MK.o.bx.fr f id)).2.2.2.2.2, fun j v hv => (f.cell (p := ⟨b, o + k * 18 + j, none⟩) hbl id).trans (r1 j v hv), fun j v hv => (f.cell (p := ⟨b, o + k * 18 + 12 + j, none⟩) hbl id).trans (r2 j v hv)⟩
   have HBB := hid hb
   clear r1 r2 hm ha hm' ha' hl1 hl2 hc hb hbl hlt
   go_upto_region 29 with fail
   clear y
   refine rwO (fun X => Ce X p 9 (.slice (some ⟨b, o, none⟩) x.insts.length c9) ∧ X.rangeAt b (o + k * 18) e1 ∧ X.rangeAt b (o + k * 18 + 12) e2) [] [0, 1, 2, 3, 4, 5, 6, 7, 8, 9, 10, 11, 12, 14, 13, 15] [13] (HX.o _ (Fr.refl _ _).drew) ?_
   iterate 6 (refine kAY rfl rfl ?_; simp only [zA]; apply Exists.intro; refine ⟨fun X hX => ?_, ?_⟩; (have s0 := hX.1; clear hX; go_simp; exact stillUpon_value); simp only [zC, Act.put])
   refine kBO rfl rfl 55 _ rfl b (o + k * 18) (by rfl) e1 _ (fun X hX => hX.2.1) underlying55 (by rfl) HI1.o ?_
   simp only [zA, zC, Act.put]
   iterate 5 (refine kAY rfl rfl ?_; simp only [zA]; apply Exists.intro; refine ⟨fun X hX => ?_, ?_⟩; (have s0 := hX.1; clear hX; go_simp; exact stillUpon_value); simp only [zC, Act.put])
   refine kBO rfl rfl 100 _ rfl b (o + k * 18 + 12) (by rfl) e2 _ (fun X hX => hX.2.2) underlying100 (by rfl) HI2.o ?_
   simp only [zA, zC, Act.put]
   iterate 1 (refine kAY rfl rfl ?_; simp only [zA]; apply Exists.intro; refine ⟨fun X hX => ?_, ?_⟩; (have s0 := hX.1; clear hX; go_simp; exact stillUpon_value); simp only [zC, Act.put])
   have MK1 := hid (MK.o.no (Fr.refl No wr).drew)
   have HM1 := hid (kAO HM.o (Fr.refl No wr).drew (fun k hk => ltl hk MK.o.f.size) i2)
   have HA1 := hid (kAO HA.o (Fr.refl No wr).drew (fun k hk => ltl hk MK.o.f.size) i2)
   have HCC := hid (HX.o _ (Fr.refl No wr).drew)
   have HBW : Hid (b < w.heap.size ∧ w.heap.size ≤ wr.drew.heap.size) := ⟨HBB.o, Nat.le_trans MK.o.f.size (Fr.refl No wr).drew.size⟩
   have HSZ : Hid (w.heap.size ≤ wr.drew.heap.size) := Nat.le_trans MK.o.f.size (Fr.refl No wr).drew.size
   clear HX HM HA HI1 HI2
   generalize wr.drew = W2 at *
   obtain ⟨V, R, hP, st, r1, r2⟩ := MK1.o.ex
   subst hP
   have HST := hid st
   have HNB : Hid (¬ V.own b ∧ ¬ V.own p ∧ b < W2.heap.size ∧ p < W2.heap.size) := ⟨fun o => by have h1 := r1 b (HST.o.own b o); have h2 := HBW.o.1; omega, fun o => r2 (HST.o.own p o), by have h2 := HBW.o; omega, MK1.o.bx.lt⟩
   have HA := hid (kEc st t.m t.a (· < w.heap.size) HM1.o HA1.o (fun k hk => ltl hk HSZ.o) HIB.o.1 HIB.o.2 (by simp only [kAE, List.length_take]; omega))
   clear st
   have elk : (((kAE x x.funcs.length x.tabs.length x.mems.length x.globs.length k).insts.length : Nat) : Int) = (k : Int) := by have := HLT.o; simp only [kAE, List.length_take]; omega
   have ea : kBZ (kAE x x.funcs.length x.tabs.length x.mems.length x.globs.length k) t.m t.a = ({ kAE x x.funcs.length x.tabs.length x.mems.length x.globs.length k with insts := (kAE x x.funcs.length x.tabs.length x.mems.length x.globs.length k).insts ++ [⟨t.m, t.a⟩] }, (k : Int)) := by unfold kBZ; rw [if_neg (by omega), elk]
   rw [ea] at HA
   refine wpO_eff rfl rfl fun K hK => sz ?_
   refine HA.o.mono ?_
   rintro e w2 ⟨V', R', rfl, k2, g⟩
   have MK2 : Hid (Mk w p x cs x.funcs.length x.tabs.length x.mems.length x.globs.length (k + 1) V.P w2) := by
    refine Mk.grown MK1.o.bx MK1.o.f MK1.o.q r1 r2 HST.o ?_ g rfl
    unfold kAE at k2 ⊢
    rw [HTK.o]
    exact k2
   have HSW : Hid (w2.cell? ⟨p, 9, none⟩ = some (.slice (some ⟨b, o, none⟩) x.insts.length c9) ∧ w2.rangeAt b (o + k * 18) e1 ∧ w2.rangeAt b (o + k * 18 + 12) e2) := ⟨(g.fr.cell (p := ⟨p, 9, none⟩) HNB.o.2.2.2 HNB.o.2.1).trans HCC.o.1, fun j v hv => (g.fr.cell (p := ⟨b, o + k * 18 + j, none⟩) HNB.o.2.2.1 HNB.o.1).trans (HCC.o.2.1 j v hv), fun j v hv => (g.fr.cell (p := ⟨b, o + k * 18 + 12 + j, none⟩) HNB.o.2.2.1 HNB.o.1).trans (HCC.o.2.2 j v hv)⟩
   clear HA g k2 elk ea
   refine hK _ _ (fun _ => HSW.o) ?_
   clear hK K
   refine rC ?_
   refine wpO_nil ?_
   go_wp2_with fail
   go_roundw
   case rel => exact ⟨k + 1, HLT.o, by go_num, MK2.o⟩
   exact meas HLT.o
 have hkn : k = x.insts.length := om
 subst hkn
 go_wp2_with fail
 go_ret2
 obtain ⟨V, R, hP, st, r1, r2⟩ := MK.o.ex
 subst hP
 exact .inr ⟨V, R, rfl, st, r1, MK.o.f, HM.o, MK.o.q⟩
end Go.Proofs.YthggdemiddjlgaaGreat
