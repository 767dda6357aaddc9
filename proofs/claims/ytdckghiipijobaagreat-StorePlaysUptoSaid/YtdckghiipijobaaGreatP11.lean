/- Part 11 of the proof: lemmas and contracts of functions. No condition. -/
import Derived.Test.YtdckghiipijobaaGreatP10
import Derived.Test.YtdckghiipijobaaGreatP5
import Derived.Test.YtdckghiipijobaaGreatP8
import Derived.Test.YtdckghiipijobaaGreatP7
import Derived.Test.YtdckghiipijobaaGreatP1
set_option maxRecDepth 100000
set_option maxHeartbeats 12800000
set_option linter.unusedVariables false
set_option linter.unusedSimpArgs false
set_option linter.unusedSectionVars false
namespace Go.Proofs.YtdckghiipijobaaGreat
open Go.RowKit Go.Proofs.Tryz
structure AdB (a : Ad) : Prop where
 funcs : a.funcs.length ≤ 1048576
 tables : a.tables.length ≤ 1048576
 mems : a.mems.length ≤ 1048576
 globals : a.globals.length ≤ 1048576
 elems : a.elems.length ≤ 1048576
 datas : a.datas.length ≤ 1048576
def kBJ (x : Rx) (m : Md) (a : Ad) : Rx × Int := if 16 ≤ x.insts.length then (x, -1) else ({ x with insts := x.insts ++ [⟨m, a⟩] }, x.insts.length)
theorem kNk : ∀ {l : LV}, l.length = 12 → ∃ m0 m1 m2 m3 m4 m5 m6 m7 m8 m9 m10 m11, l = [m0, m1, m2, m3, m4, m5, m6, m7, m8, m9, m10, m11]
 | [m0, m1, m2, m3, m4, m5, m6, m7, m8, m9, m10, m11], _ => ⟨_, _, _, _, _, _, _, _, _, _, _, _, rfl⟩
theorem kOM : ∀ {l : LV}, l.length = 6 → ∃ m0 m1 m2 m3 m4 m5, l = [m0, m1, m2, m3, m4, m5]
 | [m0, m1, m2, m3, m4, m5], _ => ⟨_, _, _, _, _, _, rfl⟩
theorem kIh {w : World} {S : Nat → Prop} {m : Md} {a : Ad} {ms ns : LV} (h : tMd.rd w S ms m) (k : tAd.rd w S ns a) : tRi.rd w S (ms ++ ns) ⟨m, a⟩ := ⟨ms, ns, rfl, h, k⟩
section
variable {w : World} {R : Nat → Prop} {V : Pl} {x : Rx}
theorem kIQ (h : StIn w R V x) (m : Md) (a : Ad) {ms ns : LV} (S : Nat → Prop) (hm : tMd.rd w S ms m) (ha : tAd.rd w S ns a) (hS : Lt S w) (hb : MdB m) (hab : AdB a) (hn : x.insts.length ≤ 1000000) :
    Calls prog 23 #[.pointer (some ⟨V.P, 0, none⟩), .agg ms.toArray, .agg ns.toArray] w (GrTo R V (.int .i64 (kBJ x m a).2) (kBJ x m a).1 w) := by
 have F0 := hid (((Fr.refl No w).alloc (.cells ms.toArray 71)).alloc (.cells ns.toArray 73))
 have G0 := hid ((Blk.new w 71 ms.toArray).alloc (.cells ns.toArray 73))
 have G1 := hid (Blk.new1 w (.cells ms.toArray 71) 73 ns.toArray)
 have HM := hid hm
 have HA := hid ha
 have HS := hid hS
 have HB := hid hb
 have HAB := hid hab
 have H := hid (h.frNo F0.o)
 have HPl := hid (h.lt V.oP)
 have HLO := hid h.low
 have HON := hid h.own
 have hl1 : ms.length = 12 := TyOk.len _ _ _ _ hm
 have hl2 : ns.length = 6 := TyOk.len _ _ _ _ ha
 have HL1 := hid hl1
 have HL2 := hid hl2
 clear hm ha hS hb hab h hl1 hl2
 go_enter func23, ntmps23
 go_upto_region 1 with fail
 generalize (w.alloc (.cells ms.toArray 71)).alloc (.cells ns.toArray 73) = W at *
 obtain ⟨A, c, hv, _, _⟩ := H.o.sl_is
 have hcell : W.cell? ⟨V.P, 9, none⟩ = some (.slice A x.insts.length c) := by rw [← hv]; exact H.o.blk.cell 9
 clear hv
 have HNN := hid hn
 by_cases hf : 16 ≤ x.insts.length
 · have d1 : decide ((x.insts.length : Int) < 16) = false := by simp; omega
   have d2 : decide (x.insts.length < 16) = false := by simp; omega
   have i1 : (16 : Int) ≤ x.insts.length := om
   have HF := hid hf
   clear hf
   go_wp2
   go_ret
   have e : kBJ x m a = (x, -1) := by unfold kBJ; rw [if_pos HF.o]
   rw [e]
   exact ⟨V, R, rfl, H.o, Grown.of_no F0.o⟩
 have d1 : decide ((x.insts.length : Int) < 16) = true := by simp; omega
 have i1 : (x.insts.length : Int) < 16 := om
 have HF := hid hf
 clear hf
 go_wp2_with fail
 clear hcell d1 i1
 have HX : Hid (∀ X : World, X.heap[w.heap.size]? = W.heap[w.heap.size]? → X.heap[w.heap.size + 1]? = W.heap[w.heap.size + 1]? → X.rangeAt w.heap.size 0 ms ∧ X.rangeAt (w.heap.size + 1) 0 ns) := fun X e1 e2 => ⟨by simpa using rangeAt_blk (cs := ms.toArray) (t := 71) (show Blk X _ _ _ from e1.trans G0.o), by simpa using rangeAt_blk (cs := ns.toArray) (t := 73) (show Blk X _ _ _ from e2.trans G1.o)⟩
 have HI1 : Hid ((prog.info? 71).map (·.size) = some ms.length) := by unfold Hid; rw [HL1.o]; kernel_rfl
 have HI2 : Hid ((prog.info? 73).map (·.size) = some ns.length) := by unfold Hid; rw [HL2.o]; kernel_rfl
 have HGL := hid (And.intro G0.o.lt G1.o.lt)
 have HXN : Hid (∀ X, Fr No W X → X.rangeAt w.heap.size 0 ms ∧ X.rangeAt (w.heap.size + 1) 0 ns) := fun X f => HX.o X (f.block _ HGL.o.1 id) (f.block _ HGL.o.2 id)
 have FZ := hid (Fr.refl No W).drew
 refine rwP (fun X => X.rangeAt w.heap.size 0 ms ∧ X.rangeAt (w.heap.size + 1) 0 ns) [] [0, 1, 2, 3, 5, 4, 6, 7, 8, 9] [4, 6, 8] (HXN.o _ FZ.o) ?_
 iterate 3 (first | (refine kEs rfl rfl rfl ?_; simp only [zA]; apply Exists.intro; refine ⟨fun X => ?_, ?_⟩; (go_simp; exact stillUpon_value); simp only [zC, Act.put]) | (refine kCq rfl rfl rfl ?_; simp only [zA]; apply Exists.intro; refine ⟨fun X hX => ?_, ?_⟩; (clear hX; go_simp; exact stillUpon_value); simp only [zC, Act.put]))
 refine kAp rfl rfl rfl 71 _ rfl (w.heap.size) (0) (by rfl) ms _ (fun X hX => hX.1) underlying71 (by rfl) HI1.o ?_
 simp only [zA, zC, Act.put]
 refine kAp rfl rfl rfl 73 _ rfl (w.heap.size + 1) (0) (by rfl) ns _ (fun X hX => hX.2) underlying73 (by rfl) HI2.o ?_
 simp only [zA, zC, Act.put]
 refine kAE rfl rfl fun K hK => sz ?_
 refine (kHl m S _ (kAH HM.o (F0.o.trans FZ.o i3) HS.o i2) (fun k hk => ltl (HS.o k hk) (F0.o.trans FZ.o i3).size) HB.o).mono ?_
 rintro e w1 ⟨ms', rfl, hr1, f1⟩
 have R1 : Hid (tMd.rd w1 (Nw W w1) ms' m) := TyMore.more _ _ _ _ _ hr1 (fun k hk => ⟨Nat.le_trans FZ.o.size hk.1, hk.2⟩)
 replace FZ := ftr FZ f1
 clear hr1 f1
 refine hK _ _ (fun _ => HXN.o _ FZ.o) ?_
 clear hK K
 refine kAE rfl rfl fun K hK => sz ?_
 refine (kEK a S _ (kAH HA.o (F0.o.trans FZ.o i3) HS.o i2) (fun k hk => ltl (HS.o k hk) (F0.o.trans FZ.o i3).size) (by have := HAB.o.funcs; omega) (by have := HAB.o.tables; omega) (by have := HAB.o.mems; omega) (by have := HAB.o.globals; omega) (by have := HAB.o.elems; omega) (by have := HAB.o.datas; omega)).mono ?_
 rintro e w2 ⟨ns', rfl, hr2, f2⟩
 have R2 : Hid (tAd.rd w2 (Nw W w2) ns' a) := TyMore.more _ _ _ _ _ hr2 (fun k hk => ⟨Nat.le_trans FZ.o.size hk.1, hk.2⟩)
 replace R1 : Hid (tMd.rd w2 (Nw W w2) ms' m) := kAH R1.o f2 (fun k hk => hk.2) (fun k hk => ⟨hk.1, ltl hk.2 f2.size⟩)
 replace FZ := ftr FZ f2
 clear hr2 f2
 have hl1' : ms'.length = 12 := TyOk.len _ _ _ _ R1.o
 have hl2' : ns'.length = 6 := TyOk.len _ _ _ _ R2.o
 have K1 := hid (H.o.frNo FZ.o)
 have HLW : Hid (Lt R W) := fun k r => ltl (HLO.o k r) F0.o.size
 have RX : Hid (tRi.rd w2 (Sd w2 R) (ms' ++ ns') ⟨m, a⟩) := TyMore.more _ _ _ _ _ (kIh R1.o R2.o) (fun k hk => kCL HLW.o hk)
 have HAD := hid (kLg V.P 9 (Sd w2 R) V.is x.insts (ms' ++ ns') ⟨m, a⟩ w2 (K1.o.addIn_is RX.o HNN.o))
 refine hK _ _ (fun _ => HXN.o _ FZ.o) ?_
 clear hK K
 obtain ⟨m0, m1, m2, m3, m4, m5, m6, m7, m8, m9, m10, m11, hms⟩ := kNk hl1'
 obtain ⟨n0, n1, n2, n3, n4, n5, hns⟩ := kOM hl2'
 subst hms hns
 clear hl1' hl2' R1 R2 RX
 repeat (first | refine pS ?_ | refine pF ?_ | refine pX (fun (X : World) (h : X.rangeAt w.heap.size 0 ms ∧ X.rangeAt (w.heap.size + 1) 0 ns) => h) ?_)
 refine kAE rfl rfl fun K hK => sz ?_
 refine HAD.o.mono ?_
 intro e w3 ha
 obtain ⟨V', R', rfl, h2, h3⟩ := K1.o.added_is ha
 have hno : ∀ k, w.heap.size ≤ k → k < w2.heap.size → w3.heap[k]? = w2.heap[k]? := fun k hk hk2 => h3.fr.block k hk2 (fun o => by have := HLO.o k (HON.o k o); omega)
 have hX3 : w3.rangeAt w.heap.size 0 ms ∧ w3.rangeAt (w.heap.size + 1) 0 ns := by
  have s2 := FZ.o.size
  have g1 := HGL.o.1
  have g2 := HGL.o.2
  exact HX.o _ ((hno _ nr om).trans (FZ.o.block _ g1 id)) ((hno _ om om).trans (FZ.o.block _ g2 id))
 refine hK _ _ (fun _ => hX3) ?_
 clear hK K
 repeat (first | refine pS ?_ | refine pF ?_ | refine pX (fun (X : World) (h : X.rangeAt w.heap.size 0 ms ∧ X.rangeAt (w.heap.size + 1) 0 ns) => h) ?_)
 refine kAj ?_
 clear HX HXN HAD ha
 have H2 := hid h2
 have H3 := hid h3
 clear h2 h3 hno hX3
 go_wp2
 go_ret
 have e : kBJ x m a = ({ x with insts := x.insts ++ [⟨m, a⟩] }, ((x.insts.length : Nat) : Int)) := by unfold kBJ; rw [if_neg HF.o]
 rw [e]
 exact ⟨V', R', rfl, H2.o, (Grown.of_no (F0.o.trans FZ.o i3)).trans H3.o⟩
abbrev q11x2 : List Value := [.slice none 0 0, .slice none 0 0, .slice none 0 0, .slice none 0 0, .slice none 0 0, .slice none 0 0, .slice none 0 0, .bool false, .int .i64 0, .slice none 0 0, .slice none 0 0, .slice none 0 0]
abbrev q11x4 : List Value := [.slice none 0 0, .slice none 0 0, .slice none 0 0, .slice none 0 0, .slice none 0 0, .slice none 0 0]
theorem kIX (w : World) (S : Nat → Prop) : tMd.rd w S q11x2 zRi.m ∧ tAd.rd w S q11x4 zRi.a := ⟨Md_mk (a := zRi.m) nz nz (.inl rfl) nz nz (.inl rfl) nz nz (.inl rfl) nz nz (.inl rfl) nz nz (.inl rfl) nz nz (.inl rfl) nz nz (.inl rfl) rfl nz nz (.inl rfl) nz nz (.inl rfl) nz nz (.inl rfl), Ad_mk (a := zRi.a) nz nz (.inl rfl) nz nz (.inl rfl) nz nz (.inl rfl) nz nz (.inl rfl) nz nz (.inl rfl) nz nz (.inl rfl)⟩
theorem kLm : MdB zRi.m ∧ AdB zRi.a := by
 refine ⟨?_, ?_⟩
 · constructor <;> simp [zRi]
 constructor <;> simp [zRi]
def kNL (y : Ri) (ok : Bool) (w : World) (e : Ending) (w' : World) : Prop := ∃ ms ns, e = .returned (.tuple #[.agg ms.toArray, .agg ns.toArray, .bool ok]) ∧ tMd.rd w' (Nw w w') ms y.m ∧ tAd.rd w' (Nw w w') ns y.a ∧ Fr No w w'
abbrev kEW : Array Value := #[.slice none 0 0, .slice none 0 0, .slice none 0 0, .slice none 0 0, .slice none 0 0, .slice none 0 0, .slice none 0 0, .bool false, .int .i64 0, .slice none 0 0, .slice none 0 0, .slice none 0 0]
abbrev kEU : Array Value := #[.slice none 0 0, .slice none 0 0, .slice none 0 0, .slice none 0 0, .slice none 0 0, .slice none 0 0]
theorem kLb (h : StIn w R V x) (i : Int) (hn : x.insts.length ≤ 1000000) (hb : ∀ y ∈ x.insts, MdB y.m ∧ AdB y.a) :
    Calls prog 56 #[.pointer (some ⟨V.P, 0, none⟩), .int .i64 i] w (kNL (atD zRi x.insts i).1 (atD zRi x.insts i).2 w) := by
 obtain ⟨A, c, hv, _, hel⟩ := h.sl_is
 have hcell : w.cell? ⟨V.P, 9, none⟩ = some (.slice A x.insts.length c) := by rw [← hv]; exact h.blk.cell 9
 have hPl : V.P < w.heap.size := h.lt V.oP
 have HA := hid (fun (X : World) (f : Fr No w X) => kMd V.P 9 A c x.insts i (· < w.heap.size) X ((f.cell (p := ⟨V.P, 9, none⟩) hPl id).trans hcell) (hel.fr f (fun k hk => ⟨hk, fun x => x⟩)) (fun k hk => ltl hk f.size) hn)
 have HBL : Hid (MdB (atD zRi x.insts i).1.m ∧ AdB (atD zRi x.insts i).1.a) := kCG (p := fun y : Ri => MdB y.m ∧ AdB y.a) kLm hb
 have HZ : Hid ((atD zRi x.insts i).2 = false → (atD zRi x.insts i).1 = zRi) := fun e => by
  unfold atD at e ⊢
  split at e
  · cases e
  next h0 => rw [dif_neg h0]
 clear hel hcell hv h hPl hb hn
 obtain ⟨ok, hok⟩ : ∃ ok, ok = (atD zRi x.insts i).2 := ⟨_, rfl⟩
 rw [← hok] at HZ ⊢
 have HOK := hid hok.symm
 clear hok
 obtain ⟨s, hs⟩ : ∃ s, s = (atD zRi x.insts i).1 := ⟨_, rfl⟩
 rw [← hs] at HBL HZ ⊢
 have HSS := hid hs.symm
 clear hs
 have F0 := hid (((Fr.refl No w).alloc (.cells kEW 71)).alloc (.cells kEU 73))
 have G0 := hid ((Blk.new w 71 kEW).alloc (.cells kEU 73))
 have G1 := hid (Blk.new1 w (.cells kEW 71) 73 kEU)
 go_enter func56, ntmps56
 go_upto_region 1 with fail
 have HWW : Hid (((w.alloc (.cells kEW 71)).alloc (.cells kEU 73)).heap.size = w.heap.size + 2) := by unfold Hid; simp
 generalize (w.alloc (.cells kEW 71)).alloc (.cells kEU 73) = W at *
 go_wp2_with fail
 refine (HA.o _ F0.o).mono ?_
 rintro e w1 ⟨cs, rfl, hr, f1⟩
 rw [HSS.o] at hr
 rw [HOK.o]
 obtain ⟨e1, e2, rfl, hm, ha⟩ := hr
 have hm' : tMd.rd w1 (· < w.heap.size) e1 s.m := hm
 have ha' : tAd.rd w1 (· < w.heap.size) e2 s.a := ha
 have hl1 : e1.length = 12 := TyOk.len _ _ _ _ hm'
 have hl2 : e2.length = 6 := TyOk.len _ _ _ _ ha'
 have hln : (e1 ++ e2).length = 18 := by rw [List.length_append, hl1, hl2]
 have HLN := hid hln
 have HI : Hid ((prog.info? 208).map (·.size) = some (e1 ++ e2).length) := by unfold Hid; rw [HLN.o]; kernel_rfl
 have HON : Hid ((e1 ++ e2).all (·.oneCell') = true) := List.all_eq_true.2 (fun u hu => (List.mem_append.1 hu).elim (fun hu => (inferInstance : kAG tMd).one _ _ _ _ hm' u hu) (fun hu => (inferInstance : kAG tAd).one _ _ _ _ ha' u hu))
 have HM := hid hm'
 have HAd := hid ha'
 have HL1 := hid hl1
 have HL2 := hid hl2
 have F1 := ftr F0 f1
 have FW := hid f1
 replace G0 := hid (G0.o.fr f1 id)
 replace G1 := hid (G1.o.fr f1 id)
 clear HA f1 F0 hm ha hm' ha' hl1 hl2 hln
 go_upto_region 4 with (first
  | (refine kAz (by rfl) 208 _ _ (by rfl) #[.slice none 0 0, .slice none 0 0, .slice none 0 0, .slice none 0 0, .slice none 0 0, .slice none 0 0, .slice none 0 0, .bool false, .int .i64 0, .slice none 0 0, .slice none 0 0, .slice none 0 0, .slice none 0 0, .slice none 0 0, .slice none 0 0, .slice none 0 0, .slice none 0 0, .slice none 0 0] (e1 ++ e2) (by rfl) (by rfl) HI.o (by rw [HLN.o]; rfl) HON.o ?_)
  | fail)
 have f2 := (Fr.refl No w1).alloc (.cells (e1 ++ e2).toArray 208)
 have F2 := ftr F1 f2
 have FW2 := ftr FW f2
 replace G0 := hid (G0.o.fr f2 id)
 replace G1 := hid (G1.o.fr f2 id)
 have G2 := hid (Blk.new w1 208 (e1 ++ e2).toArray)
 replace HM : Hid (tMd.rd (w1.alloc (.cells (e1 ++ e2).toArray 208)) (· < w.heap.size) e1 s.m) := kAH HM.o f2 (fun k hk => ltl hk F1.o.size) i2
 replace HAd : Hid (tAd.rd (w1.alloc (.cells (e1 ++ e2).toArray 208)) (· < w.heap.size) e2 s.a) := kAH HAd.o f2 (fun k hk => ltl hk F1.o.size) i2
 have HQ : Hid (w.heap.size + 2 ≤ w1.heap.size) := by have := FW.o.size; have := HWW.o; show w.heap.size + 2 ≤ w1.heap.size; omega
 have HQ2 : Hid ((w1.alloc (.cells (e1 ++ e2).toArray 208)).heap.size = w1.heap.size + 1) := by unfold Hid; simp
 clear f2 FW
 generalize w1.alloc (.cells (e1 ++ e2).toArray 208) = W1 at *
 generalize w1.heap.size = q at *
 have HI1 : Hid ((prog.info? 71).map (·.size) = some 12) := by unfold Hid; kernel_rfl
 have HI2 : Hid ((prog.info? 73).map (·.size) = some 6) := by unfold Hid; kernel_rfl
 cases ok with
 | false =>
  have hz := HZ.o rfl
  subst hz
  have T0 : Hid (W1.there w.heap.size 0 12) := there_blk G0.o rfl
  have T1 : Hid ((W1.setCells w.heap.size 0 q11x2).there (w.heap.size + 1) 0 6) := World.there_setCells (there_blk G1.o rfl) _ _ _
  go_wp2_with (first
   | (refine wpList_store_mid (by rfl) 71 _ _ (by rfl) (w.heap.size) 0 kEW (by rfl) (by rfl) (by exact T0.o) (by exact HI1.o) (by simp [Value.oneCell']) ?_)
   | (refine wpList_store_mid (by rfl) 73 _ _ (by rfl) (w.heap.size + 1) 0 kEU (by rfl) (by rfl) (by exact T1.o) (by exact HI2.o) (by simp [Value.oneCell']) ?_)
   | fail)
  have M1 := World.rangeAt_setCells_apart (World.rangeAt_setCells_same W1 w.heap.size 0 q11x2 T0.o) (w.heap.size + 1) 0 q11x4 (.inl om)
  have M2 := World.rangeAt_setCells_same (W1.setCells w.heap.size 0 q11x2) (w.heap.size + 1) 0 q11x4 T1.o
  have FT := Fr.setCells' (a := w) (M := No) (b := w.heap.size + 1) (fun h => absurd h om) q11x4 0 _ (Fr.setCells' (a := w) (M := No) (b := w.heap.size) (fun h => absurd h om) q11x2 0 _ F2.o)
  refine bodyPost_ret (v := .tuple #[.agg q11x2.toArray, .agg q11x4.toArray, .bool false]) (kCg (fn := f56) (p := 4) (q := 5) (t := 6) (ty := 71) (tz := 73) rfl _ _ (w.heap.size) (w.heap.size + 1) _ _ _ _ (by rfl) (by rfl) M1 M2 underlying71 (by rfl) HI1.o underlying73 (by rfl) HI2.o) rfl ?_
  exact ⟨_, _, rfl, (kIX _ _).1, (kIX _ _).2, FT⟩
 | true =>
  obtain ⟨hmb, hab⟩ := HBL.o
  have HMB := hid hmb
  have HAB := hid hab
  clear hmb hab HBL HZ
  go_wp2_with fail
  have r12 : W1.rangeAt q 0 (e1 ++ e2) := by simpa using rangeAt_blk G2.o
  have HXR : Hid (∀ X : World, X.heap[q]? = W1.heap[q]? → X.rangeAt q 0 e1 ∧ X.rangeAt q 12 e2) := fun X e0 => by
   have r : X.rangeAt q 0 (e1 ++ e2) := by simpa using rangeAt_blk (cs := (e1 ++ e2).toArray) (t := 208) (show Blk X _ _ _ from e0.trans G2.o)
   refine ⟨fun j u hu => r j u (by rw [List.getElem?_append_left (List.getElem?_eq_some_iff.1 hu).1]; exact hu), fun j u hu => ?_⟩
   have := r (12 + j) u (by rw [List.getElem?_append_right (by rw [HL1.o]; omega), HL1.o, Nat.add_sub_cancel_left]; exact hu)
   rw [Nat.zero_add] at this
   exact this
  clear r12
  have HGL := hid (And.intro G2.o.lt (And.intro G0.o.lt G1.o.lt))
  have HXN : Hid (∀ X, Fr No W1 X → X.rangeAt q 0 e1 ∧ X.rangeAt q 12 e2) := fun X f => HXR.o X (f.block _ HGL.o.1 id)
  have HE1 : Hid ((prog.info? 71).map (·.size) = some e1.length) := by unfold Hid; rw [HL1.o]; kernel_rfl
  have HE2 : Hid ((prog.info? 73).map (·.size) = some e2.length) := by unfold Hid; rw [HL2.o]; kernel_rfl
  have FZ := hid (Fr.refl No W1).drew
  refine rwP (fun X => X.rangeAt q 0 e1 ∧ X.rangeAt q 12 e2) [] [0, 1, 3, 4, 2, 5, 6, 7, 8] [2, 5, 6, 7] (HXN.o _ FZ.o) ?_
  iterate 1 (first | (refine kEs rfl rfl rfl ?_; simp only [zA]; apply Exists.intro; refine ⟨fun X => ?_, ?_⟩; (go_simp; exact stillUpon_value); simp only [zC, Act.put]) | (refine kCq rfl rfl rfl ?_; simp only [zA]; apply Exists.intro; refine ⟨fun X hX => ?_, ?_⟩; (clear hX; go_simp; exact stillUpon_value); simp only [zC, Act.put]))
  refine kAp rfl rfl rfl 71 _ rfl (q) (0) (by rfl) e1 _ (fun X hX => hX.1) underlying71 (by rfl) HE1.o ?_
  simp only [zA, zC, Act.put]
  iterate 1 (first | (refine kEs rfl rfl rfl ?_; simp only [zA]; apply Exists.intro; refine ⟨fun X => ?_, ?_⟩; (go_simp; exact stillUpon_value); simp only [zC, Act.put]) | (refine kCq rfl rfl rfl ?_; simp only [zA]; apply Exists.intro; refine ⟨fun X hX => ?_, ?_⟩; (clear hX; go_simp; exact stillUpon_value); simp only [zC, Act.put]))
  refine kAp rfl rfl rfl 73 _ rfl (q) (12) (by rfl) e2 _ (fun X hX => hX.2) underlying73 (by rfl) HE2.o ?_
  simp only [zA, zC, Act.put]
  refine kAE rfl rfl fun K hK => sz ?_
  refine (kHl s.m (· < w.heap.size) _ (kAH HM.o FZ.o (fun k hk => ltl hk F2.o.size) i2) (fun k hk => ltl hk (F2.o.trans FZ.o i3).size) HMB.o).mono ?_
  rintro e w3 ⟨ms, rfl, hr1, f1⟩
  have R1 : Hid (tMd.rd w3 (Nw W1 w3) ms s.m) := TyMore.more _ _ _ _ _ hr1 (fun k hk => ⟨Nat.le_trans FZ.o.size hk.1, hk.2⟩)
  replace FZ := ftr FZ f1
  clear hr1 f1
  refine hK _ _ (fun _ => HXN.o _ FZ.o) ?_
  clear hK K
  refine kAE rfl rfl fun K hK => sz ?_
  refine (kEK s.a (· < w.heap.size) _ (kAH HAd.o FZ.o (fun k hk => ltl hk F2.o.size) i2) (fun k hk => ltl hk (F2.o.trans FZ.o i3).size) (by have := HAB.o.funcs; omega) (by have := HAB.o.tables; omega) (by have := HAB.o.mems; omega) (by have := HAB.o.globals; omega) (by have := HAB.o.elems; omega) (by have := HAB.o.datas; omega)).mono ?_
  rintro e w4 ⟨ns, rfl, hr2, f2⟩
  have R2 : Hid (tAd.rd w4 (Nw W1 w4) ns s.a) := TyMore.more _ _ _ _ _ hr2 (fun k hk => ⟨Nat.le_trans FZ.o.size hk.1, hk.2⟩)
  replace R1 : Hid (tMd.rd w4 (Nw W1 w4) ms s.m) := kAH R1.o f2 (fun k hk => hk.2) (fun k hk => ⟨hk.1, ltl hk.2 f2.size⟩)
  replace FZ := ftr FZ f2
  clear hr2 f2
  have hl1 : ms.length = 12 := TyOk.len _ _ _ _ R1.o
  have hl2 : ns.length = 6 := TyOk.len _ _ _ _ R2.o
  have HM1 := hid hl1
  have HM2 := hid hl2
  clear hl1 hl2
  refine hK _ _ (fun _ => HXN.o _ FZ.o) ?_
  clear hK K
  replace G0 := hid (G0.o.fr FZ.o id)
  replace G1 := hid (G1.o.fr FZ.o id)
  have HJ1 : Hid ((prog.info? 71).map (·.size) = some ms.toArray.size) := by unfold Hid; rw [List.size_toArray, HM1.o]; kernel_rfl
  have HJ2 : Hid ((prog.info? 73).map (·.size) = some ns.toArray.size) := by unfold Hid; rw [List.size_toArray, HM2.o]; kernel_rfl
  have HO1 := hid (all_oneCell_toArray ((inferInstance : kAG tMd).one _ _ _ _ R1.o))
  have HO2 := hid (all_oneCell_toArray ((inferInstance : kAG tAd).one _ _ _ _ R2.o))
  have T0 : Hid (w4.there w.heap.size 0 ms.toArray.size) := by have h := there_blk (n := 12) G0.o rfl; rw [← HM1.o] at h; exact h
  have T1 : Hid ((w4.setCells w.heap.size 0 ms).there (w.heap.size + 1) 0 ns.toArray.size) := by have h := there_blk (n := 6) G1.o rfl; rw [← HM2.o] at h; exact World.there_setCells h _ _ _
  have hXs : ∀ (X : World), Fr (fun k => k = w.heap.size ∨ k = w.heap.size + 1) w4 X → X.rangeAt q 0 e1 ∧ X.rangeAt q 12 e2 := fun X f => HXR.o X ((f.block q (ltl HGL.o.1 FZ.o.size) (by have := HQ.o; rintro (h | h) <;> omega)).trans (FZ.o.block q HGL.o.1 id))
  have HXS := hid hXs
  clear hXs
  have FY1 := hid (Fr.setCells' (M := fun k => k = w.heap.size ∨ k = w.heap.size + 1) (b := w.heap.size) (fun _ => .inl rfl) ms 0 _ (Fr.refl _ w4))
  have FY2 := hid (Fr.setCells' (M := fun k => k = w.heap.size ∨ k = w.heap.size + 1) (b := w.heap.size + 1) (fun _ => .inr rfl) ns 0 _ FY1.o)
  refine kAE rfl rfl (fun K hK => ?_)
  simp only [zA]
  refine wp_store_mid 71 _ _ (by rfl) (w.heap.size) 0 ms.toArray (by rfl) (by rfl) T0.o HJ1.o HO1.o ?_
  refine hK _ _ (fun _ => HXS.o _ FY1.o) ?_
  clear hK K
  refine kAE rfl rfl (fun K hK => ?_)
  simp only [zA]
  refine wp_store_mid 73 _ _ (by rfl) (w.heap.size + 1) 0 ns.toArray (by rfl) (by rfl) T1.o HJ2.o HO2.o ?_
  refine hK _ _ (fun _ => HXS.o _ FY2.o) ?_
  clear hK K
  repeat (first | refine pS ?_ | refine pF ?_ | refine pX (fun (X : World) (h : X.rangeAt q 0 e1 ∧ X.rangeAt q 12 e2) => h) ?_)
  refine kAj ?_
  have M1 := World.rangeAt_setCells_apart (World.rangeAt_setCells_same w4 w.heap.size 0 ms T0.o) (w.heap.size + 1) 0 ns (.inl om)
  have M2 := World.rangeAt_setCells_same (w4.setCells w.heap.size 0 ms) (w.heap.size + 1) 0 ns T1.o
  have FT := Fr.setCells' (a := w) (M := No) (b := w.heap.size + 1) (fun h => absurd h om) ns 0 _ (Fr.setCells' (a := w) (M := No) (b := w.heap.size) (fun h => absurd h om) ms 0 _ (F2.o.trans FZ.o i3))
  clear HXN HXR HXS T0 T1
  go_wp2
  have hj1 : (prog.info? 71).map (·.size) = some ms.length := by have := HJ1.o; simpa using this
  have hj2 : (prog.info? 73).map (·.size) = some ns.length := by have := HJ2.o; simpa using this
  refine bodyPost_ret (v := .tuple #[.agg ms.toArray, .agg ns.toArray, .bool true]) (kCg (fn := f56) (p := 4) (q := 5) (t := 6) (ty := 71) (tz := 73) rfl _ _ (w.heap.size) (w.heap.size + 1) _ _ _ _ (by rfl) (by rfl) M1 M2 underlying71 (by rfl) hj1 underlying73 (by rfl) hj2) rfl ?_
  have hsub : ∀ k, Nw W1 w4 k → Nw w ((w4.setCells w.heap.size 0 ms).setCells (w.heap.size + 1) 0 ns) k ∧ k < w4.heap.size ∧ ¬ (k = w.heap.size ∨ k = w.heap.size + 1) := fun k hk => by
   have s2 := FY2.o.size
   have q1 := HQ2.o
   have q2 := HQ.o
   have h1 := hk.1
   have h2 := hk.2
   exact ⟨⟨by omega, ltl h2 s2⟩, h2, by omega⟩
  exact ⟨_, _, rfl, TyMore.more _ _ _ _ _ (TyOk.keep _ _ _ _ _ R1.o (fun p hp => FY2.o.cell (hsub _ hp).2.1 (hsub _ hp).2.2)) (fun k hk => (hsub k hk).1), TyMore.more _ _ _ _ _ (TyOk.keep _ _ _ _ _ R2.o (fun p hp => FY2.o.cell (hsub _ hp).2.1 (hsub _ hp).2.2)) (fun k hk => (hsub k hk).1), FT⟩
end
def YesTo (w : World) (e : Ending) (w' : World) : Prop := e = .returned (.bool true) ∧ Fr No w w'
section
variable {P : Program} {t : TypeId} {w : World}
theorem kBL {cs : Array Value} {off n : Nat} (h : (isAgg t).run P w = .ok true w) (hi : (P.info? t).map (·.size) = some n) : (part t cs off).run P w = .ok (.agg (cs.extract off (off + n))) w := by
 obtain ⟨i, h1, h2⟩ := Option.map_eq_some_iff.1 hi
 exact kJx h h1 h2
theorem eqI (d : Nat) {k : IntKind} (h : P.underlying t = some (.int k)) (n : Int) : (Op.equalIn (d + 1) t (.int k n) (.int k n)).run P w = .ok true w := by rw [run_equalIn_int w d t k k n n h]; simp
theorem eqB (d : Nat) (h : P.underlying t = some .bool) (b : Bool) : (Op.equalIn (d + 1) t (.bool b) (.bool b)).run P w = .ok true w := by rw [run_equalIn_bool w d t b b h]; simp
theorem eqS (d : Nat) (h : P.underlying t = some .string) (s : ByteArray) : (Op.equalIn (d + 1) t (.string s) (.string s)).run P w = .ok true w := by rw [run_equalIn_string w d t s s h]; simp
end
theorem kCw (z : Lim) (d : Nat) (w : World) : (Op.equalIn (d + 1 + 1) 50 (.agg #[.int .i64 z.min, .int .i64 z.max, .bool z.has]) (.agg #[.int .i64 z.min, .int .i64 z.max, .bool z.has])).run prog w = .ok true w := by
 have h := kEf (P := prog) (t := 50) (w := w) (d := d + 1) (xs := #[.int .i64 z.min, .int .i64 z.max, .bool z.has]) (ys := #[.int .i64 z.min, .int .i64 z.max, .bool z.has]) kr kr (kAX (r := true) (s := true) dc (kAK (kAV underlying3) rfl) (kAK (kAV underlying3) rfl) (eqI (d) underlying3 _)
  (kAX (r := true) (s := true) dc (kAK (kAV underlying3) rfl) (kAK (kAV underlying3) rfl) (eqI (d) underlying3 _)
  (kAX (r := true) (s := true) dc (kAK (kCl underlying4) rfl) (kAK (kCl underlying4) rfl) (eqB (d) underlying4 _)
  kCm)))
 simpa using h
abbrev kGS (a0 : Tb) : Array Value := #[.int .i64 a0.elem, .int .i64 a0.lim.min, .int .i64 a0.lim.max, .bool a0.lim.has]
theorem kEb (z : Tb) (d : Nat) (w : World) : (Op.equalIn (d + 1 + 1 + 1) 52 (.agg (kGS z)) (.agg (kGS z))).run prog w = .ok true w := by
 have h := kEf (P := prog) (t := 52) (w := w) (d := d + 1 + 1) (xs := (kGS z)) (ys := (kGS z)) kr kr (kAX (r := true) (s := true) dc (kAK (kAV underlying48) rfl) (kAK (kAV underlying48) rfl) (eqI (d + 1) underlying48 _)
  (kAX (r := true) (s := true) dc (kBL (n := 3) (kBh (fs := (prog.fieldsOf 50)) kr) kr) (kBL (n := 3) (kBh (fs := (prog.fieldsOf 50)) kr) kr) (kCw z.lim (d) w)
  kCm))
 simpa using h
theorem kOP (z : Ex) (d : Nat) (w : World) : (Op.equalIn (d + 1 + 1) 297 (.agg #[.string z.name, .int .i64 z.kind, .int .i64 z.index]) (.agg #[.string z.name, .int .i64 z.kind, .int .i64 z.index])).run prog w = .ok true w := by
 have h := kEf (P := prog) (t := 297) (w := w) (d := d + 1) (xs := #[.string z.name, .int .i64 z.kind, .int .i64 z.index]) (ys := #[.string z.name, .int .i64 z.kind, .int .i64 z.index]) kr kr (kAX (r := true) (s := true) dc (kAK (kBz underlying9) rfl) (kAK (kBz underlying9) rfl) (eqS (d) underlying9 _)
  (kAX (r := true) (s := true) dc (kAK (kAV underlying290) rfl) (kAK (kAV underlying290) rfl) (eqI (d) underlying290 _)
  (kAX (r := true) (s := true) dc (kAK (kAV underlying3) rfl) (kAK (kAV underlying3) rfl) (eqI (d) underlying3 _)
  kCm)))
 simpa using h
theorem kMR (z : Gl) (d : Nat) (w : World) : (Op.equalIn (d + 1 + 1) 54 (.agg #[.int .i64 z.val, .bool z.mut_]) (.agg #[.int .i64 z.val, .bool z.mut_])).run prog w = .ok true w := by
 have h := kEf (P := prog) (t := 54) (w := w) (d := d + 1) (xs := #[.int .i64 z.val, .bool z.mut_]) (ys := #[.int .i64 z.val, .bool z.mut_]) kr kr (kAX (r := true) (s := true) dc (kAK (kAV underlying48) rfl) (kAK (kAV underlying48) rfl) (eqI (d) underlying48 _)
  (kAX (r := true) (s := true) dc (kAK (kCl underlying4) rfl) (kAK (kCl underlying4) rfl) (eqB (d) underlying4 _)
  kCm))
 simpa using h
theorem kOQ (z : Bk) (d : Nat) (w : World) : (Op.equalIn (d + 1 + 1) 337 (.agg #[.int .i64 z.kind, .int .i64 z.val, .int .i64 z.index]) (.agg #[.int .i64 z.kind, .int .i64 z.val, .int .i64 z.index])).run prog w = .ok true w := by
 have h := kEf (P := prog) (t := 337) (w := w) (d := d + 1) (xs := #[.int .i64 z.kind, .int .i64 z.val, .int .i64 z.index]) (ys := #[.int .i64 z.kind, .int .i64 z.val, .int .i64 z.index]) kr kr (kAX (r := true) (s := true) dc (kAK (kAV underlying3) rfl) (kAK (kAV underlying3) rfl) (eqI (d) underlying3 _)
  (kAX (r := true) (s := true) dc (kAK (kAV underlying48) rfl) (kAK (kAV underlying48) rfl) (eqI (d) underlying48 _)
  (kAX (r := true) (s := true) dc (kAK (kAV underlying3) rfl) (kAK (kAV underlying3) rfl) (eqI (d) underlying3 _)
  kCm)))
 simpa using h
abbrev kGT (a0 : Im) : Array Value := #[.string a0.mod, .string a0.name, .int .i64 a0.kind, .int .i64 a0.func, .int .i64 a0.table.elem, .int .i64 a0.table.lim.min, .int .i64 a0.table.lim.max, .bool a0.table.lim.has, .int .i64 a0.mem.min, .int .i64 a0.mem.max, .bool a0.mem.has, .int .i64 a0.glob.val, .bool a0.glob.mut_]
theorem kOO (z : Im) (d : Nat) (w : World) : (Op.equalIn (d + 1 + 1 + 1 + 1) 292 (.agg (kGT z)) (.agg (kGT z))).run prog w = .ok true w := by
 have h := kEf (P := prog) (t := 292) (w := w) (d := d + 1 + 1 + 1) (xs := (kGT z)) (ys := (kGT z)) kr kr (kAX (r := true) (s := true) dc (kAK (kBz underlying9) rfl) (kAK (kBz underlying9) rfl) (eqS (d + 1 + 1) underlying9 _)
  (kAX (r := true) (s := true) dc (kAK (kBz underlying9) rfl) (kAK (kBz underlying9) rfl) (eqS (d + 1 + 1) underlying9 _)
  (kAX (r := true) (s := true) dc (kAK (kAV underlying290) rfl) (kAK (kAV underlying290) rfl) (eqI (d + 1 + 1) underlying290 _)
  (kAX (r := true) (s := true) dc (kAK (kAV underlying3) rfl) (kAK (kAV underlying3) rfl) (eqI (d + 1 + 1) underlying3 _)
  (kAX (r := true) (s := true) dc (kBL (n := 4) (kBh (fs := (prog.fieldsOf 52)) kr) kr) (kBL (n := 4) (kBh (fs := (prog.fieldsOf 52)) kr) kr) (kEb z.table (d) w)
  (kAX (r := true) (s := true) dc (kBL (n := 3) (kBh (fs := (prog.fieldsOf 50)) kr) kr) (kBL (n := 3) (kBh (fs := (prog.fieldsOf 50)) kr) kr) (kCw z.mem (d + 1) w)
  (kAX (r := true) (s := true) dc (kBL (n := 2) (kBh (fs := (prog.fieldsOf 54)) kr) kr) (kBL (n := 2) (kBh (fs := (prog.fieldsOf 54)) kr) kr) (kMR z.glob (d + 1) w)
  kCm)))))))
 simpa using h
theorem YesTo.of_vals {xs : List Int} {w : World} {e : Ending} {w' : World} (h : e = .returned (.bool (decide (xs = xs))) ∧ ∃ n, w' = w.drewN n) : YesTo w e w' := by
 obtain ⟨h1, n, h2⟩ := h
 exact ⟨by rw [h1]; simp, by rw [h2]; exact (Fr.refl No w).drewN n⟩
theorem kGJ (f : Fn) : fnEq f f = true := kFI.2 rfl
theorem kHA (x : Ins) {ms ns : LV} (S T : Nat → Prop) (w : World) (ha : tIns.rd w S ms x) (hb : tIns.rd w T ns x) (hS : Lt S w) (hT : Lt T w) (hbd : InsB x) :
    Calls prog 207 #[.agg ms.toArray, .agg ns.toArray] w (YesTo w) := by
 obtain ⟨P0, p0, P1, p1, rfl, -, -, -, -, -, -, -, -, -, h0, -, -, h1⟩ := kCf ha
 obtain ⟨Q0, q0, Q1, q1, rfl, -, -, -, -, -, -, -, -, -, g0, -, -, g1⟩ := kCf hb
 have F0 := hid (((Fr.refl No w).alloc (.cells #[.int .i64 x.op, .int .i64 x.a, .int .i64 x.b, .int .u64 x.n, .int .i64 x.block.kind, .int .i64 x.block.val, .int .i64 x.block.index, .slice P0 x.types.length p0, .slice P1 x.labels.length p1] 339)).alloc (.cells #[.int .i64 x.op, .int .i64 x.a, .int .i64 x.b, .int .u64 x.n, .int .i64 x.block.kind, .int .i64 x.block.val, .int .i64 x.block.index, .slice Q0 x.types.length q0, .slice Q1 x.labels.length q1] 339))
 have G0 := hid ((Blk.new w 339 #[.int .i64 x.op, .int .i64 x.a, .int .i64 x.b, .int .u64 x.n, .int .i64 x.block.kind, .int .i64 x.block.val, .int .i64 x.block.index, .slice P0 x.types.length p0, .slice P1 x.labels.length p1]).alloc (.cells #[.int .i64 x.op, .int .i64 x.a, .int .i64 x.b, .int .u64 x.n, .int .i64 x.block.kind, .int .i64 x.block.val, .int .i64 x.block.index, .slice Q0 x.types.length q0, .slice Q1 x.labels.length q1] 339))
 have G1 := hid (Blk.new1 w (.cells #[.int .i64 x.op, .int .i64 x.a, .int .i64 x.b, .int .u64 x.n, .int .i64 x.block.kind, .int .i64 x.block.val, .int .i64 x.block.index, .slice P0 x.types.length p0, .slice P1 x.labels.length p1] 339) 339 #[.int .i64 x.op, .int .i64 x.a, .int .i64 x.b, .int .u64 x.n, .int .i64 x.block.kind, .int .i64 x.block.val, .int .i64 x.block.index, .slice Q0 x.types.length q0, .slice Q1 x.labels.length q1])
 have H0 := hid h0
 have H1 := hid h1
 have K0 := hid g0
 have K1 := hid g1
 have HS := hid hS
 have HT := hid hT
 have HQ : ∀ X, (Op.equalIn 10000 337 (.agg #[.int .i64 x.block.kind, .int .i64 x.block.val, .int .i64 x.block.index]) (.agg #[.int .i64 x.block.kind, .int .i64 x.block.val, .int .i64 x.block.index])).run prog X = .ok true X := fun X => kOQ x.block 9998 X
 obtain ⟨n0, e0⟩ : ∃ n, x.types.length = n := ⟨_, rfl⟩
 obtain ⟨n1, e1⟩ : ∃ n, x.labels.length = n := ⟨_, rfl⟩
 have N0 := hid e0
 have N1 := hid e1
 have l0 : n0 ≤ 1048576 := by rw [← e0]; exact hbd.1
 have l1 : n1 ≤ 1048576 := by rw [← e1]; exact hbd.2
 rw [e0, e1] at F0 G0 G1 ⊢
 clear ha hb hS hT h0 h1 g0 g1 hbd e0 e1
 go_enter func207, ntmps207
 go_upto_region 1 with fail
 generalize (w.alloc (.cells #[.int .i64 x.op, .int .i64 x.a, .int .i64 x.b, .int .u64 x.n, .int .i64 x.block.kind, .int .i64 x.block.val, .int .i64 x.block.index, .slice P0 n0 p0, .slice P1 n1 p1] 339)).alloc (.cells #[.int .i64 x.op, .int .i64 x.a, .int .i64 x.b, .int .u64 x.n, .int .i64 x.block.kind, .int .i64 x.block.val, .int .i64 x.block.index, .slice Q0 n0 q0, .slice Q1 n1 q1] 339) = W at *
 have y0 := G0.o.cell 0
 have z0 := G1.o.cell 0
 have y1 := G0.o.cell 1
 have z1 := G1.o.cell 1
 have y2 := G0.o.cell 2
 have z2 := G1.o.cell 2
 have y3 := G0.o.cell 3
 have z3 := G1.o.cell 3
 have y4 := G0.o.cell 4
 have z4 := G1.o.cell 4
 have y5 := G0.o.cell 5
 have z5 := G1.o.cell 5
 have y6 := G0.o.cell 6
 have z6 := G1.o.cell 6
 have y7 := G0.o.cell 7
 have z7 := G1.o.cell 7
 have y8 := G0.o.cell 8
 have z8 := G1.o.cell 8
 go_wp2_with fail
 clear HQ y0 z0 y1 z1 y2 z2 y3 z3 y4 z4 y5 z5 y6 z6 y7 z7 y8 z8
 go_loopw [5] (fun i wr => ∃ k : Nat, k ≤ n0 ∧ i = .int .i64 k ∧ Hid (Fr No W wr)) (fun i _ => n0 - (intOf i).toNat)
 case atStart => exact ⟨0, nz, rfl, hid (Fr.refl No W)⟩
 obtain ⟨k, hk, rfl, FR⟩ := hrel
 have y7 := (G0.o.fr FR.o id).cell 7
 have z7 := (G1.o.fr FR.o id).cell 7
 by_cases hlt : k < n0
 · have hlk : k < x.types.length := by have := N0.o; omega
   obtain ⟨b, o, rfl, hb, u, _⟩ := i_at H0.o k hlk
   obtain ⟨b', o', rfl, hb', v, _⟩ := i_at K0.o k hlk
   have hb1 := HS.o b hb
   have hb2 := HT.o b' hb'
   have HX : Hid (∀ X, Fr No wr X → Ce X w.heap.size 7 (.slice (some ⟨b, o, none⟩) n0 p0) ∧ Ce X (w.heap.size + 1) 7 (.slice (some ⟨b', o', none⟩) n0 q0) ∧ Ce X b (o + k) (.int .i64 x.types[k]) ∧ Ce X b' (o' + k) (.int .i64 x.types[k])) := hid fun X f => by
    have g := F0.o.trans (FR.o.trans f i3) i3
    exact ⟨((G0.o.fr FR.o id).fr f id).cell 7, ((G1.o.fr FR.o id).fr f id).cell 7, (g.cell (p := ⟨b, o + k, none⟩) hb1 id).trans u, (g.cell (p := ⟨b', o' + k, none⟩) hb2 id).trans v⟩
   generalize x.types[k] = t at *
   have i0 := nki k
   have i1 : (k : Int) < n0 := om
   clear u v hlk hb hb' hb1 hb2
   go_wp2_with fail
   clear y7 z7
   refine rwO (Fr No wr) [] (List.range 11) [] (Fr.refl _ wr).drew ?_
   exact yy17
 have hkn : n0 = k := om
 subst hkn
 clear hlt
 go_wp2_with fail
 clear y7 z7
 go_loopw [6] (fun i wr => ∃ k : Nat, k ≤ n1 ∧ i = .int .i64 k ∧ Hid (Fr No W wr)) (fun i _ => n1 - (intOf i).toNat)
 case atStart => exact ⟨0, nz, rfl, FR⟩
 obtain ⟨k, hk, rfl, FR⟩ := hrel
 have y8 := (G0.o.fr FR.o id).cell 8
 have z8 := (G1.o.fr FR.o id).cell 8
 by_cases hlt : k < n1
 · have hlk : k < x.labels.length := by have := N1.o; omega
   obtain ⟨b, o, rfl, hb, u, _⟩ := i_at H1.o k hlk
   obtain ⟨b', o', rfl, hb', v, _⟩ := i_at K1.o k hlk
   have hb1 := HS.o b hb
   have hb2 := HT.o b' hb'
   have HX : Hid (∀ X, Fr No wr X → Ce X w.heap.size 8 (.slice (some ⟨b, o, none⟩) n1 p1) ∧ Ce X (w.heap.size + 1) 8 (.slice (some ⟨b', o', none⟩) n1 q1) ∧ Ce X b (o + k) (.int .i64 x.labels[k]) ∧ Ce X b' (o' + k) (.int .i64 x.labels[k])) := hid fun X f => by
    have g := F0.o.trans (FR.o.trans f i3) i3
    exact ⟨((G0.o.fr FR.o id).fr f id).cell 8, ((G1.o.fr FR.o id).fr f id).cell 8, (g.cell (p := ⟨b, o + k, none⟩) hb1 id).trans u, (g.cell (p := ⟨b', o' + k, none⟩) hb2 id).trans v⟩
   generalize x.labels[k] = t at *
   have i0 := nki k
   have i1 : (k : Int) < n1 := om
   clear u v hlk hb hb' hb1 hb2
   go_wp2_with fail
   clear y8 z8
   refine rwO (Fr No wr) [] (List.range 11) [] (Fr.refl _ wr).drew ?_
   exact yy17
 have hkn : n1 = k := om
 subst hkn
 clear hlt
 go_wp2
 go_ret
 exact ⟨rfl, F0.o.trans FR.o i3⟩
theorem kBb (A B : OA) (c d : Nat) (xs : List Ins) (S T : Nat → Prop) (w : World) (ha : tIns.els w S A xs) (hb : tIns.els w T B xs) (hS : Lt S w) (hT : Lt T w) (hl : xs.length ≤ 1048576) (hbd : ∀ x ∈ xs, InsB x) :
    Calls prog 194 #[.slice A xs.length c, .slice B xs.length d] w (YesTo w) := by
 have HE := hid ha
 have HF := hid hb
 have HS := hid hS
 have HT := hid hT
 have HB := hid hbd
 clear ha hb hS hT hbd
 obtain ⟨n, hn⟩ : ∃ n, xs.length = n := ⟨_, rfl⟩
 have HN := hid hn
 rw [hn] at hl ⊢
 clear hn
 go_enter func194, ntmps194
 go_wp2_with fail
 go_loopw [5] (fun i wr => ∃ k : Nat, k ≤ n ∧ i = .int .i64 k ∧ Hid (Fr No w wr)) (fun i _ => n - (intOf i).toNat)
 case atStart => exact ⟨0, nz, rfl, hid (Fr.refl No w)⟩
 obtain ⟨k, hk, rfl, FR⟩ := hrel
 by_cases hlt : k < n
 · have hlk : k < xs.length := by have := HN.o; omega
   obtain ⟨b, o, ds, rfl, hb, hc, hr⟩ := HE.o.at_ k hlk
   obtain ⟨b', o', ds', rfl, hb', hc', hr'⟩ := HF.o.at_ k hlk
   have hby := HB.o _ (List.getElem_mem hlk)
   generalize xs[k] = y at *
   obtain ⟨P0, p0, P1, p1, rfl, -, -, -, -, -, -, -, h0_l, h0_c, h0, h1_l, h1_c, h1⟩ := kCf hr
   obtain ⟨Q0, q0, Q1, q1, rfl, -, -, -, -, -, -, -, g0_l, g0_c, g0, g1_l, g1_c, g1⟩ := kCf hr'
   have hb1 := HS.o b hb
   have hb2 := HT.o b' hb'
   have HX : Hid (∀ X, Fr No wr X → Ce X b (o + k * 9) (.int .i64 y.op) ∧ Ce X b (o + k * 9 + 1) (.int .i64 y.a) ∧ Ce X b (o + k * 9 + 2) (.int .i64 y.b) ∧ Ce X b (o + k * 9 + 3) (.int .u64 y.n) ∧ Ce X b (o + k * 9 + 4) (.int .i64 y.block.kind) ∧ Ce X b (o + k * 9 + 5) (.int .i64 y.block.val) ∧ Ce X b (o + k * 9 + 6) (.int .i64 y.block.index) ∧ Ce X b (o + k * 9 + 7) (.slice P0 y.types.length p0) ∧ Ce X b (o + k * 9 + 8) (.slice P1 y.labels.length p1) ∧ Ce X b' (o' + k * 9) (.int .i64 y.op) ∧ Ce X b' (o' + k * 9 + 1) (.int .i64 y.a) ∧ Ce X b' (o' + k * 9 + 2) (.int .i64 y.b) ∧ Ce X b' (o' + k * 9 + 3) (.int .u64 y.n) ∧ Ce X b' (o' + k * 9 + 4) (.int .i64 y.block.kind) ∧ Ce X b' (o' + k * 9 + 5) (.int .i64 y.block.val) ∧ Ce X b' (o' + k * 9 + 6) (.int .i64 y.block.index) ∧ Ce X b' (o' + k * 9 + 7) (.slice Q0 y.types.length q0) ∧ Ce X b' (o' + k * 9 + 8) (.slice Q1 y.labels.length q1)) := hid fun X f => by
    have g := FR.o.trans f i3
    exact ⟨(g.cell (p := ⟨b, o + k * 9, none⟩) hb1 id).trans (by have h := hc 0 _ rfl; rwa [show o + (k * tIns.size + 0) = o + k * 9 by show o + (k * 9 + 0) = o + k * 9; omega] at h), (g.cell (p := ⟨b, o + k * 9 + 1, none⟩) hb1 id).trans (by have h := hc 1 _ rfl; rwa [show o + (k * tIns.size + 1) = o + k * 9 + 1 by show o + (k * 9 + 1) = o + k * 9 + 1; omega] at h), (g.cell (p := ⟨b, o + k * 9 + 2, none⟩) hb1 id).trans (by have h := hc 2 _ rfl; rwa [show o + (k * tIns.size + 2) = o + k * 9 + 2 by show o + (k * 9 + 2) = o + k * 9 + 2; omega] at h), (g.cell (p := ⟨b, o + k * 9 + 3, none⟩) hb1 id).trans (by have h := hc 3 _ rfl; rwa [show o + (k * tIns.size + 3) = o + k * 9 + 3 by show o + (k * 9 + 3) = o + k * 9 + 3; omega] at h), (g.cell (p := ⟨b, o + k * 9 + 4, none⟩) hb1 id).trans (by have h := hc 4 _ rfl; rwa [show o + (k * tIns.size + 4) = o + k * 9 + 4 by show o + (k * 9 + 4) = o + k * 9 + 4; omega] at h), (g.cell (p := ⟨b, o + k * 9 + 5, none⟩) hb1 id).trans (by have h := hc 5 _ rfl; rwa [show o + (k * tIns.size + 5) = o + k * 9 + 5 by show o + (k * 9 + 5) = o + k * 9 + 5; omega] at h), (g.cell (p := ⟨b, o + k * 9 + 6, none⟩) hb1 id).trans (by have h := hc 6 _ rfl; rwa [show o + (k * tIns.size + 6) = o + k * 9 + 6 by show o + (k * 9 + 6) = o + k * 9 + 6; omega] at h), (g.cell (p := ⟨b, o + k * 9 + 7, none⟩) hb1 id).trans (by have h := hc 7 _ rfl; rwa [show o + (k * tIns.size + 7) = o + k * 9 + 7 by show o + (k * 9 + 7) = o + k * 9 + 7; omega] at h), (g.cell (p := ⟨b, o + k * 9 + 8, none⟩) hb1 id).trans (by have h := hc 8 _ rfl; rwa [show o + (k * tIns.size + 8) = o + k * 9 + 8 by show o + (k * 9 + 8) = o + k * 9 + 8; omega] at h), (g.cell (p := ⟨b', o' + k * 9, none⟩) hb2 id).trans (by have h := hc' 0 _ rfl; rwa [show o' + (k * tIns.size + 0) = o' + k * 9 by show o' + (k * 9 + 0) = o' + k * 9; omega] at h), (g.cell (p := ⟨b', o' + k * 9 + 1, none⟩) hb2 id).trans (by have h := hc' 1 _ rfl; rwa [show o' + (k * tIns.size + 1) = o' + k * 9 + 1 by show o' + (k * 9 + 1) = o' + k * 9 + 1; omega] at h), (g.cell (p := ⟨b', o' + k * 9 + 2, none⟩) hb2 id).trans (by have h := hc' 2 _ rfl; rwa [show o' + (k * tIns.size + 2) = o' + k * 9 + 2 by show o' + (k * 9 + 2) = o' + k * 9 + 2; omega] at h), (g.cell (p := ⟨b', o' + k * 9 + 3, none⟩) hb2 id).trans (by have h := hc' 3 _ rfl; rwa [show o' + (k * tIns.size + 3) = o' + k * 9 + 3 by show o' + (k * 9 + 3) = o' + k * 9 + 3; omega] at h), (g.cell (p := ⟨b', o' + k * 9 + 4, none⟩) hb2 id).trans (by have h := hc' 4 _ rfl; rwa [show o' + (k * tIns.size + 4) = o' + k * 9 + 4 by show o' + (k * 9 + 4) = o' + k * 9 + 4; omega] at h), (g.cell (p := ⟨b', o' + k * 9 + 5, none⟩) hb2 id).trans (by have h := hc' 5 _ rfl; rwa [show o' + (k * tIns.size + 5) = o' + k * 9 + 5 by show o' + (k * 9 + 5) = o' + k * 9 + 5; omega] at h), (g.cell (p := ⟨b', o' + k * 9 + 6, none⟩) hb2 id).trans (by have h := hc' 6 _ rfl; rwa [show o' + (k * tIns.size + 6) = o' + k * 9 + 6 by show o' + (k * 9 + 6) = o' + k * 9 + 6; omega] at h), (g.cell (p := ⟨b', o' + k * 9 + 7, none⟩) hb2 id).trans (by have h := hc' 7 _ rfl; rwa [show o' + (k * tIns.size + 7) = o' + k * 9 + 7 by show o' + (k * 9 + 7) = o' + k * 9 + 7; omega] at h), (g.cell (p := ⟨b', o' + k * 9 + 8, none⟩) hb2 id).trans (by have h := hc' 8 _ rfl; rwa [show o' + (k * tIns.size + 8) = o' + k * 9 + 8 by show o' + (k * 9 + 8) = o' + k * 9 + 8; omega] at h)⟩
   have HC0 : Hid (∀ X, Fr No w X → Calls prog 207 #[.agg #[.int .i64 y.op, .int .i64 y.a, .int .i64 y.b, .int .u64 y.n, .int .i64 y.block.kind, .int .i64 y.block.val, .int .i64 y.block.index, .slice P0 y.types.length p0, .slice P1 y.labels.length p1], .agg #[.int .i64 y.op, .int .i64 y.a, .int .i64 y.b, .int .u64 y.n, .int .i64 y.block.kind, .int .i64 y.block.val, .int .i64 y.block.index, .slice Q0 y.types.length q0, .slice Q1 y.labels.length q1]] X (YesTo X)) := hid fun X f => kHA y S T X (kAH hr f HS.o i2) (kAH hr' f HT.o i2) (fun k hk => ltl (HS.o k hk) f.size) (fun k hk => ltl (HT.o k hk) f.size) hby
   have i0 := nki k
   have i1 : (k : Int) < n := om
   clear hc hc' hr hr' hb hb' hb1 hb2 hlk h0_l h0_c h0 g0_l g0_c g0 h1_l h1_c h1 g1_l g1_c g1 hby
   go_wp2_with fail
   refine rwO (Fr No wr) [] (List.range 10) [8] (Fr.refl _ wr).drew ?_
   have FZ := hid (Fr.refl No wr).drew
   refine rO HX.o ?_
   refine wpO_eff rfl rfl fun K hK => sz ?_
   refine (HC0.o _ (FR.o.trans FZ.o i3)).mono ?_
   rintro e wz0 ⟨rfl, f⟩
   replace FZ := ftr FZ f
   clear f
   refine hK _ _ (fun _ => FZ.o) ?_
   clear hK K
   refine rO HX.o ?_
   refine wpO_nil ?_
   have FX := ftr FR FZ.o
   clear HX FZ HC0
   exact yy24
 exact yy41
theorem kFR (A B : OA) (c d : Nat) (xs : List Fn) (S T : Nat → Prop) (w : World) (ha : tFn.els w S A xs) (hb : tFn.els w T B xs) (hS : Lt S w) (hT : Lt T w) (hl : xs.length ≤ 1048576) (hbd : ∀ x ∈ xs, FnB x) :
    Calls prog 142 #[.slice A xs.length c, .slice B xs.length d] w (YesTo w) := by
 have HE := hid ha
 have HF := hid hb
 have HS := hid hS
 have HT := hid hT
 have HB := hid hbd
 clear ha hb hS hT hbd
 obtain ⟨n, hn⟩ : ∃ n, xs.length = n := ⟨_, rfl⟩
 have HN := hid hn
 rw [hn] at hl ⊢
 clear hn
 go_enter func142, ntmps142
 go_wp2_with fail
 go_loopw [5] (fun i wr => ∃ k : Nat, k ≤ n ∧ i = .int .i64 k ∧ Hid (Fr No w wr)) (fun i _ => n - (intOf i).toNat)
 case atStart => exact ⟨0, nz, rfl, hid (Fr.refl No w)⟩
 obtain ⟨k, hk, rfl, FR⟩ := hrel
 by_cases hlt : k < n
 · have hlk : k < xs.length := by have := HN.o; omega
   obtain ⟨b, o, ds, rfl, hb, hc, hr⟩ := HE.o.at_ k hlk
   obtain ⟨b', o', ds', rfl, hb', hc', hr'⟩ := HF.o.at_ k hlk
   have hby := HB.o _ (List.getElem_mem hlk)
   generalize xs[k] = y at *
   obtain ⟨P0, p0, P1, p1, rfl, h0_l, h0_c, h0, h1_l, h1_c, h1⟩ := Fn_cells hr
   obtain ⟨Q0, q0, Q1, q1, rfl, g0_l, g0_c, g0, g1_l, g1_c, g1⟩ := Fn_cells hr'
   have hb1 := HS.o b hb
   have hb2 := HT.o b' hb'
   have HX : Hid (∀ X, Fr No wr X → Ce X b (o + k * 2) (.slice P0 y.params.length p0) ∧ Ce X b (o + k * 2 + 1) (.slice P1 y.results.length p1) ∧ Ce X b' (o' + k * 2) (.slice Q0 y.params.length q0) ∧ Ce X b' (o' + k * 2 + 1) (.slice Q1 y.results.length q1)) := hid fun X f => by
    have g := FR.o.trans f i3
    exact ⟨(g.cell (p := ⟨b, o + k * 2, none⟩) hb1 id).trans (by have h := hc 0 _ rfl; rwa [show o + (k * tFn.size + 0) = o + k * 2 by show o + (k * 2 + 0) = o + k * 2; omega] at h), (g.cell (p := ⟨b, o + k * 2 + 1, none⟩) hb1 id).trans (by have h := hc 1 _ rfl; rwa [show o + (k * tFn.size + 1) = o + k * 2 + 1 by show o + (k * 2 + 1) = o + k * 2 + 1; omega] at h), (g.cell (p := ⟨b', o' + k * 2, none⟩) hb2 id).trans (by have h := hc' 0 _ rfl; rwa [show o' + (k * tFn.size + 0) = o' + k * 2 by show o' + (k * 2 + 0) = o' + k * 2; omega] at h), (g.cell (p := ⟨b', o' + k * 2 + 1, none⟩) hb2 id).trans (by have h := hc' 1 _ rfl; rwa [show o' + (k * tFn.size + 1) = o' + k * 2 + 1 by show o' + (k * 2 + 1) = o' + k * 2 + 1; omega] at h)⟩
   have HC0 : Hid (∀ X, Fr No w X → Calls prog 48 #[.agg #[.slice P0 y.params.length p0, .slice P1 y.results.length p1], .agg #[.slice Q0 y.params.length q0, .slice Q1 y.results.length q1]] X (YesTo X)) := hid fun X f => (kCV y y P0 P1 Q0 Q1 p0 p1 q0 q1 S T X (fun k hk => ltl (HS.o k hk) f.size) (fun k hk => ltl (HT.o k hk) f.size) (kAA h0 f HS.o i2) (kAA h1 f HS.o i2) (kAA g0 f HT.o i2) (kAA g1 f HT.o i2) (by have := hby.1; omega) (by have := hby.2; omega) (by have := hby.1; omega) (by have := hby.2; omega)).mono (fun e w' h => ⟨by rw [h.1, kGJ], h.2⟩)
   have i0 := nki k
   have i1 : (k : Int) < n := om
   clear hc hc' hr hr' hb hb' hb1 hb2 hlk h0_l h0_c h0 g0_l g0_c g0 h1_l h1_c h1 g1_l g1_c g1 hby
   go_wp2_with fail
   refine rwO (Fr No wr) [] (List.range 10) [8] (Fr.refl _ wr).drew ?_
   have FZ := hid (Fr.refl No wr).drew
   refine rO HX.o ?_
   refine wpO_eff rfl rfl fun K hK => sz ?_
   refine (HC0.o _ (FR.o.trans FZ.o i3)).mono ?_
   rintro e wz0 ⟨rfl, f⟩
   replace FZ := ftr FZ f
   clear f
   refine hK _ _ (fun _ => FZ.o) ?_
   clear hK K
   refine rO HX.o ?_
   refine wpO_nil ?_
   have FX := ftr FR FZ.o
   clear HX FZ HC0
   exact yy24
 exact yy41
theorem kFU (A B : OA) (c d : Nat) (xs : List Cd) (S T : Nat → Prop) (w : World) (ha : tCd.els w S A xs) (hb : tCd.els w T B xs) (hS : Lt S w) (hT : Lt T w) (hl : xs.length ≤ 1048576) (hbd : ∀ x ∈ xs, CdB x) :
    Calls prog 144 #[.slice A xs.length c, .slice B xs.length d] w (YesTo w) := by
 have HE := hid ha
 have HF := hid hb
 have HS := hid hS
 have HT := hid hT
 have HB := hid hbd
 clear ha hb hS hT hbd
 obtain ⟨n, hn⟩ : ∃ n, xs.length = n := ⟨_, rfl⟩
 have HN := hid hn
 rw [hn] at hl ⊢
 clear hn
 go_enter func144, ntmps144
 go_wp2_with fail
 go_loopw [5] (fun i wr => ∃ k : Nat, k ≤ n ∧ i = .int .i64 k ∧ Hid (Fr No w wr)) (fun i _ => n - (intOf i).toNat)
 case atStart => exact ⟨0, nz, rfl, hid (Fr.refl No w)⟩
 obtain ⟨k, hk, rfl, FR⟩ := hrel
 by_cases hlt : k < n
 · have hlk : k < xs.length := by have := HN.o; omega
   obtain ⟨b, o, ds, rfl, hb, hc, hr⟩ := HE.o.at_ k hlk
   obtain ⟨b', o', ds', rfl, hb', hc', hr'⟩ := HF.o.at_ k hlk
   have hby := HB.o _ (List.getElem_mem hlk)
   generalize xs[k] = y at *
   obtain ⟨P0, p0, P1, p1, rfl, -, h0_l, h0_c, h0, h1_l, h1_c, h1⟩ := kFQ hr
   obtain ⟨Q0, q0, Q1, q1, rfl, -, g0_l, g0_c, g0, g1_l, g1_c, g1⟩ := kFQ hr'
   have hb1 := HS.o b hb
   have hb2 := HT.o b' hb'
   have HX : Hid (∀ X, Fr No wr X → Ce X b (o + k * 3) (.int .i64 y.type) ∧ Ce X b (o + k * 3 + 1) (.slice P0 y.locals.length p0) ∧ Ce X b (o + k * 3 + 2) (.slice P1 y.body.length p1) ∧ Ce X b' (o' + k * 3) (.int .i64 y.type) ∧ Ce X b' (o' + k * 3 + 1) (.slice Q0 y.locals.length q0) ∧ Ce X b' (o' + k * 3 + 2) (.slice Q1 y.body.length q1)) := hid fun X f => by
    have g := FR.o.trans f i3
    exact ⟨(g.cell (p := ⟨b, o + k * 3, none⟩) hb1 id).trans (by have h := hc 0 _ rfl; rwa [show o + (k * tCd.size + 0) = o + k * 3 by show o + (k * 3 + 0) = o + k * 3; omega] at h), (g.cell (p := ⟨b, o + k * 3 + 1, none⟩) hb1 id).trans (by have h := hc 1 _ rfl; rwa [show o + (k * tCd.size + 1) = o + k * 3 + 1 by show o + (k * 3 + 1) = o + k * 3 + 1; omega] at h), (g.cell (p := ⟨b, o + k * 3 + 2, none⟩) hb1 id).trans (by have h := hc 2 _ rfl; rwa [show o + (k * tCd.size + 2) = o + k * 3 + 2 by show o + (k * 3 + 2) = o + k * 3 + 2; omega] at h), (g.cell (p := ⟨b', o' + k * 3, none⟩) hb2 id).trans (by have h := hc' 0 _ rfl; rwa [show o' + (k * tCd.size + 0) = o' + k * 3 by show o' + (k * 3 + 0) = o' + k * 3; omega] at h), (g.cell (p := ⟨b', o' + k * 3 + 1, none⟩) hb2 id).trans (by have h := hc' 1 _ rfl; rwa [show o' + (k * tCd.size + 1) = o' + k * 3 + 1 by show o' + (k * 3 + 1) = o' + k * 3 + 1; omega] at h), (g.cell (p := ⟨b', o' + k * 3 + 2, none⟩) hb2 id).trans (by have h := hc' 2 _ rfl; rwa [show o' + (k * tCd.size + 2) = o' + k * 3 + 2 by show o' + (k * 3 + 2) = o' + k * 3 + 2; omega] at h)⟩
   have HC0 : Hid (∀ X, Fr No w X → Calls prog 137 #[.slice P0 y.locals.length p0, .slice Q0 y.locals.length q0] X (YesTo X)) := hid fun X f => (kDn P0 Q0 y.locals y.locals p0 q0 S T X (kAA h0 f HS.o i2) (kAA g0 f HT.o i2) (by have := hby.1; omega) (by have := hby.1; omega)).mono (fun e w' h => YesTo.of_vals h)
   have HC1 : Hid (∀ X, Fr No w X → Calls prog 194 #[.slice P1 y.body.length p1, .slice Q1 y.body.length q1] X (YesTo X)) := hid fun X f => kBb P1 Q1 p1 q1 y.body S T X (kAA h1 f HS.o i2) (kAA g1 f HT.o i2) (fun k hk => ltl (HS.o k hk) f.size) (fun k hk => ltl (HT.o k hk) f.size) hby.2.1 hby.2.2
   have i0 := nki k
   have i1 : (k : Int) < n := om
   clear hc hc' hr hr' hb hb' hb1 hb2 hlk h0_l h0_c h0 g0_l g0_c g0 h1_l h1_c h1 g1_l g1_c g1 hby
   go_wp2_with fail
   refine rwO (Fr No wr) [] (List.range 39) [22, 36] (Fr.refl _ wr).drew ?_
   have FZ := hid (Fr.refl No wr).drew
   refine rO HX.o ?_
   refine wpO_eff rfl rfl fun K hK => sz ?_
   refine (HC0.o _ (FR.o.trans FZ.o i3)).mono ?_
   rintro e wz0 ⟨rfl, f⟩
   replace FZ := ftr FZ f
   clear f
   refine hK _ _ (fun _ => FZ.o) ?_
   clear hK K
   refine rO HX.o ?_
   refine wpO_eff rfl rfl fun K hK => sz ?_
   refine (HC1.o _ (FR.o.trans FZ.o i3)).mono ?_
   rintro e wz1 ⟨rfl, f⟩
   replace FZ := ftr FZ f
   clear f
   refine hK _ _ (fun _ => FZ.o) ?_
   clear hK K
   refine rO HX.o ?_
   refine wpO_nil ?_
   have FX := ftr FR FZ.o
   clear HX FZ HC0 HC1
   exact yy24
 exact yy41
theorem kEl (A B : OA) (c d : Nat) (xs : List Gd) (S T : Nat → Prop) (w : World) (ha : tGd.els w S A xs) (hb : tGd.els w T B xs) (hS : Lt S w) (hT : Lt T w) (hl : xs.length ≤ 1048576) (hbd : ∀ x ∈ xs, GdB x) :
    Calls prog 146 #[.slice A xs.length c, .slice B xs.length d] w (YesTo w) := by
 have HE := hid ha
 have HF := hid hb
 have HS := hid hS
 have HT := hid hT
 have HB := hid hbd
 clear ha hb hS hT hbd
 obtain ⟨n, hn⟩ : ∃ n, xs.length = n := ⟨_, rfl⟩
 have HN := hid hn
 rw [hn] at hl ⊢
 clear hn
 go_enter func146, ntmps146
 go_wp2_with fail
 go_loopw [5] (fun i wr => ∃ k : Nat, k ≤ n ∧ i = .int .i64 k ∧ Hid (Fr No w wr)) (fun i _ => n - (intOf i).toNat)
 case atStart => exact ⟨0, nz, rfl, hid (Fr.refl No w)⟩
 obtain ⟨k, hk, rfl, FR⟩ := hrel
 by_cases hlt : k < n
 · have hlk : k < xs.length := by have := HN.o; omega
   obtain ⟨b, o, ds, rfl, hb, hc, hr⟩ := HE.o.at_ k hlk
   obtain ⟨b', o', ds', rfl, hb', hc', hr'⟩ := HF.o.at_ k hlk
   have hby := HB.o _ (List.getElem_mem hlk)
   generalize xs[k] = y at *
   obtain ⟨P0, p0, rfl, -, h0_l, h0_c, h0⟩ := kFM hr
   obtain ⟨Q0, q0, rfl, -, g0_l, g0_c, g0⟩ := kFM hr'
   have hb1 := HS.o b hb
   have hb2 := HT.o b' hb'
   have HX : Hid (∀ X, Fr No wr X → Ce X b (o + k * 3) (.int .i64 y.type.val) ∧ Ce X b (o + k * 3 + 1) (.bool y.type.mut_) ∧ Ce X b (o + k * 3 + 2) (.slice P0 y.init.length p0) ∧ Ce X b' (o' + k * 3) (.int .i64 y.type.val) ∧ Ce X b' (o' + k * 3 + 1) (.bool y.type.mut_) ∧ Ce X b' (o' + k * 3 + 2) (.slice Q0 y.init.length q0) ∧ (Op.equalIn 10000 54 (.agg #[.int .i64 y.type.val, .bool y.type.mut_]) (.agg #[.int .i64 y.type.val, .bool y.type.mut_])).run prog X = .ok true X) := hid fun X f => by
    have g := FR.o.trans f i3
    exact ⟨(g.cell (p := ⟨b, o + k * 3, none⟩) hb1 id).trans (by have h := hc 0 _ rfl; rwa [show o + (k * tGd.size + 0) = o + k * 3 by show o + (k * 3 + 0) = o + k * 3; omega] at h), (g.cell (p := ⟨b, o + k * 3 + 1, none⟩) hb1 id).trans (by have h := hc 1 _ rfl; rwa [show o + (k * tGd.size + 1) = o + k * 3 + 1 by show o + (k * 3 + 1) = o + k * 3 + 1; omega] at h), (g.cell (p := ⟨b, o + k * 3 + 2, none⟩) hb1 id).trans (by have h := hc 2 _ rfl; rwa [show o + (k * tGd.size + 2) = o + k * 3 + 2 by show o + (k * 3 + 2) = o + k * 3 + 2; omega] at h), (g.cell (p := ⟨b', o' + k * 3, none⟩) hb2 id).trans (by have h := hc' 0 _ rfl; rwa [show o' + (k * tGd.size + 0) = o' + k * 3 by show o' + (k * 3 + 0) = o' + k * 3; omega] at h), (g.cell (p := ⟨b', o' + k * 3 + 1, none⟩) hb2 id).trans (by have h := hc' 1 _ rfl; rwa [show o' + (k * tGd.size + 1) = o' + k * 3 + 1 by show o' + (k * 3 + 1) = o' + k * 3 + 1; omega] at h), (g.cell (p := ⟨b', o' + k * 3 + 2, none⟩) hb2 id).trans (by have h := hc' 2 _ rfl; rwa [show o' + (k * tGd.size + 2) = o' + k * 3 + 2 by show o' + (k * 3 + 2) = o' + k * 3 + 2; omega] at h), kMR y.type 9998 X⟩
   have HC0 : Hid (∀ X, Fr No w X → Calls prog 194 #[.slice P0 y.init.length p0, .slice Q0 y.init.length q0] X (YesTo X)) := hid fun X f => kBb P0 Q0 p0 q0 y.init S T X (kAA h0 f HS.o i2) (kAA g0 f HT.o i2) (fun k hk => ltl (HS.o k hk) f.size) (fun k hk => ltl (HT.o k hk) f.size) hby.1 hby.2
   have i0 := nki k
   have i1 : (k : Int) < n := om
   clear hc hc' hr hr' hb hb' hb1 hb2 hlk h0_l h0_c h0 g0_l g0_c g0 hby
   go_wp2_with fail
   refine rwO (Fr No wr) [] (List.range 25) [22] (Fr.refl _ wr).drew ?_
   have FZ := hid (Fr.refl No wr).drew
   refine rO HX.o ?_
   refine wpO_eff rfl rfl fun K hK => sz ?_
   refine (HC0.o _ (FR.o.trans FZ.o i3)).mono ?_
   rintro e wz0 ⟨rfl, f⟩
   replace FZ := ftr FZ f
   clear f
   refine hK _ _ (fun _ => FZ.o) ?_
   clear hK K
   refine rO HX.o ?_
   refine wpO_nil ?_
   have FX := ftr FR FZ.o
   clear HX FZ HC0
   exact yy24
 exact yy41
theorem kEp (A B : OA) (c d : Nat) (xs : List Ex) (S T : Nat → Prop) (w : World) (ha : tEx.els w S A xs) (hb : tEx.els w T B xs) (hS : Lt S w) (hT : Lt T w) (hl : xs.length ≤ 1048576) :
    Calls prog 147 #[.slice A xs.length c, .slice B xs.length d] w (YesTo w) := by
 have HE := hid ha
 have HF := hid hb
 have HS := hid hS
 have HT := hid hT
 clear ha hb hS hT
 obtain ⟨n, hn⟩ : ∃ n, xs.length = n := ⟨_, rfl⟩
 have HN := hid hn
 rw [hn] at hl ⊢
 clear hn
 go_enter func147, ntmps147
 go_wp2_with fail
 go_loopw [5] (fun i wr => ∃ k : Nat, k ≤ n ∧ i = .int .i64 k ∧ Hid (Fr No w wr)) (fun i _ => n - (intOf i).toNat)
 case atStart => exact ⟨0, nz, rfl, hid (Fr.refl No w)⟩
 obtain ⟨k, hk, rfl, FR⟩ := hrel
 by_cases hlt : k < n
 · have hlk : k < xs.length := by have := HN.o; omega
   obtain ⟨b, o, ds, rfl, hb, hc, hr⟩ := HE.o.at_ k hlk
   obtain ⟨b', o', ds', rfl, hb', hc', hr'⟩ := HF.o.at_ k hlk
   generalize xs[k] = y at *
   obtain ⟨rfl, -, -, -⟩ := kID hr
   obtain ⟨rfl, -, -, -⟩ := kID hr'
   have hb1 := HS.o b hb
   have hb2 := HT.o b' hb'
   have HX : Hid (∀ X, Fr No wr X → Ce X b (o + k * 3) (.string y.name) ∧ Ce X b (o + k * 3 + 1) (.int .i64 y.kind) ∧ Ce X b (o + k * 3 + 2) (.int .i64 y.index) ∧ Ce X b' (o' + k * 3) (.string y.name) ∧ Ce X b' (o' + k * 3 + 1) (.int .i64 y.kind) ∧ Ce X b' (o' + k * 3 + 2) (.int .i64 y.index) ∧ (Op.equalIn 10000 297 (.agg #[.string y.name, .int .i64 y.kind, .int .i64 y.index]) (.agg #[.string y.name, .int .i64 y.kind, .int .i64 y.index])).run prog X = .ok true X) := hid fun X f => by
    have g := FR.o.trans f i3
    exact ⟨(g.cell (p := ⟨b, o + k * 3, none⟩) hb1 id).trans (by have h := hc 0 _ rfl; rwa [show o + (k * tEx.size + 0) = o + k * 3 by show o + (k * 3 + 0) = o + k * 3; omega] at h), (g.cell (p := ⟨b, o + k * 3 + 1, none⟩) hb1 id).trans (by have h := hc 1 _ rfl; rwa [show o + (k * tEx.size + 1) = o + k * 3 + 1 by show o + (k * 3 + 1) = o + k * 3 + 1; omega] at h), (g.cell (p := ⟨b, o + k * 3 + 2, none⟩) hb1 id).trans (by have h := hc 2 _ rfl; rwa [show o + (k * tEx.size + 2) = o + k * 3 + 2 by show o + (k * 3 + 2) = o + k * 3 + 2; omega] at h), (g.cell (p := ⟨b', o' + k * 3, none⟩) hb2 id).trans (by have h := hc' 0 _ rfl; rwa [show o' + (k * tEx.size + 0) = o' + k * 3 by show o' + (k * 3 + 0) = o' + k * 3; omega] at h), (g.cell (p := ⟨b', o' + k * 3 + 1, none⟩) hb2 id).trans (by have h := hc' 1 _ rfl; rwa [show o' + (k * tEx.size + 1) = o' + k * 3 + 1 by show o' + (k * 3 + 1) = o' + k * 3 + 1; omega] at h), (g.cell (p := ⟨b', o' + k * 3 + 2, none⟩) hb2 id).trans (by have h := hc' 2 _ rfl; rwa [show o' + (k * tEx.size + 2) = o' + k * 3 + 2 by show o' + (k * 3 + 2) = o' + k * 3 + 2; omega] at h), kOP y 9998 X⟩
   have i0 := nki k
   have i1 : (k : Int) < n := om
   clear hc hc' hr hr' hb hb' hb1 hb2 hlk
   go_wp2_with fail
   refine rwO (Fr No wr) [] (List.range 9) [] (Fr.refl _ wr).drew ?_
   exact yy17
 exact yy41
theorem kEr (A B : OA) (c d : Nat) (xs : List Cu) (S T : Nat → Prop) (w : World) (ha : tCu.els w S A xs) (hb : tCu.els w T B xs) (hS : Lt S w) (hT : Lt T w) (hl : xs.length ≤ 1048576) (hbd : ∀ x ∈ xs, CuB x) :
    Calls prog 150 #[.slice A xs.length c, .slice B xs.length d] w (YesTo w) := by
 have HE := hid ha
 have HF := hid hb
 have HS := hid hS
 have HT := hid hT
 have HB := hid hbd
 clear ha hb hS hT hbd
 obtain ⟨n, hn⟩ : ∃ n, xs.length = n := ⟨_, rfl⟩
 have HN := hid hn
 rw [hn] at hl ⊢
 clear hn
 go_enter func150, ntmps150
 go_wp2_with fail
 go_loopw [5] (fun i wr => ∃ k : Nat, k ≤ n ∧ i = .int .i64 k ∧ Hid (Fr No w wr)) (fun i _ => n - (intOf i).toNat)
 case atStart => exact ⟨0, nz, rfl, hid (Fr.refl No w)⟩
 obtain ⟨k, hk, rfl, FR⟩ := hrel
 by_cases hlt : k < n
 · have hlk : k < xs.length := by have := HN.o; omega
   obtain ⟨b, o, ds, rfl, hb, hc, hr⟩ := HE.o.at_ k hlk
   obtain ⟨b', o', ds', rfl, hb', hc', hr'⟩ := HF.o.at_ k hlk
   have hby := HB.o _ (List.getElem_mem hlk)
   generalize xs[k] = y at *
   obtain ⟨P0, p0, rfl, -, -, h0_l, h0_c, h0⟩ := kFP hr
   obtain ⟨Q0, q0, rfl, -, -, g0_l, g0_c, g0⟩ := kFP hr'
   have hb1 := HS.o b hb
   have hb2 := HT.o b' hb'
   have HX : Hid (∀ X, Fr No wr X → Ce X b (o + k * 3) (.int .i64 y.after) ∧ Ce X b (o + k * 3 + 1) (.string y.name) ∧ Ce X b (o + k * 3 + 2) (.slice P0 y.bytes.length p0) ∧ Ce X b' (o' + k * 3) (.int .i64 y.after) ∧ Ce X b' (o' + k * 3 + 1) (.string y.name) ∧ Ce X b' (o' + k * 3 + 2) (.slice Q0 y.bytes.length q0) ∧ (convert 59 9 (.slice P0 y.bytes.length p0)).run prog X = .ok (.string (strU y.bytes)) X ∧ (convert 59 9 (.slice Q0 y.bytes.length q0)).run prog X = .ok (.string (strU y.bytes)) X) := hid fun X f => by
    have g := FR.o.trans f i3
    exact ⟨(g.cell (p := ⟨b, o + k * 3, none⟩) hb1 id).trans (by have h := hc 0 _ rfl; rwa [show o + (k * tCu.size + 0) = o + k * 3 by show o + (k * 3 + 0) = o + k * 3; omega] at h), (g.cell (p := ⟨b, o + k * 3 + 1, none⟩) hb1 id).trans (by have h := hc 1 _ rfl; rwa [show o + (k * tCu.size + 1) = o + k * 3 + 1 by show o + (k * 3 + 1) = o + k * 3 + 1; omega] at h), (g.cell (p := ⟨b, o + k * 3 + 2, none⟩) hb1 id).trans (by have h := hc 2 _ rfl; rwa [show o + (k * tCu.size + 2) = o + k * 3 + 2 by show o + (k * 3 + 2) = o + k * 3 + 2; omega] at h), (g.cell (p := ⟨b', o' + k * 3, none⟩) hb2 id).trans (by have h := hc' 0 _ rfl; rwa [show o' + (k * tCu.size + 0) = o' + k * 3 by show o' + (k * 3 + 0) = o' + k * 3; omega] at h), (g.cell (p := ⟨b', o' + k * 3 + 1, none⟩) hb2 id).trans (by have h := hc' 1 _ rfl; rwa [show o' + (k * tCu.size + 1) = o' + k * 3 + 1 by show o' + (k * 3 + 1) = o' + k * 3 + 1; omega] at h), (g.cell (p := ⟨b', o' + k * 3 + 2, none⟩) hb2 id).trans (by have h := hc' 2 _ rfl; rwa [show o' + (k * tCu.size + 2) = o' + k * 3 + 2 by show o' + (k * 3 + 2) = o' + k * 3 + 2; omega] at h), (kBI p0 (kAA h0 g HS.o i2)).1, (kBI q0 (kAA g0 g HT.o i2)).1⟩
   have i0 := nki k
   have i1 : (k : Int) < n := om
   clear hc hc' hr hr' hb hb' hb1 hb2 hlk h0_l h0_c h0 g0_l g0_c g0 hby
   go_wp2_with fail
   refine rwO (Fr No wr) [] (List.range 39) [] (Fr.refl _ wr).drew ?_
   exact yy17
 exact yy41
theorem kFe (A B : OA) (c d : Nat) (xs : List Da) (S T : Nat → Prop) (w : World) (ha : tDa.els w S A xs) (hb : tDa.els w T B xs) (hS : Lt S w) (hT : Lt T w) (hl : xs.length ≤ 1048576) (hbd : ∀ x ∈ xs, DaB x) :
    Calls prog 149 #[.slice A xs.length c, .slice B xs.length d] w (YesTo w) := by
 have HE := hid ha
 have HF := hid hb
 have HS := hid hS
 have HT := hid hT
 have HB := hid hbd
 clear ha hb hS hT hbd
 obtain ⟨n, hn⟩ : ∃ n, xs.length = n := ⟨_, rfl⟩
 have HN := hid hn
 rw [hn] at hl ⊢
 clear hn
 go_enter func149, ntmps149
 go_wp2_with fail
 go_loopw [5] (fun i wr => ∃ k : Nat, k ≤ n ∧ i = .int .i64 k ∧ Hid (Fr No w wr)) (fun i _ => n - (intOf i).toNat)
 case atStart => exact ⟨0, nz, rfl, hid (Fr.refl No w)⟩
 obtain ⟨k, hk, rfl, FR⟩ := hrel
 by_cases hlt : k < n
 · have hlk : k < xs.length := by have := HN.o; omega
   obtain ⟨b, o, ds, rfl, hb, hc, hr⟩ := HE.o.at_ k hlk
   obtain ⟨b', o', ds', rfl, hb', hc', hr'⟩ := HF.o.at_ k hlk
   have hby := HB.o _ (List.getElem_mem hlk)
   generalize xs[k] = y at *
   obtain ⟨P0, p0, P1, p1, rfl, -, -, h0_l, h0_c, h0, h1_l, h1_c, h1⟩ := kFO hr
   obtain ⟨Q0, q0, Q1, q1, rfl, -, -, g0_l, g0_c, g0, g1_l, g1_c, g1⟩ := kFO hr'
   have hb1 := HS.o b hb
   have hb2 := HT.o b' hb'
   have H0 := hid h0
   have K0 := hid g0
   have H1 := hid h1
   have K1 := hid g1
   have HX : Hid (∀ X, Fr No wr X → Ce X b (o + k * 4) (.int .i64 y.mode) ∧ Ce X b (o + k * 4 + 1) (.int .i64 y.mem) ∧ Ce X b (o + k * 4 + 2) (.slice P0 y.off.length p0) ∧ Ce X b (o + k * 4 + 3) (.slice P1 y.bytes.length p1) ∧ Ce X b' (o' + k * 4) (.int .i64 y.mode) ∧ Ce X b' (o' + k * 4 + 1) (.int .i64 y.mem) ∧ Ce X b' (o' + k * 4 + 2) (.slice Q0 y.off.length q0) ∧ Ce X b' (o' + k * 4 + 3) (.slice Q1 y.bytes.length q1)) := hid fun X f => by
    have g := FR.o.trans f i3
    exact ⟨(g.cell (p := ⟨b, o + k * 4, none⟩) hb1 id).trans (by have h := hc 0 _ rfl; rwa [show o + (k * tDa.size + 0) = o + k * 4 by show o + (k * 4 + 0) = o + k * 4; omega] at h), (g.cell (p := ⟨b, o + k * 4 + 1, none⟩) hb1 id).trans (by have h := hc 1 _ rfl; rwa [show o + (k * tDa.size + 1) = o + k * 4 + 1 by show o + (k * 4 + 1) = o + k * 4 + 1; omega] at h), (g.cell (p := ⟨b, o + k * 4 + 2, none⟩) hb1 id).trans (by have h := hc 2 _ rfl; rwa [show o + (k * tDa.size + 2) = o + k * 4 + 2 by show o + (k * 4 + 2) = o + k * 4 + 2; omega] at h), (g.cell (p := ⟨b, o + k * 4 + 3, none⟩) hb1 id).trans (by have h := hc 3 _ rfl; rwa [show o + (k * tDa.size + 3) = o + k * 4 + 3 by show o + (k * 4 + 3) = o + k * 4 + 3; omega] at h), (g.cell (p := ⟨b', o' + k * 4, none⟩) hb2 id).trans (by have h := hc' 0 _ rfl; rwa [show o' + (k * tDa.size + 0) = o' + k * 4 by show o' + (k * 4 + 0) = o' + k * 4; omega] at h), (g.cell (p := ⟨b', o' + k * 4 + 1, none⟩) hb2 id).trans (by have h := hc' 1 _ rfl; rwa [show o' + (k * tDa.size + 1) = o' + k * 4 + 1 by show o' + (k * 4 + 1) = o' + k * 4 + 1; omega] at h), (g.cell (p := ⟨b', o' + k * 4 + 2, none⟩) hb2 id).trans (by have h := hc' 2 _ rfl; rwa [show o' + (k * tDa.size + 2) = o' + k * 4 + 2 by show o' + (k * 4 + 2) = o' + k * 4 + 2; omega] at h), (g.cell (p := ⟨b', o' + k * 4 + 3, none⟩) hb2 id).trans (by have h := hc' 3 _ rfl; rwa [show o' + (k * tDa.size + 3) = o' + k * 4 + 3 by show o' + (k * 4 + 3) = o' + k * 4 + 3; omega] at h)⟩
   have HC0 : Hid (∀ X, Fr No w X → Calls prog 194 #[.slice P0 y.off.length p0, .slice Q0 y.off.length q0] X (YesTo X)) := hid fun X f => kBb P0 Q0 p0 q0 y.off S T X (kAA h0 f HS.o i2) (kAA g0 f HT.o i2) (fun k hk => ltl (HS.o k hk) f.size) (fun k hk => ltl (HT.o k hk) f.size) hby.1.1 hby.1.2
   have i0 := nki k
   have i1 : (k : Int) < n := om
   clear hc hc' hr hr' hb hb' hb1 hb2 hlk h0_l h0_c h0 g0_l g0_c g0 h1_l h1_c h1 g1_l g1_c g1
   go_upto_region 6 with fail
   go_cut [6, 7] (fun v6 v7 wx => ∃ (q6 q7 : Nat), v6 = .pointer (some ⟨q6, 0, none⟩) ∧ v7 = .pointer (some ⟨q7, 0, none⟩) ∧ Hid (Blk wx q6 316 #[.int .i64 y.mode, .int .i64 y.mem, .slice P0 y.off.length p0, .slice P1 y.bytes.length p1]) ∧ Hid (Blk wx q7 316 #[.int .i64 y.mode, .int .i64 y.mem, .slice Q0 y.off.length q0, .slice Q1 y.bytes.length q1]) ∧ Hid (Fr No wr wx))
   case first =>
    exact yy13
   obtain ⟨q6, q7, rfl, rfl, D6, D7, F4⟩ := hcut
   have FX := ftr FR F4.o
   clear HX
   have u0 := D6.o.cell 0
   have v0 := D7.o.cell 0
   have u1 := D6.o.cell 1
   have v1 := D7.o.cell 1
   have u2 := D6.o.cell 2
   have v2 := D7.o.cell 2
   have u3 := D6.o.cell 3
   have v3 := D7.o.cell 3
   go_wp2_with fail
   refine (HC0.o _ FX.o).mono ?_
   rintro e w5 ⟨rfl, f⟩
   replace FX := ftr FX f
   replace D6 := hid (D6.o.fr f id)
   replace D7 := hid (D7.o.fr f id)
   clear f u0 v0 u1 v1 u2 v2 u3 v3
   have u3 := D6.o.cell 3
   have v3 := D7.o.cell 3
   have hv1 := (kBI p1 (kAA H1.o FX.o HS.o i2)).1
   have hv2 := (kBI q1 (kAA K1.o FX.o HT.o i2)).1
   go_wp2_with fail
   clear hv1 hv2 u3 v3
   go_round
   case rel => exact ⟨k + 1, by omega, by go_num, FX⟩
   simp [intOf]; omega
 exact yy41
theorem kFZ (A B : OA) (c d : Nat) (xs : List El) (S T : Nat → Prop) (w : World) (ha : tEl.els w S A xs) (hb : tEl.els w T B xs) (hS : Lt S w) (hT : Lt T w) (hl : xs.length ≤ 1048576) (hbd : ∀ x ∈ xs, ElB x) :
    Calls prog 148 #[.slice A xs.length c, .slice B xs.length d] w (YesTo w) := by
 have HE := hid ha
 have HF := hid hb
 have HS := hid hS
 have HT := hid hT
 have HB := hid hbd
 clear ha hb hS hT hbd
 obtain ⟨n, hn⟩ : ∃ n, xs.length = n := ⟨_, rfl⟩
 have HN := hid hn
 rw [hn] at hl ⊢
 clear hn
 go_enter func148, ntmps148
 go_wp2_with fail
 go_loopw [5] (fun i wr => ∃ k : Nat, k ≤ n ∧ i = .int .i64 k ∧ Hid (Fr No w wr)) (fun i _ => n - (intOf i).toNat)
 case atStart => exact ⟨0, nz, rfl, hid (Fr.refl No w)⟩
 obtain ⟨k, hk, rfl, FR⟩ := hrel
 by_cases hlt : k < n
 · have hlk : k < xs.length := by have := HN.o; omega
   obtain ⟨b, o, ds, rfl, hb, hc, hr⟩ := HE.o.at_ k hlk
   obtain ⟨b', o', ds', rfl, hb', hc', hr'⟩ := HF.o.at_ k hlk
   have hby := HB.o _ (List.getElem_mem hlk)
   generalize xs[k] = y at *
   obtain ⟨P0, p0, P1, p1, rfl, -, -, h0_l, h0_c, h0, -, h1_l, h1_c, h1⟩ := kFN hr
   obtain ⟨Q0, q0, Q1, q1, rfl, -, -, g0_l, g0_c, g0, -, g1_l, g1_c, g1⟩ := kFN hr'
   have hb1 := HS.o b hb
   have hb2 := HT.o b' hb'
   have H0 := hid h0
   have K0 := hid g0
   have H1 := hid h1
   have K1 := hid g1
   have HX : Hid (∀ X, Fr No wr X → Ce X b (o + k * 5) (.int .i64 y.mode) ∧ Ce X b (o + k * 5 + 1) (.int .i64 y.table) ∧ Ce X b (o + k * 5 + 2) (.slice P0 y.off.length p0) ∧ Ce X b (o + k * 5 + 3) (.int .i64 y.type) ∧ Ce X b (o + k * 5 + 4) (.slice P1 y.items.length p1) ∧ Ce X b' (o' + k * 5) (.int .i64 y.mode) ∧ Ce X b' (o' + k * 5 + 1) (.int .i64 y.table) ∧ Ce X b' (o' + k * 5 + 2) (.slice Q0 y.off.length q0) ∧ Ce X b' (o' + k * 5 + 3) (.int .i64 y.type) ∧ Ce X b' (o' + k * 5 + 4) (.slice Q1 y.items.length q1)) := hid fun X f => by
    have g := FR.o.trans f i3
    exact ⟨(g.cell (p := ⟨b, o + k * 5, none⟩) hb1 id).trans (by have h := hc 0 _ rfl; rwa [show o + (k * tEl.size + 0) = o + k * 5 by show o + (k * 5 + 0) = o + k * 5; omega] at h), (g.cell (p := ⟨b, o + k * 5 + 1, none⟩) hb1 id).trans (by have h := hc 1 _ rfl; rwa [show o + (k * tEl.size + 1) = o + k * 5 + 1 by show o + (k * 5 + 1) = o + k * 5 + 1; omega] at h), (g.cell (p := ⟨b, o + k * 5 + 2, none⟩) hb1 id).trans (by have h := hc 2 _ rfl; rwa [show o + (k * tEl.size + 2) = o + k * 5 + 2 by show o + (k * 5 + 2) = o + k * 5 + 2; omega] at h), (g.cell (p := ⟨b, o + k * 5 + 3, none⟩) hb1 id).trans (by have h := hc 3 _ rfl; rwa [show o + (k * tEl.size + 3) = o + k * 5 + 3 by show o + (k * 5 + 3) = o + k * 5 + 3; omega] at h), (g.cell (p := ⟨b, o + k * 5 + 4, none⟩) hb1 id).trans (by have h := hc 4 _ rfl; rwa [show o + (k * tEl.size + 4) = o + k * 5 + 4 by show o + (k * 5 + 4) = o + k * 5 + 4; omega] at h), (g.cell (p := ⟨b', o' + k * 5, none⟩) hb2 id).trans (by have h := hc' 0 _ rfl; rwa [show o' + (k * tEl.size + 0) = o' + k * 5 by show o' + (k * 5 + 0) = o' + k * 5; omega] at h), (g.cell (p := ⟨b', o' + k * 5 + 1, none⟩) hb2 id).trans (by have h := hc' 1 _ rfl; rwa [show o' + (k * tEl.size + 1) = o' + k * 5 + 1 by show o' + (k * 5 + 1) = o' + k * 5 + 1; omega] at h), (g.cell (p := ⟨b', o' + k * 5 + 2, none⟩) hb2 id).trans (by have h := hc' 2 _ rfl; rwa [show o' + (k * tEl.size + 2) = o' + k * 5 + 2 by show o' + (k * 5 + 2) = o' + k * 5 + 2; omega] at h), (g.cell (p := ⟨b', o' + k * 5 + 3, none⟩) hb2 id).trans (by have h := hc' 3 _ rfl; rwa [show o' + (k * tEl.size + 3) = o' + k * 5 + 3 by show o' + (k * 5 + 3) = o' + k * 5 + 3; omega] at h), (g.cell (p := ⟨b', o' + k * 5 + 4, none⟩) hb2 id).trans (by have h := hc' 4 _ rfl; rwa [show o' + (k * tEl.size + 4) = o' + k * 5 + 4 by show o' + (k * 5 + 4) = o' + k * 5 + 4; omega] at h)⟩
   have HC0 : Hid (∀ X, Fr No w X → Calls prog 194 #[.slice P0 y.off.length p0, .slice Q0 y.off.length q0] X (YesTo X)) := hid fun X f => kBb P0 Q0 p0 q0 y.off S T X (kAA h0 f HS.o i2) (kAA g0 f HT.o i2) (fun k hk => ltl (HS.o k hk) f.size) (fun k hk => ltl (HT.o k hk) f.size) hby.1.1 hby.1.2
   have HBI := hid hby.2.2
   obtain ⟨ni, hni⟩ : ∃ n, y.items.length = n := ⟨_, rfl⟩
   have NI := hid hni
   rw [hni] at HX
   have hnl : ni ≤ 1048576 := by rw [← hni]; exact hby.2.1
   have i0 := nki k
   have i1 : (k : Int) < n := om
   clear hc hc' hr hr' hb hb' hb1 hb2 hlk h0_l h0_c h0 g0_l g0_c g0 h1_l h1_c h1 g1_l g1_c g1
   go_upto_region 6 with fail
   go_cut [6, 7] (fun v6 v7 wx => ∃ (q6 q7 : Nat), v6 = .pointer (some ⟨q6, 0, none⟩) ∧ v7 = .pointer (some ⟨q7, 0, none⟩) ∧ Hid (Blk wx q6 311 #[.int .i64 y.mode, .int .i64 y.table, .slice P0 y.off.length p0, .int .i64 y.type, .slice P1 ni p1]) ∧ Hid (Blk wx q7 311 #[.int .i64 y.mode, .int .i64 y.table, .slice Q0 y.off.length q0, .int .i64 y.type, .slice Q1 ni q1]) ∧ Hid (Fr No wr wx))
   case first =>
    exact yy13
   obtain ⟨q6, q7, rfl, rfl, D6, D7, F4⟩ := hcut
   have FX := ftr FR F4.o
   clear HX
   have u0 := D6.o.cell 0
   have v0 := D7.o.cell 0
   have u1 := D6.o.cell 1
   have v1 := D7.o.cell 1
   have u2 := D6.o.cell 2
   have v2 := D7.o.cell 2
   have u3 := D6.o.cell 3
   have v3 := D7.o.cell 3
   have u4 := D6.o.cell 4
   have v4 := D7.o.cell 4
   go_wp2_with fail
   refine (HC0.o _ FX.o).mono ?_
   rintro e w5 ⟨rfl, f⟩
   replace FX := ftr FX f
   replace D6 := hid (D6.o.fr f id)
   replace D7 := hid (D7.o.fr f id)
   clear f u0 v0 u1 v1 u2 v2 u3 v3 u4 v4
   have u4 := D6.o.cell 4
   have v4 := D7.o.cell 4
   go_wp2_with fail
   clear u4 v4
   go_loopw [8] (fun i wr => ∃ k : Nat, k ≤ ni ∧ i = .int .i64 k ∧ Hid (Fr No w5 wr)) (fun i _ => ni - (intOf i).toNat)
   case atStart => exact ⟨0, nz, rfl, hid (Fr.refl No w5)⟩
   obtain ⟨j, hj, rfl, FJ⟩ := hrel
   have u4 := (D6.o.fr FJ.o id).cell 4
   have v4 := (D7.o.fr FJ.o id).cell 4
   by_cases hlj : j < ni
   · have hlk : j < y.items.length := by have := NI.o; omega
     obtain ⟨bb, oo, ds, rfl, hb, hc, A1, c1, rfl, _, _, hr⟩ := H1.o.at_ j hlk
     obtain ⟨bb', oo', ds', rfl, hb', hc', A2, c2, rfl, _, _, hr'⟩ := K1.o.at_ j hlk
     have hbi := HBI.o _ (List.getElem_mem hlk)
     have hb1 := HS.o bb hb
     have hb2 := HT.o bb' hb'
     have e1 : w.cell? ⟨bb, oo + j, none⟩ = some (.slice A1 y.items[j].length c1) := by
      have h := hc 0 _ rfl
      rwa [show oo + (j * tIns.slice.size + 0) = oo + j by show oo + (j * 1 + 0) = oo + j; omega] at h
     have e2 : w.cell? ⟨bb', oo' + j, none⟩ = some (.slice A2 y.items[j].length c2) := by
      have h := hc' 0 _ rfl
      rwa [show oo' + (j * tIns.slice.size + 0) = oo' + j by show oo' + (j * 1 + 0) = oo' + j; omega] at h
     have HX : Hid (∀ X, Fr No wr X → Ce X q6 4 (.slice (some ⟨bb, oo, none⟩) ni p1) ∧ Ce X q7 4 (.slice (some ⟨bb', oo', none⟩) ni q1) ∧ Ce X bb (oo + j) (.slice A1 y.items[j].length c1) ∧ Ce X bb' (oo' + j) (.slice A2 y.items[j].length c2)) := hid fun X f => by
      have g := FX.o.trans (FJ.o.trans f i3) i3
      exact ⟨((D6.o.fr FJ.o id).fr f id).cell 4, ((D7.o.fr FJ.o id).fr f id).cell 4, (g.cell (p := ⟨bb, oo + j, none⟩) hb1 id).trans e1, (g.cell (p := ⟨bb', oo' + j, none⟩) hb2 id).trans e2⟩
     generalize y.items[j] = it at *
     have HC := hid (fun X (f : Fr No w X) => kBb A1 A2 c1 c2 it S T X (kAA hr f HS.o i2) (kAA hr' f HT.o i2) (fun k hk => ltl (HS.o k hk) f.size) (fun k hk => ltl (HT.o k hk) f.size) hbi.1 hbi.2)
     have j0 := nki j
     have j1 : (j : Int) < ni := om
     clear e1 e2 hlk hb hb' hb1 hb2 hc hc' hr hr' hbi
     go_wp2_with fail
     clear u4 v4
     refine rwO (Fr No wr) [] (List.range 12) [10] (Fr.refl _ wr).drew ?_
     have FZ := hid (Fr.refl No wr).drew
     refine rO HX.o ?_
     refine wpO_eff rfl rfl fun K hK => sz ?_
     refine (HC.o _ (FX.o.trans (FJ.o.trans FZ.o i3) i3)).mono ?_
     rintro e wz ⟨rfl, f⟩
     replace FZ := ftr FZ f
     clear f
     refine hK _ _ (fun _ => FZ.o) ?_
     clear hK K
     refine rO HX.o ?_
     refine wpO_nil ?_
     have FW := ftr FJ FZ.o
     clear HX FZ HC
     go_wp2_with fail
     go_round
     case rel => exact ⟨j + 1, by omega, by go_num, FW⟩
     simp [intOf]; omega
   have hkn : ni = j := om
   subst hkn
   clear hlj
   have FW := ftr FX FJ.o
   go_wp2_with fail
   clear u4 v4
   go_round
   case rel => exact ⟨k + 1, by omega, by go_num, FW⟩
   simp [intOf]; omega
 exact yy41
theorem kEk (A B : OA) (c d : Nat) (xs : List Im) (S T : Nat → Prop) (w : World) (ha : tIm.els w S A xs) (hb : tIm.els w T B xs) (hS : Lt S w) (hT : Lt T w) (hl : xs.length ≤ 1048576) :
    Calls prog 143 #[.slice A xs.length c, .slice B xs.length d] w (YesTo w) := by
 have HE := hid ha
 have HF := hid hb
 have HS := hid hS
 have HT := hid hT
 clear ha hb hS hT
 obtain ⟨n, hn⟩ : ∃ n, xs.length = n := ⟨_, rfl⟩
 have HN := hid hn
 rw [hn] at hl ⊢
 clear hn
 go_enter func143, ntmps143
 go_wp2_with fail
 go_loopw [5] (fun i wr => ∃ k : Nat, k ≤ n ∧ i = .int .i64 k ∧ Hid (Fr No w wr)) (fun i _ => n - (intOf i).toNat)
 case atStart => exact ⟨0, nz, rfl, hid (Fr.refl No w)⟩
 obtain ⟨k, hk, rfl, FR⟩ := hrel
 by_cases hlt : k < n
 · have hlk : k < xs.length := by have := HN.o; omega
   obtain ⟨b, o, ds, rfl, hb, hc, hr⟩ := HE.o.at_ k hlk
   obtain ⟨b', o', ds', rfl, hb', hc', hr'⟩ := HF.o.at_ k hlk
   generalize xs[k] = y at *
   obtain ⟨rfl, -, -, -, -, -, -, -, -, -, -⟩ := kIB hr
   obtain ⟨rfl, -, -, -, -, -, -, -, -, -, -⟩ := kIB hr'
   have hb1 := HS.o b hb
   have hb2 := HT.o b' hb'
   have HX : Hid (∀ X, Fr No wr X → Ce X b (o + k * 13) (.string y.mod) ∧ Ce X b (o + k * 13 + 1) (.string y.name) ∧ Ce X b (o + k * 13 + 2) (.int .i64 y.kind) ∧ Ce X b (o + k * 13 + 3) (.int .i64 y.func) ∧ Ce X b (o + k * 13 + 4) (.int .i64 y.table.elem) ∧ Ce X b (o + k * 13 + 5) (.int .i64 y.table.lim.min) ∧ Ce X b (o + k * 13 + 6) (.int .i64 y.table.lim.max) ∧ Ce X b (o + k * 13 + 7) (.bool y.table.lim.has) ∧ Ce X b (o + k * 13 + 8) (.int .i64 y.mem.min) ∧ Ce X b (o + k * 13 + 9) (.int .i64 y.mem.max) ∧ Ce X b (o + k * 13 + 10) (.bool y.mem.has) ∧ Ce X b (o + k * 13 + 11) (.int .i64 y.glob.val) ∧ Ce X b (o + k * 13 + 12) (.bool y.glob.mut_) ∧ Ce X b' (o' + k * 13) (.string y.mod) ∧ Ce X b' (o' + k * 13 + 1) (.string y.name) ∧ Ce X b' (o' + k * 13 + 2) (.int .i64 y.kind) ∧ Ce X b' (o' + k * 13 + 3) (.int .i64 y.func) ∧ Ce X b' (o' + k * 13 + 4) (.int .i64 y.table.elem) ∧ Ce X b' (o' + k * 13 + 5) (.int .i64 y.table.lim.min) ∧ Ce X b' (o' + k * 13 + 6) (.int .i64 y.table.lim.max) ∧ Ce X b' (o' + k * 13 + 7) (.bool y.table.lim.has) ∧ Ce X b' (o' + k * 13 + 8) (.int .i64 y.mem.min) ∧ Ce X b' (o' + k * 13 + 9) (.int .i64 y.mem.max) ∧ Ce X b' (o' + k * 13 + 10) (.bool y.mem.has) ∧ Ce X b' (o' + k * 13 + 11) (.int .i64 y.glob.val) ∧ Ce X b' (o' + k * 13 + 12) (.bool y.glob.mut_) ∧ (Op.equalIn 10000 292 (.agg #[.string y.mod, .string y.name, .int .i64 y.kind, .int .i64 y.func, .int .i64 y.table.elem, .int .i64 y.table.lim.min, .int .i64 y.table.lim.max, .bool y.table.lim.has, .int .i64 y.mem.min, .int .i64 y.mem.max, .bool y.mem.has, .int .i64 y.glob.val, .bool y.glob.mut_]) (.agg #[.string y.mod, .string y.name, .int .i64 y.kind, .int .i64 y.func, .int .i64 y.table.elem, .int .i64 y.table.lim.min, .int .i64 y.table.lim.max, .bool y.table.lim.has, .int .i64 y.mem.min, .int .i64 y.mem.max, .bool y.mem.has, .int .i64 y.glob.val, .bool y.glob.mut_])).run prog X = .ok true X) := hid fun X f => by
    have g := FR.o.trans f i3
    exact ⟨(g.cell (p := ⟨b, o + k * 13, none⟩) hb1 id).trans (by have h := hc 0 _ rfl; rwa [show o + (k * tIm.size + 0) = o + k * 13 by show o + (k * 13 + 0) = o + k * 13; omega] at h), (g.cell (p := ⟨b, o + k * 13 + 1, none⟩) hb1 id).trans (by have h := hc 1 _ rfl; rwa [show o + (k * tIm.size + 1) = o + k * 13 + 1 by show o + (k * 13 + 1) = o + k * 13 + 1; omega] at h), (g.cell (p := ⟨b, o + k * 13 + 2, none⟩) hb1 id).trans (by have h := hc 2 _ rfl; rwa [show o + (k * tIm.size + 2) = o + k * 13 + 2 by show o + (k * 13 + 2) = o + k * 13 + 2; omega] at h), (g.cell (p := ⟨b, o + k * 13 + 3, none⟩) hb1 id).trans (by have h := hc 3 _ rfl; rwa [show o + (k * tIm.size + 3) = o + k * 13 + 3 by show o + (k * 13 + 3) = o + k * 13 + 3; omega] at h), (g.cell (p := ⟨b, o + k * 13 + 4, none⟩) hb1 id).trans (by have h := hc 4 _ rfl; rwa [show o + (k * tIm.size + 4) = o + k * 13 + 4 by show o + (k * 13 + 4) = o + k * 13 + 4; omega] at h), (g.cell (p := ⟨b, o + k * 13 + 5, none⟩) hb1 id).trans (by have h := hc 5 _ rfl; rwa [show o + (k * tIm.size + 5) = o + k * 13 + 5 by show o + (k * 13 + 5) = o + k * 13 + 5; omega] at h), (g.cell (p := ⟨b, o + k * 13 + 6, none⟩) hb1 id).trans (by have h := hc 6 _ rfl; rwa [show o + (k * tIm.size + 6) = o + k * 13 + 6 by show o + (k * 13 + 6) = o + k * 13 + 6; omega] at h), (g.cell (p := ⟨b, o + k * 13 + 7, none⟩) hb1 id).trans (by have h := hc 7 _ rfl; rwa [show o + (k * tIm.size + 7) = o + k * 13 + 7 by show o + (k * 13 + 7) = o + k * 13 + 7; omega] at h), (g.cell (p := ⟨b, o + k * 13 + 8, none⟩) hb1 id).trans (by have h := hc 8 _ rfl; rwa [show o + (k * tIm.size + 8) = o + k * 13 + 8 by show o + (k * 13 + 8) = o + k * 13 + 8; omega] at h), (g.cell (p := ⟨b, o + k * 13 + 9, none⟩) hb1 id).trans (by have h := hc 9 _ rfl; rwa [show o + (k * tIm.size + 9) = o + k * 13 + 9 by show o + (k * 13 + 9) = o + k * 13 + 9; omega] at h), (g.cell (p := ⟨b, o + k * 13 + 10, none⟩) hb1 id).trans (by have h := hc 10 _ rfl; rwa [show o + (k * tIm.size + 10) = o + k * 13 + 10 by show o + (k * 13 + 10) = o + k * 13 + 10; omega] at h), (g.cell (p := ⟨b, o + k * 13 + 11, none⟩) hb1 id).trans (by have h := hc 11 _ rfl; rwa [show o + (k * tIm.size + 11) = o + k * 13 + 11 by show o + (k * 13 + 11) = o + k * 13 + 11; omega] at h), (g.cell (p := ⟨b, o + k * 13 + 12, none⟩) hb1 id).trans (by have h := hc 12 _ rfl; rwa [show o + (k * tIm.size + 12) = o + k * 13 + 12 by show o + (k * 13 + 12) = o + k * 13 + 12; omega] at h), (g.cell (p := ⟨b', o' + k * 13, none⟩) hb2 id).trans (by have h := hc' 0 _ rfl; rwa [show o' + (k * tIm.size + 0) = o' + k * 13 by show o' + (k * 13 + 0) = o' + k * 13; omega] at h), (g.cell (p := ⟨b', o' + k * 13 + 1, none⟩) hb2 id).trans (by have h := hc' 1 _ rfl; rwa [show o' + (k * tIm.size + 1) = o' + k * 13 + 1 by show o' + (k * 13 + 1) = o' + k * 13 + 1; omega] at h), (g.cell (p := ⟨b', o' + k * 13 + 2, none⟩) hb2 id).trans (by have h := hc' 2 _ rfl; rwa [show o' + (k * tIm.size + 2) = o' + k * 13 + 2 by show o' + (k * 13 + 2) = o' + k * 13 + 2; omega] at h), (g.cell (p := ⟨b', o' + k * 13 + 3, none⟩) hb2 id).trans (by have h := hc' 3 _ rfl; rwa [show o' + (k * tIm.size + 3) = o' + k * 13 + 3 by show o' + (k * 13 + 3) = o' + k * 13 + 3; omega] at h), (g.cell (p := ⟨b', o' + k * 13 + 4, none⟩) hb2 id).trans (by have h := hc' 4 _ rfl; rwa [show o' + (k * tIm.size + 4) = o' + k * 13 + 4 by show o' + (k * 13 + 4) = o' + k * 13 + 4; omega] at h), (g.cell (p := ⟨b', o' + k * 13 + 5, none⟩) hb2 id).trans (by have h := hc' 5 _ rfl; rwa [show o' + (k * tIm.size + 5) = o' + k * 13 + 5 by show o' + (k * 13 + 5) = o' + k * 13 + 5; omega] at h), (g.cell (p := ⟨b', o' + k * 13 + 6, none⟩) hb2 id).trans (by have h := hc' 6 _ rfl; rwa [show o' + (k * tIm.size + 6) = o' + k * 13 + 6 by show o' + (k * 13 + 6) = o' + k * 13 + 6; omega] at h), (g.cell (p := ⟨b', o' + k * 13 + 7, none⟩) hb2 id).trans (by have h := hc' 7 _ rfl; rwa [show o' + (k * tIm.size + 7) = o' + k * 13 + 7 by show o' + (k * 13 + 7) = o' + k * 13 + 7; omega] at h), (g.cell (p := ⟨b', o' + k * 13 + 8, none⟩) hb2 id).trans (by have h := hc' 8 _ rfl; rwa [show o' + (k * tIm.size + 8) = o' + k * 13 + 8 by show o' + (k * 13 + 8) = o' + k * 13 + 8; omega] at h), (g.cell (p := ⟨b', o' + k * 13 + 9, none⟩) hb2 id).trans (by have h := hc' 9 _ rfl; rwa [show o' + (k * tIm.size + 9) = o' + k * 13 + 9 by show o' + (k * 13 + 9) = o' + k * 13 + 9; omega] at h), (g.cell (p := ⟨b', o' + k * 13 + 10, none⟩) hb2 id).trans (by have h := hc' 10 _ rfl; rwa [show o' + (k * tIm.size + 10) = o' + k * 13 + 10 by show o' + (k * 13 + 10) = o' + k * 13 + 10; omega] at h), (g.cell (p := ⟨b', o' + k * 13 + 11, none⟩) hb2 id).trans (by have h := hc' 11 _ rfl; rwa [show o' + (k * tIm.size + 11) = o' + k * 13 + 11 by show o' + (k * 13 + 11) = o' + k * 13 + 11; omega] at h), (g.cell (p := ⟨b', o' + k * 13 + 12, none⟩) hb2 id).trans (by have h := hc' 12 _ rfl; rwa [show o' + (k * tIm.size + 12) = o' + k * 13 + 12 by show o' + (k * 13 + 12) = o' + k * 13 + 12; omega] at h), kOO y 9996 X⟩
   have i0 := nki k
   have i1 : (k : Int) < n := om
   clear hc hc' hr hr' hb hb' hb1 hb2 hlk
   go_wp2_with fail
   refine rwO (Fr No wr) [] (List.range 9) [] (Fr.refl _ wr).drew ?_
   exact yy17
 exact yy41
theorem kFT (m : Md) {ms ns : LV} (S T : Nat → Prop) (w : World) (ha : tMd.rd w S ms m) (hb : tMd.rd w T ns m) (hS : Lt S w) (hT : Lt T w) (hbd : MdB m) :
    Calls prog 145 #[.agg ms.toArray, .agg ns.toArray] w (YesTo w) := by
 obtain ⟨P0, p0, P1, p1, P2, p2, P3, p3, P4, p4, P5, p5, P6, p6, P7, p7, P8, p8, P9, p9, rfl, -, -, h0, -, -, h1, -, -, h2, -, -, h3, -, -, h4, -, -, h5, -, -, h6, -, -, -, h7, -, -, h8, -, -, h9⟩ := kBl ha
 obtain ⟨Q0, q0, Q1, q1, Q2, q2, Q3, q3, Q4, q4, Q5, q5, Q6, q6, Q7, q7, Q8, q8, Q9, q9, rfl, -, -, g0, -, -, g1, -, -, g2, -, -, g3, -, -, g4, -, -, g5, -, -, g6, -, -, -, g7, -, -, g8, -, -, g9⟩ := kBl hb
 have F0 := hid (((Fr.refl No w).alloc (.cells #[.slice P0 m.types.length p0, .slice P1 m.imports.length p1, .slice P2 m.funcs.length p2, .slice P3 m.tables.length p3, .slice P4 m.mems.length p4, .slice P5 m.globals.length p5, .slice P6 m.exports.length p6, .bool m.hasStart, .int .i64 m.start, .slice P7 m.elems.length p7, .slice P8 m.datas.length p8, .slice P9 m.customs.length p9] 71)).alloc (.cells #[.slice Q0 m.types.length q0, .slice Q1 m.imports.length q1, .slice Q2 m.funcs.length q2, .slice Q3 m.tables.length q3, .slice Q4 m.mems.length q4, .slice Q5 m.globals.length q5, .slice Q6 m.exports.length q6, .bool m.hasStart, .int .i64 m.start, .slice Q7 m.elems.length q7, .slice Q8 m.datas.length q8, .slice Q9 m.customs.length q9] 71))
 have G0 := hid ((Blk.new w 71 #[.slice P0 m.types.length p0, .slice P1 m.imports.length p1, .slice P2 m.funcs.length p2, .slice P3 m.tables.length p3, .slice P4 m.mems.length p4, .slice P5 m.globals.length p5, .slice P6 m.exports.length p6, .bool m.hasStart, .int .i64 m.start, .slice P7 m.elems.length p7, .slice P8 m.datas.length p8, .slice P9 m.customs.length p9]).alloc (.cells #[.slice Q0 m.types.length q0, .slice Q1 m.imports.length q1, .slice Q2 m.funcs.length q2, .slice Q3 m.tables.length q3, .slice Q4 m.mems.length q4, .slice Q5 m.globals.length q5, .slice Q6 m.exports.length q6, .bool m.hasStart, .int .i64 m.start, .slice Q7 m.elems.length q7, .slice Q8 m.datas.length q8, .slice Q9 m.customs.length q9] 71))
 have G1 := hid (Blk.new1 w (.cells #[.slice P0 m.types.length p0, .slice P1 m.imports.length p1, .slice P2 m.funcs.length p2, .slice P3 m.tables.length p3, .slice P4 m.mems.length p4, .slice P5 m.globals.length p5, .slice P6 m.exports.length p6, .bool m.hasStart, .int .i64 m.start, .slice P7 m.elems.length p7, .slice P8 m.datas.length p8, .slice P9 m.customs.length p9] 71) 71 #[.slice Q0 m.types.length q0, .slice Q1 m.imports.length q1, .slice Q2 m.funcs.length q2, .slice Q3 m.tables.length q3, .slice Q4 m.mems.length q4, .slice Q5 m.globals.length q5, .slice Q6 m.exports.length q6, .bool m.hasStart, .int .i64 m.start, .slice Q7 m.elems.length q7, .slice Q8 m.datas.length q8, .slice Q9 m.customs.length q9])
 have H3 := hid h3
 have H4 := hid h4
 have K3 := hid g3
 have K4 := hid g4
 have HS := hid hS
 have HT := hid hT
 obtain ⟨nt, e3⟩ : ∃ n, m.tables.length = n := ⟨_, rfl⟩
 obtain ⟨nm, e4⟩ : ∃ n, m.mems.length = n := ⟨_, rfl⟩
 have N3 := hid e3
 have N4 := hid e4
 have l3 : nt ≤ 1048576 := by rw [← e3]; exact hbd.tables
 have l4 : nm ≤ 1048576 := by rw [← e4]; exact hbd.mems
 rw [e3, e4] at F0 G0 G1 ⊢
 clear ha hb hS hT hbd e3 e4 h0 g0 h1 g1 h2 g2 h3 g3 h4 g4 h5 g5 h6 g6 h7 g7 h8 g8 h9 g9
 go_enter func145, ntmps145
 go_upto_region 1 with fail
 generalize (w.alloc (.cells #[.slice P0 m.types.length p0, .slice P1 m.imports.length p1, .slice P2 m.funcs.length p2, .slice P3 nt p3, .slice P4 nm p4, .slice P5 m.globals.length p5, .slice P6 m.exports.length p6, .bool m.hasStart, .int .i64 m.start, .slice P7 m.elems.length p7, .slice P8 m.datas.length p8, .slice P9 m.customs.length p9] 71)).alloc (.cells #[.slice Q0 m.types.length q0, .slice Q1 m.imports.length q1, .slice Q2 m.funcs.length q2, .slice Q3 nt q3, .slice Q4 nm q4, .slice Q5 m.globals.length q5, .slice Q6 m.exports.length q6, .bool m.hasStart, .int .i64 m.start, .slice Q7 m.elems.length q7, .slice Q8 m.datas.length q8, .slice Q9 m.customs.length q9] 71) = W at *
 have y3 := G0.o.cell 3
 have z3 := G1.o.cell 3
 have y4 := G0.o.cell 4
 have z4 := G1.o.cell 4
 go_wp2_with fail
 clear y3 z3 y4 z4
 go_loopw [5] (fun i wr => ∃ k : Nat, k ≤ nt ∧ i = .int .i64 k ∧ Hid (Fr No W wr)) (fun i _ => nt - (intOf i).toNat)
 case atStart => exact ⟨0, nz, rfl, hid (Fr.refl No W)⟩
 obtain ⟨k, hk, rfl, FR⟩ := hrel
 have y3 := (G0.o.fr FR.o id).cell 3
 have z3 := (G1.o.fr FR.o id).cell 3
 by_cases hlt : k < nt
 · have hlk : k < m.tables.length := by have := N3.o; omega
   obtain ⟨b, o, ds, rfl, hb, hc, hr⟩ := H3.o.at_ k hlk
   obtain ⟨b', o', ds', rfl, hb', hc', hr'⟩ := K3.o.at_ k hlk
   have hb1 := HS.o b hb
   have hb2 := HT.o b' hb'
   generalize m.tables[k] = y at *
   obtain ⟨rfl, -⟩ := kDC hr
   obtain ⟨rfl, -⟩ := kDC hr'
   have HX : Hid (∀ X, Fr No wr X → Ce X w.heap.size 3 (.slice (some ⟨b, o, none⟩) nt p3) ∧ Ce X (w.heap.size + 1) 3 (.slice (some ⟨b', o', none⟩) nt q3) ∧ Ce X b (o + k * 4) (.int .i64 y.elem) ∧ Ce X b (o + k * 4 + 1) (.int .i64 y.lim.min) ∧ Ce X b (o + k * 4 + 2) (.int .i64 y.lim.max) ∧ Ce X b (o + k * 4 + 3) (.bool y.lim.has) ∧ Ce X b' (o' + k * 4) (.int .i64 y.elem) ∧ Ce X b' (o' + k * 4 + 1) (.int .i64 y.lim.min) ∧ Ce X b' (o' + k * 4 + 2) (.int .i64 y.lim.max) ∧ Ce X b' (o' + k * 4 + 3) (.bool y.lim.has) ∧ (Op.equalIn 10000 52 (.agg #[.int .i64 y.elem, .int .i64 y.lim.min, .int .i64 y.lim.max, .bool y.lim.has]) (.agg #[.int .i64 y.elem, .int .i64 y.lim.min, .int .i64 y.lim.max, .bool y.lim.has])).run prog X = .ok true X) := hid fun X f => by
    have g := F0.o.trans (FR.o.trans f i3) i3
    exact ⟨((G0.o.fr FR.o id).fr f id).cell 3, ((G1.o.fr FR.o id).fr f id).cell 3, (g.cell (p := ⟨b, o + k * 4, none⟩) hb1 id).trans (by have h := hc 0 _ rfl; rwa [show o + (k * tTb.size + 0) = o + k * 4 by show o + (k * 4 + 0) = o + k * 4; omega] at h), (g.cell (p := ⟨b, o + k * 4 + 1, none⟩) hb1 id).trans (by have h := hc 1 _ rfl; rwa [show o + (k * tTb.size + 1) = o + k * 4 + 1 by show o + (k * 4 + 1) = o + k * 4 + 1; omega] at h), (g.cell (p := ⟨b, o + k * 4 + 2, none⟩) hb1 id).trans (by have h := hc 2 _ rfl; rwa [show o + (k * tTb.size + 2) = o + k * 4 + 2 by show o + (k * 4 + 2) = o + k * 4 + 2; omega] at h), (g.cell (p := ⟨b, o + k * 4 + 3, none⟩) hb1 id).trans (by have h := hc 3 _ rfl; rwa [show o + (k * tTb.size + 3) = o + k * 4 + 3 by show o + (k * 4 + 3) = o + k * 4 + 3; omega] at h), (g.cell (p := ⟨b', o' + k * 4, none⟩) hb2 id).trans (by have h := hc' 0 _ rfl; rwa [show o' + (k * tTb.size + 0) = o' + k * 4 by show o' + (k * 4 + 0) = o' + k * 4; omega] at h), (g.cell (p := ⟨b', o' + k * 4 + 1, none⟩) hb2 id).trans (by have h := hc' 1 _ rfl; rwa [show o' + (k * tTb.size + 1) = o' + k * 4 + 1 by show o' + (k * 4 + 1) = o' + k * 4 + 1; omega] at h), (g.cell (p := ⟨b', o' + k * 4 + 2, none⟩) hb2 id).trans (by have h := hc' 2 _ rfl; rwa [show o' + (k * tTb.size + 2) = o' + k * 4 + 2 by show o' + (k * 4 + 2) = o' + k * 4 + 2; omega] at h), (g.cell (p := ⟨b', o' + k * 4 + 3, none⟩) hb2 id).trans (by have h := hc' 3 _ rfl; rwa [show o' + (k * tTb.size + 3) = o' + k * 4 + 3 by show o' + (k * 4 + 3) = o' + k * 4 + 3; omega] at h), kEb y 9997 X⟩
   have i0 := nki k
   have i1 : (k : Int) < nt := om
   clear hc hc' hlk hb hb' hb1 hb2 hr hr'
   go_wp2_with fail
   clear y3 z3
   refine rwO (Fr No wr) [] (List.range 11) [] (Fr.refl _ wr).drew ?_
   exact yy17
 have hkn : nt = k := om
 subst hkn
 clear hlt
 go_wp2_with fail
 clear y3 z3
 go_loopw [6] (fun i wr => ∃ k : Nat, k ≤ nm ∧ i = .int .i64 k ∧ Hid (Fr No W wr)) (fun i _ => nm - (intOf i).toNat)
 case atStart => exact ⟨0, nz, rfl, FR⟩
 obtain ⟨k, hk, rfl, FR⟩ := hrel
 have y4 := (G0.o.fr FR.o id).cell 4
 have z4 := (G1.o.fr FR.o id).cell 4
 by_cases hlt : k < nm
 · have hlk : k < m.mems.length := by have := N4.o; omega
   obtain ⟨b, o, ds, rfl, hb, hc, hr⟩ := H4.o.at_ k hlk
   obtain ⟨b', o', ds', rfl, hb', hc', hr'⟩ := K4.o.at_ k hlk
   have hb1 := HS.o b hb
   have hb2 := HT.o b' hb'
   generalize m.mems[k] = y at *
   obtain ⟨rfl, -⟩ := kCH hr
   obtain ⟨rfl, -⟩ := kCH hr'
   have HX : Hid (∀ X, Fr No wr X → Ce X w.heap.size 4 (.slice (some ⟨b, o, none⟩) nm p4) ∧ Ce X (w.heap.size + 1) 4 (.slice (some ⟨b', o', none⟩) nm q4) ∧ Ce X b (o + k * 3) (.int .i64 y.min) ∧ Ce X b (o + k * 3 + 1) (.int .i64 y.max) ∧ Ce X b (o + k * 3 + 2) (.bool y.has) ∧ Ce X b' (o' + k * 3) (.int .i64 y.min) ∧ Ce X b' (o' + k * 3 + 1) (.int .i64 y.max) ∧ Ce X b' (o' + k * 3 + 2) (.bool y.has) ∧ (Op.equalIn 10000 50 (.agg #[.int .i64 y.min, .int .i64 y.max, .bool y.has]) (.agg #[.int .i64 y.min, .int .i64 y.max, .bool y.has])).run prog X = .ok true X) := hid fun X f => by
    have g := F0.o.trans (FR.o.trans f i3) i3
    exact ⟨((G0.o.fr FR.o id).fr f id).cell 4, ((G1.o.fr FR.o id).fr f id).cell 4, (g.cell (p := ⟨b, o + k * 3, none⟩) hb1 id).trans (by have h := hc 0 _ rfl; rwa [show o + (k * tLim.size + 0) = o + k * 3 by show o + (k * 3 + 0) = o + k * 3; omega] at h), (g.cell (p := ⟨b, o + k * 3 + 1, none⟩) hb1 id).trans (by have h := hc 1 _ rfl; rwa [show o + (k * tLim.size + 1) = o + k * 3 + 1 by show o + (k * 3 + 1) = o + k * 3 + 1; omega] at h), (g.cell (p := ⟨b, o + k * 3 + 2, none⟩) hb1 id).trans (by have h := hc 2 _ rfl; rwa [show o + (k * tLim.size + 2) = o + k * 3 + 2 by show o + (k * 3 + 2) = o + k * 3 + 2; omega] at h), (g.cell (p := ⟨b', o' + k * 3, none⟩) hb2 id).trans (by have h := hc' 0 _ rfl; rwa [show o' + (k * tLim.size + 0) = o' + k * 3 by show o' + (k * 3 + 0) = o' + k * 3; omega] at h), (g.cell (p := ⟨b', o' + k * 3 + 1, none⟩) hb2 id).trans (by have h := hc' 1 _ rfl; rwa [show o' + (k * tLim.size + 1) = o' + k * 3 + 1 by show o' + (k * 3 + 1) = o' + k * 3 + 1; omega] at h), (g.cell (p := ⟨b', o' + k * 3 + 2, none⟩) hb2 id).trans (by have h := hc' 2 _ rfl; rwa [show o' + (k * tLim.size + 2) = o' + k * 3 + 2 by show o' + (k * 3 + 2) = o' + k * 3 + 2; omega] at h), kCw y 9998 X⟩
   have i0 := nki k
   have i1 : (k : Int) < nm := om
   clear hc hc' hlk hb hb' hb1 hb2 hr hr'
   go_wp2_with fail
   clear y4 z4
   refine rwO (Fr No wr) [] (List.range 11) [] (Fr.refl _ wr).drew ?_
   exact yy17
 have hkn : nm = k := om
 subst hkn
 clear hlt
 go_wp2
 go_ret
 exact ⟨rfl, F0.o.trans FR.o i3⟩
theorem kHN (m : Md) {ms ns : LV} (S T : Nat → Prop) (w : World) (ha : tMd.rd w S ms m) (hb : tMd.rd w T ns m) (hS : Lt S w) (hT : Lt T w) (hbd : MdB m) :
    Calls prog 58 #[.agg ms.toArray, .agg ns.toArray] w (YesTo w) := by
 obtain ⟨P0, p0, P1, p1, P2, p2, P3, p3, P4, p4, P5, p5, P6, p6, P7, p7, P8, p8, P9, p9, rfl, -, -, h0, -, -, h1, -, -, h2, -, -, h3, -, -, h4, -, -, h5, -, -, h6, -, -, -, h7, -, -, h8, -, -, h9⟩ := kBl ha
 obtain ⟨Q0, q0, Q1, q1, Q2, q2, Q3, q3, Q4, q4, Q5, q5, Q6, q6, Q7, q7, Q8, q8, Q9, q9, rfl, -, -, g0, -, -, g1, -, -, g2, -, -, g3, -, -, g4, -, -, g5, -, -, g6, -, -, -, g7, -, -, g8, -, -, g9⟩ := kBl hb
 have F0 := hid (((Fr.refl No w).alloc (.cells #[.slice P0 m.types.length p0, .slice P1 m.imports.length p1, .slice P2 m.funcs.length p2, .slice P3 m.tables.length p3, .slice P4 m.mems.length p4, .slice P5 m.globals.length p5, .slice P6 m.exports.length p6, .bool m.hasStart, .int .i64 m.start, .slice P7 m.elems.length p7, .slice P8 m.datas.length p8, .slice P9 m.customs.length p9] 71)).alloc (.cells #[.slice Q0 m.types.length q0, .slice Q1 m.imports.length q1, .slice Q2 m.funcs.length q2, .slice Q3 m.tables.length q3, .slice Q4 m.mems.length q4, .slice Q5 m.globals.length q5, .slice Q6 m.exports.length q6, .bool m.hasStart, .int .i64 m.start, .slice Q7 m.elems.length q7, .slice Q8 m.datas.length q8, .slice Q9 m.customs.length q9] 71))
 have G0 := hid ((Blk.new w 71 #[.slice P0 m.types.length p0, .slice P1 m.imports.length p1, .slice P2 m.funcs.length p2, .slice P3 m.tables.length p3, .slice P4 m.mems.length p4, .slice P5 m.globals.length p5, .slice P6 m.exports.length p6, .bool m.hasStart, .int .i64 m.start, .slice P7 m.elems.length p7, .slice P8 m.datas.length p8, .slice P9 m.customs.length p9]).alloc (.cells #[.slice Q0 m.types.length q0, .slice Q1 m.imports.length q1, .slice Q2 m.funcs.length q2, .slice Q3 m.tables.length q3, .slice Q4 m.mems.length q4, .slice Q5 m.globals.length q5, .slice Q6 m.exports.length q6, .bool m.hasStart, .int .i64 m.start, .slice Q7 m.elems.length q7, .slice Q8 m.datas.length q8, .slice Q9 m.customs.length q9] 71))
 have G1 := hid (Blk.new1 w (.cells #[.slice P0 m.types.length p0, .slice P1 m.imports.length p1, .slice P2 m.funcs.length p2, .slice P3 m.tables.length p3, .slice P4 m.mems.length p4, .slice P5 m.globals.length p5, .slice P6 m.exports.length p6, .bool m.hasStart, .int .i64 m.start, .slice P7 m.elems.length p7, .slice P8 m.datas.length p8, .slice P9 m.customs.length p9] 71) 71 #[.slice Q0 m.types.length q0, .slice Q1 m.imports.length q1, .slice Q2 m.funcs.length q2, .slice Q3 m.tables.length q3, .slice Q4 m.mems.length q4, .slice Q5 m.globals.length q5, .slice Q6 m.exports.length q6, .bool m.hasStart, .int .i64 m.start, .slice Q7 m.elems.length q7, .slice Q8 m.datas.length q8, .slice Q9 m.customs.length q9])
 have HC3 : Hid (∀ X, Fr No w X → Calls prog 145 #[.agg #[.slice P0 m.types.length p0, .slice P1 m.imports.length p1, .slice P2 m.funcs.length p2, .slice P3 m.tables.length p3, .slice P4 m.mems.length p4, .slice P5 m.globals.length p5, .slice P6 m.exports.length p6, .bool m.hasStart, .int .i64 m.start, .slice P7 m.elems.length p7, .slice P8 m.datas.length p8, .slice P9 m.customs.length p9], .agg #[.slice Q0 m.types.length q0, .slice Q1 m.imports.length q1, .slice Q2 m.funcs.length q2, .slice Q3 m.tables.length q3, .slice Q4 m.mems.length q4, .slice Q5 m.globals.length q5, .slice Q6 m.exports.length q6, .bool m.hasStart, .int .i64 m.start, .slice Q7 m.elems.length q7, .slice Q8 m.datas.length q8, .slice Q9 m.customs.length q9]] X (YesTo X)) := hid fun X f => kFT m S T X (kAH ha f hS i2) (kAH hb f hT i2) (fun k hk => ltl (hS k hk) f.size) (fun k hk => ltl (hT k hk) f.size) hbd
 have HC0 : Hid (∀ X, Fr No w X → Calls prog 142 #[.slice P0 m.types.length p0, .slice Q0 m.types.length q0] X (YesTo X)) := hid fun X f => kFR P0 Q0 p0 q0 m.types S T X (kAA h0 f hS i2) (kAA g0 f hT i2) (fun k hk => ltl (hS k hk) f.size) (fun k hk => ltl (hT k hk) f.size) hbd.types.1 hbd.types.2
 have HC1 : Hid (∀ X, Fr No w X → Calls prog 143 #[.slice P1 m.imports.length p1, .slice Q1 m.imports.length q1] X (YesTo X)) := hid fun X f => kEk P1 Q1 p1 q1 m.imports S T X (kAA h1 f hS i2) (kAA g1 f hT i2) (fun k hk => ltl (hS k hk) f.size) (fun k hk => ltl (hT k hk) f.size) hbd.imports
 have HC2 : Hid (∀ X, Fr No w X → Calls prog 144 #[.slice P2 m.funcs.length p2, .slice Q2 m.funcs.length q2] X (YesTo X)) := hid fun X f => kFU P2 Q2 p2 q2 m.funcs S T X (kAA h2 f hS i2) (kAA g2 f hT i2) (fun k hk => ltl (hS k hk) f.size) (fun k hk => ltl (hT k hk) f.size) hbd.funcs.1 hbd.funcs.2
 have HC4 : Hid (∀ X, Fr No w X → Calls prog 146 #[.slice P5 m.globals.length p5, .slice Q5 m.globals.length q5] X (YesTo X)) := hid fun X f => kEl P5 Q5 p5 q5 m.globals S T X (kAA h5 f hS i2) (kAA g5 f hT i2) (fun k hk => ltl (hS k hk) f.size) (fun k hk => ltl (hT k hk) f.size) hbd.globals.1 hbd.globals.2
 have HC5 : Hid (∀ X, Fr No w X → Calls prog 147 #[.slice P6 m.exports.length p6, .slice Q6 m.exports.length q6] X (YesTo X)) := hid fun X f => kEp P6 Q6 p6 q6 m.exports S T X (kAA h6 f hS i2) (kAA g6 f hT i2) (fun k hk => ltl (hS k hk) f.size) (fun k hk => ltl (hT k hk) f.size) hbd.exports
 have HC6 : Hid (∀ X, Fr No w X → Calls prog 148 #[.slice P7 m.elems.length p7, .slice Q7 m.elems.length q7] X (YesTo X)) := hid fun X f => kFZ P7 Q7 p7 q7 m.elems S T X (kAA h7 f hS i2) (kAA g7 f hT i2) (fun k hk => ltl (hS k hk) f.size) (fun k hk => ltl (hT k hk) f.size) hbd.elems.1 hbd.elems.2
 have HC7 : Hid (∀ X, Fr No w X → Calls prog 149 #[.slice P8 m.datas.length p8, .slice Q8 m.datas.length q8] X (YesTo X)) := hid fun X f => kFe P8 Q8 p8 q8 m.datas S T X (kAA h8 f hS i2) (kAA g8 f hT i2) (fun k hk => ltl (hS k hk) f.size) (fun k hk => ltl (hT k hk) f.size) hbd.datas.1 hbd.datas.2
 have HC8 : Hid (∀ X, Fr No w X → Calls prog 150 #[.slice P9 m.customs.length p9, .slice Q9 m.customs.length q9] X (YesTo X)) := hid fun X f => kEr P9 Q9 p9 q9 m.customs S T X (kAA h9 f hS i2) (kAA g9 f hT i2) (fun k hk => ltl (hS k hk) f.size) (fun k hk => ltl (hT k hk) f.size) hbd.customs.1 hbd.customs.2
 clear ha hb hS hT hbd h0 g0 h1 g1 h2 g2 h3 g3 h4 g4 h5 g5 h6 g6 h7 g7 h8 g8 h9 g9
 go_enter func58, ntmps58
 go_upto_region 1 with fail
 generalize (w.alloc (.cells #[.slice P0 m.types.length p0, .slice P1 m.imports.length p1, .slice P2 m.funcs.length p2, .slice P3 m.tables.length p3, .slice P4 m.mems.length p4, .slice P5 m.globals.length p5, .slice P6 m.exports.length p6, .bool m.hasStart, .int .i64 m.start, .slice P7 m.elems.length p7, .slice P8 m.datas.length p8, .slice P9 m.customs.length p9] 71)).alloc (.cells #[.slice Q0 m.types.length q0, .slice Q1 m.imports.length q1, .slice Q2 m.funcs.length q2, .slice Q3 m.tables.length q3, .slice Q4 m.mems.length q4, .slice Q5 m.globals.length q5, .slice Q6 m.exports.length q6, .bool m.hasStart, .int .i64 m.start, .slice Q7 m.elems.length q7, .slice Q8 m.datas.length q8, .slice Q9 m.customs.length q9] 71) = W at *
 have y7 := G0.o.cell 7
 have z7 := G1.o.cell 7
 have y8 := G0.o.cell 8
 have z8 := G1.o.cell 8
 obtain ⟨hs, hhs⟩ : ∃ b, m.hasStart = b := ⟨_, rfl⟩
 rw [hhs] at y7 z7
 clear hhs
 cases hs
 all_goals go_upto_region 3 with fail
 all_goals clear y7 z7 y8 z8
 all_goals try first | simp only [List.append_eq, List.cons_append, List.nil_append] | simp only [List.append] | simp only [HAppend.hAppend, Append.append, List.append]
 all_goals
  have y0 := G0.o.cell 0
  have z0 := G1.o.cell 0
  go_wp2_with fail
  refine (HC0.o _ F0.o).mono ?_
  rintro e w0 ⟨rfl, f1⟩
  replace F0 := ftr F0 f1
  replace G0 := hid (G0.o.fr f1 id)
  replace G1 := hid (G1.o.fr f1 id)
  clear f1 y0 z0
  have y1 := G0.o.cell 1
  have z1 := G1.o.cell 1
  go_wp2_with fail
  refine (HC1.o _ F0.o).mono ?_
  rintro e w1 ⟨rfl, f1⟩
  replace F0 := ftr F0 f1
  replace G0 := hid (G0.o.fr f1 id)
  replace G1 := hid (G1.o.fr f1 id)
  clear f1 y1 z1
  have y2 := G0.o.cell 2
  have z2 := G1.o.cell 2
  go_wp2_with fail
  refine (HC2.o _ F0.o).mono ?_
  rintro e w2 ⟨rfl, f1⟩
  replace F0 := ftr F0 f1
  replace G0 := hid (G0.o.fr f1 id)
  replace G1 := hid (G1.o.fr f1 id)
  clear f1 y2 z2
  have y0 := G0.o.cell 0
  have z0 := G1.o.cell 0
  have y1 := G0.o.cell 1
  have z1 := G1.o.cell 1
  have y2 := G0.o.cell 2
  have z2 := G1.o.cell 2
  have y3 := G0.o.cell 3
  have z3 := G1.o.cell 3
  have y4 := G0.o.cell 4
  have z4 := G1.o.cell 4
  have y5 := G0.o.cell 5
  have z5 := G1.o.cell 5
  have y6 := G0.o.cell 6
  have z6 := G1.o.cell 6
  have y7 := G0.o.cell 7
  have z7 := G1.o.cell 7
  have y8 := G0.o.cell 8
  have z8 := G1.o.cell 8
  have y9 := G0.o.cell 9
  have z9 := G1.o.cell 9
  have y10 := G0.o.cell 10
  have z10 := G1.o.cell 10
  have y11 := G0.o.cell 11
  have z11 := G1.o.cell 11
  go_wp2_with fail
  refine (HC3.o _ F0.o).mono ?_
  rintro e w3 ⟨rfl, f1⟩
  replace F0 := ftr F0 f1
  replace G0 := hid (G0.o.fr f1 id)
  replace G1 := hid (G1.o.fr f1 id)
  clear f1 y0 z0 y1 z1 y2 z2 y3 z3 y4 z4 y5 z5 y6 z6 y7 z7 y8 z8 y9 z9 y10 z10 y11 z11
  have y5 := G0.o.cell 5
  have z5 := G1.o.cell 5
  go_wp2_with fail
  refine (HC4.o _ F0.o).mono ?_
  rintro e w4 ⟨rfl, f1⟩
  replace F0 := ftr F0 f1
  replace G0 := hid (G0.o.fr f1 id)
  replace G1 := hid (G1.o.fr f1 id)
  clear f1 y5 z5
  have y6 := G0.o.cell 6
  have z6 := G1.o.cell 6
  go_wp2_with fail
  refine (HC5.o _ F0.o).mono ?_
  rintro e w5 ⟨rfl, f1⟩
  replace F0 := ftr F0 f1
  replace G0 := hid (G0.o.fr f1 id)
  replace G1 := hid (G1.o.fr f1 id)
  clear f1 y6 z6
  have y9 := G0.o.cell 9
  have z9 := G1.o.cell 9
  go_wp2_with fail
  refine (HC6.o _ F0.o).mono ?_
  rintro e w6 ⟨rfl, f1⟩
  replace F0 := ftr F0 f1
  replace G0 := hid (G0.o.fr f1 id)
  replace G1 := hid (G1.o.fr f1 id)
  clear f1 y9 z9
  have y10 := G0.o.cell 10
  have z10 := G1.o.cell 10
  go_wp2_with fail
  refine (HC7.o _ F0.o).mono ?_
  rintro e w7 ⟨rfl, f1⟩
  replace F0 := ftr F0 f1
  replace G0 := hid (G0.o.fr f1 id)
  replace G1 := hid (G1.o.fr f1 id)
  clear f1 y10 z10
  have y11 := G0.o.cell 11
  have z11 := G1.o.cell 11
  go_wp2_with fail
  refine (HC8.o _ F0.o).mono ?_
  rintro e w8 ⟨rfl, f1⟩
  replace F0 := ftr F0 f1
  replace G0 := hid (G0.o.fr f1 id)
  replace G1 := hid (G1.o.fr f1 id)
  clear f1 y11 z11
  go_wp2
  go_ret
  exact ⟨rfl, F0.o⟩
theorem kGK (f g : Fn) : fnEq f g = fnEq g f := by
 rw [Bool.eq_iff_iff, kFI, kFI]
 exact ⟨fun h => h.symm, fun h => h.symm⟩
section
variable {w : World} {S : Nat → Prop} {x : Rx} {cs : LV}
theorem kKi (h : tRx.rd w S cs x) (hS : Lt S w) (f : Fi) (P1 P2 : OA) (q1 q2 : Nat) (he : tFi.rd w S [.slice P1 f.ty.params.length q1, .slice P2 f.ty.results.length q2, .int .i64 f.inst, .int .i64 f.index] f)
    (b1 : f.ty.params.length ≤ 140737488351232) (b2 : f.ty.results.length ≤ 140737488351232) (hh : ∀ a ∈ x.hosts, a.ty.params.length ≤ 140737488351232 ∧ a.ty.results.length ≤ 140737488351232) (hn : x.funcs.length ≤ 1000000) :
    Calls prog 119 #[.agg cs.toArray, .agg #[.slice P1 f.ty.params.length q1, .slice P2 f.ty.results.length q2, .int .i64 f.inst, .int .i64 f.index]] w (RfTo S (kBs x f).1 (.int .i64 (kBs x f).2) w) := by
 obtain ⟨A1, c1, A2, c2, e, -, -, h1, -, -, h2, -, -⟩ := kBm he
 simp only [List.cons.injEq, Value.slice.injEq, true_and, and_true] at e
 obtain ⟨⟨rfl, rfl⟩, rfl, rfl⟩ := e
 have no : kBC x f = false → kBs x f = (x, -1) := kCS
 cases hv : fnB f.ty with
 | false =>
  rw [no (by unfold kBC; rw [hv]; rfl)]
  exact kIe h hS f P1 P2 q1 q2 h1 h2 b1 b2 hv
 | true =>
  by_cases hi : f.inst < -1
  · rw [no (by unfold kBC; rw [hv]; have : decide (-1 ≤ f.inst) = false := by simp; omega
               rw [this]; simp)]
    exact kId h hS f P1 P2 q1 q2 h1 h2 b1 b2 hv (by simpa using hi)
  · have d1 : decide (f.inst < -1) = false := by simpa using hi
    have d1' : decide (-1 ≤ f.inst) = true := by simp; omega
    by_cases hx : f.index < 0
    · rw [no (by unfold kBC; rw [hv]; have : decide (0 ≤ f.index) = false := by simp; omega
                 rw [this]; simp)]
      exact kIc h hS f P1 P2 q1 q2 h1 h2 b1 b2 hv d1 (by simpa using hx)
    have d2 : decide (f.index < 0) = false := by simpa using hx
    have d2' : decide (0 ≤ f.index) = true := by simp; omega
    by_cases hj : f.inst = -1
    · have d3 : (f.inst == -1) = true := by simpa using hj
      by_cases hl : f.index < x.hosts.length
      · have hg : getI x.hosts f.index = some (x.hosts[f.index.toNat]'om) := by
         unfold getI
         rw [if_pos (by omega)]
         exact List.getElem?_eq_getElem om
        cases hq : fnEq (x.hosts[f.index.toNat]'om).ty f.ty with
        | false =>
         rw [no (by unfold kBC; rw [hv, d1', d2', hg]; simp [hj, hq])]
         exact kIa h hS f P1 P2 q1 q2 h1 h2 b1 b2 hv d1 d2 d3 hl hh (fun y hy => by rw [hg] at hy; cases hy; rw [kGK]; exact hq)
        | true =>
         rw [kDN (by unfold kBC; rw [hv, d1', d2', hg]; simp [hq])]
         exact kIY h hS f P1 P2 q1 q2 h1 h2 b1 b2 he hv d1 d2 d3 hl hh (fun y hy => by rw [hg] at hy; cases hy; rw [kGK]; exact hq) hn
      have hg : getI x.hosts f.index = none := getI_no (.inr om)
      rw [no (by unfold kBC; rw [hv, d1', d2', hg]; simp [hj])]
      exact kIb h hS f P1 P2 q1 q2 h1 h2 b1 b2 hv d1 d2 d3 so
    have d3 : (f.inst == -1) = false := by simpa using hj
    rw [kDN (by unfold kBC; rw [hv, d1', d2']; simp [hj])]
    exact kIZ h hS f P1 P2 q1 q2 h1 h2 b1 b2 he hv d1 d2 d3 hn
theorem kIr (h : tRx.rd w S cs x) (hS : Lt S w) (t : Tb) (w1 : (Lit.int .i64 t.elem).wf = true) (w2 : (Lit.int .i64 t.lim.min).wf = true) (w3 : (Lit.int .i64 t.lim.max).wf = true) (hn : x.tabs.length ≤ 1000000) :
    Calls prog 120 #[.agg cs.toArray, .agg #[.int .i64 t.elem, .int .i64 t.lim.min, .int .i64 t.lim.max, .bool t.lim.has]] w (RfTo S (kBr x t).1 (.int .i64 (kBr x t).2) w) := by
 cases hv : tabB t.elem t.lim.min t.lim.max t.lim.has with
 | false =>
  have e : kBr x t = (x, -1) := by unfold kBr tbB; rw [hv]; rfl
  rw [e]
  exact kHY h hS t hv
 | true =>
  have e : kBr x t = ({ x with tabs := x.tabs ++ [⟨t, List.replicate t.lim.min.toNat 0⟩] }, ((x.tabs.length : Nat) : Int)) := by unfold kBr tbB; rw [hv]; rfl
  rw [e]
  have hb : 0 ≤ t.lim.min ∧ t.lim.min ≤ 1024 := by
   unfold tabB limB at hv
   simp at hv
   omega
  obtain ⟨tel, ⟨tmn, tmx, th⟩⟩ := t
  simp only at hb w1 w2 w3 hv ⊢
  obtain ⟨n, rfl⟩ : ∃ n : Nat, tmn = (n : Int) := ⟨tmn.toNat, by omega⟩
  have := kGg h hS tel tmx th n hv om w1 w2 w3 hn
  simpa using this
theorem kLa (h : tRx.rd w S cs x) (hS : Lt S w) (l : Lim) (w1 : (Lit.int .i64 l.min).wf = true) (w2 : (Lit.int .i64 l.max).wf = true) (hn : x.mems.length ≤ 1000000) :
    Calls prog 121 #[.agg cs.toArray, .agg #[.int .i64 l.min, .int .i64 l.max, .bool l.has]] w (RfTo S (kBQ x l).1 (.int .i64 (kBQ x l).2) w) := by
 cases hv : validB l with
 | false =>
  have e : kBQ x l = (x, -1) := by unfold kBQ; rw [hv]; rfl
  rw [e]
  exact kJn h hS l hv
 | true =>
  have e : kBQ x l = ({ x with mems := x.mems ++ [⟨l, List.replicate (l.min.toNat * 256) 0⟩] }, ((x.mems.length : Nat) : Int)) := by unfold kBQ; rw [hv]; rfl
  rw [e]
  exact kIV h hS l hv w1 w2 hn
theorem kIJ (h : tRx.rd w S cs x) (hS : Lt S w) (g : Gl) (v : Vl) (w1 : (Lit.int .i64 g.val).wf = true) (w2 : (Lit.int .i64 v.t).wf = true) (w3 : (Lit.int .u64 v.n).wf = true) (hn : x.globs.length ≤ 1000000) :
    Calls prog 122 #[.agg cs.toArray, .agg #[.int .i64 g.val, .bool g.mut_], .agg #[.int .i64 v.t, .int .u64 v.n]] w (RfTo S (kBZ x g v).1 (.int .i64 (kBZ x g v).2) w) := by
 have no : (kAf g.val && kBE v g.val) = false → kBZ x g v = (x, -1) := fun e => by unfold kBZ; rw [e]; rfl
 cases h1 : kAf g.val with
 | false =>
  rw [no (by rw [h1]; rfl)]
  exact kGD h hS g v h1
 | true =>
  by_cases h2 : v.t = g.val
  · have e2 : (v.t != g.val) = false := by simpa using h2
    cases h3 : vlB v with
    | false =>
     rw [no (by unfold kBE; rw [h3]; simp)]
     exact kGB h hS g v h1 e2 h3
    | true =>
     have e : kBZ x g v = ({ x with globs := x.globs ++ [⟨g, v⟩] }, ((x.globs.length : Nat) : Int)) := by unfold kBZ kBE; rw [h1, h3]; simp [h2]
     rw [e]
     exact kGA h hS g v (kEn (a := ⟨g, v⟩) w1 w2 w3) h1 e2 h3 hn
  · have e2 : (v.t != g.val) = true := by simpa using h2
    rw [no (by unfold kBE; simp [h2])]
    exact kGC h hS g v h1 e2
theorem kIG (h : tRx.rd w S cs x) (hS : Lt S w) (i : Int) (v : Vl) (w2 : (Lit.int .i64 v.t).wf = true) (w3 : (Lit.int .u64 v.n).wf = true) (hw : ∀ g ∈ x.globs, (Lit.int .i64 g.t.val).wf = true) (hn : x.globs.length ≤ 1000000) :
    Calls prog 38 #[.agg cs.toArray, .int .i64 i, .agg #[.int .i64 v.t, .int .u64 v.n]] w (RfTo S (kAq x i v).1 (.bool (kAq x i v).2) w) := by
 rcases at_cases x.globs i with ⟨k, hk, rfl⟩ | hi | ⟨hi0, hi⟩
 · have hg : getI x.globs (k : Int) = some x.globs[k] := getI_yes hk
   have hy : x.globs[k]? = some x.globs[k] := List.getElem?_eq_getElem hk
   by_cases h2 : v.t = x.globs[k].t.val
   · have e2 : (v.t != x.globs[k].t.val) = false := by simpa using h2
     cases h3 : vlB v with
     | false =>
      have e : kAq x k v = (x, false) := by unfold kAq; rw [hg]; simp [kBE, h3]
      rw [e]
      exact kGa h hS v _ k hk hy e2 h3
     | true =>
      have e : kAq x k v = ({ x with globs := x.globs.set k ⟨x.globs[k].t, v⟩ }, true) := by unfold kAq; rw [hg]; simp [kBE, h2, h3]
      rw [e]
      exact kFz h hS v _ k hk (kEn (a := ⟨x.globs[k].t, v⟩) (show (Lit.int .i64 x.globs[k].t.val).wf = true from hw x.globs[k] (List.getElem_mem hk)) w2 w3) hy e2 h3 hn
   have e2 : (v.t != x.globs[k].t.val) = true := by simpa using h2
   have e : kAq x k v = (x, false) := by unfold kAq; rw [hg]; simp [kBE, h2]
   rw [e]
   exact kGb h hS v _ k hk hy e2
 · have e : kAq x i v = (x, false) := by unfold kAq; rw [getI_no (.inl hi)]
   rw [e]
   exact kGd h hS v i (by simpa using hi)
 have e : kAq x i v = (x, false) := by unfold kAq; rw [getI_no (.inr hi)]
 rw [e]
 exact kGc h hS v i (by simpa using hi0) (by simpa using hi)
theorem kIi (h : tRx.rd w S cs x) (hS : Lt S w) (i : Int) (hn : x.elems.length ≤ 1000000) :
    Calls prog 39 #[.agg cs.toArray, .int .i64 i] w (kCA S (kBS x i) w) := by
 rcases at_cases x.elems i with ⟨k, hk, rfl⟩ | hi | ⟨hi0, hi⟩
 · have e : kBS x k = { x with elems := x.elems.set k ⟨[], true⟩ } := by unfold kBS; rw [if_pos ⟨by omega, by omega⟩]; rfl
   rw [e]
   exact kGe h hS k hk hn
 · have e : kBS x i = x := by unfold kBS; rw [if_neg (by omega)]
   rw [e]
   exact kHV h hS i (by simpa using hi)
 have e : kBS x i = x := by unfold kBS; rw [if_neg (by omega)]
 rw [e]
 exact kHU h hS i (by simpa using hi0) (by simpa using hi)
theorem kIj (h : tRx.rd w S cs x) (hS : Lt S w) (i : Int) (hn : x.datas.length ≤ 1000000) :
    Calls prog 40 #[.agg cs.toArray, .int .i64 i] w (kCA S (kBT x i) w) := by
 rcases at_cases x.datas i with ⟨k, hk, rfl⟩ | hi | ⟨hi0, hi⟩
 · have e : kBT x k = { x with datas := x.datas.set k ⟨[], true⟩ } := by unfold kBT; rw [if_pos ⟨by omega, by omega⟩]; rfl
   rw [e]
   exact kGf h hS k hk hn
 · have e : kBT x i = x := by unfold kBT; rw [if_neg (by omega)]
   rw [e]
   exact kHX h hS i (by simpa using hi)
 have e : kBT x i = x := by unfold kBT; rw [if_neg (by omega)]
 rw [e]
 exact kHW h hS i (by simpa using hi0) (by simpa using hi)
theorem kKC (h : tRx.rd w S cs x) (hS : Lt S w) (m : Md) (d : Ad) {ms ns : LV} (hm : tMd.rd w S ms m) (hd : tAd.rd w S ns d) (hn : x.insts.length ≤ 1000000) :
    Calls prog 125 #[.agg cs.toArray, .agg ms.toArray, .agg ns.toArray] w (RfTo S (kBJ x m d).1 (.int .i64 (kBJ x m d).2) w) := by
 have hj := kIh hm hd
 obtain ⟨P0, p0, P1, p1, P2, p2, P3, p3, P4, p4, P5, p5, P6, p6, P7, p7, P8, p8, P9, p9, rfl, -⟩ := kBl hm
 obtain ⟨Q0, q0, Q1, q1, Q2, q2, Q3, q3, Q4, q4, Q5, q5, rfl, -⟩ := kDE hd
 by_cases hi : x.insts.length < 16
 · have e : kBJ x m d = ({ x with insts := x.insts ++ [⟨m, d⟩] }, ((x.insts.length : Nat) : Int)) := by unfold kBJ; rw [if_neg (by omega)]
   rw [e]
   exact kHZ h hS m d hj hi hn
 have e : kBJ x m d = (x, -1) := by unfold kBJ; rw [if_pos (by omega)]
 rw [e]
 exact kIW h hS m d hi
end
end Go.Proofs.YtdckghiipijobaaGreat
