/- Part 12 of the proof: lemmas and contracts of functions. No condition. -/
import Derived.Test.YtdckghiipijobaaGreatQ11
import Derived.Test.YtdckghiipijobaaGreatQ7
import Derived.Test.YtdckghiipijobaaGreatQ10
import Derived.Test.YtdckghiipijobaaGreatQ1
set_option maxRecDepth 100000
set_option maxHeartbeats 12800000
set_option linter.unusedVariables false
set_option linter.unusedSimpArgs false
set_option linter.unusedSectionVars false
namespace Go.Proofs.YtdckghiipijobaaGreat
open Go.RowKit Go.Proofs.Tryz
theorem RmJn.of_els {w : World} {S : Nat → Prop} {A : OA} {c : Nat} {B : List Int} (h : tB.els w S A B) (hS : Lt S w) (hc : B.length ≤ c) (hx : c ≤ maxLen) : RmJn w A c B := by
 obtain ⟨css, h1, h2⟩ := kAY (B := w.heap.size) h hS
 obtain ⟨e, hb⟩ := kLR h1
 rw [e] at h2
 refine ⟨h2, fun e => ?_, fun hn ad e => ?_, hb, hc, hx⟩
 · rcases h with h | ⟨b, o, e2, _⟩
   · exact h
   rw [e] at e2; cases e2
 rcases h with h | ⟨b, o, e2, _⟩
 · rw [h] at hn; exact absurd rfl hn
 rw [e] at e2
 exact ⟨b, o, Option.some.inj e2⟩
theorem SrcIn.of_els {w : World} {S : Nat → Prop} {A : OA} {c : Nat} {B : List Int} (h : tB.els w S A B) (hS : Lt S w) (hc : B.length ≤ c) (hx : c ≤ maxLen) : SrcIn w A c B :=
 ⟨(RmJn.of_els h hS hc hx).rd, (RmJn.of_els h hS hc hx).nil, (RmJn.of_els h hS hc hx).spot, (RmJn.of_els h hS hc hx).bts, hc⟩
theorem RmJn.els {w : World} {A : OA} {c : Nat} {B : List Int} (h : RmJn w A c B) {S : Nat → Prop} (hS : ∀ q o, A = some ⟨q, o, none⟩ → q < w.heap.size → S q) : tB.els w S A B := by
 rcases h.rd with hh | ⟨q, o, rfl, hq, hh⟩
 · have : B = [] := by cases B with
    | nil => rfl
    | cons _ _ => simp [Ks] at hh
   exact .inl this
 exact kGF (S := Emp) (S' := S) (css := B.map fun b => [.int .u8 b]) (kBW h.bts) inferInstance (fun _ h => h.elim) (hS q o rfl hq) o (fun k u hu => hh k u (by rwa [kBB] at hu))
def memS (x : Rx) (i : Int) (bs : List Int) : Rx := match getI x.mems i with
 | none => x
 | some m => { x with mems := x.mems.set i.toNat ⟨m.lim, (kAr m.b bs (lo 0) (lo 0) (lo bs.length)).1⟩ }
section
variable {w : World} {R : Nat → Prop} {V : Pl} {x : Rx} {cs : LV}
abbrev kDa (a0 : Pl) (a1 a2 : LV) : Array Value := #[.pointer (some ⟨a0.P, 0, none⟩), .agg a1.toArray, .agg a2.toArray]
theorem kJJ (h : Both w R V x cs) (a : At) {es : LV} (ha : tAt.rd w (Sd w R) es a) (hc : ∀ k : Int, 1 ≤ k → k ≤ 12 → a.call ≠ k)  :
    Calls prog 11 (kDa V cs es) w (kAZ R V x w) := by
 have HCL : Hid (cs.length = 10) := TyOk.len _ _ _ _ h.rf
 obtain ⟨P1, p1, P2, p2, A1, c1, A2, c2, A3, c3, ms, ns, hes, ml, nl, -, -, hfi, hta, hme, hgl, hvl, hre, hby, hmd, had, -⟩ := kAg ha
 have HES := hid hes
 clear hes
 obtain ⟨R0, HD⟩ := hd h es
 go_enter func11, ntmps11
 go_upto_region 1 with fail
 generalize ((w.alloc (.cells cs.toArray 39)).alloc (.cells es.toArray 76)).alloc (.cells z10 39) = W at *
 obtain ⟨F0, GX, GA, GR, H, RF0, HOW⟩ := HD.all
 have y0 : W.cell? ⟨w.heap.size + 1, 0, none⟩ = some (.int .i64 a.call) := (GA.o.cell 0).trans (by rw [HES.o]; try rfl)
 have dd1 : (a.call == 1) = false := by simpa using hc 1 om om
 have dd2 : (a.call == 2) = false := by simpa using hc 2 om om
 have dd3 : (a.call == 3) = false := by simpa using hc 3 om om
 have dd4 : (a.call == 4) = false := by simpa using hc 4 om om
 have dd5 : (a.call == 5) = false := by simpa using hc 5 om om
 have dd6 : (a.call == 6) = false := by simpa using hc 6 om om
 have dd7 : (a.call == 7) = false := by simpa using hc 7 om om
 have dd8 : (a.call == 8) = false := by simpa using hc 8 om om
 have dd9 : (a.call == 9) = false := by simpa using hc 9 om om
 have dd10 : (a.call == 10) = false := by simpa using hc 10 om om
 have dd11 : (a.call == 11) = false := by simpa using hc 11 om om
 have dd12 : (a.call == 12) = false := by simpa using hc 12 om om
 have F3 := hid (Fr.refl No W)
 have K1 := H
 have GG := hid (Grown.refl W R0 V)
 have RF2 := RF0
 exact yy67
theorem kJv (h : Both w R V x cs) (a : At) {es : LV} (ha : tAt.rd w (Sd w R) es a) (hc : a.call = 12) (hn : x.mems.length ≤ 1000000) (hg : getI x.mems a.addr = none) :
    Calls prog 11 (kDa V cs es) w (kAZ R V x w) := by
 have HCL : Hid (cs.length = 10) := TyOk.len _ _ _ _ h.rf
 obtain ⟨P1, p1, P2, p2, A1, c1, A2, c2, A3, c3, ms, ns, hes, ml, nl, -, -, hfi, hta, hme, hgl, hvl, hre, hby, hmd, had, -⟩ := kAg ha
 have HES := hid hes
 clear hes
 obtain ⟨R0, HD⟩ := hd h es
 go_enter func11, ntmps11
 go_upto_region 1 with fail
 generalize ((w.alloc (.cells cs.toArray 39)).alloc (.cells es.toArray 76)).alloc (.cells z10 39) = W at *
 obtain ⟨F0, GX, GA, GR, H, RF0, HOW⟩ := HD.all
 have y0 : W.cell? ⟨w.heap.size + 1, 0, none⟩ = some (.int .i64 12) := by rw [← hc]; exact (GA.o.cell 0).trans (by rw [HES.o]; try rfl)
 go_upto_region 25 with fail
 clear y0
 have HB : Hid (atD zRm x.mems a.addr = (zRm, false)) := by
  rcases kBb x.mems a.addr with ⟨k, hk, e⟩ | hi | ⟨hi0, hi⟩
  · rw [e, kBL hk] at hg; cases hg
  · exact kBv (.inl hi)
  exact kBv (.inr hi)
 have HN : Hid (getI (V.mp.map (·.1)) a.addr = none) := by
  rw [Hid, kAx]
  have := kCQ (l := V.mp) (m := x.mems) H.o.ml a.addr
  rw [hg] at this
  simp only [Option.isNone_none, Option.isNone_iff_eq_none] at this
  rw [this]; rfl
 have y1 := (GA.o.cell 1).trans (by rw [HES.o]; try rfl)
 go_wp2_with fail
 refine (mem_any H.o a.addr hn).mono ?_
 rw [HN.o]
 rintro e w1 ⟨rfl, f⟩
 simp only [ptrV]
 have F1 := hid f
 replace GX := hid (GX.o.fr f id)
 replace GA := hid (GA.o.fr f id)
 replace GR := hid (GR.o.fr f id)
 have RFx := hid (kBX RF0.o f)
 clear f y1
 have y1 := (GA.o.cell 1).trans (by rw [HES.o]; try rfl)
 go_wp2_with (first | refine ldX GX.o HCL.o ?_ | fail)
 have HG := hid (kBd RFx.o (fun _ hk => hk.1) a.addr)
 rw [HB.o] at HG
 refine HG.o.mono ?_
 rintro e w2 ⟨ds, rfl, hr, f⟩
 obtain ⟨B2, d2, rfl, -⟩ := kBR hr
 clear hr HG HB HN
 replace F1 := ftr F1 f
 replace GX := hid (GX.o.fr f id)
 replace GR := hid (GR.o.fr f id)
 clear f y1 GA
 go_upto_region 27 with fail
 have f := (Fr.refl No w2).alloc (.cells #[.int .i64 zRm.lim.min, .int .i64 zRm.lim.max, .bool zRm.lim.has, .slice B2 zRm.b.length d2] 143)
 have F3 := ftr F1 f
 replace GX := hid (GX.o.fr f id)
 replace GR := hid (GR.o.fr f id)
 clear f F1
 generalize w2.alloc (.cells #[.int .i64 zRm.lim.min, .int .i64 zRm.lim.max, .bool zRm.lim.has, .slice B2 zRm.b.length d2] 143) = W3 at *
 have K1 := H
 have GG := hid (Grown.refl W R0 V)
 have RF2 := hid (kBX RF0.o F3.o)
 exact yy67
theorem kIM (h : Both w R V x cs) (a : At) {es : LV} (ha : tAt.rd w (Sd w R) es a) (hc : a.call = 12) (hn : x.mems.length ≤ 1000000) (k : Nat) (hi : a.addr = k) (m : Rm) (hmk : x.mems[k]? = some m) (hb : a.b.length ≤ 1000000) (hm : m.b.length ≤ 65536) :
    Calls prog 11 (kDa V cs es) w (kAZ R V { x with mems := x.mems.set k ⟨m.lim, (kAr m.b a.b (lo 0) (lo 0) (lo a.b.length)).1⟩ } w) := by
 have HCL : Hid (cs.length = 10) := TyOk.len _ _ _ _ h.rf
 obtain ⟨P1, p1, P2, p2, A1, c1, A2, c2, A3, c3, ms, ns, hes, ml, nl, -, -, hfi, hta, hme, hgl, hvl, hre, hby, hmd, had, -⟩ := kAg ha
 have HES := hid hes
 clear hes
 obtain ⟨R0, HD⟩ := hd h es
 have HP0 := hid (HD.upE hby.2.2)
 go_enter func11, ntmps11
 go_upto_region 1 with fail
 generalize ((w.alloc (.cells cs.toArray 39)).alloc (.cells es.toArray 76)).alloc (.cells z10 39) = W at *
 obtain ⟨F0, GX, GA, GR, H, RF0, HOW⟩ := HD.all
 have y0 : W.cell? ⟨w.heap.size + 1, 0, none⟩ = some (.int .i64 12) := by rw [← hc]; exact (GA.o.cell 0).trans (by rw [HES.o]; try rfl)
 go_upto_region 25 with fail
 clear y0
 have hk : k < x.mems.length := (List.getElem?_eq_some_iff.1 hmk).1
 have hme2 : x.mems[k] = m := (List.getElem?_eq_some_iff.1 hmk).2
 have HB : Hid (atD zRm x.mems a.addr = (m, true)) := by rw [hi, ← hme2]; exact kCh hk
 obtain ⟨z, hz⟩ := kBi H.o.ml hmk
 have HN : Hid (getI (V.mp.map (·.1)) a.addr = some z.1) := by rw [Hid, kAx, hi]; unfold getI; rw [if_pos (by omega), Int.toNat_natCast, hz]; rfl
 have HZ := hid (And.intro hz hmk)
 have HKK := hid hk
 have HII := hid hi
 clear hz hi hmk hme2
 have y1 := (GA.o.cell 1).trans (by rw [HES.o]; try rfl)
 go_wp2_with fail
 refine (mem_any H.o a.addr hn).mono ?_
 rw [HN.o]
 rintro e w1 ⟨rfl, f⟩
 simp only [ptrV]
 have K0 := hid (H.o.frNo f)
 have FG := hid f
 have RFx := hid (kBX RF0.o f)
 replace HP0 := hid (kBH HP0.o f (fun _ _ m => m.elim) (fun _ _ r => r))
 replace GX := hid (GX.o.fr f id)
 replace GA := hid (GA.o.fr f id)
 replace GR := hid (GR.o.fr f id)
 clear f y1
 have y1 := (GA.o.cell 1).trans (by rw [HES.o]; try rfl)
 go_wp2_with (first | refine ldX GX.o HCL.o ?_ | fail)
 have HG := hid (kBd RFx.o (fun _ hk => hk.1) a.addr)
 rw [HB.o] at HG
 refine HG.o.mono ?_
 rintro e w2 ⟨ds, rfl, hr, f⟩
 obtain ⟨B2, d2, rfl, wl1, wl2, hl2, hl3, em⟩ := kBR hr
 have EM : Hid (tB.els w2 (Sd w2 R0) B2 m.b) := em.more (fun _ hk => hk.up f.size (fun _ _ r => r))
 clear hr HG HB HN em
 replace K0 := hid (K0.o.frNo f)
 replace FG := ftr FG f
 replace RFx := hid (kBX RFx.o f)
 replace HP0 := hid (kBH HP0.o f (fun _ _ m => m.elim) (fun _ _ r => r))
 replace GX := hid (GX.o.fr f id)
 replace GA := hid (GA.o.fr f id)
 replace GR := hid (GR.o.fr f id)
 clear f y1
 go_upto_region 27 with fail
 have f := (Fr.refl No w2).alloc (.cells #[.int .i64 m.lim.min, .int .i64 m.lim.max, .bool m.lim.has, .slice B2 m.b.length d2] 143)
 have GM := hid (Blk.new w2 143 #[.int .i64 m.lim.min, .int .i64 m.lim.max, .bool m.lim.has, .slice B2 m.b.length d2])
 have HQ : Hid (w.heap.size + 2 < w2.heap.size) := ltl HD.GR.lt FG.o.size
 replace K0 := hid (K0.o.frNo f)
 replace FG := ftr FG f
 replace RFx := hid (kBX RFx.o f)
 replace HP0 := hid (kBH HP0.o f (fun _ _ m => m.elim) (fun _ _ r => r))
 replace EM := hid (kBH EM.o f (fun _ _ m => m.elim) (fun _ _ r => r))
 replace GX := hid (GX.o.fr f id)
 replace GA := hid (GA.o.fr f id)
 replace GR := hid (GR.o.fr f id)
 clear f
 generalize w2.alloc (.cells #[.int .i64 m.lim.min, .int .i64 m.lim.max, .bool m.lim.has, .slice B2 m.b.length d2] 143) = W2 at *
 generalize w2.heap.size = q at *
 go_upto_region 31 with fail
 have hw : IntKind.u64.wrap (a.b.length : Int) = a.b.length := IntWalk.u64_in _ om
 have y18 := (GA.o.cell 18).trans (by rw [HES.o]; try rfl)
 have HMO := hid (K0.o.mat k z m HZ.o.1 HZ.o.2)
 go_wp2_with fail
 refine (kLC z.1 z.2.1 z.2.2 m.lim m.b a.b A2 c2 0 0 (a.b.length : Nat) W2 HMO.o (SrcIn.of_els HP0.o (fun _ hk => hk.1) hby.1 hby.2.1) om om om om om).mono ?_
 rintro e w3 ⟨rfl, hM, f⟩
 obtain ⟨k1, g1⟩ := K0.o.setMem (t' := ⟨m.lim, (kAr m.b a.b (lo 0) (lo 0) (lo a.b.length)).1⟩) HZ.o.1 HZ.o.2 (f.mono (fun _ _ h => .inr h)) hM (.inl rfl)
 obtain ⟨V1, hV1⟩ : ∃ V1, V1 = { V with mp := V.mp.set k (z.1, z.2.1, z.2.2) } := ⟨_, rfl⟩
 obtain ⟨R1, hR1⟩ : ∃ R1 : Nat → Prop, R1 = fun b => R0 b ∨ b = z.2.1 := ⟨_, rfl⟩
 rw [← hV1, ← hR1] at k1 g1
 have K1 := hid k1
 have GG := hid ((Grown.of_no FG.o).trans g1)
 have RF := hid (kCK RFx.o K0.o g1)
 replace HP0 := hid (kCO HP0.o K0.o g1)
 replace EM := hid (kCO EM.o K0.o g1)
 have HNO : Hid (∀ b, w.heap.size ≤ b → ¬ V.own b) := HOW
 replace GX := hid (GX.o.fr g1.fr (HOW.o _ nr))
 replace GA := hid (GA.o.fr g1.fr (HOW.o _ om))
 replace GR := hid (GR.o.fr g1.fr (HOW.o _ om))
 replace GM := hid (GM.o.fr g1.fr (HOW.o _ (by have := HQ.o; omega)))
 clear k1 g1 hM f y18 hV1 hR1 RFx K0 HMO HZ
 have y18 := (GA.o.cell 18).trans (by rw [HES.o]; try rfl)
 have m0 := GM.o.cell 0
 have m1 := GM.o.cell 1
 have m2 := GM.o.cell 2
 have m3 := GM.o.cell 3
 go_wp2_with fail
 refine (kHo m.lim B2 A2 d2 c2 m.b a.b 0 0 (a.b.length : Nat) w3 (RmJn.of_els EM.o (fun _ hk => hk.1) hl2 hl3) (SrcIn.of_els HP0.o (fun _ hk => hk.1) hby.1 hby.2.1) om om om om om).mono ?_
 rintro e w4 ⟨E, ec, rfl, hJ, hor, f⟩
 obtain ⟨tr, htr⟩ : ∃ t, t = (kAr m.b a.b (lo 0) (lo 0) (lo a.b.length)).2 := ⟨_, rfl⟩
 have EE : tB.els w4 (Sd w4 R1) E (kAr m.b a.b (lo 0) (lo 0) (lo a.b.length)).1 := by
  rcases hor with ⟨he, hbe⟩ | hfr
  · rw [he, hbe]
    exact kBH EM.o f (fun _ _ m => m.elim) (fun _ _ r => r)
  exact hJ.els (fun q o he hq => kCL K1.o.low ⟨hfr q o he, hq⟩)
 have EN := hid (kGv (a := ⟨m.lim, (kAr m.b a.b (lo 0) (lo 0) (lo a.b.length)).1⟩) wl1 wl2 hJ.cap hJ.max EE)
 replace RF := hid (kBX RF.o f)
 have K2 := hid (K1.o.frNo f)
 have F4 := hid f
 replace GX := hid (GX.o.fr f id)
 replace GA := hid (GA.o.fr f id)
 replace GR := hid (GR.o.fr f id)
 clear f EE hJ hor EM HP0 GM y18 m0 m1 m2 m3 htr
 go_upto_region 33 with fail
 have f := (Fr.refl No w4).alloc (.cells #[.int .i64 m.lim.min, .int .i64 m.lim.max, .bool m.lim.has, .slice E (kAr m.b a.b (lo 0) (lo 0) (lo a.b.length)).1.length ec] 143)
 have G4 := hid (Blk.new w4 143 #[.int .i64 m.lim.min, .int .i64 m.lim.max, .bool m.lim.has, .slice E (kAr m.b a.b (lo 0) (lo 0) (lo a.b.length)).1.length ec])
 replace EN := hid (kBX EN.o f)
 replace RF := hid (kBX RF.o f)
 replace K2 := hid (K2.o.frNo f)
 replace F4 := ftr F4 f
 replace GX := hid (GX.o.fr f id)
 replace GA := hid (GA.o.fr f id)
 replace GR := hid (GR.o.fr f id)
 clear f
 generalize w4.alloc (.cells #[.int .i64 m.lim.min, .int .i64 m.lim.max, .bool m.lim.has, .slice E (kAr m.b a.b (lo 0) (lo 0) (lo a.b.length)).1.length ec] 143) = W5 at *
 generalize w4.heap.size = q4 at *
 have y1 : W5.cell? ⟨w.heap.size + 1, 1, none⟩ = some (.int .i64 (k : Nat)) := by rw [← HII.o]; exact (GA.o.cell 1).trans (by rw [HES.o]; try rfl)
 have m0 := G4.o.cell 0
 have m1 := G4.o.cell 1
 have m2 := G4.o.cell 2
 have m3 := G4.o.cell 3
 go_wp2_with (first | refine ldX GX.o HCL.o ?_ | fail)
 refine (kEu RF.o (fun _ hk => hk.1) ⟨m.lim, (kAr m.b a.b (lo 0) (lo 0) (lo a.b.length)).1⟩ E ec k HKK.o EN.o hn).mono ?_
 rintro e W3 ⟨cs2, rfl, hr2, f2⟩
 clear y1 m0 m1 m2 m3 G4
 have RF2 := hid (rd_fresh2 K2.o.low f2 hr2)
 obtain ⟨l2, o2⟩ := rx_one RF2.o
 have HL2 := hid l2
 have HO2 := hid o2
 have F3 := ftr F4 f2
 replace GR := hid (GR.o.fr f2 id)
 clear hr2 f2 l2 o2 GX GA RF RF0
 go_wp2_with (first | refine stX GR.o rfl HL2.o HO2.o ?_ | fail)
 exact HD.fin GG.o K1.o F3.o RF2.o GR.o
end
def Qs (S : Nat → Prop) (w W : World) (k : Nat) : Prop := S k ∨ w.heap.size + 2 ≤ k ∧ k < W.heap.size
def Bx (w : World) (k : Nat) : Prop := k = w.heap.size ∨ k = w.heap.size + 1
theorem Qs.off {S : Nat → Prop} {w W : World} (hS : Lt S w) (hw : w.heap.size ≤ W.heap.size) {k : Nat} (h : Qs S w W k) : k < W.heap.size ∧ ¬ Bx w k := by
 rcases h with h | h
 · have := hS k h
   exact ⟨by omega, by rintro (e | e) <;> omega⟩
 exact ⟨h.2, by rintro (e | e) <;> omega⟩
theorem q_rd {α : Type} {t : Ty α} [ho : TyOk t] [hm : TyMore t] {S : Nat → Prop} {w W W' : World} {cs : LV} {x : α} (h : t.rd W (Qs S w W) cs x) (hS : Lt S w) (hw : w.heap.size ≤ W.heap.size) (f : Fr (Bx w) W W') : t.rd W' (Qs S w W') cs x :=
 hm.more _ _ _ _ _ (ho.keep _ _ _ _ _ h (fun p hp => f.cell (hp.off hS hw).1 (hp.off hS hw).2)) (fun k hk => hk.imp id (fun h => ⟨h.1, ltl h.2 f.size⟩))
theorem kIx {α : Type} {t : Ty α} [ho : TyOk t] [hm : TyMore t] {S : Nat → Prop} {w W W' : World} {A : OA} {x : List α} (h : t.els W (Qs S w W) A x) (hS : Lt S w) (hw : w.heap.size ≤ W.heap.size) (f : Fr (Bx w) W W') : t.els W' (Qs S w W') A x :=
 (h.fr f (fun k hk => hk.off hS hw)).more (fun k hk => hk.imp id (fun h => ⟨h.1, ltl h.2 f.size⟩))
theorem kMC {S : Nat → Prop} {w W W' : World} (hw : w.heap.size + 2 ≤ W.heap.size) (f : W.heap.size ≤ W'.heap.size) {k : Nat} (h : Qs S w W k ∨ Nw W W' k) : Qs S w W' k :=
 h.elim (fun h => h.imp id (fun h => ⟨h.1, ltl h.2 f⟩)) (fun h => .inr ⟨Nat.le_trans hw h.1, h.2⟩)
theorem results_wide3 {P : Program} {fn : Func} {p t u : Tmp} {ty : TypeId} (h : fn.results = #[.cell p ty, .tmp t, .tmp u]) (tmps : Array Value) (w : World) (g : Nat) (ds : LV) (d : TypeDesc)
    (hp : tmps.getD p undef = .pointer (some ⟨g, 0, none⟩)) (hr : w.rangeAt g 0 ds) (hu : P.underlying ty = some d) (hd : d.isRow = true) (hi : (P.info? ty).map (·.size) = some ds.length) :
    (results fn tmps).run P w = .ok (.tuple #[.agg ds.toArray, tmps.getD t undef, tmps.getD u undef]) w := by
 have hp' : tmps[p]?.getD undef = .pointer (some ⟨g, 0, none⟩) := by simpa using hp
 exact yy97
def RcTo (S : Nat → Prop) (r : Rx × List Vl × Int) (w : World) (e : Ending) (w' : World) : Prop :=
 ∃ (cs : LV) (A : OA) (c : Nat), e = .returned (.tuple #[.agg cs.toArray, .slice A r.2.1.length c, .int .i64 r.2.2]) ∧ tRx.rd w' (fun k => S k ∨ Nw w w' k) cs r.1 ∧ r.2.1.length ≤ c ∧ tVl.els w' (fun k => S k ∨ Nw w w' k) A r.2.1 ∧ Fr No w w'
def kOR (l : List Vl × Int) (S : Nat → Prop) (w : World) (e : Ending) (w' : World) : Prop :=
 ∃ (A : OA) (c : Nat), e = .returned (.tuple #[.slice A l.1.length c, .int .i64 l.2]) ∧ l.1.length ≤ c ∧ tVl.els w' S A l.1 ∧ Fr No w w'
theorem rans_any (a : Ac) (np : Nat) (rs : List Int) (A A1 A2 : OA) (c c1 c2 : Nat) (S : Nat → Prop) (w : World) (hS : Lt S w) (ha : tVl.els w S A a.vals) (h2 : (Ty.int .i64).els w S A2 rs) (hc : a.vals.length ≤ c) (l1 : a.vals.length ≤ 500) (l2 : rs.length ≤ 140737488351232) :
    Calls prog 130 #[.agg #[.int .i64 a.kind, .slice A a.vals.length c, .int .i64 a.mem, .int .i64 a.at_, .int .u8 a.byte], .agg #[.slice A1 np c1, .slice A2 rs.length c2]] w (kOR (ansL a rs) S w) := by
 unfold ansL
 by_cases hk : a.kind = 0 ∨ a.kind = 2
 · have hkb : (decide (a.kind = 0) || decide (a.kind = 2)) = true := by simpa using hk
   cases hf : fitB a.vals rs with
   | true =>
    rw [if_pos (by simp only [ansB, hkb, hf, Bool.and_self])]
    refine (kLy a.kind a.mem a.at_ a.byte a.vals np rs A A1 A2 c c1 c2 S w hS ha h2 hc l1 l2 hk hf).mono ?_
    rintro e w' ⟨A', c', rfl, h1, h3, h4⟩
    exact ⟨A', c', rfl, h1, h3, h4⟩
   | false =>
    rw [if_neg (by simp only [ansB, hkb, hf]; decide)]
    refine (kNW a.kind a.mem a.at_ a.byte a.vals np rs A A1 A2 c c1 c2 S w hS ha h2 hc l1 l2 hk hf).mono ?_
    exact yy78
 have hkb : (decide (a.kind = 0) || decide (a.kind = 2)) = false := by simpa using hk
 rw [if_neg (by simp only [ansB, hkb]; simp)]
 refine (kLz a.kind a.mem a.at_ a.byte a.vals np rs A A1 A2 c c1 c2 S w hS ha h2 hc l1 l2 (fun e => hk (.inl e)) (fun e => hk (.inr e))).mono ?_
 exact yy78
theorem Rx_two {w : World} {S : Nat → Prop} {cs : LV} {x : Rx} (h : tRx.rd w S cs x) : ∃ A0 c0 A1 c1, cs[0]? = some (.slice A0 x.hosts.length c0) ∧ cs[1]? = some (.slice A1 x.counts.length c1) ∧ tHo.els w S A0 x.hosts ∧ tI.els w S A1 x.counts := by
 obtain ⟨A0, c0, A1, c1, A2, c2, A3, c3, A4, c4, A5, c5, A6, c6, A7, c7, A8, c8, A9, c9, rfl, -, -, e0, -, -, e1, -⟩ := kAU h
 exact ⟨A0, c0, A1, c1, rfl, rfl, e0, e1⟩
section
variable {w : World} {S : Nat → Prop} {x : Rx} {cs : LV}
abbrev q12x0 : Array Value := #[.slice none 0 0, .slice none 0 0, .slice none 0 0, .slice none 0 0, .slice none 0 0, .slice none 0 0, .slice none 0 0, .slice none 0 0, .slice none 0 0, .slice none 0 0]
theorem kJz (h : tRx.rd w S cs x) (hS : Lt S w) (hok : StOk x) (i : Int) (args : List Vl) (A : OA) (c : Nat) (hi : i < 0 ∨ (x.hosts.length : Int) ≤ i) :
    Calls prog 41 #[.agg cs.toArray, .int .i64 i, .slice A args.length c] w (RcTo S (kAc x i args) w) := by
 have hcs : kAc x i args = (x, [], 12) := by unfold kAc; rw [kBh hi]
 rw [hcs]
 clear hcs
 have hcl : cs.length = 10 := TyOk.len _ _ _ _ h
 have HCL := hid hcl
 have HS := hid hS
 have F0 := hid (((Fr.refl No w).alloc (.cells cs.toArray 39)).alloc (.cells q12x0 39))
 have GX := hid ((Blk.new w 39 cs.toArray).alloc (.cells q12x0 39))
 have GR := hid (Blk.new1 w (.cells cs.toArray 39) 39 q12x0)
 have HI : Hid (∀ n, n = 10 → (prog.info? 39).map (·.size) = some n) := by rintro _ rfl; kernel_rfl
 have HON : Hid (∀ {X : World} {S : Nat → Prop} {c : LV} {y : Rx}, tRx.rd X S c y → c.length = 10 ∧ c.toArray.all (·.oneCell') = true) := fun hr => ⟨TyOk.len _ _ _ _ hr, all_oneCell_toArray ((inferInstance : kAG tRx).one _ _ _ _ hr)⟩
 obtain ⟨Ah, ch, Ac_, cc, e0, e1, eho, eco⟩ := Rx_two h
 have HSZ : Hid (((w.alloc (.cells cs.toArray 39)).alloc (.cells q12x0 39)).heap.size = w.heap.size + 2) := by unfold Hid; simp
 have RF : Hid (tRx.rd ((w.alloc (.cells cs.toArray 39)).alloc (.cells q12x0 39)) (Qs S w ((w.alloc (.cells cs.toArray 39)).alloc (.cells q12x0 39))) cs x) := kAH h F0.o hS (fun _ hk => .inl hk)
 have hl := hok.hl
 clear h hok hcl eho eco e1
 by_cases h0 : i < 0
 · have hd : decide (i < 0) = true := by simpa using h0
   clear hi
   exact yy7
 have h1 : (x.hosts.length : Int) ≤ i := om
 have y0 := (GX.o.cell 0).trans (show cs.toArray[0]? = _ by simpa using e0)
 clear hi
 exact yy7
theorem kHp (h : tRx.rd w S cs x) (hS : Lt S w) (hok : StOk x) (k : Nat) (args : List Vl) (A : OA) (c : Nat) (hk : k < x.hosts.length) (ha : tVl.els w S A args) (hl2 : args.length ≤ 140737488351232) (hf : fitB args x.hosts[k].ty.params = false) :
    Calls prog 41 #[.agg cs.toArray, .int .i64 k, .slice A args.length c] w (RcTo S (kAc x k args) w) := by
 have hcs : kAc x k args = (x, [], 12) := by unfold kAc; rw [kBL hk]; simp [hf]
 rw [hcs]
 clear hcs
 have hcl : cs.length = 10 := TyOk.len _ _ _ _ h
 have HCL := hid hcl
 have HS := hid hS
 have F0 := hid (((Fr.refl No w).alloc (.cells cs.toArray 39)).alloc (.cells q12x0 39))
 have GX := hid ((Blk.new w 39 cs.toArray).alloc (.cells q12x0 39))
 have GR := hid (Blk.new1 w (.cells cs.toArray 39) 39 q12x0)
 have HI : Hid (∀ n, n = 10 → (prog.info? 39).map (·.size) = some n) := by rintro _ rfl; kernel_rfl
 have HON : Hid (∀ {X : World} {S : Nat → Prop} {c : LV} {y : Rx}, tRx.rd X S c y → c.length = 10 ∧ c.toArray.all (·.oneCell') = true) := fun hr => ⟨TyOk.len _ _ _ _ hr, all_oneCell_toArray ((inferInstance : kAG tRx).one _ _ _ _ hr)⟩
 obtain ⟨Ah, ch, Ac_, cc, e0, e1, eho, eco⟩ := Rx_two h
 have HSZ : Hid (((w.alloc (.cells cs.toArray 39)).alloc (.cells q12x0 39)).heap.size = w.heap.size + 2) := by unfold Hid; simp
 have RF : Hid (tRx.rd ((w.alloc (.cells cs.toArray 39)).alloc (.cells q12x0 39)) (Qs S w ((w.alloc (.cells cs.toArray 39)).alloc (.cells q12x0 39))) cs x) := kAH h F0.o hS (fun _ hk => .inl hk)
 have hkc : k < x.counts.length := by rw [hok.cl]; exact hk
 have HG := hid (kDu (hok.ho _ (List.getElem_mem hk)))
 obtain ⟨b, o, A1, c1, A2, c2, A3, c3, rfl, hbS, y0, y1, y2, y3, y4, m1, m2, p1, p2, p3, q1, q2, q3, r1, r2, r3⟩ := kBa eho k hk
 obtain ⟨bc, oc, rfl, hbc, yc, wc⟩ := i_at eco k hkc
 have i0 := nki k
 have i1 : (k : Int) < x.hosts.length := om
 have HAg := hid ha
 have HE0 := hid e0
 have HE1 := hid e1
 have HBS := hid (And.intro hbS hbc)
 have HEL := hid (And.intro p3 (And.intro q3 r3))
 have hl := hok.hl
 generalize x.counts[k] = n at *
 generalize x.hosts[k] = hx at *
 have HY := hid (And.intro y0 (And.intro y1 (And.intro y2 (And.intro y3 (And.intro y4 yc)))))
 clear h hok hcl eho eco e0 e1 ha m1 m2 p1 p2 p3 q1 q2 q3 r1 r2 r3 y0 y1 y2 y3 y4 yc wc hbS hbc
 have HF := hid (fun (X : World) (f : Fr No w X) => kCJ A A1 args hx.ty.params c c1 X.heap.size X.heap.size X nr nr (kAA (S' := (· < X.heap.size)) HAg.o f HS.o (fun k hk => ltl (HS.o k hk) f.size)) (kAA (S' := (· < X.heap.size)) HEL.o.1 f HS.o (fun k hk => ltl (HS.o k hk) f.size)) hl2 (by have := HG.o.p; omega))
 rw [hf] at HF
 go_enter func41, ntmps41
 go_upto_region 1 with fail
 generalize (w.alloc (.cells cs.toArray 39)).alloc (.cells q12x0 39) = W at *
 have HX : Hid (∀ X, Fr No W X → Ce X w.heap.size 0 (.slice (some ⟨b, o, none⟩) x.hosts.length ch) ∧ Ce X w.heap.size 1 (.slice (some ⟨bc, oc, none⟩) x.counts.length cc) ∧ Ce X b (o + k * 5) (.string hx.mod) ∧ Ce X b (o + k * 5 + 1) (.string hx.name) ∧ Ce X b (o + k * 5 + 2) (.slice A1 hx.ty.params.length c1) ∧ Ce X b (o + k * 5 + 3) (.slice A2 hx.ty.results.length c2) ∧ Ce X b (o + k * 5 + 4) (.slice A3 hx.acts.length c3) ∧ Ce X bc (oc + k) (.int .i64 n)) := fun X f => by
  exact yy31
 obtain ⟨x0, -, -, -, x2, -⟩ := HX.o _ (Fr.refl No W)
 go_wp2_with fail
 refine (HF.o _ F0.o).mono ?_
 rintro e w1 ⟨rfl, f⟩
 clear x0 x2 HX HF
 replace RF := hid (q_rd RF.o HS.o F0.o.size (f.mono (fun _ _ m => m.elim)))
 replace F0 := ftr F0 f
 replace GX := hid (GX.o.fr f id)
 replace GR := hid (GR.o.fr f id)
 clear f
 have HT : Hid (w1.there (w.heap.size + 1) 0 cs.toArray.size) := by
  have h := there_blk (n := 10) GR.o rfl
  have e : cs.toArray.size = 10 := HCL.o
  rw [e]
  exact h
 have HJ : Hid ((prog.info? 39).map (·.size) = some cs.toArray.size) := HI.o _ (show cs.toArray.size = 10 from HCL.o)
 have HO3 := hid (HON.o RF.o).2
 have RX : w1.rangeAt w.heap.size 0 cs := by simpa using rangeAt_blk GX.o
 go_wp2_with (first
  | (refine wpList_load_mid (by rfl) 39 _ (by rfl) w.heap.size 0 (by rfl) _ _ RX underlying39 (by rfl) (HI.o _ HCL.o) ?_)
  | (refine wpList_store_mid (by rfl) 39 _ _ (by rfl) (w.heap.size + 1) 0 cs.toArray (by rfl) (by rfl) (by exact HT.o) (by exact HJ.o) (by exact HO3.o) ?_)
  | fail)
 have FT := Fr.setCells' (M := Bx w) (b := w.heap.size + 1) (fun _ => .inr rfl) cs 0 w1 (Fr.refl _ w1)
 have FW := Fr.setCells' (a := w) (M := No) (b := w.heap.size + 1) (fun h => absurd h om) cs 0 w1 F0.o
 have RR := World.rangeAt_setCells_same w1 (w.heap.size + 1) 0 cs (show w1.there _ 0 cs.length from HT.o)
 have hsz := F0.o.size
 refine bodyPost_ret (v := .tuple #[.agg cs.toArray, .slice none ([] : List Vl).length 0, .int .i64 12]) (results_wide3 (fn := f41) (p := 6) (t := 7) (u := 8) (ty := 39) rfl _ _ (w.heap.size + 1) _ _ (by rfl) RR underlying39 (by rfl) (HI.o _ HCL.o)) rfl ?_
 exact ⟨cs, none, 0, rfl, TyMore.more _ _ _ _ _ (q_rd RF.o HS.o F0.o.size FT) (fun k hk => hk.imp id (fun h => ⟨by have := h.1; omega, h.2⟩)), nr, .inl rfl, FW⟩
end
theorem Ho_get {w : World} {S : Nat → Prop} {A : OA} {l : List Ho} (h : tHo.els w S A l) {k : Nat} {y : Ho} (hk : l[k]? = some y) : ∃ (b o : Nat) (A1 : OA) (c1 : Nat) (A2 : OA) (c2 : Nat) (A3 : OA) (c3 : Nat), A = some ⟨b, o, none⟩ ∧ S b ∧ w.cell? ⟨b, o + k * 5, none⟩ = some (.string y.mod) ∧ w.cell? ⟨b, o + k * 5 + 1, none⟩ = some (.string y.name) ∧ w.cell? ⟨b, o + k * 5 + 2, none⟩ = some (.slice A1 y.ty.params.length c1) ∧ w.cell? ⟨b, o + k * 5 + 3, none⟩ = some (.slice A2 y.ty.results.length c2) ∧ w.cell? ⟨b, o + k * 5 + 4, none⟩ = some (.slice A3 y.acts.length c3) ∧ y.mod.size ≤ maxLen ∧ y.name.size ≤ maxLen ∧ y.ty.params.length ≤ c1 ∧ c1 ≤ maxLen ∧ (Ty.int .i64).els w S A1 y.ty.params ∧ y.ty.results.length ≤ c2 ∧ c2 ≤ maxLen ∧ (Ty.int .i64).els w S A2 y.ty.results ∧ y.acts.length ≤ c3 ∧ c3 ≤ maxLen ∧ tAc.els w S A3 y.acts := by
 obtain ⟨hlt, rfl⟩ := List.getElem?_eq_some_iff.1 hk
 exact kBa h k hlt
structure Cr (S : Nat → Prop) (w : World) (ga : Nat) (gs : Array Value) (l : List Vl) (A : OA) (c : Nat) (cs : LV) (x : Rx) (Z : World) : Prop where
 rf : tRx.rd Z (Qs S w Z) cs x
 f0 : Fr No w Z
 gx : Blk Z w.heap.size 39 cs.toArray
 gr : Blk Z (w.heap.size + 1) 39 z10
 gb : Blk Z ga 110 gs
 ev : tVl.els Z S A l
 wc : w.heap.size + 2 ≤ Z.heap.size
 hg : w.heap.size + 2 ≤ ga
 hS : ∀ b, S b → b < w.heap.size
 hc : l.length ≤ c
section
variable {S : Nat → Prop} {w Y Z : World} {ga : Nat} {gs : Array Value} {l : List Vl} {A : OA} {c : Nat} {cs : LV} {x : Rx} (h : Cr S w ga gs l A c cs x Z)
include h
theorem Cr.no (f : Fr No Z Y) : Cr S w ga gs l A c cs x Y :=
 ⟨q_rd h.rf h.hS h.f0.size (f.mono (fun _ _ m => m.elim)), h.f0.trans f i3, h.gx.fr f id, h.gr.fr f id, h.gb.fr f id, h.ev.fr f (fun b hb => ⟨ltl (h.hS b hb) h.f0.size, fun x => x⟩), Nat.le_trans h.wc f.size, h.hg, h.hS, h.hc⟩
theorem Cr.rs : ∀ b, Qs S w Z b → b < Z.heap.size := fun b hb => (hb.off h.hS h.f0.size).1
theorem Cr.sto {ds : LV} {y : Rx} (r : tRx.rd Z (Qs S w Z) ds y) : Cr S w ga gs l A c ds y (Z.setCells w.heap.size 0 ds) := by
 have fx := Fr.setCells' (M := One w.heap.size) (b := w.heap.size) (fun _ => rfl) ds 0 Z (Fr.refl _ Z)
 exact ⟨q_rd r h.hS h.f0.size (fx.mono (fun _ _ h => .inl h)), Fr.setCells' (a := w) (M := No) (b := w.heap.size) (fun h => absurd h om) ds 0 Z h.f0, h.gx.setAll ((rx_one h.rf).1.trans (rx_one r).1.symm), h.gr.fr fx (by show ¬ w.heap.size + 1 = w.heap.size; omega), h.gb.fr fx (by have := h.hg; show ¬ ga = w.heap.size; omega),
  h.ev.fr fx (fun b hb => ⟨ltl (h.hS b hb) h.f0.size, by have := h.hS b hb; show ¬ b = w.heap.size; omega⟩), Nat.le_trans h.wc fx.size, h.hg, h.hS, h.hc⟩
theorem Cr.fin {r : Rx × List Vl × Int} {vs : List Vl} {n : Int} {A' : OA} {c' : Nat} {act : Act} (e : r = (x, vs, n)) (he : vs.length ≤ c' ∧ tVl.els Z (Qs S w Z) A' vs) (hp : act.tmps.getD 6 undef = .pointer (some ⟨w.heap.size + 1, 0, none⟩) := by rfl) (h7 : act.tmps.getD 7 undef = .slice A' vs.length c' := by rfl) (h8 : act.tmps.getD 8 undef = .int .i64 n := by rfl) (hd : act.defers = [] := by rfl) :
    bodyPost prog f41 (RcTo S r w) .ret act (Z.setCells (w.heap.size + 1) 0 cs) := by
 subst e
 have FT := Fr.setCells' (M := Bx w) (b := w.heap.size + 1) (fun _ => .inr rfl) cs 0 Z (Fr.refl _ Z)
 have hl := (rx_one h.rf).1
 have hsz := h.f0.size
 refine bodyPost_ret (v := .tuple #[.agg cs.toArray, .slice A' vs.length c', .int .i64 n]) (by rw [← h7, ← h8]; exact results_wide3 (fn := f41) (p := 6) (t := 7) (u := 8) (ty := 39) rfl _ _ (w.heap.size + 1) _ _ hp (World.rangeAt_setCells_same Z (w.heap.size + 1) 0 cs (h.gr.to rfl hl)) underlying39 rfl (by rw [hl]; exact kBo)) hd ?_
 exact ⟨cs, A', c', rfl, TyMore.more _ _ _ _ _ (q_rd h.rf h.hS h.f0.size FT) (fun k hk => hk.imp id (fun q => ⟨by have := q.1; omega, q.2⟩)), he.1, (kIx he.2 h.hS h.f0.size FT).more (fun k hk => hk.imp id (fun q => ⟨by have := q.1; omega, q.2⟩)), Fr.setCells' (a := w) (M := No) (b := w.heap.size + 1) (fun h => absurd h om) cs 0 Z h.f0⟩
end
section
variable {w : World} {S : Nat → Prop} {x : Rx} {cs : LV}
theorem kKA (h : tRx.rd w S cs x) (hS : Lt S w) (hok : StOk x) (k : Nat) (args : List Vl) (A : OA) (c : Nat) (hk : k < x.hosts.length) (ha : tVl.els w S A args) (hac : args.length ≤ c ∧ c ≤ maxLen) (hl2 : args.length ≤ 140737488351232) (hf : fitB args x.hosts[k].ty.params = true) :
    Calls prog 41 #[.agg cs.toArray, .int .i64 k, .slice A args.length c] w (RcTo S (kAc x k args) w) := by
 have HCL := hid (rx_one h).1
 have HRD := hid h
 have HS := hid hS
 obtain ⟨F0, GX, GR⟩ := bx0 w cs z10 39
 obtain ⟨Ah, ch, Ac_, cc, e0, e1, eho, eco⟩ := Rx_two h
 have hkc : k < x.counts.length := by rw [hok.cl]; exact hk
 have HG := hid (kDu (hok.ho _ (List.getElem_mem hk)))
 obtain ⟨b, o, A1, c1, A2, c2, A3, c3, rfl, hbS, y0, y1, y2, y3, y4, m1, m2, p1, p2, p3, q1, q2, q3, r1, r2, r3⟩ := kBa eho k hk
 obtain ⟨bc, oc, rfl, hbc, yc, wc⟩ := i_at eco k hkc
 have i0 := nki k
 have i1 : (k : Int) < x.hosts.length := om
 have HAg := hid ha
 have HE0 := hid e0
 have HE1 := hid e1
 have HBS := hid (And.intro hbS hbc)
 have HEL := hid (And.intro p3 (And.intro q3 r3))
 have hl := hok.hl
 have hcn := hok.cn _ (List.getElem_mem hkc)
 have hcs : kAc x k args = finS (kCc x k x.counts[k] args) (kCY x.hosts[k] x.counts[k]) x.hosts[k].ty.results := by
  unfold kAc
  rw [kBL hk]
  simp only [hf, if_true, Int.toNat_natCast, List.getElem?_eq_getElem hkc, Option.getD_some]
 rw [hcs]
 clear hcs
 have HCV : Hid (x.counts[k]? = some x.counts[k]) := List.getElem?_eq_getElem hkc
 have HHX : Hid (x.hosts[k]? = some x.hosts[k]) := List.getElem?_eq_getElem hk
 obtain ⟨X6, hX6⟩ : ∃ X6, X6 = kCc x k x.counts[k] args := ⟨_, rfl⟩
 have hH6 : Hid (X6.hosts = x.hosts) := by rw [hX6]; exact rfl
 have hMS : Hid (kDg X6 ∧ X6.mems.length ≤ 1000000) := by rw [hX6]; exact ⟨hok.ms, hok.lm⟩
 rw [← hX6]
 have HX6 := hid hX6
 clear hX6
 obtain ⟨a, hact⟩ : ∃ a, a = kCY x.hosts[k] x.counts[k] := ⟨_, rfl⟩
 rw [← hact]
 obtain ⟨hj0, hjm0⟩ := kJH (L := x.hosts[k].acts.length) hcn.1 HG.o.a
 have haj0 : a = x.hosts[k].acts[x.counts[k].toNat % x.hosts[k].acts.length] := by
  rw [hact]; unfold kCY; rw [List.getElem?_eq_getElem hj0]; rfl
 have hav : a.vals.length ≤ 8 := by rw [haj0]; exact HG.o.v _ (List.getElem_mem hj0)
 obtain ⟨j, hjj⟩ : ∃ j, j = x.counts[k].toNat % x.hosts[k].acts.length := ⟨_, rfl⟩
 have hj : j < x.hosts[k].acts.length := by rw [hjj]; exact hj0
 have hjm : x.counts[k].tmod x.hosts[k].acts.length = j := by rw [hjj]; exact hjm0
 have haj : a = x.hosts[k].acts[j] := by rw [haj0]; simp only [hjj]
 clear hact haj0 hjm0 hj0 hjj
 have HWB : Hid ((Lit.int .u8 a.byte).wf = true) := by
  obtain ⟨_, _, _, _, _, _, _, _, _, _, _, _, _, _, _, _, _, j4⟩ := kGy r3 j hj
  rw [haj]
  exact j4
 have HOK := hid hok
 have HKC := hid hkc
 have HBD := hid (hok.hb _ (List.getElem_mem hk))
 have i2 : (k : Int) < x.counts.length := om
 have HAC := hid hac
 generalize x.counts[k] = n at *
 generalize x.hosts[k] = hx at *
 have HACT := hid (fun (X : World) (f : Fr No w X) => kKq hx A1 A2 A3 c1 c2 c3 S n j X (fun b hb => ltl (hS b hb) f.size) (kAA r3 f hS (fun _ h => h)) (by have := HBD.o.a; omega) hcn.1 om hj hjm (by rw [← haj]; omega))
 rw [← haj] at HACT
 have HCN := hid hcn
 have HAV := hid hav
 have HY := hid (And.intro y0 (And.intro y1 (And.intro y2 (And.intro y3 (And.intro y4 yc)))))
 have HR := hid q3
 clear h hok eho eco e0 e1 ha m1 m2 p1 p2 p3 q1 q2 q3 r1 r2 r3 y0 y1 y2 y3 y4 yc wc hbS hbc hcn hav hj hjm haj hkc hac hS
 have HF := hid (fun (X : World) (f : Fr No w X) => kCJ A A1 args hx.ty.params c c1 X.heap.size X.heap.size X nr nr (kAA (S' := (· < X.heap.size)) HAg.o f HS.o (fun k hk => ltl (HS.o k hk) f.size)) (kAA (S' := (· < X.heap.size)) HEL.o.1 f HS.o (fun k hk => ltl (HS.o k hk) f.size)) hl2 (by have := HG.o.p; omega))
 rw [hf] at HF
 go_enter func41, ntmps41
 go_upto_region 1 with fail
 generalize (w.alloc (.cells cs.toArray 39)).alloc (.cells z10 39) = W at *
 have HX : Hid (∀ X, Fr No W X → Ce X w.heap.size 0 (.slice (some ⟨b, o, none⟩) x.hosts.length ch) ∧ Ce X w.heap.size 1 (.slice (some ⟨bc, oc, none⟩) x.counts.length cc) ∧ Ce X b (o + k * 5) (.string hx.mod) ∧ Ce X b (o + k * 5 + 1) (.string hx.name) ∧ Ce X b (o + k * 5 + 2) (.slice A1 hx.ty.params.length c1) ∧ Ce X b (o + k * 5 + 3) (.slice A2 hx.ty.results.length c2) ∧ Ce X b (o + k * 5 + 4) (.slice A3 hx.acts.length c3) ∧ Ce X bc (oc + k) (.int .i64 n)) := fun X f => by
  exact yy31
 obtain ⟨x0, -, -, -, x2, -⟩ := HX.o _ (Fr.refl No W)
 go_wp2_with fail
 refine (HF.o _ F0.o).mono ?_
 rintro e w1 ⟨rfl, f⟩
 clear x0 x2 HF
 replace HX := hid (fun (X : World) (g : Fr No w1 X) => HX.o X (f.trans g i3))
 replace F0 := ftr F0 f
 replace GX := hid (GX.o.fr f id)
 replace GR := hid (GR.o.fr f id)
 have HW1 : Hid (w.heap.size + 2 ≤ w1.heap.size) := hid GR.o.lt
 have HS1 : Hid (Lt S w1) := hid (fun b hb => ltl (HS.o b hb) F0.o.size)
 replace HACT := hid (fun (X : World) (g : Fr No w1 X) => HACT.o X (F0.o.trans g i3))
 clear f
 go_upto_region 3 with fail
 go_cut [9] (fun v9 wx => ∃ (ga : Nat) (Av : OA) (cv : Nat), v9 = .pointer (some ⟨ga, 0, none⟩) ∧ Hid (Fr No w1 wx) ∧ Hid (w1.heap.size ≤ ga) ∧ Hid (Blk wx ga 110 #[.int .i64 a.kind, .slice Av a.vals.length cv, .int .i64 a.mem, .int .i64 a.at_, .int .u8 a.byte]) ∧ Hid (a.vals.length ≤ cv ∧ tVl.els wx S Av a.vals))
 case first =>
  refine kBu (Fr No w1) (.rd 0 (.rd 1 (.rd 2 (.rd 3 (.rd 4 (.rd 5 (.rd 6 (.rd 7 (.rd 8 (.rd 9 (.alt 10 (.rd 11 (.rd 12 (.rd 13 (.eff 14 (.eff 15 (.rd 16 .nil)))))) 14 (.eff 10 (.rd 11 (.rd 12 (.rd 13 (.eff 15 (.rd 16 .nil))))))))))))))))) kr kr kr rfl (Fr.refl _ w1).drew ?_
  refine rT HX.o ?_
  refine kCl ?_ ?_
  · refine wpT_eff rfl rfl fun K hK => sz ?_
    refine (HACT.o _ (Fr.refl No w1).drew).mono ?_
    rintro e Y0 ⟨Av, cv, rfl, hcv, hev, f6⟩
    have G0 := hid ((Fr.refl No w1).drew.trans f6 i3)
    have EV := hid (And.intro hcv hev)
    clear f6 hcv hev
    refine hK _ _ (G0.o) ?_
    clear hK K
    refine rT HX.o ?_
    refine tNw G0.o fun ga Y1 G1 F1 B1 L1 => ?_
    refine rT HX.o ?_
    refine tWr G1.o L1.o.1 B1.o fun Y2 G2 F2 C2 => ?_
    refine rT HX.o ?_
    refine wpT_nil ?_
    go_wp2
    go_meet
    exact ⟨ga, Av, cv, rfl, G2, hid L1.o.1, C2, hid ⟨EV.o.1, (EV.o.2.fr F1.o (fun b hb => ⟨ltl (HS1.o b hb) G0.o.size, fun x => x⟩)).fr F2.o (fun b hb => ⟨ltl (HS1.o b hb) G1.o.size, fun e => by have e : b = ga := e; have := HS1.o b hb; have := L1.o.1; omega⟩)⟩⟩
  · refine tNw (Fr.refl No w1).drew fun ga Y0 G0 F1 B0 L1 => ?_
    refine rT HX.o ?_
    refine wpT_eff rfl rfl fun K hK => sz ?_
    refine (HACT.o _ G0.o).mono ?_
    rintro e Y1 ⟨Av, cv, rfl, hcv, hev, f6⟩
    have G1 := ftr G0 f6
    have EV := hid (And.intro hcv hev)
    have B1 := hid (B0.o.fr f6 id)
    clear f6 hcv hev
    refine hK _ _ (G1.o) ?_
    clear hK K
    refine rT HX.o ?_
    refine tWr G1.o L1.o.1 B1.o fun Y2 G2 F2 C2 => ?_
    refine rT HX.o ?_
    refine wpT_nil ?_
    go_wp2
    go_meet
    exact ⟨ga, Av, cv, rfl, G2, hid L1.o.1, C2, hid ⟨EV.o.1, EV.o.2.fr F2.o (fun b hb => ⟨ltl (HS1.o b hb) G1.o.size, fun e => by have e : b = ga := e; have := HS1.o b hb; have := L1.o.1; omega⟩)⟩⟩
 obtain ⟨ga, Av, cv, rfl, FX, LG, GA, EV⟩ := hcut
 clear HX HACT
 have H0 : Hid (Cr S w ga _ a.vals Av cv cs x wc) := hid ⟨kAH HRD.o (F0.o.trans FX.o i3) HS.o (fun _ h => .inl h), F0.o.trans FX.o i3, GX.o.fr FX.o id, GR.o.fr FX.o id, GA.o, EV.o.2, Nat.le_trans HW1.o FX.o.size, Nat.le_trans HW1.o LG.o, HS.o, EV.o.1⟩
 have HKA : Hid (tVl.els wc (Qs S w wc) A args) := hid (kAA HAg.o H0.o.f0 HS.o (fun _ h => .inl h))
 clear HRD F0 GX GR GA EV FX LG HW1 HS1
 go_wp2_with (first | refine ldX H0.o.gx HCL.o ?_ | fail)
 refine (kJh H0.o.rf H0.o.rs k HKC.o args A c (kKZ (a := ⟨k, args⟩) (kEN (by show -9223372036854775808 ≤ (k : Int) ∧ (k : Int) ≤ 9223372036854775807; omega)) HAC.o.1 HAC.o.2 HKA.o) n HCV.o HCN.o HOK.o.lc (by rw [HOK.o.cl]; omega)).mono ?_
 rintro e w4 ⟨cs2, rfl, hr2, f⟩
 have RF2 : Hid (tRx.rd w4 (Qs S w w4) cs2 X6) := by
  rw [HX6.o]
  exact TyMore.more _ _ _ _ _ hr2 (fun b hb => kMC H0.o.wc f.size hb)
 replace H0 := hid (H0.o.no f)
 have HO2 := hid (rx_one RF2.o)
 clear f hr2 HKA
 go_upto_region 5 with (first | refine stX H0.o.gx HCL.o HO2.o.1 HO2.o.2 ?_ | fail)
 have H := hid (H0.o.sto RF2.o)
 clear H0 RF2
 generalize w4.setCells w.heap.size 0 cs2 = Z at *
 have m0 := H.o.gb.cell 0
 by_cases hkk : a.kind = 2
 · have hd : (a.kind == 2) = true := by simpa using hkk
   have HKK := hid hkk
   clear hkk
   go_upto_region 6 with fail
   clear m0 hd
   rcases kBb X6.mems a.mem with ⟨km, hkm, hmi⟩ | hmi
   · have HB : Hid (atD zRm X6.mems a.mem = (X6.mems[km], true)) := hid (by rw [hmi]; exact kCh hkm)
     have HGI : Hid (getI X6.mems a.mem = some X6.mems[km]) := hid (by rw [hmi]; exact kBL hkm)
     have HMB := hid (hMS.o.1 _ (List.getElem_mem hkm)).1
     have HKM := hid (And.intro hkm hmi)
     have HMK : Hid (X6.mems[km]? = some X6.mems[km]) := hid (List.getElem?_eq_getElem hkm)
     generalize X6.mems[km] = m at *
     clear hkm hmi
     have g2 := H.o.gb.cell 2
     go_wp2_with (first | refine ldX H.o.gx HO2.o.1 ?_ | fail)
     have HM := hid (kBd H.o.rf H.o.rs a.mem)
     rw [HB.o] at HM
     refine HM.o.mono ?_
     rintro e w6 ⟨ds, rfl, hr, f⟩
     obtain ⟨B2, d2, rfl, wl1, wl2, hl2', hl3', em⟩ := kBR hr
     clear HM hr g2
     have EM : Hid (tB.els w6 (Qs S w w6) B2 m.b) := hid (em.more (fun b hb => hb.imp id (fun h => ⟨h.1, ltl h.2 f.size⟩)))
     replace H := hid (H.o.no f)
     clear f em
     go_upto_region 7 with fail
     have f := (Fr.refl No w6).alloc (.cells #[.int .i64 m.lim.min, .int .i64 m.lim.max, .bool m.lim.has, .slice B2 m.b.length d2] 143)
     have GM := hid (Blk.new w6 143 #[.int .i64 m.lim.min, .int .i64 m.lim.max, .bool m.lim.has, .slice B2 m.b.length d2])
     replace EM := hid (kIx EM.o HS.o H.o.f0.size (f.mono (fun _ _ m => m.elim)))
     replace H := hid (H.o.no f)
     clear f
     generalize w6.alloc (.cells #[.int .i64 m.lim.min, .int .i64 m.lim.max, .bool m.lim.has, .slice B2 m.b.length d2] 143) = Z6 at *
     generalize w6.heap.size = q at *
     have m3 := GM.o.cell 3
     have g3 := H.o.gb.cell 3
     by_cases hb1 : a.at_ < 0
     · have hd : decide (a.at_ < 0) = true := by simpa using hb1
       have HFIN : Hid (finS X6 a hx.ty.results = (X6, [], 11)) := hid (by
        unfold finS kAt
        rw [if_pos HKK.o, HGI.o]
        simp [hb1])
       clear hb1
       exact yy62
     have hd : decide (a.at_ < 0) = false := by simpa using hb1
     by_cases hb2 : (m.b.length : Int) ≤ a.at_
     · have HFIN : Hid (finS X6 a hx.ty.results = (X6, [], 11)) := hid (by
        unfold finS kAt
        rw [if_pos HKK.o, HGI.o]
        simp [hb2])
       clear hb1
       exact yy62
     obtain ⟨t, ht⟩ : ∃ t : Nat, a.at_ = t := ⟨a.at_.toNat, by omega⟩
     have htl : t < m.b.length := om
     have HTT := hid (And.intro ht htl)
     have hd2 : decide (m.b.length ≤ t) = false := by simp; omega
     have g3' := g3
     rw [ht] at g3' hd
     clear g3 hb1 hb2
     have hlm : m.b.length ≤ 65536 := HMB.o
     obtain ⟨css, hcs0, hrd0⟩ := kDy (B := Z6.heap.size) EM.o H.o.rs
     have HC0 := hid hcs0
     have HRD := hid hrd0
     clear hcs0 hrd0
     go_upto_region 11 with (first
      | (at_builtin; refine wpList_appC (t := tB) (P := prog) (base := Z6.heap.size) (S := Emp) (v := .slice none 0 0) (xs := []) (ys := m.b) (dss := css) (B2 := Z6.heap.size) elBs rfl rfl rfl rfl (Ty.row.nil (t := tB) Z6 Z6.heap.size Emp 5) (HC0.o _ _) HRD.o rfl so so (fun _ hk => hk.elim) nr ?_; intro v7 w7 hr7 fr7 hv7; have R7 := hid hr7; have F7 : Hid (Fr No Z6 w7) := hid (fr7.mono (fun _ _ h => by simp [Value.ownBlock] at h)); clear hr7 fr7 hv7)
      | fail)
     rw [List.nil_append] at R7
     obtain ⟨gq, cg, hg, _⟩ := kBF R7.o om
     subst hg
     have HO7 := hid (R7.o.own (g := gq) rfl)
     have HZQ : Hid (q < Z6.heap.size ∧ w.heap.size + 2 ≤ Z6.heap.size) := hid ⟨GM.o.lt, H.o.wc⟩
     have HTR := kBD R7.o t htl
     obtain ⟨b9, o9, d9, eb, _, hc, hr⟩ := (Ty.row.els' (S' := fun _ => True) R7.o tvv tvv).at_ t htl
     injection eb with eb
     injection eb with q1 q2 _
     subst q1 q2
     obtain ⟨rfl, wfv⟩ := hr
     have u0 : w7.cell? ⟨gq, t, none⟩ = some (.int .u8 m.b[t]) := by have := hc 0 _ rfl; simpa [show tB.size = 1 from rfl] using this
     have u1 : w7.frozen? ⟨gq, t, none⟩ = false := by have := (HTR 0 dc).2; simpa [show tB.size = 1 from rfl] using this
     clear HTR hc wfv m3 g3'
     have g3 := (H.o.no F7.o).gb.cell 3
     rw [HTT.o.1] at g3
     have g4 := (H.o.no F7.o).gb.cell 4
     go_upto_region 12 with fail
     clear u0 u1 g3 g4 hd hd2
     have R8 := hid (R7.o.set (w' := w7.setCell ⟨gq, t, none⟩ (.int .u8 a.byte)) (ds := [.int .u8 a.byte]) (x := a.byte) t htl ⟨rfl, HWB.o⟩ (fun p hp => hp.elim) (fun cur hb => by show Blk _ gq _ (setA cur (t * 1) [.int .u8 a.byte]); rw [Nat.mul_one]; exact hb.set_ t _))
     have FG : Hid (Fr No Z6 (w7.setCell ⟨gq, t, none⟩ (.int .u8 a.byte))) := hid (F7.o.setCell ⟨gq, t, none⟩ _ (fun h => absurd h (by have := HO7.o.1; show ¬ gq < _; omega)))
     replace H := hid (H.o.no FG.o)
     replace GM := hid (GM.o.fr FG.o id)
     have HGQ : Hid (w.heap.size + 2 ≤ gq) := hid (Nat.le_trans HZQ.o.2 HO7.o.1)
     have HGL : Hid (gq < (w7.setCell ⟨gq, t, none⟩ (.int .u8 a.byte)).heap.size) := hid (by obtain ⟨_, _, hb⟩ := HO7.o; exact ltl hb.lt ((Fr.refl (One gq) w7).setCell ⟨gq, t, none⟩ (.int .u8 a.byte) (fun _ => rfl)).size)
     clear FG R7 F7 HC0 HRD
     generalize w7.setCell ⟨gq, t, none⟩ (.int .u8 a.byte) = Z7 at *
     obtain ⟨A', c', e5, m1, m2, E5⟩ := R8.o.els (S' := fun k => k = gq) (fun _ h => h.elim) (fun g hg => (show gq = g by simpa [Value.ownBlock] using hg).symm)
     rw [List.length_set] at e5
     injection e5 with q1 _ q3
     subst q1 q3
     have EN := hid (kGv (w := Z7) (S := Qs S w Z7) (a := ⟨m.lim, m.b.set t a.byte⟩) wl1 wl2 m1 m2 (E5.more (fun b hb => by subst hb; exact .inr ⟨HGQ.o, HGL.o⟩)))
     have g2 := H.o.gb.cell 2
     rw [HKM.o.2] at g2
     have k0 := GM.o.cell 0
     have k1 := GM.o.cell 1
     have k2 := GM.o.cell 2
     go_wp2_with (first | refine ldX H.o.gx HO2.o.1 ?_ | fail)
     have HSM := hid (kEu H.o.rf H.o.rs ⟨m.lim, m.b.set t a.byte⟩ (some ⟨gq, 0, none⟩) cg km HKM.o.1 EN.o hMS.o.2)
     rw [List.length_set] at HSM
     refine HSM.o.mono ?_
     obtain ⟨X7, hX7⟩ : ∃ X7, X7 = { X6 with mems := X6.mems.set km ⟨m.lim, m.b.set t a.byte⟩ } := ⟨_, rfl⟩
     rw [← hX7]
     have hH7 : Hid (X7.hosts = x.hosts) := by rw [hX7]; exact hH6.o
     have HFIN : Hid (finS X6 a hx.ty.results = (X7, ansL a hx.ty.results)) := by
      have h1 := HTT.o.1
      have h2 := HTT.o.2
      have h3 := HKM.o.2
      have hno : ¬ ((t : Int) < 0 ∨ (m.b.length : Int) ≤ (t : Int)) := om
      have hp : kAt X6 a = (X7, true) := by
       unfold kAt
       rw [HGI.o, hX7]
       simp only [h1, h3, Int.toNat_natCast]
       rw [if_neg hno]
      unfold Hid finS
      rw [if_pos HKK.o, hp]
      simp
     clear hX7 ht htl hlm
     rintro e w8 ⟨cs3, rfl, hr3, f⟩
     have RF2 : Hid (tRx.rd w8 (Qs S w w8) cs3 X7) := hid (TyMore.more _ _ _ _ _ hr3 (fun b hb => kMC H.o.wc f.size hb))
     replace H := hid (H.o.no f)
     have HO3 := hid (rx_one RF2.o)
     clear f hr3 HSM EN E5 R8 g2 k0 k1 k2 GM m1 m2
     go_upto_region 13 with (first | refine stX H.o.gx HO2.o.1 HO3.o.1 HO3.o.2 ?_ | fail)
     replace H := hid (H.o.sto RF2.o)
     clear RF2 EM
     generalize w8.setCells w.heap.size 0 cs3 = Z at *
     have hH6 := hH7
     have HO2 := HO3
     exact yy3
   have hno : getI X6.mems a.mem = none := hmi.elim (fun h => kBh (.inl h)) (fun h => kBh (.inr h.2))
   have HB : Hid (atD zRm X6.mems a.mem = (zRm, false)) := hid (hmi.elim (fun h => kBv (.inl h)) (fun h => kBv (.inr h.2)))
   have HFIN : Hid (finS X6 a hx.ty.results = (X6, [], 11)) := hid (by
    unfold finS kAt
    rw [if_pos HKK.o, hno]
    rfl)
   clear hmi hno
   have g2 := H.o.gb.cell 2
   go_wp2_with (first | refine ldX H.o.gx HO2.o.1 ?_ | fail)
   have HM := hid (kBd H.o.rf H.o.rs a.mem)
   rw [HB.o] at HM
   refine HM.o.mono ?_
   rintro e w6 ⟨ds, rfl, hr, f⟩
   obtain ⟨B2, d2, rfl, wl1, wl2, hl2', hl3', em⟩ := kBR hr
   clear HM hr g2
   have EM : Hid (tB.els w6 (Qs S w w6) B2 zRm.b) := hid (em.more (fun b hb => hb.imp id (fun h => ⟨h.1, ltl h.2 f.size⟩)))
   replace H := hid (H.o.no f)
   clear f em
   go_upto_region 7 with fail
   have f := (Fr.refl No w6).alloc (.cells #[.int .i64 zRm.lim.min, .int .i64 zRm.lim.max, .bool zRm.lim.has, .slice B2 zRm.b.length d2] 143)
   have GM := hid (Blk.new w6 143 #[.int .i64 zRm.lim.min, .int .i64 zRm.lim.max, .bool zRm.lim.has, .slice B2 zRm.b.length d2])
   replace EM := hid (kIx EM.o HS.o H.o.f0.size (f.mono (fun _ _ m => m.elim)))
   replace H := hid (H.o.no f)
   clear f
   generalize w6.alloc (.cells #[.int .i64 zRm.lim.min, .int .i64 zRm.lim.max, .bool zRm.lim.has, .slice B2 zRm.b.length d2] 143) = Z6 at *
   generalize w6.heap.size = q at *
   exact yy62
 have hd : (a.kind == 2) = false := by simpa using hkk
 have HFIN : Hid (finS X6 a hx.ty.results = (X6, ansL a hx.ty.results)) := hid (by
  unfold finS
  rw [if_neg hkk])
 clear hkk
 go_upto_region 13 with fail
 clear m0 hd
 exact yy3
end
section
variable {w : World} {R : Nat → Prop} {V : Pl} {x : Rx}
theorem kLc (h : StIn w R V x) (hok : StOk x) (i : Int) (args : List Vl) (A : OA) (c : Nat) (S : Nat → Prop) (hS : Lt S w) (ha : tVl.els w S A args) (hl2 : args.length ≤ 140737488351232) :
    Calls prog 28 #[.pointer (some ⟨V.P, 0, none⟩), .int .i64 i, .slice A args.length c] w (CallTo R V (kAc x i args) w) := by
 by_cases hi : i < 0 ∨ (x.hosts.length : Int) ≤ i
 · exact kMZ h hok i args A c hi
 obtain ⟨k, rfl⟩ : ∃ k : Nat, i = k := ⟨i.toNat, by omega⟩
 have hk : k < x.hosts.length := om
 cases hf : fitB args x.hosts[k].ty.params with
 | false => exact kKR h hok k args A c hk S hS ha hl2 hf
 | true => exact kFK h hok k args A c hk S hS ha hl2 hf
theorem kKB {cs : LV} {S : Nat → Prop} (h : tRx.rd w S cs x) (hS : Lt S w) (hok : StOk x) (i : Int) (args : List Vl) (A : OA) (c : Nat) (ha : tVl.els w S A args) (hac : args.length ≤ c ∧ c ≤ maxLen) (hl2 : args.length ≤ 140737488351232) :
    Calls prog 41 #[.agg cs.toArray, .int .i64 i, .slice A args.length c] w (RcTo S (kAc x i args) w) := by
 by_cases hi : i < 0 ∨ (x.hosts.length : Int) ≤ i
 · exact kJz h hS hok i args A c hi
 obtain ⟨k, rfl⟩ : ∃ k : Nat, i = k := ⟨i.toNat, by omega⟩
 have hk : k < x.hosts.length := om
 cases hf : fitB args x.hosts[k].ty.params with
 | false => exact kHp h hS hok k args A c hk ha hl2 hf
 | true => exact kKA h hS hok k args A c hk ha hac hl2 hf
end
section
variable {w : World} {R : Nat → Prop} {V : Pl} {x : Rx} {cs : LV}
theorem kIO (h : Both w R V x cs) (a : At) {es : LV} (ha : tAt.rd w (Sd w R) es a) (hc : a.call = 11) (hok : StOk x) (hag2 : a.args.length ≤ 140737488351232) (hrl : (kAc x a.addr a.args).2.1.length ≤ 140737488351232) :
    Calls prog 11 (kDa V cs es) w (kAZ R V (kAc x a.addr a.args).1 w) := by
 have HCL : Hid (cs.length = 10) := TyOk.len _ _ _ _ h.rf
 obtain ⟨P1, p1, P2, p2, A1, c1, A2, c2, A3, c3, ms, ns, hes, ml, nl, -, -, hfi, hta, hme, hgl, hvl, hre, hby, hmd, had, hag⟩ := kAg ha
 have HES := hid hes
 have HAC := hid (And.intro hag.1 hag.2.1)
 have HARG : Hid (∀ X : World, Blk X (w.heap.size + 1) 76 es.toArray → Ce X (w.heap.size + 1) 37 (.slice A3 a.args.length c3)) := fun X b => by
  rw [HES.o] at b
  have h := b.cell 37
  refine h.trans ?_; rw [List.getElem?_toArray, List.getElem?_append_right (by simp), List.getElem?_append_right (by simp [ml]), List.getElem?_append_right (by simp [ml, nl])]
  simp [ml, nl]
 clear hes
 obtain ⟨R0, HD⟩ := hd h es
 have HP0 := hid (HD.upE hag.2.2)
 go_enter func11, ntmps11
 go_upto_region 1 with fail
 generalize ((w.alloc (.cells cs.toArray 39)).alloc (.cells es.toArray 76)).alloc (.cells z10 39) = W at *
 obtain ⟨F0, GX, GA, GR, H, RF0, HOW⟩ := HD.all
 have y0 : W.cell? ⟨w.heap.size + 1, 0, none⟩ = some (.int .i64 11) := by rw [← hc]; exact (GA.o.cell 0).trans (by rw [HES.o]; try rfl)
 go_upto_region 21 with fail
 clear y0
 have HOK := hid hok
 have HAG := hid hag2
 have HRL := hid hrl
 have y1 := (GA.o.cell 1).trans (by rw [HES.o]; try rfl)
 have y37 : W.cell? ⟨w.heap.size + 1, 37, none⟩ = some (.slice A3 a.args.length c3) := by
  exact HARG.o _ GA.o
 obtain ⟨LL, hLL⟩ : ∃ l, l = kAc x a.addr a.args := ⟨_, rfl⟩
 have HLL := hid hLL
 clear hLL
 go_wp2_with fail
 refine (kLc H.o HOK.o a.addr a.args A3 c3 _ (fun _ hk => hk.1) HP0.o HAG.o).mono ?_
 rw [← HLL.o]
 rw [← HLL.o] at HRL
 rintro e w1 ⟨V1, R1, Aw, cw, rfl, k1, g1, lw, ew⟩
 have K1 := hid k1
 have GG := hid g1
 have RF := hid (kCK RF0.o H.o g1)
 replace HP0 := hid (kCO HP0.o H.o g1)
 have EW := hid ew
 replace GX := hid (GX.o.fr g1.fr (HOW.o _ nr))
 replace GA := hid (GA.o.fr g1.fr (HOW.o _ om))
 replace GR := hid (GR.o.fr g1.fr (HOW.o _ om))
 clear k1 g1 ew y1 y37
 have y1 := (GA.o.cell 1).trans (by rw [HES.o]; try rfl)
 have y37 : w1.cell? ⟨w.heap.size + 1, 37, none⟩ = some (.slice A3 a.args.length c3) := by
  exact HARG.o _ GA.o
 go_wp2_with (first | refine ldX GX.o HCL.o ?_ | fail)
 refine (kKB RF.o (fun _ hk => hk.1) HOK.o a.addr a.args A3 c3 HP0.o HAC.o HAG.o).mono ?_
 rw [← HLL.o]
 rintro e w2 ⟨cs2, A2w, c2w, rfl, hr2, l2w, e2w, f2⟩
 clear y1 y37
 have RF2 := hid (rd_fresh2 K1.o.low f2 hr2)
 have E2 : Hid (tVl.els w2 (Sd w2 R1) A2w LL.2.1) := hid (e2w.more (fun _ hk => hk.elim (fun hk => hk.up f2.size (fun _ _ r => r)) (fun hk => kCL K1.o.low hk)))
 replace EW := hid (kBH EW.o f2 (fun _ _ m => m.elim) (fun _ _ r => r))
 obtain ⟨l2, o2⟩ := rx_one RF2.o
 have HL2 := hid l2
 have HO2 := hid o2
 have F2 := hid f2
 replace GR := hid (GR.o.fr f2 id)
 clear hr2 f2 l2 o2 e2w GX GA RF RF0 HP0
 go_upto_region 23 with (first | refine nwX HL2.o HO2.o ?_ | fail)
 have f3 := (Fr.refl No w2).alloc (.cells cs2.toArray 39)
 have F3 := ftr F2 f3
 replace RF2 := hid (kBX RF2.o f3)
 replace E2 := hid (kBH E2.o f3 (fun _ _ m => m.elim) (fun _ _ r => r))
 replace EW := hid (kBH EW.o f3 (fun _ _ m => m.elim) (fun _ _ r => r))
 replace GR := hid (GR.o.fr f3 id)
 have GY := hid (Blk.new w2 39 cs2.toArray)
 have HQ : Hid (w.heap.size + 2 < w2.heap.size) := by have := GR.o; have h3 := F2.o.size; have := GG.o.fr.size; exact ltl (ltl (ltl HD.GR.lt this) h3) nr
 clear f3 F2
 generalize w2.alloc (.cells cs2.toArray 39) = W2 at *
 generalize w2.heap.size = q at *
 have RY : Hid (∀ X, Fr (One (w.heap.size + 2)) W2 X → X.rangeAt q 0 cs2) := fun X f => by simpa using rangeAt_blk (GY.o.fr f (fun e => by have e : q = w.heap.size + 2 := e; have := HQ.o; omega))
 have HSM := hid (fun (X : World) (f : Fr No W2 X) => kCU Aw A2w LL.2.1 LL.2.1 cw c2w X.heap.size X.heap.size X (kAA EW.o f (fun _ h => h.1) (fun _ h => ltl h.1 f.size)) (kAA E2.o f (fun _ h => h.1) (fun _ h => ltl h.1 f.size)) HRL.o HRL.o)
 refine rwP (Fr (One (w.heap.size + 2)) W2) [] (List.range 11) [3, 9] (Fr.refl _ _).drew ?_
 have FZ := hid (Fr.refl No W2).drew
 refine kAp rfl rfl rfl 39 _ rfl q 0 (by rfl) cs2 _ (fun X hX => RY.o X hX) underlying39 (by rfl) (by rw [HL2.o]; exact kBo) ?_
 simp only [zA, zC, Act.put]
 refine rP tvv ?_
 refine kAE rfl rfl fun K hK => sz ?_
 refine (HSM.o _ FZ.o).mono ?_
 rintro e W3 ⟨rfl, n, hn⟩
 have fn : Fr No W2 W3 := FZ.o.trans (hn ▸ Fr.drewN (Fr.refl _ _) n) i3
 have FN := hid fn
 replace F3 := ftr F3 fn
 replace RF2 := hid (kBX RF2.o fn)
 replace GR := hid (GR.o.fr fn id)
 clear hn fn FZ HSM RY EW E2 GY
 refine hK _ _ (fun _ => FN.o.mono (fun _ _ h => h.elim)) ?_
 clear hK K
 simp only [decide_true]
 refine rP tvv ?_
 have HT : Hid (W3.there (w.heap.size + 2) 0 cs2.toArray.size) := by
  have h := there_blk (n := 10) GR.o rfl
  exact yy47
 have HJ : Hid ((prog.info? 39).map (·.size) = some cs2.toArray.size) := by rw [Hid, show cs2.toArray.size = 10 from HL2.o]; exact kBo
 have HO3 : Hid (cs2.toArray.all (·.oneCell') = true) := hid (by have := HO2.o; simpa using this)
 refine kAE rfl rfl (fun K hK => ?_)
 simp only [zA]
 refine wp_store_mid 39 _ _ (by rfl) (w.heap.size + 2) 0 cs2.toArray (by rfl) (by rfl) HT.o HJ.o HO3.o ?_
 refine hK _ _ (fun _ => Fr.setCells' (M := One (w.heap.size + 2)) (b := w.heap.size + 2) (fun _ => rfl) cs2 0 W3 (FN.o.mono (fun _ _ h => h.elim))) ?_
 clear hK K
 refine rP tvv ?_
 refine kAj ?_
 clear FN
 go_wp2_with fail
 rw [← HLL.o]
 exact HD.fin GG.o K1.o F3.o RF2.o GR.o
end
theorem kDJ {α : Type} {l : List α} {i : Int} {m : α} (h : getI l i = some m) : m ∈ l := by
 unfold getI at h
 split at h
 · exact List.mem_of_getElem? h
 cases h
theorem kKn (B bs : List Int) (t a n : Nat) : (kAr B bs t a n).1.length = B.length := by
 unfold kAr
 split
 · split
   · rename_i h1 h2
     simp only [splice, List.length_append, List.length_take, List.length_drop]
     omega
   rfl
 rfl
def kEH (x : Rx) (a : At) : Rx :=
 if a.call = 1 then (kBs x a.func).1 else if a.call = 2 then (kBr x a.table).1 else if a.call = 3 then (kBQ x a.mem).1 else if a.call = 4 then (kBZ x a.g a.v).1
 else if a.call = 5 then { x with elems := x.elems ++ [⟨a.refs, false⟩] } else if a.call = 6 then { x with datas := x.datas ++ [⟨a.b, false⟩] } else if a.call = 7 then (kBJ x a.m a.a).1
 else if a.call = 8 then (kAq x a.addr a.v).1 else if a.call = 9 then kBS x a.addr else if a.call = 10 then kBT x a.addr else if a.call = 11 then (kAc x a.addr a.args).1
 else if a.call = 12 then memS x a.addr a.b else x
def TvB (t : Rt) : Prop := tbB t.t = true ∧ t.l.length = t.t.lim.min.toNat
def MvB (m : Rm) : Prop := validB m.lim = true ∧ m.b.length = m.lim.min.toNat * 256
structure AtB (a : At) : Prop where
 fb : a.func.ty.params.length ≤ 1048576 ∧ a.func.ty.results.length ≤ 1048576
 rs : a.refs.length ≤ 1048576
 b : a.b.length ≤ 1000000
 md : MdB a.m
 ad : AdB a.a
 ag : a.args.length ≤ 1048576
 gw : (Lit.int .i64 a.g.val).wf = true
structure Inv (n : Nat) (x : Rx) : Prop where
 ho : ∀ h ∈ x.hosts, hoB h = true
 hb : ∀ h ∈ x.hosts, HoBd h
 hl : x.hosts.length ≤ 32
 cl : x.counts.length = x.hosts.length
 cn : ∀ c ∈ x.counts, 0 ≤ c ∧ c ≤ n
 ca : x.calls.length ≤ n
 cb : ∀ c ∈ x.calls, c.args.length ≤ 1048576
 fu : x.funcs.length ≤ n
 fb : ∀ a ∈ x.funcs, a.ty.params.length ≤ 1048576 ∧ a.ty.results.length ≤ 1048576
 ta : x.tabs.length ≤ n
 tw : ∀ t ∈ x.tabs, ∀ u ∈ t.l, (Lit.int .u64 u).wf = true
 tv : ∀ t ∈ x.tabs, TvB t
 me : x.mems.length ≤ n
 ms : kDg x
 mv : ∀ m ∈ x.mems, MvB m
 gl : x.globs.length ≤ n
 gw : ∀ g ∈ x.globs, (Lit.int .i64 g.t.val).wf = true
 el : x.elems.length ≤ n
 eb : ∀ a ∈ x.elems, a.l.length ≤ 1048576
 eg : ∀ a ∈ x.elems, a.gone = true → a.l = []
 da : x.datas.length ≤ n
 db : ∀ a ∈ x.datas, a.b.length ≤ 1048576
 dg : ∀ a ∈ x.datas, a.gone = true → a.b = []
 is : x.insts.length ≤ n
 ib : ∀ y ∈ x.insts, MdB y.m ∧ AdB y.a
section
variable {n : Nat} {x : Rx}
theorem Inv.more (h : Inv n x) : Inv (n + 1) x :=
 { h with cn := fun c hc => ⟨(h.cn c hc).1, by have := (h.cn c hc).2; omega⟩, ca := Nat.le_succ_of_le h.ca, fu := Nat.le_succ_of_le h.fu, ta := Nat.le_succ_of_le h.ta, me := Nat.le_succ_of_le h.me, gl := Nat.le_succ_of_le h.gl, el := Nat.le_succ_of_le h.el, da := Nat.le_succ_of_le h.da, is := Nat.le_succ_of_le h.is }
theorem Inv.st (h : Inv n x) (hn : n ≤ 1000) : StOk x := ⟨h.ho, h.hb, h.hl, h.cl, fun c hc => ⟨(h.cn c hc).1, by have := (h.cn c hc).2; omega⟩, h.ms, by have := h.ca; omega, by have := h.me; omega⟩
theorem Inv.ask (h : Inv n x) (hn : n ≤ 1000) : kMb x := ⟨by have := h.fu; omega, h.fb, by have := h.gl; omega, by have := h.el; omega, h.eb, h.eg, by have := h.da; omega, h.db, h.dg, by have := h.is; omega, h.ib⟩
theorem Inv.own (h : Inv n x) (hn : n ≤ 1000) : kEg x := ⟨by have := h.ta; omega, by have := h.me; omega, h.ms⟩
theorem Inv.sh (h : Inv n x) (hn : n ≤ 1000) : ShOk x := ⟨h.tw, fun m hm => by have := (h.ms m hm).1; omega, by have := h.me; omega, by have := h.ta; omega, by have := h.gl; omega, by have := h.el; omega, by have := h.da; omega, by have := h.ca; omega, fun c hc => by have := h.cb c hc; omega⟩
theorem kAu {α : Type} {l : List α} {a b : α} {P : α → Prop} (h : ∀ a ∈ l, P a) (hb : P b) (ha : a ∈ l ++ [b]) : P a := by
 rcases List.mem_append.1 ha with h1 | h1
 · exact h a h1
 rw [List.mem_singleton.1 h1]; exact hb
theorem kBg {α : Type} {l : List α} {i : Nat} {a b : α} {P : α → Prop} (h : ∀ a ∈ l, P a) (hb : P b) (ha : a ∈ l.set i b) : P a := by
 rcases List.mem_or_eq_of_mem_set ha with h1 | h1
 · exact h a h1
 rw [h1]; exact hb
theorem Inv.memSet (h : Inv n x) (i : Nat) {m : Rm} (hi : m ∈ x.mems) (b : List Int) (hb : b.length = m.b.length) : Inv n { x with mems := x.mems.set i ⟨m.lim, b⟩ } :=
 { h with me := by simpa using h.me, ms := fun a ha => kBg (P := fun m : Rm => m.b.length ≤ 65536 ∧ m.b.length % 256 = 0) h.ms (by simpa [hb] using h.ms m hi) ha
          mv := fun a ha => kBg (P := MvB) h.mv (by have := h.mv m hi; unfold MvB at *; simpa [hb] using this) ha }
theorem Inv.poke (h : Inv n x) (a : Ac) : Inv n (kAt x a).1 := by
 unfold kAt
 split
 · exact h
 rename_i m hm
 split
 · exact h
 exact h.memSet _ (kDJ hm) _ sm
theorem Inv.noted (h : Inv n x) (k : Nat) (c : Int) (hc : 0 ≤ c ∧ c ≤ n) (args : List Vl) (ha : args.length ≤ 1048576) : Inv (n + 1) (kCc x k c args) :=
 { h.more with
  cl := by simpa [kCc] using h.cl
  cn := fun a hm => kBg (P := fun c : Int => 0 ≤ c ∧ c ≤ ((n + 1 : Nat) : Int)) (fun a ha => ⟨(h.cn a ha).1, by have := (h.cn a ha).2; omega⟩) om hm
  ca := by have := h.ca; simp [kCc]; omega
  cb := fun a hm => kAu (P := fun c : Ca => c.args.length ≤ 1048576) h.cb ha hm }
theorem Inv.call (h : Inv n x) (i : Int) (args : List Vl) (ha : args.length ≤ 1048576) : Inv (n + 1) (kAc x i args).1 := by
 unfold kAc
 split
 · exact h.more
 split
 · have hc : 0 ≤ ((x.counts[i.toNat]?).getD 0) ∧ ((x.counts[i.toNat]?).getD 0) ≤ (n : Int) := by
    cases e : x.counts[i.toNat]? with
    | none => simp
    | some c => simpa using h.cn c (List.mem_of_getElem? e)
   have hN := h.noted i.toNat _ hc args ha
   unfold finS
   split
   · split
     · exact hN.poke _
     exact hN.poke _
   exact hN
 exact h.more
theorem kLe (a : Ac) (rs : List Int) : (ansL a rs).1.length ≤ a.vals.length := by unfold ansL; split <;> simp
theorem Inv.res (h : Inv n x) (i : Int) (args : List Vl) : (kAc x i args).2.1.length ≤ 140737488351232 := by
 unfold kAc
 split
 · simp
 rename_i H hH
 split
 · have hv : (kCY H ((x.counts[i.toNat]?).getD 0)).vals.length ≤ 140737488351232 := by
    unfold kCY
    cases e : H.acts[((x.counts[i.toNat]?).getD 0).toNat % H.acts.length]? with
    | none => simp [zAc]
    | some a => have := (h.hb H (kDJ hH)).v a (List.mem_of_getElem? e); simp; omega
   have hl := kLe (kCY H ((x.counts[i.toNat]?).getD 0)) H.ty.results
   unfold finS
   split
   · split
     · simp only; omega
     simp
   simp only; omega
 simp
theorem Inv.step (h : Inv n x) (a : At) (ha : AtB a) : Inv (n + 1) (kEH x a) := by
 unfold kEH
 by_cases c1 : a.call = 1
 · rw [if_pos c1]
   unfold kBs
   split
   · exact { h.more with fu := by have := h.fu; simp; omega, fb := fun b hb => kAu (P := fun a : Fi => a.ty.params.length ≤ 1048576 ∧ a.ty.results.length ≤ 1048576) h.fb ha.fb hb }
   exact h.more
 rw [if_neg c1]
 by_cases c2 : a.call = 2
 · rw [if_pos c2]
   unfold kBr
   split
   · rename_i hv
     exact { h.more with tv := fun b hb => kAu (P := TvB) h.tv ⟨hv, by simp⟩ hb, ta := by have := h.ta; simp; omega, tw := fun b hb => kAu (P := fun t : Rt => ∀ u ∈ t.l, (Lit.int .u64 u).wf = true) h.tw (fun u hu => by rw [(List.mem_replicate.1 hu).2]; rfl) hb }
   exact h.more
 rw [if_neg c2]
 by_cases c3 : a.call = 3
 · rw [if_pos c3]
   unfold kBQ
   split
   · rename_i hv
     exact { h.more with mv := fun b hb => kAu (P := MvB) h.mv ⟨hv, by simp⟩ hb, me := by have := h.me; simp; omega, ms := fun b hb => kAu (P := fun m : Rm => m.b.length ≤ 65536 ∧ m.b.length % 256 = 0) h.ms (by
      have hv : 0 ≤ a.mem.min ∧ a.mem.min ≤ 256 := ⟨(of_decide_eq_true hv).1, (of_decide_eq_true hv).2.1⟩
      simp only [List.length_replicate]; omega) hb }
   exact h.more
 rw [if_neg c3]
 by_cases c4 : a.call = 4
 · rw [if_pos c4]
   unfold kBZ
   split
   · exact { h.more with gl := by have := h.gl; simp; omega, gw := fun b hb => kAu (P := fun g : Rg => (Lit.int .i64 g.t.val).wf = true) h.gw ha.gw hb }
   exact h.more
 rw [if_neg c4]
 by_cases c5 : a.call = 5
 · rw [if_pos c5]
   exact { h.more with el := by have := h.el; simp; omega, eb := fun b hb => kAu (P := fun a : Rs => a.l.length ≤ 1048576) h.eb ha.rs hb, eg := fun b hb => kAu (P := fun a : Rs => a.gone = true → a.l = []) h.eg (fun e => by cases e) hb }
 rw [if_neg c5]
 by_cases c6 : a.call = 6
 · rw [if_pos c6]
   exact { h.more with da := by have := h.da; simp; omega, db := fun b hb => kAu (P := fun a : Rb => a.b.length ≤ 1048576) h.db (by have := ha.b; simp only; omega) hb, dg := fun b hb => kAu (P := fun a : Rb => a.gone = true → a.b = []) h.dg (fun e => by cases e) hb }
 rw [if_neg c6]
 by_cases c7 : a.call = 7
 · rw [if_pos c7]
   unfold kBJ
   split
   · exact h.more
   exact { h.more with is := by have := h.is; simp; omega, ib := fun b hb => kAu (P := fun y : Ri => MdB y.m ∧ AdB y.a) h.ib ⟨ha.md, ha.ad⟩ hb }
 rw [if_neg c7]
 by_cases c8 : a.call = 8
 · rw [if_pos c8]
   unfold kAq
   split
   · exact h.more
   rename_i g hg
   split
   · exact { h.more with gl := by have := h.gl; simp; omega, gw := fun b hb => kBg (b := ⟨g.t, a.v⟩) (P := fun g : Rg => (Lit.int .i64 g.t.val).wf = true) h.gw (h.gw g (kDJ hg)) (show b ∈ x.globs.set a.addr.toNat ⟨g.t, a.v⟩ from hb) }
   exact h.more
 rw [if_neg c8]
 by_cases c9 : a.call = 9
 · rw [if_pos c9]
   unfold kBS
   split
   · exact { h.more with el := by have := h.el; simp; omega, eb := fun b hb => kBg (P := fun a : Rs => a.l.length ≤ 1048576) h.eb sm hb, eg := fun b hb => kBg (P := fun a : Rs => a.gone = true → a.l = []) h.eg (fun _ => rfl) hb }
   exact h.more
 rw [if_neg c9]
 by_cases c10 : a.call = 10
 · rw [if_pos c10]
   unfold kBT
   split
   · exact { h.more with da := by have := h.da; simp; omega, db := fun b hb => kBg (P := fun a : Rb => a.b.length ≤ 1048576) h.db sm hb, dg := fun b hb => kBg (P := fun a : Rb => a.gone = true → a.b = []) h.dg (fun _ => rfl) hb }
   exact h.more
 rw [if_neg c10]
 by_cases c11 : a.call = 11
 · rw [if_pos c11]
   exact h.call _ _ ha.ag
 rw [if_neg c11]
 by_cases c12 : a.call = 12
 · rw [if_pos c12]
   unfold memS
   split
   · exact h.more
   rename_i m hm
   exact h.more.memSet _ (kDJ hm) _ (kKn ..)
 rw [if_neg c12]
 exact h.more
end
section
variable {w : World} {R : Nat → Prop} {V : Pl} {x : Rx} {cs : LV} {n : Nat}
theorem kKk (h : Both w R V x cs) (hi : Inv n x) (hn : n ≤ 1000) (a : At) {es : LV} (ha : tAt.rd w (Sd w R) es a) (hab : AtB a) :
    Calls prog 11 (kDa V cs es) w (kAZ R V (kEH x a) w) := by
 have hF := hi.fu
 have hT := hi.ta
 have hM := hi.me
 have hG := hi.gl
 have hE := hi.el
 have hD := hi.da
 have hI := hi.is
 unfold kEH
 by_cases c1 : a.call = 1
 · rw [if_pos c1]
   exact kJu h a ha c1 om hab.fb (fun b hb => by have := (hi.hb b hb).p; have := (hi.hb b hb).r; omega)
 rw [if_neg c1]
 by_cases c2 : a.call = 2
 · rw [if_pos c2]
   exact kJt h a ha c2 om
 rw [if_neg c2]
 by_cases c3 : a.call = 3
 · rw [if_pos c3]
   exact kJs h a ha c3 om
 rw [if_neg c3]
 by_cases c4 : a.call = 4
 · rw [if_pos c4]
   exact kJr h a ha c4 om
 rw [if_neg c4]
 by_cases c5 : a.call = 5
 · rw [if_pos c5]
   exact kJq h a ha c5 om hab.rs
 rw [if_neg c5]
 by_cases c6 : a.call = 6
 · rw [if_pos c6]
   exact kJo h a ha c6 om (by have := hab.b; omega)
 rw [if_neg c6]
 by_cases c7 : a.call = 7
 · rw [if_pos c7]
   exact kJm h a ha c7 om hab.md hab.ad
 rw [if_neg c7]
 by_cases c8 : a.call = 8
 · rw [if_pos c8]
   exact kJl h a ha c8 om hi.gw
 rw [if_neg c8]
 by_cases c9 : a.call = 9
 · rw [if_pos c9]
   exact kJk h a ha c9 om
 rw [if_neg c9]
 by_cases c10 : a.call = 10
 · rw [if_pos c10]
   exact kIP h a ha c10 om
 rw [if_neg c10]
 by_cases c11 : a.call = 11
 · rw [if_pos c11]
   exact kIO h a ha c11 (hi.st hn) (by have := hab.ag; omega) (hi.res _ _)
 rw [if_neg c11]
 by_cases c12 : a.call = 12
 · rw [if_pos c12]
   unfold memS
   split
   · rename_i hg
     exact kJv h a ha c12 om hg
   rename_i m hg
   have hm := (hi.ms m (kDJ hg)).1
   unfold getI at hg
   split at hg
   · exact kIM h a ha c12 om a.addr.toNat om m hg hab.b hm
   cases hg
 rw [if_neg c12]
 exact kJJ h a ha (fun k h1 h2 => by omega)
end
theorem fc1 : ∀ c t d m n : Bool, (c = true → d = false) → ((c = true ∧ t = true) ∨ (c = false ∧ d = true ∧ m = true ∧ n = true)) ∨ ((c = true ∧ t = false ∧ d = false) ∨ (c = false ∧ d = true ∧ m = true ∧ n = false) ∨ (c = false ∧ d = true ∧ m = false) ∨ (c = false ∧ d = false)) := by rintro (_ | _) (_ | _) (_ | _) (_ | _) (_ | _) <;> simp
theorem fc2 : ∀ r b g : Bool, r = true ∨ (r = false ∧ b = true) ∨ (r = false ∧ b = false ∧ g = true) ∨ (r = false ∧ b = false ∧ g = false) := by rintro (_ | _) (_ | _) (_ | _) <;> simp
theorem kOH {pre ms ns : LV} {v : Value} (h1 : pre.length = 19) (h2 : ms.length = 12) (h3 : ns.length = 6) : (pre ++ (ms ++ (ns ++ [v])))[37]? = some v := by
 rw [List.getElem?_append_right (by omega), List.getElem?_append_right (by omega), List.getElem?_append_right (by omega), h1, h2, h3]
 rfl
def kOS (acts : List At) (w : World) (e : Ending) (w' : World) : Prop := (∃ r, e = .returned (.bool r) ∧ (r = true → acts.length ≤ 60 ∧ ∀ a ∈ acts, a.b.length ≤ 300)) ∧ Fr No w w'
theorem kMu (hosts : List Ho) (acts : List At) (A B : OA) (c0 d0 : Nat) (w : World) (hh : tHo.els w (· < w.heap.size) A hosts) (ha : tAt.els w (· < w.heap.size) B acts) (l1 : hosts.length ≤ 1048576) (l2 : acts.length ≤ 1048576) :
    Calls prog 6 #[.slice A hosts.length c0, .slice B acts.length d0] w (kOS acts w) := by
 have HH := hid hh
 have HA := hid ha
 have HI : Hid (∀ n, n = 38 → (prog.info? 76).map (·.size) = some n) := by rintro _ rfl; kernel_rfl
 clear hh ha
 go_enter func6, ntmps6
 go_wp2_with fail
 go_loopw [5] (fun i wr => ∃ k : Nat, k ≤ hosts.length ∧ i = .int .i64 k ∧ Hid (Fr No w wr)) (fun i _ => hosts.length - (intOf i).toNat)
 case atStart => exact ⟨0, by omega, rfl, Fr.refl _ _⟩
 case round =>
 obtain ⟨k, hk, rfl, F⟩ := hrel
 have F3 := hid F.o
 clear F
 by_cases hx : k < hosts.length ∧ k < 40
 · obtain ⟨hlt, h40⟩ := hx
   have HLT : Hid (k + 1 ≤ hosts.length) := hlt
   have d1 : decide ((k : Int) < (hosts.length : Nat)) = true := by simp; omega
   have d2 : decide ((k : Int) < 40) = true := by simp; omega
   have i0 := nki k
   have i1 : (k : Int) < (hosts.length : Nat) := om
   obtain ⟨b, o, A1, c1, A2, c2, A3, c3, rfl, hbS, -, -, -, -, y4, -⟩ := kBa (kAA HH.o F3.o i2 i2) k hlt
   clear hbS
   have HH2 := HH
   clear HH
   by_cases hn : 40 < hosts[k].acts.length
   · have d3 : decide ((40 : Int) < (hosts[k].acts.length : Nat)) = true := by simp; omega
     clear hn
     exact yy74
   have d3 : decide ((40 : Int) < (hosts[k].acts.length : Nat)) = false := by simp; omega
   clear hn
   exact yy74
 have FA := F3
 clear F3
 have hz : k < hosts.length → ¬ k < 40 := fun h1 h2 => hx ⟨h1, h2⟩
 obtain ⟨b1, hb1⟩ : ∃ b, b = decide ((k : Int) < (hosts.length : Nat)) := ⟨_, rfl⟩
 have hb2 : b1 = true → decide ((k : Int) < 40) = false := fun h => by rw [hb1] at h; have := hz (by simpa using h); simp; omega
 have d1 : decide ((k : Int) < (hosts.length : Nat)) = b1 := hb1.symm
 clear hb1 hz hx hk
 rcases (show (decide ((k : Int) < (hosts.length : Nat)) = false ∧ ¬ ((k : Int) < (hosts.length : Nat))) ∨ ((k : Int) < (hosts.length : Nat) ∧ decide ((k : Int) < 40) = false ∧ ¬ ((k : Int) < 40)) by cases b1; exact .inl ⟨d1, by simpa using d1⟩; exact .inr ⟨by simpa using d1, hb2 rfl, by simpa using hb2 rfl⟩) with ⟨f1, f2⟩ | ⟨f1, f3, f2⟩
 all_goals
  clear d1 hb2
  go_wp2_with fail
  clear f1
  try clear f2
  try clear f3
  go_loopw [6] (fun i wr => ∃ k : Nat, k ≤ acts.length ∧ i = .int .i64 k ∧ Hid (Fr No w wr) ∧ Hid (∀ j (h : j < acts.length), j < k → acts[j].b.length ≤ 300)) (fun i _ => acts.length - (intOf i).toNat)
  case atStart => exact ⟨0, by omega, rfl, FA.o, fun j _ h => by omega⟩
  case round =>
  obtain ⟨k, hk, rfl, F, HB0⟩ := hrel
  have F2 := hid F.o
  clear F
  by_cases hx : k < acts.length ∧ k < 100
  · obtain ⟨hlt, h40⟩ := hx
    have HLT : Hid (k + 1 ≤ acts.length) := hlt
    have e1 : decide ((k : Int) < (acts.length : Nat)) = true := by simp; omega
    have e2 : decide ((k : Int) < 100) = true := by simp; omega
    have i0 := nki k
    have i1 : (k : Int) < (acts.length : Nat) := om
    obtain ⟨g, o, ds, eA, hb, hc, hr⟩ := (kAA HA.o F2.o i2 i2).at_ k hlt
    subst eA
    have R : wr.rangeAt g (o + k * 38) ds := fun j u hj => by
     have h := hc j u hj
     rwa [show o + (k * tAt.size + j) = o + k * 38 + j by show o + (k * 38 + j) = _; omega] at h
    obtain ⟨a, hac⟩ : ∃ a, a = acts[k]'hlt := ⟨_, rfl⟩
    have hr2 : tAt.rd wr (fun x => x < w.heap.size) ds a := by rw [hac]; exact hr
    have HNX : Hid (a.b.length ≤ 300 → ∀ j (h : j < acts.length), j < k + 1 → acts[j].b.length ≤ 300) := fun h3 j h h' => by
     rcases Nat.lt_or_ge j k with h1 | h1
     · exact HB0.o j h h1
     have e : j = k := om
     subst e
     rw [hac] at h3
     exact h3
    clear hac hc hb HB0 hr
    obtain ⟨P1, p1, P2, p2, A1, c1, A2, c2, A3, c3, ms, ns, hds, -, nl, -, -, -, -, -, -, -, -, -, hmd, -⟩ := kAg hr2
    obtain ⟨Q0, q0, Q1, q1, Q2, q2, Q3, q3, Q4, q4, Q5, q5, Q6, q6, Q7, q7, Q8, q8, Q9, q9, rfl, -⟩ := kBl hmd
    have HL : Hid (ds.length = 38) := TyOk.len _ _ _ _ hr2
    have HO : Hid (ds.all (·.oneCell') = true) := List.all_eq_true.2 ((inferInstance : kAG tAt).one _ _ _ _ hr2)
    clear hr2 hmd
    have HZ : Hid (∀ (X : World) (q : Nat), Blk X q 76 ds.toArray → Ce X q 0 (.int .i64 a.call) ∧ Ce X q 7 (.int .i64 a.table.lim.min) ∧ Ce X q 10 (.int .i64 a.mem.min) ∧ Ce X q 17 (.slice A1 a.refs.length c1) ∧ Ce X q 18 (.slice A2 a.b.length c2) ∧ Ce X q 19 (.slice Q0 a.m.types.length q0) ∧ Ce X q 20 (.slice Q1 a.m.imports.length q1) ∧ Ce X q 21 (.slice Q2 a.m.funcs.length q2) ∧ Ce X q 28 (.slice Q7 a.m.elems.length q7) ∧ Ce X q 29 (.slice Q8 a.m.datas.length q8) ∧ Ce X q 37 (.slice A3 a.args.length c3)) := by
     intro X q b
     rw [hds] at b
     exact ⟨b.at_ rfl, b.at_ rfl, b.at_ rfl, b.at_ rfl, b.at_ rfl, b.at_ rfl, b.at_ rfl, b.at_ rfl, b.at_ rfl, b.at_ rfl, b.at_ (kOH rfl rfl nl)⟩
    clear hds
    have HX := hid hlt
    have F3 := hid (F2.o.alloc (.cells ds.toArray 76))
    have B3 := hid (Blk.new wr 76 ds.toArray)
    go_upto_region 9 with fail
    go_upto_region 10 with (first
     | (refine wpList_load_mid (by rfl) 76 _ (by rfl) g (o + k * 38) (by rfl) _ _ R underlying76 (by rfl) (HI.o _ HL.o) ?_)
     | (refine kAz (by rfl) 76 _ _ (by rfl) _ ds (by rfl) (by rfl) (HI.o _ HL.o) (Eq.trans (by rfl) HL.o.symm) HO.o ?_)
     | fail)
    simp only [Act.put]
    generalize wr.alloc (.cells ds.toArray 76) = W at *
    generalize wr.heap.size = p at *
    try (first | simp only [List.append_eq, List.cons_append, List.nil_append] | simp only [List.append] | simp only [HAppend.hAppend, Append.append, List.append])
    obtain ⟨z0, z7, z10, z17, z18, z19, z20, z21, z28, z29, z37⟩ := HZ.o _ _ B3.o
    clear B3 HZ HI HL HO R
    have hc : (a.call == 2) = true → (a.call == 3) = false := fun h => by rw [show a.call = 2 by simpa using h]; rfl
    rcases fc1 (a.call == 2) (decide ((1100 : Int) < a.table.lim.min)) (a.call == 3) (decide ((3 : Int) < a.mem.min)) (decide (a.mem.min < (257 : Int))) hc with (⟨d2, dt⟩ | ⟨d2, d3, dm, dn⟩) | (⟨d2, dt, d3⟩ | ⟨d2, d3, dm, dn⟩ | ⟨d2, d3, dm⟩ | ⟨d2, d3⟩)
    iterate 2
     · clear hc HX
       go_wp2
       all_goals (go_ret; exact ⟨⟨_, rfl, fun e => by cases e⟩, F3.o⟩)
    all_goals
     clear hc
     rcases fc2 (decide ((300 : Int) < (a.refs.length : Nat))) (decide ((300 : Int) < (a.b.length : Nat))) (decide ((20 : Int) < (a.args.length : Nat))) with dr | ⟨dr, db⟩ | ⟨dr, db, dg⟩ | ⟨dr, db, dg⟩
     all_goals
      try have HB3 : Hid (a.b.length ≤ 300) := by have := of_decide_eq_false db; unfold Hid; omega
      clear HX
      go_wp2
      all_goals first
       | (go_ret; exact ⟨⟨_, rfl, fun e => by cases e⟩, F3.o⟩)
       | (go_roundw; (case rel => exact ⟨k + 1, HLT.o, by go_num, F3.o, HNX.o HB3.o⟩); (case measure => simp [intOf]; omega))
  have F3 := F2
  clear F2
  have hz : k < acts.length → ¬ k < 100 := fun h1 h2 => hx ⟨h1, h2⟩
  have HB : Hid (acts.length ≤ 60 → ∀ a ∈ acts, a.b.length ≤ 300) := fun h6 a hm => by
   obtain ⟨j, hj, rfl⟩ := List.getElem_of_mem hm
   refine HB0.o j hj ?_
   by_cases h1 : k < acts.length
   · have := hz h1; omega
   omega
  obtain ⟨b1, hb1⟩ : ∃ b, b = decide ((k : Int) < (acts.length : Nat)) := ⟨_, rfl⟩
  have hb2 : b1 = true → decide ((k : Int) < 100) = false := fun h => by rw [hb1] at h; have := hz (by simpa using h); simp; omega
  have d1 : decide ((k : Int) < (acts.length : Nat)) = b1 := hb1.symm
  clear hb1 hz hx hk HB0
  rcases (show (decide ((k : Int) < (acts.length : Nat)) = false ∧ ¬ ((k : Int) < (acts.length : Nat))) ∨ ((k : Int) < (acts.length : Nat) ∧ decide ((k : Int) < 100) = false ∧ ¬ ((k : Int) < 100)) by cases b1; exact .inl ⟨d1, by simpa using d1⟩; exact .inr ⟨by simpa using d1, hb2 rfl, by simpa using hb2 rfl⟩) with ⟨f1, f2⟩ | ⟨f1, f3, f2⟩
  all_goals
   clear d1 hb2
   by_cases n1 : hosts.length ≤ 40
   · have m1 : decide ((hosts.length : Int) ≤ 40) = true := by simp; omega
     by_cases n2 : acts.length ≤ 60
     · have m2 : decide ((acts.length : Int) ≤ 60) = true := by simp; omega
       go_wp2_with fail
       go_ret
       exact ⟨⟨_, rfl, fun _ => ⟨n2, HB.o n2⟩⟩, F3.o⟩
     have m2 : decide ((acts.length : Int) ≤ 60) = false := by simp; omega
     go_wp2_with fail
     go_ret
     exact ⟨⟨_, rfl, fun e => by cases e⟩, F3.o⟩
   · have m1 : decide ((hosts.length : Int) ≤ 40) = false := by simp; omega
     go_wp2_with fail
     go_ret
     exact ⟨⟨_, rfl, fun e => by cases e⟩, F3.o⟩
theorem inv0 {hosts : List Ho} (h : mayB hosts = true) (hb : ∀ h ∈ hosts, HoBu h) : Inv 0 (sto0 hosts) := by
 simp only [mayB, Bool.and_eq_true, decide_eq_true_eq, List.all_eq_true] at h
 exact { ho := h.2, hb := fun a ha => (hb a ha).1, hl := h.1, cl := by simp [sto0]
         cn := fun c hc => by rw [(List.mem_replicate.1 hc).2]; omega
         ca := nr, cb := (fun _ h => by cases h), fu := nr, fb := (fun _ h => by cases h), ta := nr, tv := (fun _ h => by cases h), mv := (fun _ h => by cases h), tw := (fun _ h => by cases h)
         me := nr, ms := (fun _ h => by cases h), gl := nr, gw := (fun _ h => by cases h), el := nr, eb := (fun _ h => by cases h), eg := (fun _ h => by cases h)
         da := nr, db := (fun _ h => by cases h), dg := (fun _ h => by cases h), is := nr, ib := (fun _ h => by cases h) }
theorem kNo {a : Fn} (u : tFn.le 1048576 a) : FnB a := ⟨u.1.1, u.2.1⟩
theorem kMm {a : Ins} (u : tIns.le 1048576 a) : InsB a := by
 obtain ⟨-, -, -, -, -, ht, hl⟩ := u
 exact ⟨ht.1, hl.1⟩
theorem kCy {l : List Ins} (u : tIns.slice.le 1048576 l) : kDP l := ⟨u.1, fun i hi => kMm (u.2 i hi)⟩
theorem kOG {a : Cd} (u : tCd.le 1048576 a) : CdB a := by
 obtain ⟨-, hl, hb⟩ := u
 exact ⟨hl.1, kCy hb⟩
theorem kNm {a : Gd} (u : tGd.le 1048576 a) : GdB a := by
 obtain ⟨-, hb⟩ := u
 exact kCy hb
theorem kNs {a : El} (u : tEl.le 1048576 a) : ElB a := by
 obtain ⟨-, -, ho, -, hi⟩ := u
 exact ⟨kCy ho, hi.1, fun l hl => kCy (hi.2 l hl)⟩
theorem kOB {a : Da} (u : tDa.le 1048576 a) : DaB a := by
 obtain ⟨-, -, ho, hb⟩ := u
 exact ⟨kCy ho, hb.1⟩
theorem kOF {a : Cu} (u : tCu.le 1048576 a) : CuB a := by
 obtain ⟨-, -, hb⟩ := u
 exact hb.1
theorem kNi {a : Md} (u : tMd.le 1048576 a) : MdB a := by
 obtain ⟨h0, h1, h2, h3, h4, h5, h6, -, -, h9, h10, h11⟩ := u
 exact ⟨⟨h0.1, fun x hx => kNo (h0.2 x hx)⟩, h1.1, ⟨h2.1, fun x hx => kOG (h2.2 x hx)⟩, h3.1, h4.1, ⟨h5.1, fun x hx => kNm (h5.2 x hx)⟩, h6.1, ⟨h9.1, fun x hx => kNs (h9.2 x hx)⟩, ⟨h10.1, fun x hx => kOB (h10.2 x hx)⟩, ⟨h11.1, fun x hx => kOF (h11.2 x hx)⟩⟩
theorem kOK {a : Ad} (u : tAd.le 1048576 a) : AdB a := by
 obtain ⟨h0, h1, h2, h3, h4, h5⟩ := u
 exact ⟨h0.1, h1.1, h2.1, h3.1, h4.1, h5.1⟩
theorem kOI {a : At} (u : tAt.le 1048576 a) (hb : a.b.length ≤ 300) (gw : (Lit.int .i64 a.g.val).wf = true) : AtB a := by
 obtain ⟨-, -, hf, -, -, -, -, hr, -, hm, ha, hg⟩ := u
 obtain ⟨ht, -, -⟩ := hf
 exact ⟨⟨ht.1.1, ht.2.1⟩, hr.1, by omega, kNi hm, kOK ha, hg.1, gw⟩
theorem kGX {P : Program} {ops : Array Oper} {Q : Exit → Act → World → Prop} {S : World → Prop} {i : Nat} {op : Oper} {r : OT} {a : Act} {w : World} (ho : ops[i]? = some op) (hw : Region.wanted op (yielded ops a.tmps) = true) (ty : TypeId) (x : Operand) (hop : op.op = .load ty x)
    (b q : Nat) (hx : a.eval x = .pointer (some ⟨b, q, none⟩)) (cs : LV) (dd : TypeDesc) (hc : ∀ X, S X → X.rangeAt b q cs) (hu : P.underlying ty = some dd) (hd : dd.isRow = true) (hi : (P.info? ty).map (·.size) = some cs.length)
    (h : wpT P ops Q S r (a.put op.dst (.agg cs.toArray)) w) : wpT P ops Q S (.rd i r) a w :=
 kGh ho hw ⟨_, fun X hX => by unfold execOp; simp only [hop, hx, Instr.loadAt, Instr.sureAddr, Sem.run_bind, Sem.run_pure, Result.andThen_ok, run_loadVar_mid X b q ty cs dd (hc X hX) hu hd hi]; exact stillUpon_value, h⟩
theorem kMr {h : Ho} (u : tHo.le 1048576 h) : HoBu h := by
 obtain ⟨h0, h1, ⟨hp, hr⟩, ha, hav⟩ := u
 have h2 : h.ty.params.length ≤ 1048576 := hp.1
 have h3 : h.ty.results.length ≤ 1048576 := hr.1
 have h4 : h.acts.length ≤ 1048576 := ha
 exact ⟨⟨by omega, by omega, by omega, fun a m => by have h5 : a.vals.length ≤ 1048576 := (hav a m).2.1.1; omega⟩, h0, h1⟩
theorem Inv.le {n : Nat} {x : Rx} (h : Inv n x) (hn : n ≤ 1000) : ShLe (kAi x) := by
 refine ⟨by have := h.me; simp [kAi]; omega, by have := h.ta; simp [kAi]; omega, by have := h.gl; simp [kAi]; omega, by have := h.el; simp [kAi]; omega, by have := h.da; simp [kAi]; omega, by have := h.ca; simp [kAi]; omega, fun b hb => ?_, fun b hb => ?_, fun c hc => h.cb c hc⟩
 · obtain ⟨m, hm, rfl⟩ := List.mem_map.1 hb
   have := (h.ms m hm).1
   omega
 obtain ⟨t, ht, rfl⟩ := List.mem_map.1 hb
 obtain ⟨h1, h2⟩ := h.tv t ht
 unfold tbB tabB limB at h1
 simp at h1
 omega
structure Lp (w : World) (p : Nat) (x : Rx) (cs : LV) (V : Pl) (R : Nat → Prop) (X : World) : Prop where
 b : Both X R V x cs
 bx : Blk X p 39 cs.toArray
 rp : R p
 np : ¬ V.own p
 lo : ∀ k, R k → w.heap.size ≤ k
 fr : Fr No w X
structure Lq (w : World) (p q : Nat) (x : Rx) (cs cs2 : LV) (V : Pl) (R : Nat → Prop) (X : World) : Prop where
 b : Both X R V x cs2
 bx : Blk X p 39 cs.toArray
 bq : Blk X q 39 cs2.toArray
 ne : p ≠ q
 l : cs.length = 10
 rp : R p
 np : ¬ V.own p
 lo : ∀ k, R k → w.heap.size ≤ k
 fr : Fr No w X
section
variable {w : World} {p : Nat} {x x' : Rx} {cs cs' : LV} {V V' : Pl} {R R' : Nat → Prop} {X Y : World}
theorem Lp.no (h : Lp w p x cs V R X) (f : Fr No X Y) : Lp w p x cs V R Y := ⟨h.b.fr f, h.bx.fr f id, h.rp, h.np, h.lo, h.fr.trans f i3⟩
theorem Lp.blk_grow (h : Lp w p x cs V R X) (g : Grown X Y R R' V V') : Blk Y p 39 cs.toArray := h.bx.fr g.fr h.np
theorem Lp.fr_grow (h : Lp w p x cs V R X) (g : Grown X Y R R' V V') : Fr No w Y := h.fr.trans g.fr (fun k hk o => by have := h.lo k (h.b.pr.own k o); omega)
theorem Lp.np_grow (h : Lp w p x cs V R X) (g : Grown X Y R R' V V') : ¬ V'.own p := fun o => (g.own p o).elim h.np (fun e => by have := h.bx.lt; omega)
theorem Lp.lo_grow (h : Lp w p x cs V R X) (g : Grown X Y R R' V V') : ∀ k, R' k → w.heap.size ≤ k := fun k r => by
 by_cases hk : k < X.heap.size
 · exact h.lo k (g.up k hk r)
 have := h.fr.size
 omega
theorem Lp.step (h : Lp w p x cs V R X) (g : Grown X Y R R' V V') (b : Both Y R' V' x' cs') {Z : World} (f : Fr No Y Z) {q : Nat} (hq : Blk Z q 39 cs'.toArray) (hpq : X.heap.size ≤ q) : Lq w p q x' cs cs' V' R' Z :=
 ⟨b.fr f, (h.blk_grow g).fr f id, hq, fun e => by have := h.bx.lt; omega, TyOk.len _ _ _ _ h.b.rf, g.keep p h.rp, h.np_grow g, h.lo_grow g, (h.fr_grow g).trans f i3⟩
theorem Lp.more (h : Lp w p x cs V R X) (f : Fr No X Y) {q : Nat} (hq : X.heap.size ≤ q) (hq2 : q < Y.heap.size) : Lp w p x cs V (fun k => R k ∨ k = q) Y :=
 ⟨⟨h.b.pr.fr f (fun _ _ m => m.elim) (fun k hk r => r.elim id (fun e => by omega)) (fun _ r => .inl r) (fun k r => r.elim (fun r => ltl (h.b.pr.low k r) f.size) (fun e => by omega)), kCC h.b.rf f (fun _ _ m => m.elim) (fun k hk r => r.elim id (fun e => by omega))⟩,
  h.bx.fr f id, .inl h.rp, h.np, fun k r => r.elim (h.lo k) (fun e => by have := h.fr.size; omega), h.fr.trans f i3⟩
theorem Lp.step2 (h : Lp w p x cs V R X) (g : Grown X Y R R' V V') (b : Both Y R' V' x' cs') {q : Nat} {C : Array Value} (hq : Blk X q 39 C) (hC : C.size = 10) (rq : R q) (nq : ¬ V.own q) (ne : p ≠ q) : Lq w p q x' cs cs' V' R' (Y.setCells q 0 cs') := by
 have FT := Fr.setCells' (M := One q) (b := q) (fun _ => rfl) cs' 0 Y (Fr.refl _ Y)
 have n' : ¬ V'.own q := fun o => (g.own q o).elim nq (fun e => by have := hq.lt; omega)
 have hM : ∀ k, k < Y.heap.size → One q k → R' k ∧ ¬ V'.own k := fun k _ e => by
  have e : k = q := e
  subst e
  exact ⟨g.keep k rq, n'⟩
 have l2 : cs'.length = 10 := TyOk.len _ _ _ _ b.rf
 exact ⟨⟨b.pr.fr FT hM (fun _ _ r => r) (fun _ r => r) (fun k r => ltl (b.pr.low k r) FT.size), kCC b.rf FT (fun k hk m => (hM k hk m).1) (fun _ _ r => r)⟩,
  (h.blk_grow g).fr FT (fun e => ne e), (hq.fr g.fr nq).setAll om, ne, TyOk.len _ _ _ _ h.b.rf, g.keep p h.rp, h.np_grow g, h.lo_grow g,
  (h.fr_grow g).trans FT (fun k hk e => by have e : k = q := e; subst e; have := h.lo _ rq; omega)⟩
theorem Lq.put {q : Nat} {cs2 : LV} (h : Lq w p q x cs cs2 V R X) : Lp w p x cs2 V R (X.setCells p 0 cs2) := by
 have FT := Fr.setCells' (M := One p) (b := p) (fun _ => rfl) cs2 0 X (Fr.refl _ X)
 have hM : ∀ k, k < X.heap.size → One p k → R k ∧ ¬ V.own k := fun k _ e => by
  have e : k = p := e
  subst e
  exact ⟨h.rp, h.np⟩
 have l2 : cs2.length = 10 := TyOk.len _ _ _ _ h.b.rf
 exact ⟨⟨h.b.pr.fr FT hM (fun _ _ r => r) (fun _ r => r) (fun k r => ltl (h.b.pr.low k r) FT.size), kCC h.b.rf FT (fun k hk m => (hM k hk m).1) (fun _ _ r => r)⟩,
  h.bx.setAll (by have := h.l; simp only [List.size_toArray]; omega), h.rp, h.np, h.lo, h.fr.trans FT (fun k hk e => by have e : k = p := e; subst e; have := h.lo _ h.rp; omega)⟩
end
theorem kDY {α : Type} {zs xs : List α} (h : zs.length = xs.length) : splice zs 0 xs = xs := by
 unfold splice
 rw [show zs.drop (0 + xs.length) = [] by rw [List.drop_eq_nil_iff]; omega]
 simp
theorem kEr {zs xs : List Int} (h : zs.length = xs.length) (hl : xs.length ≤ 1024) : kCw zs xs 0 0 xs.length = (0, xs) := by
 have e : ((xs.length : Int) % 4294967296).toNat = xs.length := om
 have hf : Fits zs.length xs.length 0 0 (xs.length : Int) := by unfold Fits; omega
 unfold kCw
 rw [if_pos hf, e, show ((0 : Int) % 4294967296).toNat = 0 from rfl, List.drop_zero, List.take_length, kDY h]
theorem kEy {zs xs : List Int} (h : zs.length = xs.length) (hl : xs.length ≤ 100000) : kAr zs xs (lo 0) (lo 0) (lo xs.length) = (xs, 0) := by
 have e : lo (xs.length : Int) = xs.length := by unfold lo; omega
 rw [e, show lo 0 = 0 from rfl]
 unfold kAr
 rw [if_pos (by omega), if_pos (by omega), List.drop_zero, List.take_length, kDY h]
def CtTo (e mn mx : Int) (h : Bool) (xs : List Int) (w : World) (e' : Ending) (w' : World) : Prop :=
 ∃ p q c, e' = .returned (.pointer (some ⟨p, 0, none⟩)) ∧ TabAt w' p q c e mn mx h xs ∧ w.heap.size ≤ p ∧ w.heap.size ≤ q ∧ Fr No w w'
theorem kEJ {p q c : Nat} {e mx : Int} {n : Nat} {h : Bool} {xs : List Int} {w : World} (t : TabAt w p q c e n mx h xs) (hv : tabB e n mx h = true) (hn : xs.length = n) :
    Calls prog 97 #[.pointer (some ⟨p, 0, none⟩)] w (CtTo e n mx h xs w) := by
 subst hn
 have T := hid t
 have hl := t.len
 have HV := hid hv
 have HT := hid (fun (X : World) (f : Fr No w X) => kHD (t.fr f id id))
 clear t hv
 go_enter func97, ntmps97
 go_wp2_with fail
 refine (HT.o _ (Fr.refl No w)).mono ?_
 rintro e1 w1 ⟨rfl, f1⟩
 go_wp2_with fail
 refine (kNc e xs.length mx h w1 HV.o).mono ?_
 rintro e2 w2 ⟨p', q', rfl, t2, hp, hq, f2⟩
 have T2 := hid t2
 have TA := hid ((T.o.fr f1 id id).fr f2 id id)
 have F := hid (f1.trans f2 i3)
 have HP := hid (And.intro (Nat.le_trans f1.size hp) (Nat.le_trans f1.size hq))
 clear t2 hp hq f1 f2 HT
 go_wp2_with fail
 refine (kHG TA.o).mono ?_
 rintro e3 w3 ⟨rfl, rfl⟩
 go_wp2_with fail
 refine (kHG T2.o).mono ?_
 rintro e4 w4 ⟨rfl, rfl⟩
 have hw : IntKind.i64.wrap ((xs.length : Int) - (((List.replicate (xs.length : Int).toNat (0 : Int)).length : Nat) : Int)) = 0 := by rw [IntKind.wrap_i64, List.length_replicate]; omega
 go_wp2_with fail
 refine (kHG TA.o).mono ?_
 rintro e5 w5 ⟨rfl, rfl⟩
 have hw2 : IntKind.u64.wrap ((xs.length : Nat) : Int) = xs.length := by rw [IntKind.wrap_u64]; omega
 go_wp2_with fail
 have HC := hid (kIT T2.o (p2 := p) (some ⟨q, 0, none⟩) xs w2.heap.size c 0 0 xs.length dc dc om om TA.o.cap (TA.o.own.rd TA.o.own.lt) TA.o.c4)
 have ei := kEr (zs := List.replicate (xs.length : Int).toNat 0) (xs := xs) (by rw [List.length_replicate]; omega) hl
 exact yy60
def CmTo (l : Lim) (B : List Int) (w : World) (e' : Ending) (w' : World) : Prop :=
 ∃ p q c, e' = .returned (.pointer (some ⟨p, 0, none⟩)) ∧ Mo w' p q c l B ∧ w.heap.size ≤ p ∧ w.heap.size ≤ q ∧ Fr No w w'
theorem kER {p q c : Nat} {l : Lim} {B : List Int} {w : World} (m : Mo w p q c l B) (hv : validB l = true) (hn : B.length = l.min.toNat * 256) :
    Calls prog 98 #[.pointer (some ⟨p, 0, none⟩)] w (CmTo l B w) := by
 have hV := of_decide_eq_true hv
 obtain ⟨v1, v2, -, -⟩ := hV
 have hl : B.length ≤ 65536 := om
 have HB := hid hn
 have M := hid m
 have HV := hid hv
 have HT := hid (fun (X : World) (f : Fr No w X) => kET p l _ X (m.frNo f).hp)
 clear m hv hn
 go_enter func98, ntmps98
 go_wp2_with fail
 refine (HT.o _ (Fr.refl No w)).mono ?_
 rintro e1 w1 ⟨rfl, f1⟩
 go_wp2_with fail
 have HN := hid (kJA l w1)
 unfold NewTo at HN
 simp only [HV.o, if_true] at HN
 refine HN.o.mono ?_
 rintro e2 w2 ⟨p', q', c', rfl, t2, hp, hq, f2⟩
 have T2 := hid t2
 have TA := hid ((M.o.frNo f1).frNo f2)
 have F := hid (f1.trans f2 i3)
 have HP := hid (And.intro (Nat.le_trans f1.size hp) (Nat.le_trans f1.size hq))
 clear t2 hp hq f1 f2 HT HN
 have hr : (List.replicate (l.min.toNat * 256) (0 : Int)).length = B.length := by rw [List.length_replicate]; exact HB.o.symm
 generalize List.replicate (l.min.toNat * 256) (0 : Int) = Z at *
 go_wp2_with fail
 refine (kCW p _ B.length c w2 (TA.o.hp.cell 3) om).mono ?_
 rintro e3 w3 ⟨rfl, rfl⟩
 go_wp2_with fail
 refine (kCW p' _ Z.length c' w2 (T2.o.hp.cell 3) om).mono ?_
 rintro e4 w4 ⟨rfl, rfl⟩
 have hw : IntKind.i64.wrap (((B.length / 256 : Nat) : Int) - ((Z.length / 256 : Nat) : Int)) = 0 := by rw [hr, IntKind.wrap_i64]; omega
 go_wp2_with fail
 refine (kCW p _ B.length c w2 (TA.o.hp.cell 3) om).mono ?_
 rintro e5 w5 ⟨rfl, rfl⟩
 go_wp2_with fail
 have e7 : (B.length : Int) / 256 * 256 = (B.length : Int) := by have := HB.o; omega
 rw [e7]
 have HC := hid (kEl p' q' c' p q c l l Z B 0 0 B.length w2 T2.o TA.o om om dc dc om)
 have ei := kEy hr (show B.length ≤ 100000 by omega)
 exact yy60
theorem kCG {α : Type} {t : Ty α} {w : World} {base n c : Nat} {S : Nat → Prop} {e : TypeId} {l : List α} (h : t.row w base S e (.slice none n c) l) : l = [] := by
 obtain ⟨css, h1, h2⟩ := h
 rcases h2.2 with ⟨_, h0⟩ | ⟨g, cap, cur, hv, _⟩
 · exact List.eq_nil_of_length_eq_zero h0
 cases hv
theorem kEz (A : OA) (c : Nat) (l : List Ho) (S : Nat → Prop) (base : Nat) (w : World) (h : tHo.row w base S 108 (.slice A l.length c) l) (hS : Lt S w) (hl : l.length * 104 ≤ 140737488351232) :
    Calls prog 94 #[.slice A l.length c] w (kAy tHo 108 S l w) := by
 cases A with
 | none =>
  have hn := kCG h
  subst hn
  have he := fun W => Lib.run_eql_slice_nil (P := prog) W 22 _ none 0 c 0 0 underlying22
  go_enter func94, ntmps94
  exact yy18
 | some ad =>
  obtain ⟨css, hcs, hrd⟩ := h.rd
  have F0 := hid ((Fr.refl No w).alloc (.cells #[] 108))
  have R0 := hid (Ty.row.lit (t := tHo) (S := S) (base := w.heap.size) (css := []) (xs := []) (Blk.new w 108 #[]) nr Css.nil dc)
  have HC := hid (hcs.fr F0.o (fun k hk => ⟨hS k hk, fun x => x⟩))
  have HR := hid (hrd.fr F0.o (fun _ _ x => x))
  have HS := hid hS
  clear h hcs hrd hS
  obtain ⟨n, hn⟩ : ∃ n, l.length = n := ⟨_, rfl⟩
  have HN := hid hn
  rw [hn] at hl ⊢
  clear hn
  have he := fun W => Lib.run_eql_slice_nil (P := prog) W 22 _ (some ad) n c 0 0 underlying22
  go_enter func94, ntmps94
  go_wp2_with (at_builtin; refine wpList_appC (t := tHo) (base := w.heap.size) (S := S) (xs := []) (ys := l) (dss := css) (B2 := w.heap.size) elHo rfl rfl rfl rfl R0.o HC.o HR.o HN.o so so (fun k hk => ⟨ltl (HS.o k hk) F0.o.size, fun e => by have := HS.o k hk; have e2 := Option.some.inj (show some k = some w.heap.size from e); omega⟩) F0.o.size ?_; intro v1 w2 hr1 fr1 hv1; have F2 := hid (own_frame R0.o F0.o fr1 nr); have R1 := hid hr1; clear hr1 fr1 hv1)
  exact yy2
theorem kHT (A : OA) (c : Nat) (l : List Int) (S : Nat → Prop) (base : Nat) (w : World) (h : tI.row w base S 3 (.slice A l.length c) l) (hS : Lt S w) (hl : l.length * 8 ≤ 140737488351232) :
    Calls prog 95 #[.slice A l.length c] w (kAy tI 3 S l w) := by
 cases A with
 | none =>
  have hn := kCG h
  subst hn
  have he := fun W => Lib.run_eql_slice_nil (P := prog) W 29 _ none 0 c 0 0 underlying29
  go_enter func95, ntmps95
  exact yy18
 | some ad =>
  obtain ⟨css, hcs, hrd⟩ := h.rd
  have F0 := hid ((Fr.refl No w).alloc (.cells #[] 3))
  have R0 := hid (Ty.row.lit (t := tI) (S := S) (base := w.heap.size) (css := []) (xs := []) (Blk.new w 3 #[]) nr Css.nil dc)
  have HC := hid (hcs.fr F0.o (fun k hk => ⟨hS k hk, fun x => x⟩))
  have HR := hid (hrd.fr F0.o (fun _ _ x => x))
  have HS := hid hS
  clear h hcs hrd hS
  obtain ⟨n, hn⟩ : ∃ n, l.length = n := ⟨_, rfl⟩
  have HN := hid hn
  rw [hn] at hl ⊢
  clear hn
  have he := fun W => Lib.run_eql_slice_nil (P := prog) W 29 _ (some ad) n c 0 0 underlying29
  go_enter func95, ntmps95
  go_wp2_with (at_builtin; refine wpList_appC (t := tI) (base := w.heap.size) (S := S) (xs := []) (ys := l) (dss := css) (B2 := w.heap.size) kFm rfl rfl rfl rfl R0.o HC.o HR.o HN.o so so (fun k hk => ⟨ltl (HS.o k hk) F0.o.size, fun e => by have := HS.o k hk; have e2 := Option.some.inj (show some k = some w.heap.size from e); omega⟩) F0.o.size ?_; intro v1 w2 hr1 fr1 hv1; have F2 := hid (own_frame R0.o F0.o fr1 nr); have R1 := hid hr1; clear hr1 fr1 hv1)
  exact yy2
theorem kFZ (A : OA) (c : Nat) (l : List Fi) (S : Nat → Prop) (base : Nat) (w : World) (h : tFi.row w base S 47 (.slice A l.length c) l) (hS : Lt S w) (hl : l.length * 64 ≤ 140737488351232) :
    Calls prog 96 #[.slice A l.length c] w (kAy tFi 47 S l w) := by
 cases A with
 | none =>
  have hn := kCG h
  subst hn
  have he := fun W => Lib.run_eql_slice_nil (P := prog) W 31 _ none 0 c 0 0 underlying31
  go_enter func96, ntmps96
  exact yy18
 | some ad =>
  obtain ⟨css, hcs, hrd⟩ := h.rd
  have F0 := hid ((Fr.refl No w).alloc (.cells #[] 47))
  have R0 := hid (Ty.row.lit (t := tFi) (S := S) (base := w.heap.size) (css := []) (xs := []) (Blk.new w 47 #[]) nr Css.nil dc)
  have HC := hid (hcs.fr F0.o (fun k hk => ⟨hS k hk, fun x => x⟩))
  have HR := hid (hrd.fr F0.o (fun _ _ x => x))
  have HS := hid hS
  clear h hcs hrd hS
  obtain ⟨n, hn⟩ : ∃ n, l.length = n := ⟨_, rfl⟩
  have HN := hid hn
  rw [hn] at hl ⊢
  clear hn
  have he := fun W => Lib.run_eql_slice_nil (P := prog) W 31 _ (some ad) n c 0 0 underlying31
  go_enter func96, ntmps96
  go_wp2_with (at_builtin; refine wpList_appC (t := tFi) (base := w.heap.size) (S := S) (xs := []) (ys := l) (dss := css) (B2 := w.heap.size) elFi rfl rfl rfl rfl R0.o HC.o HR.o HN.o so so (fun k hk => ⟨ltl (HS.o k hk) F0.o.size, fun e => by have := HS.o k hk; have e2 := Option.some.inj (show some k = some w.heap.size from e); omega⟩) F0.o.size ?_; intro v1 w2 hr1 fr1 hv1; have F2 := hid (own_frame R0.o F0.o fr1 nr); have R1 := hid hr1; clear hr1 fr1 hv1)
  exact yy2
theorem kFT (A : OA) (c : Nat) (l : List Rg) (S : Nat → Prop) (base : Nat) (w : World) (h : tRg.row w base S 180 (.slice A l.length c) l) (hS : Lt S w) (hl : l.length * 32 ≤ 140737488351232) :
    Calls prog 99 #[.slice A l.length c] w (kAy tRg 180 S l w) := by
 cases A with
 | none =>
  have hn := kCG h
  subst hn
  have he := fun W => Lib.run_eql_slice_nil (P := prog) W 122 _ none 0 c 0 0 underlying122
  go_enter func99, ntmps99
  exact yy18
 | some ad =>
  obtain ⟨css, hcs, hrd⟩ := h.rd
  have F0 := hid ((Fr.refl No w).alloc (.cells #[] 180))
  have R0 := hid (Ty.row.lit (t := tRg) (S := S) (base := w.heap.size) (css := []) (xs := []) (Blk.new w 180 #[]) nr Css.nil dc)
  have HC := hid (hcs.fr F0.o (fun k hk => ⟨hS k hk, fun x => x⟩))
  have HR := hid (hrd.fr F0.o (fun _ _ x => x))
  have HS := hid hS
  clear h hcs hrd hS
  obtain ⟨n, hn⟩ : ∃ n, l.length = n := ⟨_, rfl⟩
  have HN := hid hn
  rw [hn] at hl ⊢
  clear hn
  have he := fun W => Lib.run_eql_slice_nil (P := prog) W 122 _ (some ad) n c 0 0 underlying122
  go_enter func99, ntmps99
  go_wp2_with (at_builtin; refine wpList_appC (t := tRg) (base := w.heap.size) (S := S) (xs := []) (ys := l) (dss := css) (B2 := w.heap.size) elGg rfl rfl rfl rfl R0.o HC.o HR.o HN.o so so (fun k hk => ⟨ltl (HS.o k hk) F0.o.size, fun e => by have := HS.o k hk; have e2 := Option.some.inj (show some k = some w.heap.size from e); omega⟩) F0.o.size ?_; intro v1 w2 hr1 fr1 hv1; have F2 := hid (own_frame R0.o F0.o fr1 nr); have R1 := hid hr1; clear hr1 fr1 hv1)
  exact yy2
theorem kFA (A : OA) (c : Nat) (l : List Rs) (S : Nat → Prop) (base : Nat) (w : World) (h : tRs.row w base S 182 (.slice A l.length c) l) (hS : Lt S w) (hl : l.length * 32 ≤ 140737488351232) :
    Calls prog 100 #[.slice A l.length c] w (kAy tRs 182 S l w) := by
 cases A with
 | none =>
  have hn := kCG h
  subst hn
  have he := fun W => Lib.run_eql_slice_nil (P := prog) W 125 _ none 0 c 0 0 underlying125
  go_enter func100, ntmps100
  exact yy18
 | some ad =>
  obtain ⟨css, hcs, hrd⟩ := h.rd
  have F0 := hid ((Fr.refl No w).alloc (.cells #[] 182))
  have R0 := hid (Ty.row.lit (t := tRs) (S := S) (base := w.heap.size) (css := []) (xs := []) (Blk.new w 182 #[]) nr Css.nil dc)
  have HC := hid (hcs.fr F0.o (fun k hk => ⟨hS k hk, fun x => x⟩))
  have HR := hid (hrd.fr F0.o (fun _ _ x => x))
  have HS := hid hS
  clear h hcs hrd hS
  obtain ⟨n, hn⟩ : ∃ n, l.length = n := ⟨_, rfl⟩
  have HN := hid hn
  rw [hn] at hl ⊢
  clear hn
  have he := fun W => Lib.run_eql_slice_nil (P := prog) W 125 _ (some ad) n c 0 0 underlying125
  go_enter func100, ntmps100
  go_wp2_with (at_builtin; refine wpList_appC (t := tRs) (base := w.heap.size) (S := S) (xs := []) (ys := l) (dss := css) (B2 := w.heap.size) elGs rfl rfl rfl rfl R0.o HC.o HR.o HN.o so so (fun k hk => ⟨ltl (HS.o k hk) F0.o.size, fun e => by have := HS.o k hk; have e2 := Option.some.inj (show some k = some w.heap.size from e); omega⟩) F0.o.size ?_; intro v1 w2 hr1 fr1 hv1; have F2 := hid (own_frame R0.o F0.o fr1 nr); have R1 := hid hr1; clear hr1 fr1 hv1)
  exact yy2
theorem kFU (A : OA) (c : Nat) (l : List Rb) (S : Nat → Prop) (base : Nat) (w : World) (h : tRb.row w base S 184 (.slice A l.length c) l) (hS : Lt S w) (hl : l.length * 32 ≤ 140737488351232) :
    Calls prog 101 #[.slice A l.length c] w (kAy tRb 184 S l w) := by
 cases A with
 | none =>
  have hn := kCG h
  subst hn
  have he := fun W => Lib.run_eql_slice_nil (P := prog) W 128 _ none 0 c 0 0 underlying128
  go_enter func101, ntmps101
  exact yy18
 | some ad =>
  obtain ⟨css, hcs, hrd⟩ := h.rd
  have F0 := hid ((Fr.refl No w).alloc (.cells #[] 184))
  have R0 := hid (Ty.row.lit (t := tRb) (S := S) (base := w.heap.size) (css := []) (xs := []) (Blk.new w 184 #[]) nr Css.nil dc)
  have HC := hid (hcs.fr F0.o (fun k hk => ⟨hS k hk, fun x => x⟩))
  have HR := hid (hrd.fr F0.o (fun _ _ x => x))
  have HS := hid hS
  clear h hcs hrd hS
  obtain ⟨n, hn⟩ : ∃ n, l.length = n := ⟨_, rfl⟩
  have HN := hid hn
  rw [hn] at hl ⊢
  clear hn
  have he := fun W => Lib.run_eql_slice_nil (P := prog) W 128 _ (some ad) n c 0 0 underlying128
  go_enter func101, ntmps101
  go_wp2_with (at_builtin; refine wpList_appC (t := tRb) (base := w.heap.size) (S := S) (xs := []) (ys := l) (dss := css) (B2 := w.heap.size) elGb rfl rfl rfl rfl R0.o HC.o HR.o HN.o so so (fun k hk => ⟨ltl (HS.o k hk) F0.o.size, fun e => by have := HS.o k hk; have e2 := Option.some.inj (show some k = some w.heap.size from e); omega⟩) F0.o.size ?_; intro v1 w2 hr1 fr1 hv1; have F2 := hid (own_frame R0.o F0.o fr1 nr); have R1 := hid hr1; clear hr1 fr1 hv1)
  exact yy2
theorem kFR (A : OA) (c : Nat) (l : List Ri) (S : Nat → Prop) (base : Nat) (w : World) (h : tRi.row w base S 208 (.slice A l.length c) l) (hS : Lt S w) (hl : l.length * 400 ≤ 140737488351232) :
    Calls prog 102 #[.slice A l.length c] w (kAy tRi 208 S l w) := by
 cases A with
 | none =>
  have hn := kCG h
  subst hn
  have he := fun W => Lib.run_eql_slice_nil (P := prog) W 131 _ none 0 c 0 0 underlying131
  go_enter func102, ntmps102
  exact yy18
 | some ad =>
  obtain ⟨css, hcs, hrd⟩ := h.rd
  have F0 := hid ((Fr.refl No w).alloc (.cells #[] 208))
  have R0 := hid (Ty.row.lit (t := tRi) (S := S) (base := w.heap.size) (css := []) (xs := []) (Blk.new w 208 #[]) nr Css.nil dc)
  have HC := hid (hcs.fr F0.o (fun k hk => ⟨hS k hk, fun x => x⟩))
  have HR := hid (hrd.fr F0.o (fun _ _ x => x))
  have HS := hid hS
  clear h hcs hrd hS
  obtain ⟨n, hn⟩ : ∃ n, l.length = n := ⟨_, rfl⟩
  have HN := hid hn
  rw [hn] at hl ⊢
  clear hn
  have he := fun W => Lib.run_eql_slice_nil (P := prog) W 131 _ (some ad) n c 0 0 underlying131
  go_enter func102, ntmps102
  go_wp2_with (at_builtin; refine wpList_appC (t := tRi) (base := w.heap.size) (S := S) (xs := []) (ys := l) (dss := css) (B2 := w.heap.size) elGi rfl rfl rfl rfl R0.o HC.o HR.o HN.o so so (fun k hk => ⟨ltl (HS.o k hk) F0.o.size, fun e => by have := HS.o k hk; have e2 := Option.some.inj (show some k = some w.heap.size from e); omega⟩) F0.o.size ?_; intro v1 w2 hr1 fr1 hv1; have F2 := hid (own_frame R0.o F0.o fr1 nr); have R1 := hid hr1; clear hr1 fr1 hv1)
  exact yy2
theorem kEk {α : Type} {t : Ty α} [TyOk t] [TyMore t] {w w' : World} {R : Nat → Prop} {base : Nat} {e : TypeId} {v : Value} {l : List α} (h : t.row w base (Sd w R) e v l) (f : Fr No w w') : t.row w' base (Sd w R) e v l := h.fr f (fun k hk => ⟨hk.1, fun x => x⟩) (fun _ _ x => x)
structure Ci (w : World) (R : Nat → Prop) (wr : World) (R1 : Nat → Prop) (V : Pl) (x : Rx) : Prop where
 st : StIn wr R1 V x
 f : Fr No w wr
 keep : ∀ k, R k → R1 k
 up : ∀ k, k < w.heap.size → R1 k → R k
 own : ∀ k, V.own k → w.heap.size ≤ k
section
variable {w wr w1 : World} {R R1 : Nat → Prop} {V : Pl} {x : Rx} {v' : Value}
theorem Ci.src {α : Type} {t : Ty α} [TyOk t] [TyMore t] {e : TypeId} {v : Value} {l : List α} (h : Ci w R wr R1 V x) (r : t.row w 0 (Sd w R) e v l) : t.row wr 0 (Sd wr R1) e v l := kAB r h.f (fun _ _ m => m.elim) (fun _ _ m => m) h.up
theorem Ci.grown {w' : World} {R' : Nat → Prop} {V' : Pl} {x' : Rx} (h : Ci w R wr R1 V x) (k : StIn w' R' V' x') (g : Grown wr w' R1 R' V V') : Ci w R w' R' V' x' :=
 ⟨k, h.f.trans g.fr (fun i hi o => absurd (h.own i o) om), fun i r => g.keep i (h.keep i r), fun i hi r => h.up i hi (g.up i (ltl hi h.f.size) r), fun i o => (g.own i o).elim (h.own i) (fun o => Nat.le_trans h.f.size o)⟩
theorem Ci.put_fu {xs : List Fi} (h : Ci w R wr R1 V x) (g : Fr No wr w1) (hr : tFi.row w1 wr.heap.size (Sd wr R1) 47 v' xs) : ∃ R2, Ci w R (w1.setCell ⟨V.P, 3, none⟩ v') R2 { V with fu := v' } { x with funcs := xs } := by
 have FS := (Fr.refl (One V.P) w1).setCell ⟨V.P, 3, none⟩ v' (fun _ => rfl)
 have hg : ∀ k, v'.ownBlock = some k → wr.heap.size ≤ k ∧ k < w1.heap.size := fun k e => by obtain ⟨h1, _, h2⟩ := hr.own e; exact ⟨h1, h2.lt⟩
 have hP := h.st.lt V.oP
 have hup : ∀ k, k < wr.heap.size → (R1 k ∨ v'.ownBlock = some k) → R1 k := fun k hk r => r.elim (fun r => r) (fun e => by have := (hg k e).1; omega)
 have hs : ∀ k, Sd wr R1 k → k ≠ V.P := fun k hk e => hk.2 (h.st.own k (e ▸ V.oP))
 refine ⟨fun k => R1 k ∨ v'.ownBlock = some k, h.st.put_fu ((g.mono (fun _ _ m => m.elim)).trans FS (fun k hk e => .inl e)) (by simpa using (h.st.blk.fr g id).set_ 3 v') ((hr.fr FS (fun k hk => ⟨ltl hk.1 g.size, hs k hk⟩) (fun k e m => by have m : k = V.P := m; have := (hg k e).1; omega)).more nz (fun k hk => hk.up (Nat.le_trans g.size FS.size) hup)) (fun k e => .inr e) hup (fun k r => .inl r) (fun k r => r.elim (fun r => ltl (h.st.low k r) (Nat.le_trans g.size FS.size)) (fun e => ltl (hg k e).2 FS.size)),
  (h.f.trans g i3).trans FS (fun k hk e => by have e : k = V.P := e; have := h.own _ V.oP; omega), fun k r => .inl (h.keep k r), fun k hk r => h.up k hk (hup k (ltl hk h.f.size) r), fun k o => ?_⟩
 rcases Pl.own_put_fu o with o | e
 · exact h.own k o
 exact Nat.le_trans h.f.size (hg k e).1
theorem Ci.put_gl {xs : List Rg} (h : Ci w R wr R1 V x) (g : Fr No wr w1) (hr : tRg.row w1 wr.heap.size (Sd wr R1) 180 v' xs) : ∃ R2, Ci w R (w1.setCell ⟨V.P, 6, none⟩ v') R2 { V with gl := v' } { x with globs := xs } := by
 have FS := (Fr.refl (One V.P) w1).setCell ⟨V.P, 6, none⟩ v' (fun _ => rfl)
 have hg : ∀ k, v'.ownBlock = some k → wr.heap.size ≤ k ∧ k < w1.heap.size := fun k e => by obtain ⟨h1, _, h2⟩ := hr.own e; exact ⟨h1, h2.lt⟩
 have hP := h.st.lt V.oP
 have hup : ∀ k, k < wr.heap.size → (R1 k ∨ v'.ownBlock = some k) → R1 k := fun k hk r => r.elim (fun r => r) (fun e => by have := (hg k e).1; omega)
 have hs : ∀ k, Sd wr R1 k → k ≠ V.P := fun k hk e => hk.2 (h.st.own k (e ▸ V.oP))
 refine ⟨fun k => R1 k ∨ v'.ownBlock = some k, h.st.put_gl ((g.mono (fun _ _ m => m.elim)).trans FS (fun k hk e => .inl e)) (by simpa using (h.st.blk.fr g id).set_ 6 v') ((hr.fr FS (fun k hk => ⟨ltl hk.1 g.size, hs k hk⟩) (fun k e m => by have m : k = V.P := m; have := (hg k e).1; omega)).more nz (fun k hk => hk.up (Nat.le_trans g.size FS.size) hup)) (fun k e => .inr e) hup (fun k r => .inl r) (fun k r => r.elim (fun r => ltl (h.st.low k r) (Nat.le_trans g.size FS.size)) (fun e => ltl (hg k e).2 FS.size)),
  (h.f.trans g i3).trans FS (fun k hk e => by have e : k = V.P := e; have := h.own _ V.oP; omega), fun k r => .inl (h.keep k r), fun k hk r => h.up k hk (hup k (ltl hk h.f.size) r), fun k o => ?_⟩
 rcases Pl.own_put_gl o with o | e
 · exact h.own k o
 exact Nat.le_trans h.f.size (hg k e).1
theorem Ci.put_el {xs : List Rs} (h : Ci w R wr R1 V x) (g : Fr No wr w1) (hr : tRs.row w1 wr.heap.size (Sd wr R1) 182 v' xs) : ∃ R2, Ci w R (w1.setCell ⟨V.P, 7, none⟩ v') R2 { V with el := v' } { x with elems := xs } := by
 have FS := (Fr.refl (One V.P) w1).setCell ⟨V.P, 7, none⟩ v' (fun _ => rfl)
 have hg : ∀ k, v'.ownBlock = some k → wr.heap.size ≤ k ∧ k < w1.heap.size := fun k e => by obtain ⟨h1, _, h2⟩ := hr.own e; exact ⟨h1, h2.lt⟩
 have hP := h.st.lt V.oP
 have hup : ∀ k, k < wr.heap.size → (R1 k ∨ v'.ownBlock = some k) → R1 k := fun k hk r => r.elim (fun r => r) (fun e => by have := (hg k e).1; omega)
 have hs : ∀ k, Sd wr R1 k → k ≠ V.P := fun k hk e => hk.2 (h.st.own k (e ▸ V.oP))
 refine ⟨fun k => R1 k ∨ v'.ownBlock = some k, h.st.put_el ((g.mono (fun _ _ m => m.elim)).trans FS (fun k hk e => .inl e)) (by simpa using (h.st.blk.fr g id).set_ 7 v') ((hr.fr FS (fun k hk => ⟨ltl hk.1 g.size, hs k hk⟩) (fun k e m => by have m : k = V.P := m; have := (hg k e).1; omega)).more nz (fun k hk => hk.up (Nat.le_trans g.size FS.size) hup)) (fun k e => .inr e) hup (fun k r => .inl r) (fun k r => r.elim (fun r => ltl (h.st.low k r) (Nat.le_trans g.size FS.size)) (fun e => ltl (hg k e).2 FS.size)),
  (h.f.trans g i3).trans FS (fun k hk e => by have e : k = V.P := e; have := h.own _ V.oP; omega), fun k r => .inl (h.keep k r), fun k hk r => h.up k hk (hup k (ltl hk h.f.size) r), fun k o => ?_⟩
 rcases Pl.own_put_el o with o | e
 · exact h.own k o
 exact Nat.le_trans h.f.size (hg k e).1
theorem Ci.put_da {xs : List Rb} (h : Ci w R wr R1 V x) (g : Fr No wr w1) (hr : tRb.row w1 wr.heap.size (Sd wr R1) 184 v' xs) : ∃ R2, Ci w R (w1.setCell ⟨V.P, 8, none⟩ v') R2 { V with da := v' } { x with datas := xs } := by
 have FS := (Fr.refl (One V.P) w1).setCell ⟨V.P, 8, none⟩ v' (fun _ => rfl)
 have hg : ∀ k, v'.ownBlock = some k → wr.heap.size ≤ k ∧ k < w1.heap.size := fun k e => by obtain ⟨h1, _, h2⟩ := hr.own e; exact ⟨h1, h2.lt⟩
 have hP := h.st.lt V.oP
 have hup : ∀ k, k < wr.heap.size → (R1 k ∨ v'.ownBlock = some k) → R1 k := fun k hk r => r.elim (fun r => r) (fun e => by have := (hg k e).1; omega)
 have hs : ∀ k, Sd wr R1 k → k ≠ V.P := fun k hk e => hk.2 (h.st.own k (e ▸ V.oP))
 refine ⟨fun k => R1 k ∨ v'.ownBlock = some k, h.st.put_da ((g.mono (fun _ _ m => m.elim)).trans FS (fun k hk e => .inl e)) (by simpa using (h.st.blk.fr g id).set_ 8 v') ((hr.fr FS (fun k hk => ⟨ltl hk.1 g.size, hs k hk⟩) (fun k e m => by have m : k = V.P := m; have := (hg k e).1; omega)).more nz (fun k hk => hk.up (Nat.le_trans g.size FS.size) hup)) (fun k e => .inr e) hup (fun k r => .inl r) (fun k r => r.elim (fun r => ltl (h.st.low k r) (Nat.le_trans g.size FS.size)) (fun e => ltl (hg k e).2 FS.size)),
  (h.f.trans g i3).trans FS (fun k hk e => by have e : k = V.P := e; have := h.own _ V.oP; omega), fun k r => .inl (h.keep k r), fun k hk r => h.up k hk (hup k (ltl hk h.f.size) r), fun k o => ?_⟩
 rcases Pl.own_put_da o with o | e
 · exact h.own k o
 exact Nat.le_trans h.f.size (hg k e).1
theorem Ci.put_is {xs : List Ri} (h : Ci w R wr R1 V x) (g : Fr No wr w1) (hr : tRi.row w1 wr.heap.size (Sd wr R1) 208 v' xs) : ∃ R2, Ci w R (w1.setCell ⟨V.P, 9, none⟩ v') R2 { V with is := v' } { x with insts := xs } := by
 have FS := (Fr.refl (One V.P) w1).setCell ⟨V.P, 9, none⟩ v' (fun _ => rfl)
 have hg : ∀ k, v'.ownBlock = some k → wr.heap.size ≤ k ∧ k < w1.heap.size := fun k e => by obtain ⟨h1, _, h2⟩ := hr.own e; exact ⟨h1, h2.lt⟩
 have hP := h.st.lt V.oP
 have hup : ∀ k, k < wr.heap.size → (R1 k ∨ v'.ownBlock = some k) → R1 k := fun k hk r => r.elim (fun r => r) (fun e => by have := (hg k e).1; omega)
 have hs : ∀ k, Sd wr R1 k → k ≠ V.P := fun k hk e => hk.2 (h.st.own k (e ▸ V.oP))
 refine ⟨fun k => R1 k ∨ v'.ownBlock = some k, h.st.put_is ((g.mono (fun _ _ m => m.elim)).trans FS (fun k hk e => .inl e)) (by simpa using (h.st.blk.fr g id).set_ 9 v') ((hr.fr FS (fun k hk => ⟨ltl hk.1 g.size, hs k hk⟩) (fun k e m => by have m : k = V.P := m; have := (hg k e).1; omega)).more nz (fun k hk => hk.up (Nat.le_trans g.size FS.size) hup)) (fun k e => .inr e) hup (fun k r => .inl r) (fun k r => r.elim (fun r => ltl (h.st.low k r) (Nat.le_trans g.size FS.size)) (fun e => ltl (hg k e).2 FS.size)),
  (h.f.trans g i3).trans FS (fun k hk e => by have e : k = V.P := e; have := h.own _ V.oP; omega), fun k r => .inl (h.keep k r), fun k hk r => h.up k hk (hup k (ltl hk h.f.size) r), fun k o => ?_⟩
 rcases Pl.own_put_is o with o | e
 · exact h.own k o
 exact Nat.le_trans h.f.size (hg k e).1
end
abbrev vN : Value := .slice none 0 0
theorem Ci.box {w W : World} {R : Nat → Prop} {P : Nat} {a b c : Value} {hs : List Ho} {cs : List Int} {ls : List Ca} (F : Fr No w W) (low : Lt R w) (hb : Blk W P 135 #[a, b, c, vN, vN, vN, vN, vN, vN, vN]) (hP : w.heap.size ≤ P)
    (h1 : tHo.row W w.heap.size (Sd w R) 108 a hs) (h2 : tI.row W w.heap.size (Sd w R) 3 b cs) (h3 : tCa.row W w.heap.size (fun k => w.heap.size ≤ k ∧ k < W.heap.size ∧ k ≠ P ∧ ∀ v ∈ [a, b, c], v.ownBlock ≠ some k) 113 c ls) :
    ∃ R1, Ci w R W R1 ⟨P, a, b, c, vN, vN, vN, vN, vN, vN, vN, [], []⟩ { hosts := hs, counts := cs, calls := ls, funcs := [], tabs := [], mems := [], globs := [], elems := [], datas := [], insts := [] } := by
 let V : Pl := ⟨P, a, b, c, vN, vN, vN, vN, vN, vN, vN, [], []⟩
 have hown : ∀ k, V.own k → k = P ∨ a.ownBlock = some k ∨ b.ownBlock = some k ∨ c.ownBlock = some k := by
  intro k
  simp only [Pl.own, Pl.vs, V, List.mem_cons, List.not_mem_nil, or_false]
  rintro (hk | ⟨u, hu, hk⟩ | ⟨z, hz, _⟩ | ⟨z, hz, _⟩)
  · exact .inl hk
  · rcases hu with rfl | rfl | rfl | rfl | rfl | rfl | rfl | rfl | rfl | rfl
    · exact .inr (.inl hk)
    · exact .inr (.inr (.inl hk))
    · exact .inr (.inr (.inr hk))
    all_goals (simp [Value.ownBlock] at hk)
  · exact hz.elim
  exact hz.elim
 have hlow : ∀ k, V.own k → w.heap.size ≤ k ∧ k < W.heap.size := fun k o => by
  rcases hown k o with e | e | e | e
  · rw [e]; exact ⟨hP, hb.lt⟩
  · obtain ⟨q1, _, q2⟩ := h1.own e; exact ⟨q1, q2.lt⟩
  · obtain ⟨q1, _, q2⟩ := h2.own e; exact ⟨q1, q2.lt⟩
  obtain ⟨q1, _, q2⟩ := h3.own e; exact ⟨q1, q2.lt⟩
 have hsd : ∀ k, Sd w R k → Sd W (fun k => R k ∨ V.own k) k := fun k hk => ⟨ltl hk.1 F.size, fun r => r.elim hk.2 (fun o => by have := (hlow k o).1; have := hk.1; omega)⟩
 refine ⟨fun k => R k ∨ V.own k, ?_, F, fun k r => .inl r, fun k hk r => r.elim (fun r => r) (fun o => by have := (hlow k o).1; omega), fun k o => (hlow k o).1⟩
 constructor
 case blk => exact hb
 case ho => exact h1.more nz hsd
 case co => exact h2.more nz hsd
 case ca => exact h3.more nz (fun k hk => ⟨hk.2.1, fun r => r.elim (fun r => by have := low k r; omega) (fun o => by
  rcases hown k o with e | e | e | e
  · exact hk.2.2.1 e
  · exact hk.2.2.2 a sm e
  · exact hk.2.2.2 b sm e
  · exact hk.2.2.2 c sm e)⟩)
 case fu => exact Ty.row.nil _ _ _ _
 case ta => exact Ty.row.nil _ _ _ _
 case me => exact Ty.row.nil _ _ _ _
 case gl => exact Ty.row.nil _ _ _ _
 case el => exact Ty.row.nil _ _ _ _
 case da => exact Ty.row.nil _ _ _ _
 case is => exact Ty.row.nil _ _ _ _
 case tl => rfl
 case tat => intro i z t h1; simp at h1
 case tne => intro i j a b h1; simp at h1
 case ml => rfl
 case mat => intro i z t h1; simp at h1
 case mne => intro i j a b h1; simp at h1
 case own => exact fun k hk => .inr hk
 exact fun k r => r.elim (fun r => ltl (low k r) F.size) (fun o => (hlow k o).2)
end Go.Proofs.YtdckghiipijobaaGreat
