/- Part 12 of the proof: lemmas and contracts of functions. No condition. -/
import Derived.Test.YtdckghiipijobaaGreatP11
import Derived.Test.YtdckghiipijobaaGreatP2
import Derived.Test.YtdckghiipijobaaGreatP1
set_option maxRecDepth 100000
set_option maxHeartbeats 12800000
set_option linter.unusedVariables false
set_option linter.unusedSimpArgs false
set_option linter.unusedSectionVars false
namespace Go.Proofs.YtdckghiipijobaaGreat
open Go.RowKit Go.Proofs.Tryz
structure Both (w : World) (R : Nat → Prop) (V : Pl) (x : Rx) (cs : LV) : Prop where
 pr : StIn w R V x
 rf : tRx.rd w (Sd w R) cs x
theorem kCK {α : Type} {t : Ty α} [TyOk t] [TyMore t] {w w' : World} {R R' : Nat → Prop} {V V' : Pl} {x0 : Rx} {cs : LV} {x : α} (h : t.rd w (Sd w R) cs x) (hs : StIn w R V x0) (g : Grown w w' R R' V V') : t.rd w' (Sd w' R') cs x :=
 kCC h g.fr (fun k _ m => hs.own k m) g.up
theorem kCO {α : Type} {t : Ty α} [TyOk t] [TyMore t] {w w' : World} {R R' : Nat → Prop} {V V' : Pl} {x0 : Rx} {A : OA} {x : List α} (h : t.els w (Sd w R) A x) (hs : StIn w R V x0) (g : Grown w w' R R' V V') : t.els w' (Sd w' R') A x :=
 kBH h g.fr (fun k _ m => hs.own k m) g.up
theorem kBX {α : Type} {t : Ty α} [TyOk t] [TyMore t] {w w' : World} {R : Nat → Prop} {cs : LV} {x : α} (h : t.rd w (Sd w R) cs x) (f : Fr No w w') : t.rd w' (Sd w' R) cs x :=
 kCC h f (fun _ _ m => m.elim) (fun _ _ r => r)
theorem Both.fr {w w' : World} {R : Nat → Prop} {V : Pl} {x : Rx} {cs : LV} (h : Both w R V x cs) (f : Fr No w w') : Both w' R V x cs := ⟨h.pr.frNo f, kBX h.rf f⟩
theorem rd_fresh2 {α : Type} {t : Ty α} [TyMore t] {w w' : World} {R : Nat → Prop} {cs : LV} {x : α} (hl : Lt R w) (f : Fr No w w') (h : t.rd w' (fun k => Sd w R k ∨ Nw w w' k) cs x) : t.rd w' (Sd w' R) cs x :=
 TyMore.more _ _ _ _ _ h (fun _ hk => hk.elim (fun hk => hk.up f.size (fun _ _ r => r)) (fun hk => kCL hl hk))
theorem kFx {w : World} {p n : Nat} {T : TypeId} {pre mid post : LV} (h : Blk w p T (pre ++ (mid ++ post)).toArray) (hn : pre.length = n) : w.rangeAt p n mid := fun j u hu => by
 subst hn
 rw [h.cell, List.getElem?_toArray, List.getElem?_append_right (by omega), Nat.add_sub_cancel_left, List.getElem?_append_left (List.getElem?_eq_some_iff.1 hu).1]
 exact hu
theorem kAg {w : World} {S : Nat → Prop} {es : LV} {a : At} (h : tAt.rd w S es a) : ∃ (P1 : OA) (p1 : Nat) (P2 : OA) (p2 : Nat) (A1 : OA) (c1 : Nat) (A2 : OA) (c2 : Nat) (A3 : OA) (c3 : Nat) (ms ns : LV),
    es = [.int .i64 a.call, .int .i64 a.addr, .slice P1 a.func.ty.params.length p1, .slice P2 a.func.ty.results.length p2, .int .i64 a.func.inst, .int .i64 a.func.index, .int .i64 a.table.elem, .int .i64 a.table.lim.min, .int .i64 a.table.lim.max, .bool a.table.lim.has, .int .i64 a.mem.min, .int .i64 a.mem.max, .bool a.mem.has, .int .i64 a.g.val, .bool a.g.mut_, .int .i64 a.v.t, .int .u64 a.v.n, .slice A1 a.refs.length c1, .slice A2 a.b.length c2] ++ (ms ++ (ns ++ [.slice A3 a.args.length c3])) ∧ ms.length = 12 ∧ ns.length = 6 ∧ (Lit.int .i64 a.call).wf = true ∧ (Lit.int .i64 a.addr).wf = true ∧
    tFi.rd w S [.slice P1 a.func.ty.params.length p1, .slice P2 a.func.ty.results.length p2, .int .i64 a.func.inst, .int .i64 a.func.index] a.func ∧ ((Lit.int .i64 a.table.elem).wf = true ∧ (Lit.int .i64 a.table.lim.min).wf = true ∧ (Lit.int .i64 a.table.lim.max).wf = true) ∧ ((Lit.int .i64 a.mem.min).wf = true ∧ (Lit.int .i64 a.mem.max).wf = true) ∧ (Lit.int .i64 a.g.val).wf = true ∧ ((Lit.int .i64 a.v.t).wf = true ∧ (Lit.int .u64 a.v.n).wf = true) ∧
    (a.refs.length ≤ c1 ∧ c1 ≤ maxLen ∧ tU.els w S A1 a.refs) ∧ (a.b.length ≤ c2 ∧ c2 ≤ maxLen ∧ tB.els w S A2 a.b) ∧ tMd.rd w S ms a.m ∧ tAd.rd w S ns a.a ∧ (a.args.length ≤ c3 ∧ c3 ≤ maxLen ∧ tVl.els w S A3 a.args) := by
 obtain ⟨xcall, rcall, rfl, ⟨rfl, wcall⟩, xaddr, raddr, rfl, ⟨rfl, waddr⟩, xfunc, rfunc, rfl, hfunc, xtable, rtable, rfl, htable, xmem, rmem, rfl, hmem, xg, rg, rfl, hg, xv, rv, rfl, hv, xrefs, rrefs, rfl, ⟨Arefs, crefs, rfl, grefs, mrefs, erefs⟩, xb, rb, rfl, ⟨Ab, cb, rfl, gb, mb, eb⟩, xm, rm, rfl, hm, xa, ra, rfl, ha, Aargs, cargs, rfl, gargs, margs, eargs⟩ := h
 have hf0 : tFi.rd w S xfunc a.func := hfunc
 obtain ⟨Q1, q1, Q2, q2, rfl, -⟩ := kBm hfunc
 obtain ⟨rfl, kt⟩ := kDC htable
 obtain ⟨rfl, km⟩ := kCH hmem
 obtain ⟨rfl, kg⟩ := kEG hg
 obtain ⟨rfl, kv⟩ := kHt hv
 have hm' : tMd.rd w S xm a.m := hm
 have ha' : tAd.rd w S xa a.a := ha
 exact ⟨Q1, q1, Q2, q2, Arefs, crefs, Ab, cb, Aargs, cargs, xm, xa, rfl, TyOk.len _ _ _ _ hm', TyOk.len _ _ _ _ ha', wcall, waddr, hf0, kt, km, kg, kv, ⟨grefs, mrefs, erefs⟩, ⟨gb, mb, eb⟩, hm', ha', gargs, margs, eargs⟩
def kAZ (R : Nat → Prop) (V : Pl) (x' : Rx) (w : World) (e : Ending) (w' : World) : Prop :=
 ∃ (V' : Pl) (R' : Nat → Prop) (cs' : LV), e = .returned (.tuple #[.agg cs'.toArray, .bool true]) ∧ Both w' R' V' x' cs' ∧ Grown w w' R R' V V'
section
variable {w : World} {R : Nat → Prop} {V : Pl} {x : Rx} {cs : LV}
theorem kDW {P1 P2 : OA} {p1 p2 : Nat} {f : Fi} (h : tFi.rd w (Sd w R) [.slice P1 f.ty.params.length p1, .slice P2 f.ty.results.length p2, .int .i64 f.inst, .int .i64 f.index] f) : tI.els w (· < w.heap.size) P1 f.ty.params ∧ tI.els w (· < w.heap.size) P2 f.ty.results ∧ (Lit.int .i64 f.inst).wf = true ∧ (Lit.int .i64 f.index).wf = true := by
 obtain ⟨A1, c1, A2, c2, e, -, -, h1, -, -, h2, h3, h4⟩ := kBm h
 simp only [List.cons.injEq, Value.slice.injEq, true_and, and_true] at e
 obtain ⟨⟨rfl, rfl⟩, rfl, rfl⟩ := e
 exact ⟨h1.more (fun _ hk => hk.1), h2.more (fun _ hk => hk.1), h3, h4⟩
structure Hd (w W : World) (R R0 : Nat → Prop) (V : Pl) (x : Rx) (cs es : LV) : Prop where
 F0 : Fr No w W
 GX : Blk W w.heap.size 39 cs.toArray
 GA : Blk W (w.heap.size + 1) 76 es.toArray
 GR : Blk W (w.heap.size + 2) 39 z10
 H : StIn W R0 V x
 RF : tRx.rd W (Sd W R0) cs x
 RR : R0 = fun k => R k ∨ k = w.heap.size + 2
 OW : ∀ k, w.heap.size ≤ k → ¬ V.own k
theorem hd (h : Both w R V x cs) (es : LV) : ∃ R0, Hd w (((w.alloc (.cells cs.toArray 39)).alloc (.cells es.toArray 76)).alloc (.cells z10 39)) R R0 V x cs es := by
 have F0 := ((((Fr.refl No w).alloc (.cells cs.toArray 39)).alloc (.cells es.toArray 76)).alloc (.cells z10 39))
 have GR : Blk (((w.alloc (.cells cs.toArray 39)).alloc (.cells es.toArray 76)).alloc (.cells z10 39)) (w.heap.size + 2) 39 z10 := by simpa using Blk.new ((w.alloc (.cells cs.toArray 39)).alloc (.cells es.toArray 76)) 39 z10
 have h0 : ∀ k, k < w.heap.size → (R k ∨ k = w.heap.size + 2) → R k := fun k hk r => r.elim (fun r => r) (fun e => by omega)
 exact ⟨_, F0, ((Blk.new w 39 cs.toArray).alloc _).alloc _, (Blk.new1 w (.cells cs.toArray 39) 76 es.toArray).alloc _, GR,
  h.pr.fr F0 (fun _ _ m => m.elim) h0 (fun _ r => .inl r) (fun k r => r.elim (fun r => ltl (h.pr.low k r) F0.size) (fun e => e ▸ GR.lt)), kCC h.rf F0 (fun _ _ m => m.elim) h0, rfl, fun k hk o => by have := h.pr.lt o; omega⟩
section
variable {W w1 W3 : World} {R0 R1 : Nat → Prop} {V1 : Pl} {x' : Rx} {es cs2 : LV}
theorem Hd.up {α : Type} {t : Ty α} [TyOk t] [TyMore t] {c : LV} {y : α} (D : Hd w W R R0 V x cs es) (h : t.rd w (Sd w R) c y) : t.rd W (Sd W R0) c y :=
 kCC h D.F0 (fun _ _ m => m.elim) (fun k hk r => by rw [D.RR] at r; exact r.elim (fun r => r) (fun e => by omega))
theorem Hd.upE {α : Type} {t : Ty α} [TyOk t] [TyMore t] {A : OA} {l : List α} (D : Hd w W R R0 V x cs es) (h : t.els w (Sd w R) A l) : t.els W (Sd W R0) A l :=
 kBH h D.F0 (fun _ _ m => m.elim) (fun k hk r => by rw [D.RR] at r; exact r.elim (fun r => r) (fun e => by omega))
theorem Hd.all (D : Hd w W R R0 V x cs es) : Hid (Fr No w W) ∧ Hid (Blk W w.heap.size 39 cs.toArray) ∧ Hid (Blk W (w.heap.size + 1) 76 es.toArray) ∧ Hid (Blk W (w.heap.size + 2) 39 z10) ∧ Hid (StIn W R0 V x) ∧ Hid (tRx.rd W (Sd W R0) cs x) ∧ Hid (∀ k, w.heap.size ≤ k → ¬ V.own k) := ⟨D.F0, D.GX, D.GA, D.GR, D.H, D.RF, D.OW⟩
theorem Hd.next (D : Hd w W R R0 V x cs es) (g : Grown W w1 R0 R1 V V1) : Hid (Blk w1 w.heap.size 39 cs.toArray) ∧ Hid (Blk w1 (w.heap.size + 1) 76 es.toArray) ∧ Hid (Blk w1 (w.heap.size + 2) 39 z10) ∧ Hid (tRx.rd w1 (Sd w1 R1) cs x) :=
 ⟨D.GX.fr g.fr (D.OW _ om), D.GA.fr g.fr (D.OW _ om), D.GR.fr g.fr (D.OW _ om), kCK D.RF D.H g⟩
theorem nx2 {w2 : World} {q : Nat} (K : StIn w1 R1 V1 x') (f : Fr No w1 w2) (h : tRx.rd w2 (fun k => Sd w1 R1 k ∨ Nw w1 w2 k) cs2 x') (G : Blk w1 q 39 z10) :
    Hid (cs2.length = 10) ∧ Hid (cs2.all (·.oneCell') = true) ∧ Hid (tRx.rd (w2.alloc (.cells cs2.toArray 39)) (Sd (w2.alloc (.cells cs2.toArray 39)) R1) cs2 x') ∧ Hid (Fr No w1 (w2.alloc (.cells cs2.toArray 39))) ∧ Hid (Blk (w2.alloc (.cells cs2.toArray 39)) q 39 z10) ∧ Hid (Blk (w2.alloc (.cells cs2.toArray 39)) w2.heap.size 39 cs2.toArray) := by
 have f3 := (Fr.refl No w2).alloc (.cells cs2.toArray 39)
 exact ⟨(rx_one h).1, (rx_one h).2, kBX (rd_fresh2 K.low f h) f3, f.trans f3 i3, (G.fr f id).fr f3 id, Blk.new _ _ _⟩
theorem Hd.fin {fn : Func} {act : Act} (D : Hd w W R R0 V x cs es) (g : Grown W w1 R0 R1 V V1) (K : StIn w1 R1 V1 x') (F3 : Fr No w1 W3) (h : tRx.rd W3 (Sd W3 R1) cs2 x') (G : Blk W3 (w.heap.size + 2) 39 z10)
    (hf : fn.results = #[.cell 6 39, .tmp 7] := by rfl) (hp : act.tmps.getD 6 undef = .pointer (some ⟨w.heap.size + 2, 0, none⟩) := by rfl) (h7 : act.tmps.getD 7 undef = .bool true := by rfl) (hdd : act.defers = [] := by rfl) :
    bodyPost prog fn (kAZ R V x' w) .ret act (W3.setCells (w.heap.size + 2) 0 cs2) := by
 have FT := Fr.setCells' (M := One (w.heap.size + 2)) (b := w.heap.size + 2) (fun _ => rfl) cs2 0 W3 (Fr.refl _ W3)
 have FW := Fr.setCells' (a := w) (M := V.own) (b := w.heap.size + 2) (fun h => absurd h om) cs2 0 W3 (((D.F0.mono (fun _ _ h => h.elim)).trans g.fr i3).trans F3 (fun _ _ h => h.elim))
 have RR := World.rangeAt_setCells_same W3 (w.heap.size + 2) 0 cs2 (G.to rfl (rx_one h).1)
 have e7 : act.tmps.getD 7 undef = .bool true := h7
 refine bodyPost_ret (v := .tuple #[.agg cs2.toArray, .bool true]) (by rw [← e7]; exact results_wide (fn := fn) (p := 6) (t := 7) (ty := 39) hf _ _ (w.heap.size + 2) _ _ hp RR underlying39 rfl (by rw [(rx_one h).1]; exact kBo)) hdd ?_
 have hq : R1 (w.heap.size + 2) := g.keep _ (by rw [D.RR]; exact .inr rfl)
 have hM : ∀ k, k < W3.heap.size → One (w.heap.size + 2) k → R1 k ∧ ¬ V1.own k := fun k _ e => by
  have e : k = w.heap.size + 2 := e
  subst e
  exact ⟨hq, fun o => (g.own _ o).elim (fun o => D.OW _ om o) (fun o => by have := D.GR.lt; omega)⟩
 have K3 := K.frNo F3
 exact ⟨V1, R1, cs2, rfl, ⟨K3.fr FT hM (fun _ _ r => r) (fun _ r => r) (fun k r => ltl (K3.low k r) FT.size), kCC h FT (fun k hk m => (hM k hk m).1) (fun _ _ r => r)⟩, g.P, FW, fun k hk r => by
  have h2 := g.up k (ltl hk D.F0.size) r
  rw [D.RR] at h2
  exact h2.elim (fun r => r) (fun e => by omega), fun k r => g.keep k (by rw [D.RR]; exact .inl r), fun k o => (g.own k o).imp id (fun h => Nat.le_trans D.F0.size h)⟩
end
theorem kLW (h : Both w R V x cs) (a : At) {es : LV} (ha : tAt.rd w (Sd w R) es a) (hc : a.call = 1) (hn : x.funcs.length ≤ 1000000) (hb : a.func.ty.params.length ≤ 1048576 ∧ a.func.ty.results.length ≤ 1048576) (hh : ∀ a ∈ x.hosts, a.ty.params.length ≤ 140737488351232 ∧ a.ty.results.length ≤ 140737488351232) :
    Calls prog 37 #[.pointer (some ⟨V.P, 0, none⟩), .agg cs.toArray, .agg es.toArray] w (kAZ R V (kBs x a.func).1 w) := by
 have HCL : Hid (cs.length = 10) := TyOk.len _ _ _ _ h.rf
 obtain ⟨P1, p1, P2, p2, A1, c1, A2, c2, A3, c3, ms, ns, hes, ml, nl, -, -, hfi, hta, hme, hgl, hvl, hre, hby, hmd, had, hag⟩ := kAg ha
 have HES := hid hes
 clear hes
 obtain ⟨R0, HD⟩ := hd h es
 have HP0 := hid (HD.up hfi)
 go_enter func37, ntmps37
 go_upto_region 1 with fail
 generalize ((w.alloc (.cells cs.toArray 39)).alloc (.cells es.toArray 76)).alloc (.cells z10 39) = W at *
 have y0 : W.cell? ⟨w.heap.size + 1, 0, none⟩ = some (.int .i64 1) := by rw [← hc]; exact (HD.GA.cell 0).trans (by rw [HES.o]; try rfl)
 go_upto_region 3 with fail
 clear y0
 have y2 := (HD.GA.cell 2).trans (by rw [HES.o]; try rfl)
 have y3 := (HD.GA.cell 3).trans (by rw [HES.o]; try rfl)
 have y4 := (HD.GA.cell 4).trans (by rw [HES.o]; try rfl)
 have y5 := (HD.GA.cell 5).trans (by rw [HES.o]; try rfl)
 go_wp2_with fail
 refine (kIs HD.H a.func P1 P2 p1 p2 (kDW HP0.o).1 (kDW HP0.o).2.1 hn om om (kDW HP0.o).2.2.1 (kDW HP0.o).2.2.2 hh).mono ?_
 rintro e w1 ⟨V1, R1, rfl, k1, g1⟩
 obtain ⟨GX, GA, GR, RF⟩ := HD.next g1
 replace HP0 := hid (kCK HP0.o HD.H g1)
 have K1 := hid k1
 have GG := hid g1
 clear k1 g1 y2 y3 y4 y5
 have y2 := (GA.o.cell 2).trans (by rw [HES.o]; try rfl)
 have y3 := (GA.o.cell 3).trans (by rw [HES.o]; try rfl)
 have y4 := (GA.o.cell 4).trans (by rw [HES.o]; try rfl)
 have y5 := (GA.o.cell 5).trans (by rw [HES.o]; try rfl)
 go_wp2_with (first | refine ldX GX.o HCL.o ?_ | fail)
 refine (kKi RF.o (fun _ hk => hk.1) a.func P1 P2 p1 p2 HP0.o om om hh hn).mono ?_
 rintro e w2 ⟨cs2, rfl, hr2, f2⟩
 obtain ⟨HL2, HO2, RF2, F3, GQ, GY⟩ := nx2 K1.o f2 hr2 GR.o
 clear hr2 f2 y2 y3 y4 y5
 go_upto_region 5 with (first | refine nwX HL2.o HO2.o ?_ | fail)
 exact yy9
theorem kLL (h : Both w R V x cs) (a : At) {es : LV} (ha : tAt.rd w (Sd w R) es a) (hc : a.call = 2) (hn : x.tabs.length ≤ 1000000) :
    Calls prog 37 #[.pointer (some ⟨V.P, 0, none⟩), .agg cs.toArray, .agg es.toArray] w (kAZ R V (kBr x a.table).1 w) := by
 have HCL : Hid (cs.length = 10) := TyOk.len _ _ _ _ h.rf
 obtain ⟨P1, p1, P2, p2, A1, c1, A2, c2, A3, c3, ms, ns, hes, ml, nl, -, -, hfi, hta, hme, hgl, hvl, hre, hby, hmd, had, hag⟩ := kAg ha
 have HES := hid hes
 clear hes
 obtain ⟨R0, HD⟩ := hd h es
 go_enter func37, ntmps37
 go_upto_region 1 with fail
 generalize ((w.alloc (.cells cs.toArray 39)).alloc (.cells es.toArray 76)).alloc (.cells z10 39) = W at *
 have y0 : W.cell? ⟨w.heap.size + 1, 0, none⟩ = some (.int .i64 2) := by rw [← hc]; exact (HD.GA.cell 0).trans (by rw [HES.o]; try rfl)
 go_upto_region 7 with fail
 clear y0
 have y6 := (HD.GA.cell 6).trans (by rw [HES.o]; try rfl)
 have y7 := (HD.GA.cell 7).trans (by rw [HES.o]; try rfl)
 have y8 := (HD.GA.cell 8).trans (by rw [HES.o]; try rfl)
 have y9 := (HD.GA.cell 9).trans (by rw [HES.o]; try rfl)
 go_wp2_with fail
 refine (kHs HD.H a.table hn).mono ?_
 rintro e w1 ⟨V1, R1, rfl, k1, g1⟩
 obtain ⟨GX, GA, GR, RF⟩ := HD.next g1
 have K1 := hid k1
 have GG := hid g1
 clear k1 g1 y6 y7 y8 y9
 have y6 := (GA.o.cell 6).trans (by rw [HES.o]; try rfl)
 have y7 := (GA.o.cell 7).trans (by rw [HES.o]; try rfl)
 have y8 := (GA.o.cell 8).trans (by rw [HES.o]; try rfl)
 have y9 := (GA.o.cell 9).trans (by rw [HES.o]; try rfl)
 go_wp2_with (first | refine ldX GX.o HCL.o ?_ | fail)
 refine (kIr RF.o (fun _ hk => hk.1) a.table hta.1 hta.2.1 hta.2.2 hn).mono ?_
 rintro e w2 ⟨cs2, rfl, hr2, f2⟩
 obtain ⟨HL2, HO2, RF2, F3, GQ, GY⟩ := nx2 K1.o f2 hr2 GR.o
 clear hr2 f2 y6 y7 y8 y9
 go_upto_region 9 with (first | refine nwX HL2.o HO2.o ?_ | fail)
 exact yy9
theorem kLI (h : Both w R V x cs) (a : At) {es : LV} (ha : tAt.rd w (Sd w R) es a) (hc : a.call = 3) (hn : x.mems.length ≤ 1000000) :
    Calls prog 37 #[.pointer (some ⟨V.P, 0, none⟩), .agg cs.toArray, .agg es.toArray] w (kAZ R V (kBQ x a.mem).1 w) := by
 have HCL : Hid (cs.length = 10) := TyOk.len _ _ _ _ h.rf
 obtain ⟨P1, p1, P2, p2, A1, c1, A2, c2, A3, c3, ms, ns, hes, ml, nl, -, -, hfi, hta, hme, hgl, hvl, hre, hby, hmd, had, hag⟩ := kAg ha
 have HES := hid hes
 clear hes
 obtain ⟨R0, HD⟩ := hd h es
 go_enter func37, ntmps37
 go_upto_region 1 with fail
 generalize ((w.alloc (.cells cs.toArray 39)).alloc (.cells es.toArray 76)).alloc (.cells z10 39) = W at *
 have y0 : W.cell? ⟨w.heap.size + 1, 0, none⟩ = some (.int .i64 3) := by rw [← hc]; exact (HD.GA.cell 0).trans (by rw [HES.o]; try rfl)
 go_upto_region 11 with fail
 clear y0
 have y10 := (HD.GA.cell 10).trans (by rw [HES.o]; try rfl)
 have y11 := (HD.GA.cell 11).trans (by rw [HES.o]; try rfl)
 have y12 := (HD.GA.cell 12).trans (by rw [HES.o]; try rfl)
 go_wp2_with fail
 refine (kEB HD.H a.mem hn).mono ?_
 rintro e w1 ⟨V1, R1, rfl, k1, g1⟩
 obtain ⟨GX, GA, GR, RF⟩ := HD.next g1
 have K1 := hid k1
 have GG := hid g1
 clear k1 g1 y10 y11 y12
 have y10 := (GA.o.cell 10).trans (by rw [HES.o]; try rfl)
 have y11 := (GA.o.cell 11).trans (by rw [HES.o]; try rfl)
 have y12 := (GA.o.cell 12).trans (by rw [HES.o]; try rfl)
 go_wp2_with (first | refine ldX GX.o HCL.o ?_ | fail)
 refine (kLa RF.o (fun _ hk => hk.1) a.mem hme.1 hme.2 hn).mono ?_
 rintro e w2 ⟨cs2, rfl, hr2, f2⟩
 obtain ⟨HL2, HO2, RF2, F3, GQ, GY⟩ := nx2 K1.o f2 hr2 GR.o
 clear hr2 f2 y10 y11 y12
 go_upto_region 13 with (first | refine nwX HL2.o HO2.o ?_ | fail)
 exact yy9
theorem kLA (h : Both w R V x cs) (a : At) {es : LV} (ha : tAt.rd w (Sd w R) es a) (hc : a.call = 4) (hn : x.globs.length ≤ 1000000) :
    Calls prog 37 #[.pointer (some ⟨V.P, 0, none⟩), .agg cs.toArray, .agg es.toArray] w (kAZ R V (kBZ x a.g a.v).1 w) := by
 have HCL : Hid (cs.length = 10) := TyOk.len _ _ _ _ h.rf
 obtain ⟨P1, p1, P2, p2, A1, c1, A2, c2, A3, c3, ms, ns, hes, ml, nl, -, -, hfi, hta, hme, hgl, hvl, hre, hby, hmd, had, hag⟩ := kAg ha
 have HES := hid hes
 clear hes
 obtain ⟨R0, HD⟩ := hd h es
 go_enter func37, ntmps37
 go_upto_region 1 with fail
 generalize ((w.alloc (.cells cs.toArray 39)).alloc (.cells es.toArray 76)).alloc (.cells z10 39) = W at *
 have y0 : W.cell? ⟨w.heap.size + 1, 0, none⟩ = some (.int .i64 4) := by rw [← hc]; exact (HD.GA.cell 0).trans (by rw [HES.o]; try rfl)
 go_upto_region 15 with fail
 clear y0
 have y13 := (HD.GA.cell 13).trans (by rw [HES.o]; try rfl)
 have y14 := (HD.GA.cell 14).trans (by rw [HES.o]; try rfl)
 have y15 := (HD.GA.cell 15).trans (by rw [HES.o]; try rfl)
 have y16 := (HD.GA.cell 16).trans (by rw [HES.o]; try rfl)
 go_wp2_with fail
 refine (kEL HD.H a.g a.v hgl hvl.1 hvl.2 hn).mono ?_
 rintro e w1 ⟨V1, R1, rfl, k1, g1⟩
 obtain ⟨GX, GA, GR, RF⟩ := HD.next g1
 have K1 := hid k1
 have GG := hid g1
 clear k1 g1 y13 y14 y15 y16
 have y13 := (GA.o.cell 13).trans (by rw [HES.o]; try rfl)
 have y14 := (GA.o.cell 14).trans (by rw [HES.o]; try rfl)
 have y15 := (GA.o.cell 15).trans (by rw [HES.o]; try rfl)
 have y16 := (GA.o.cell 16).trans (by rw [HES.o]; try rfl)
 go_wp2_with (first | refine ldX GX.o HCL.o ?_ | fail)
 refine (kIJ RF.o (fun _ hk => hk.1) a.g a.v hgl hvl.1 hvl.2 hn).mono ?_
 rintro e w2 ⟨cs2, rfl, hr2, f2⟩
 obtain ⟨HL2, HO2, RF2, F3, GQ, GY⟩ := nx2 K1.o f2 hr2 GR.o
 clear hr2 f2 y13 y14 y15 y16
 go_upto_region 17 with (first | refine nwX HL2.o HO2.o ?_ | fail)
 exact yy9
theorem kKz (h : Both w R V x cs) (a : At) {es : LV} (ha : tAt.rd w (Sd w R) es a) (hc : a.call = 5) (hn : x.elems.length ≤ 1000000) (hb : a.refs.length ≤ 1048576) :
    Calls prog 37 #[.pointer (some ⟨V.P, 0, none⟩), .agg cs.toArray, .agg es.toArray] w (kAZ R V { x with elems := x.elems ++ [⟨a.refs, false⟩] } w) := by
 have HCL : Hid (cs.length = 10) := TyOk.len _ _ _ _ h.rf
 obtain ⟨P1, p1, P2, p2, A1, c1, A2, c2, A3, c3, ms, ns, hes, ml, nl, -, -, hfi, hta, hme, hgl, hvl, hre, hby, hmd, had, hag⟩ := kAg ha
 have HES := hid hes
 clear hes
 obtain ⟨R0, HD⟩ := hd h es
 have HP0 := hid (HD.upE hre.2.2)
 go_enter func37, ntmps37
 go_upto_region 1 with fail
 generalize ((w.alloc (.cells cs.toArray 39)).alloc (.cells es.toArray 76)).alloc (.cells z10 39) = W at *
 have y0 : W.cell? ⟨w.heap.size + 1, 0, none⟩ = some (.int .i64 5) := by rw [← hc]; exact (HD.GA.cell 0).trans (by rw [HES.o]; try rfl)
 go_upto_region 19 with fail
 clear y0
 have y17 := (HD.GA.cell 17).trans (by rw [HES.o]; try rfl)
 go_wp2_with fail
 refine (kIt HD.H A1 c1 a.refs _ HP0.o (fun _ hk => hk.1) om hn).mono ?_
 rintro e w1 ⟨V1, R1, rfl, k1, g1⟩
 obtain ⟨GX, GA, GR, RF⟩ := HD.next g1
 replace HP0 := hid (kCO HP0.o HD.H g1)
 have K1 := hid k1
 have GG := hid g1
 clear k1 g1 y17
 have y17 := (GA.o.cell 17).trans (by rw [HES.o]; try rfl)
 go_wp2_with (first | refine ldX GX.o HCL.o ?_ | fail)
 refine (kHa RF.o (fun _ hk => hk.1) a.refs A1 c1 (kEm (a := ⟨a.refs, false⟩) hre.1 hre.2.1 HP0.o) hn).mono ?_
 rintro e w2 ⟨cs2, rfl, hr2, f2⟩
 obtain ⟨HL2, HO2, RF2, F3, GQ, GY⟩ := nx2 K1.o f2 hr2 GR.o
 clear hr2 f2 y17
 go_upto_region 21 with (first | refine nwX HL2.o HO2.o ?_ | fail)
 exact yy9
theorem kKy (h : Both w R V x cs) (a : At) {es : LV} (ha : tAt.rd w (Sd w R) es a) (hc : a.call = 6) (hn : x.datas.length ≤ 1000000) (hb : a.b.length ≤ 1048576) :
    Calls prog 37 #[.pointer (some ⟨V.P, 0, none⟩), .agg cs.toArray, .agg es.toArray] w (kAZ R V { x with datas := x.datas ++ [⟨a.b, false⟩] } w) := by
 have HCL : Hid (cs.length = 10) := TyOk.len _ _ _ _ h.rf
 obtain ⟨P1, p1, P2, p2, A1, c1, A2, c2, A3, c3, ms, ns, hes, ml, nl, -, -, hfi, hta, hme, hgl, hvl, hre, hby, hmd, had, hag⟩ := kAg ha
 have HES := hid hes
 clear hes
 obtain ⟨R0, HD⟩ := hd h es
 have HP0 := hid (HD.upE hby.2.2)
 go_enter func37, ntmps37
 go_upto_region 1 with fail
 generalize ((w.alloc (.cells cs.toArray 39)).alloc (.cells es.toArray 76)).alloc (.cells z10 39) = W at *
 have y0 : W.cell? ⟨w.heap.size + 1, 0, none⟩ = some (.int .i64 6) := by rw [← hc]; exact (HD.GA.cell 0).trans (by rw [HES.o]; try rfl)
 go_upto_region 23 with fail
 clear y0
 have y18 := (HD.GA.cell 18).trans (by rw [HES.o]; try rfl)
 go_wp2_with fail
 refine (kIu HD.H A2 c2 a.b _ HP0.o (fun _ hk => hk.1) om hn).mono ?_
 rintro e w1 ⟨V1, R1, rfl, k1, g1⟩
 obtain ⟨GX, GA, GR, RF⟩ := HD.next g1
 replace HP0 := hid (kCO HP0.o HD.H g1)
 have K1 := hid k1
 have GG := hid g1
 clear k1 g1 y18
 have y18 := (GA.o.cell 18).trans (by rw [HES.o]; try rfl)
 go_wp2_with (first | refine ldX GX.o HCL.o ?_ | fail)
 refine (kHb RF.o (fun _ hk => hk.1) a.b A2 c2 (kEo (a := ⟨a.b, false⟩) hby.1 hby.2.1 HP0.o) hn).mono ?_
 rintro e w2 ⟨cs2, rfl, hr2, f2⟩
 obtain ⟨HL2, HO2, RF2, F3, GQ, GY⟩ := nx2 K1.o f2 hr2 GR.o
 clear hr2 f2 y18
 go_upto_region 25 with (first | refine nwX HL2.o HO2.o ?_ | fail)
 exact yy9
theorem kKv (h : Both w R V x cs) (a : At) {es : LV} (ha : tAt.rd w (Sd w R) es a) (hc : a.call = 7) (hn : x.insts.length ≤ 1000000) (hb : MdB a.m) (hab : AdB a.a) :
    Calls prog 37 #[.pointer (some ⟨V.P, 0, none⟩), .agg cs.toArray, .agg es.toArray] w (kAZ R V (kBJ x a.m a.a).1 w) := by
 have HCL : Hid (cs.length = 10) := TyOk.len _ _ _ _ h.rf
 obtain ⟨P1, p1, P2, p2, A1, c1, A2, c2, A3, c3, ms, ns, hes, ml, nl, -, -, hfi, hta, hme, hgl, hvl, hre, hby, hmd, had, hag⟩ := kAg ha
 have HES := hid hes
 clear hes
 obtain ⟨R0, HD⟩ := hd h es
 have HP0 := hid (HD.up hmd)
 have HP1 := hid (HD.up had)
 go_enter func37, ntmps37
 go_upto_region 1 with fail
 generalize ((w.alloc (.cells cs.toArray 39)).alloc (.cells es.toArray 76)).alloc (.cells z10 39) = W at *
 have y0 : W.cell? ⟨w.heap.size + 1, 0, none⟩ = some (.int .i64 7) := by rw [← hc]; exact (HD.GA.cell 0).trans (by rw [HES.o]; try rfl)
 go_upto_region 26 with fail
 clear y0
 have RWms : Hid (∀ X, Blk X (w.heap.size + 1) 76 es.toArray → X.rangeAt (w.heap.size + 1) 19 ms) := fun X b => by
  rw [HES.o] at b
  exact kFx b (by rfl)
 have HWms : Hid ((prog.info? 71).map (·.size) = some ms.length) := by unfold Hid; rw [ml]; kernel_rfl
 have RWns : Hid (∀ X, Blk X (w.heap.size + 1) 76 es.toArray → X.rangeAt (w.heap.size + 1) 31 ns) := fun X b => by
  rw [HES.o] at b
  exact kFx (pre := [.int .i64 a.call, .int .i64 a.addr, .slice P1 a.func.ty.params.length p1, .slice P2 a.func.ty.results.length p2, .int .i64 a.func.inst, .int .i64 a.func.index, .int .i64 a.table.elem, .int .i64 a.table.lim.min, .int .i64 a.table.lim.max, .bool a.table.lim.has, .int .i64 a.mem.min, .int .i64 a.mem.max, .bool a.mem.has, .int .i64 a.g.val, .bool a.g.mut_, .int .i64 a.v.t, .int .u64 a.v.n, .slice A1 a.refs.length c1, .slice A2 a.b.length c2] ++ ms) (by simpa using b) (by simp [ml])
 have HWns : Hid ((prog.info? 73).map (·.size) = some ns.length) := by unfold Hid; rw [nl]; kernel_rfl
 go_wp2_with (first | (refine wpList_load_mid (by rfl) 71 _ (by rfl) (w.heap.size + 1) 19 (by rfl) _ _ (RWms.o _ HD.GA) underlying71 (by rfl) HWms.o ?_) | (refine wpList_load_mid (by rfl) 73 _ (by rfl) (w.heap.size + 1) 31 (by rfl) _ _ (RWns.o _ HD.GA) underlying73 (by rfl) HWns.o ?_) | fail)
 refine (kIQ HD.H a.m a.a _ HP0.o HP1.o (fun _ hk => hk.1) hb hab hn).mono ?_
 rintro e w1 ⟨V1, R1, rfl, k1, g1⟩
 obtain ⟨GX, GA, GR, RF⟩ := HD.next g1
 replace HP0 := hid (kCK HP0.o HD.H g1)
 replace HP1 := hid (kCK HP1.o HD.H g1)
 have K1 := hid k1
 have GG := hid g1
 clear k1 g1
 go_wp2_with (first | refine ldX GX.o HCL.o ?_ | (refine wpList_load_mid (by rfl) 71 _ (by rfl) (w.heap.size + 1) 19 (by rfl) _ _ (RWms.o _ GA.o) underlying71 (by rfl) HWms.o ?_) | (refine wpList_load_mid (by rfl) 73 _ (by rfl) (w.heap.size + 1) 31 (by rfl) _ _ (RWns.o _ GA.o) underlying73 (by rfl) HWns.o ?_) | fail)
 refine (kKC RF.o (fun _ hk => hk.1) a.m a.a HP0.o HP1.o hn).mono ?_
 rintro e w2 ⟨cs2, rfl, hr2, f2⟩
 obtain ⟨HL2, HO2, RF2, F3, GQ, GY⟩ := nx2 K1.o f2 hr2 GR.o
 clear hr2 f2
 go_upto_region 28 with (first | refine nwX HL2.o HO2.o ?_ | fail)
 exact yy9
end
section
variable {w : World} {R : Nat → Prop} {V : Pl} {x : Rx} {cs : LV}
abbrev kAw (a0 : Pl) (a1 a2 : LV) : Array Value := #[.pointer (some ⟨a0.P, 0, none⟩), .agg a1.toArray, .agg a2.toArray]
theorem kJl (h : Both w R V x cs) (a : At) {es : LV} (ha : tAt.rd w (Sd w R) es a) (hc : a.call = 8) (hn : x.globs.length ≤ 1000000) (hgw : ∀ g ∈ x.globs, (Lit.int .i64 g.t.val).wf = true) :
    Calls prog 11 (kAw V cs es) w (kAZ R V (kAq x a.addr a.v).1 w) := by
 have HCL : Hid (cs.length = 10) := TyOk.len _ _ _ _ h.rf
 obtain ⟨P1, p1, P2, p2, A1, c1, A2, c2, A3, c3, ms, ns, hes, ml, nl, -, -, hfi, hta, hme, hgl, hvl, hre, hby, hmd, had, hag⟩ := kAg ha
 have HES := hid hes
 clear hes
 obtain ⟨R0, HD⟩ := hd h es
 go_enter func11, ntmps11
 go_upto_region 1 with fail
 generalize ((w.alloc (.cells cs.toArray 39)).alloc (.cells es.toArray 76)).alloc (.cells z10 39) = W at *
 have y0 : W.cell? ⟨w.heap.size + 1, 0, none⟩ = some (.int .i64 8) := by rw [← hc]; exact (HD.GA.cell 0).trans (by rw [HES.o]; try rfl)
 go_upto_region 11 with fail
 clear y0
 have y1 := (HD.GA.cell 1).trans (by rw [HES.o]; try rfl)
 have y15 := (HD.GA.cell 15).trans (by rw [HES.o]; try rfl)
 have y16 := (HD.GA.cell 16).trans (by rw [HES.o]; try rfl)
 go_wp2_with fail
 refine (kGZ HD.H a.addr a.v hn hvl.1 hvl.2).mono ?_
 rintro e w1 ⟨V1, R1, rfl, k1, g1⟩
 obtain ⟨GX, GA, GR, RF⟩ := HD.next g1
 have K1 := hid k1
 have GG := hid g1
 clear k1 g1 y1 y15 y16
 have y1 := (GA.o.cell 1).trans (by rw [HES.o]; try rfl)
 have y15 := (GA.o.cell 15).trans (by rw [HES.o]; try rfl)
 have y16 := (GA.o.cell 16).trans (by rw [HES.o]; try rfl)
 go_wp2_with (first | refine ldX GX.o HCL.o ?_ | fail)
 refine (kIG RF.o (fun _ hk => hk.1) a.addr a.v hvl.1 hvl.2 hgw hn).mono ?_
 rintro e w2 ⟨cs2, rfl, hr2, f2⟩
 obtain ⟨HL2, HO2, RF2, F3, GQ, GY⟩ := nx2 K1.o f2 hr2 GR.o
 clear hr2 f2 y1 y15 y16
 go_upto_region 13 with (first | refine nwX HL2.o HO2.o ?_ | fail)
 exact yy9
theorem kJk (h : Both w R V x cs) (a : At) {es : LV} (ha : tAt.rd w (Sd w R) es a) (hc : a.call = 9) (hn : x.elems.length ≤ 1000000) :
    Calls prog 11 (kAw V cs es) w (kAZ R V (kBS x a.addr) w) := by
 have HCL : Hid (cs.length = 10) := TyOk.len _ _ _ _ h.rf
 obtain ⟨P1, p1, P2, p2, A1, c1, A2, c2, A3, c3, ms, ns, hes, ml, nl, -, -, hfi, hta, hme, hgl, hvl, hre, hby, hmd, had, hag⟩ := kAg ha
 have HES := hid hes
 clear hes
 obtain ⟨R0, HD⟩ := hd h es
 go_enter func11, ntmps11
 go_upto_region 1 with fail
 generalize ((w.alloc (.cells cs.toArray 39)).alloc (.cells es.toArray 76)).alloc (.cells z10 39) = W at *
 have y0 : W.cell? ⟨w.heap.size + 1, 0, none⟩ = some (.int .i64 9) := by rw [← hc]; exact (HD.GA.cell 0).trans (by rw [HES.o]; try rfl)
 go_upto_region 15 with fail
 clear y0
 have y1 := (HD.GA.cell 1).trans (by rw [HES.o]; try rfl)
 go_wp2_with fail
 refine (kHj HD.H a.addr hn).mono ?_
 rintro e w1 ⟨V1, R1, rfl, k1, g1⟩
 obtain ⟨GX, GA, GR, RF⟩ := HD.next g1
 have K1 := hid k1
 have GG := hid g1
 clear k1 g1 y1
 have y1 := (GA.o.cell 1).trans (by rw [HES.o]; try rfl)
 go_wp2_with (first | refine ldX GX.o HCL.o ?_ | fail)
 refine (kIi RF.o (fun _ hk => hk.1) a.addr hn).mono ?_
 exact yy61
theorem kIP (h : Both w R V x cs) (a : At) {es : LV} (ha : tAt.rd w (Sd w R) es a) (hc : a.call = 10) (hn : x.datas.length ≤ 1000000) :
    Calls prog 11 (kAw V cs es) w (kAZ R V (kBT x a.addr) w) := by
 have HCL : Hid (cs.length = 10) := TyOk.len _ _ _ _ h.rf
 obtain ⟨P1, p1, P2, p2, A1, c1, A2, c2, A3, c3, ms, ns, hes, ml, nl, -, -, hfi, hta, hme, hgl, hvl, hre, hby, hmd, had, hag⟩ := kAg ha
 have HES := hid hes
 clear hes
 obtain ⟨R0, HD⟩ := hd h es
 go_enter func11, ntmps11
 go_upto_region 1 with fail
 generalize ((w.alloc (.cells cs.toArray 39)).alloc (.cells es.toArray 76)).alloc (.cells z10 39) = W at *
 have y0 : W.cell? ⟨w.heap.size + 1, 0, none⟩ = some (.int .i64 10) := by rw [← hc]; exact (HD.GA.cell 0).trans (by rw [HES.o]; try rfl)
 go_upto_region 18 with fail
 clear y0
 have y1 := (HD.GA.cell 1).trans (by rw [HES.o]; try rfl)
 go_wp2_with fail
 refine (kHk HD.H a.addr hn).mono ?_
 rintro e w1 ⟨V1, R1, rfl, k1, g1⟩
 obtain ⟨GX, GA, GR, RF⟩ := HD.next g1
 have K1 := hid k1
 have GG := hid g1
 clear k1 g1 y1
 have y1 := (GA.o.cell 1).trans (by rw [HES.o]; try rfl)
 go_wp2_with (first | refine ldX GX.o HCL.o ?_ | fail)
 refine (kIj RF.o (fun _ hk => hk.1) a.addr hn).mono ?_
 exact yy61
theorem kBO {x' : Rx} (h : Both w R V x cs) (a : At) {es : LV} (ha : tAt.rd w (Sd w R) es a) (hk : a.call = 1 ∨ a.call = 2 ∨ a.call = 3 ∨ a.call = 4 ∨ a.call = 5 ∨ a.call = 6 ∨ a.call = 7)
    (A : ∀ {W : World} {R0 : Nat → Prop}, Both W R0 V x cs → tAt.rd W (Sd W R0) es a → Calls prog 37 (kAw V cs es) W (kAZ R0 V x' W)) :
    Calls prog 11 (kAw V cs es) w (kAZ R V x' w) := by
 have HCL : Hid (cs.length = 10) := TyOk.len _ _ _ _ h.rf
 obtain ⟨P1, p1, P2, p2, A1, c1, A2, c2, A3, c3, ms, ns, hes, ml, nl, -, -, hfi, hta, hme, hgl, hvl, hre, hby, hmd, had, hag⟩ := kAg ha
 have HES := hid hes
 clear hes
 obtain ⟨R0, HD⟩ := hd h es
 have HP := hid (HD.up ha)
 have HA : Hid (∀ {W : World} {R0 : Nat → Prop}, Both W R0 V x cs → tAt.rd W (Sd W R0) es a → Calls prog 37 (kAw V cs es) W (kAZ R0 V x' W)) := A
 have HIE : Hid ((prog.info? 76).map (·.size) = some es.length) := by unfold Hid; rw [show es.length = 38 from TyOk.len _ _ _ _ ha]; kernel_rfl
 have HY : Hid (∀ W, Blk W (w.heap.size + 1) 76 es.toArray → W.cell? ⟨w.heap.size + 1, 0, none⟩ = some (.int .i64 a.call)) := fun W b => (b.cell 0).trans (by rw [HES.o]; try rfl)
 clear A
 rcases hk with hc | hc | hc | hc | hc | hc | hc
 all_goals
  rw [hc] at HY
  clear hc
  go_enter func11, ntmps11
  go_upto_region 1 with fail
  generalize ((w.alloc (.cells cs.toArray 39)).alloc (.cells es.toArray 76)).alloc (.cells z10 39) = W at *
  have y0 := HY.o W HD.GA
  go_upto_region 9 with fail
  clear y0
  go_wp2_with (first | refine ldX HD.GX HCL.o ?_ | (refine wpList_load_mid (by rfl) 76 _ (by rfl) (w.heap.size + 1) 0 (by rfl) _ _ (by simpa using rangeAt_blk HD.GA) underlying76 (by rfl) HIE.o ?_) | fail)
  refine (HA.o ⟨HD.H, HD.RF⟩ HP.o).mono ?_
  rintro e w1 ⟨V1, R1, cs2, rfl, kb, g1⟩
  obtain ⟨-, -, GR, -⟩ := HD.next g1
  obtain ⟨l2, o2⟩ := rx_one kb.rf
  have HL2 := hid l2
  have HO2 := hid o2
  have GG := hid g1
  have KB := hid kb
  clear kb g1 l2 o2
  go_wp2_with (first | refine stX GR.o rfl HL2.o HO2.o ?_ | fail)
  exact HD.fin GG.o KB.o.pr (Fr.refl No w1) KB.o.rf GR.o
theorem kJu (h : Both w R V x cs) (a : At) {es : LV} (ha : tAt.rd w (Sd w R) es a) (hc : a.call = 1) (hn : x.funcs.length ≤ 1000000) (hb : a.func.ty.params.length ≤ 1048576 ∧ a.func.ty.results.length ≤ 1048576) (hh : ∀ a ∈ x.hosts, a.ty.params.length ≤ 140737488351232 ∧ a.ty.results.length ≤ 140737488351232) :
    Calls prog 11 (kAw V cs es) w (kAZ R V (kBs x a.func).1 w) :=
 kBO h a ha (by simp [hc]) (fun b e => kLW b a e hc hn hb hh)
theorem kJt (h : Both w R V x cs) (a : At) {es : LV} (ha : tAt.rd w (Sd w R) es a) (hc : a.call = 2) (hn : x.tabs.length ≤ 1000000) :
    Calls prog 11 (kAw V cs es) w (kAZ R V (kBr x a.table).1 w) :=
 kBO h a ha (by simp [hc]) (fun b e => kLL b a e hc hn)
theorem kJs (h : Both w R V x cs) (a : At) {es : LV} (ha : tAt.rd w (Sd w R) es a) (hc : a.call = 3) (hn : x.mems.length ≤ 1000000) :
    Calls prog 11 (kAw V cs es) w (kAZ R V (kBQ x a.mem).1 w) :=
 kBO h a ha (by simp [hc]) (fun b e => kLI b a e hc hn)
theorem kJr (h : Both w R V x cs) (a : At) {es : LV} (ha : tAt.rd w (Sd w R) es a) (hc : a.call = 4) (hn : x.globs.length ≤ 1000000) :
    Calls prog 11 (kAw V cs es) w (kAZ R V (kBZ x a.g a.v).1 w) :=
 kBO h a ha (by simp [hc]) (fun b e => kLA b a e hc hn)
theorem kJq (h : Both w R V x cs) (a : At) {es : LV} (ha : tAt.rd w (Sd w R) es a) (hc : a.call = 5) (hn : x.elems.length ≤ 1000000) (hb : a.refs.length ≤ 1048576) :
    Calls prog 11 (kAw V cs es) w (kAZ R V { x with elems := x.elems ++ [⟨a.refs, false⟩] } w) :=
 kBO h a ha (by simp [hc]) (fun b e => kKz b a e hc hn hb)
theorem kJo (h : Both w R V x cs) (a : At) {es : LV} (ha : tAt.rd w (Sd w R) es a) (hc : a.call = 6) (hn : x.datas.length ≤ 1000000) (hb : a.b.length ≤ 1048576) :
    Calls prog 11 (kAw V cs es) w (kAZ R V { x with datas := x.datas ++ [⟨a.b, false⟩] } w) :=
 kBO h a ha (by simp [hc]) (fun b e => kKy b a e hc hn hb)
theorem kJm (h : Both w R V x cs) (a : At) {es : LV} (ha : tAt.rd w (Sd w R) es a) (hc : a.call = 7) (hn : x.insts.length ≤ 1000000) (hb : MdB a.m) (hab : AdB a.a) :
    Calls prog 11 (kAw V cs es) w (kAZ R V (kBJ x a.m a.a).1 w) :=
 kBO h a ha (by simp [hc]) (fun b e => kKv b a e hc hn hb hab)
end
structure kMb (x : Rx) : Prop where
 fu : x.funcs.length ≤ 1000000
 fb : ∀ a ∈ x.funcs, a.ty.params.length ≤ 1048576 ∧ a.ty.results.length ≤ 1048576
 gl : x.globs.length ≤ 1000000
 el : x.elems.length ≤ 1000000
 eb : ∀ a ∈ x.elems, a.l.length ≤ 1048576
 eg : ∀ a ∈ x.elems, a.gone = true → a.l = []
 da : x.datas.length ≤ 1000000
 db : ∀ a ∈ x.datas, a.b.length ≤ 1048576
 dg : ∀ a ∈ x.datas, a.gone = true → a.b = []
 is : x.insts.length ≤ 1000000
 ib : ∀ y ∈ x.insts, MdB y.m ∧ AdB y.a
theorem kNq {l : List Rs} (h : ∀ a ∈ l, a.gone = true → a.l = []) (i : Int) : elR l i = ((atD zRs l i).1.l, (atD zRs l i).2) := by
 unfold elR
 exact yy71
theorem kNz {l : List Rb} (h : ∀ a ∈ l, a.gone = true → a.b = []) (i : Int) : daR l i = ((atD zRb l i).1.b, (atD zRb l i).2) := by
 unfold daR
 exact yy71
structure AB (w X : World) (R : Nat → Prop) (V : Pl) (x : Rx) (cs : LV) : Prop where
 F0 : Fr No w X
 GX : Blk X w.heap.size 39 cs.toArray
 H : StIn X R V x
 RF : tRx.rd X (Sd X R) cs x
 CL : cs.length = 10
theorem AB.no {w X Y : World} {R : Nat → Prop} {V : Pl} {x : Rx} {cs : LV} (h : AB w X R V x cs) (f : Fr No X Y) : AB w Y R V x cs := ⟨h.F0.trans f i3, h.GX.fr f id, h.H.frNo f, kBX h.RF f, h.CL⟩
theorem ab {w : World} {R : Nat → Prop} {V : Pl} {x : Rx} {cs : LV} (h : Both w R V x cs) : Hid (AB w (w.alloc (.cells cs.toArray 39)) R V x cs) := by
 have f := (Fr.refl No w).alloc (.cells cs.toArray 39)
 exact ⟨f, Blk.new w _ _, h.pr.frNo f, kBX h.rf f, TyOk.len _ _ _ _ h.rf⟩
section
variable {w : World} {R : Nat → Prop} {V : Pl} {x : Rx} {cs : LV}
abbrev kAo : Array Value := #[.slice none 0 0, .slice none 0 0, .slice none 0 0, .slice none 0 0, .slice none 0 0, .slice none 0 0, .slice none 0 0, .bool false, .int .i64 0, .slice none 0 0, .slice none 0 0, .slice none 0 0]
abbrev kAm : Array Value := #[.slice none 0 0, .slice none 0 0, .slice none 0 0, .slice none 0 0, .slice none 0 0, .slice none 0 0]
abbrev kET (a0 : Pl) (a1 : LV) (a2 : Int) : Array Value := #[.pointer (some ⟨a0.P, 0, none⟩), .agg a1.toArray, .int .i64 a2]
theorem kKu (h : Both w R V x cs) (hok : kMb x) (i : Int) :
    Calls prog 12 (kET V cs i) w (YesTo w) := by
 have HK := hid hok
 have AA := ab h
 obtain ⟨n9, hn9, hc9⟩ : ∃ n9 : Value, cs[9]? = some n9 ∧ ∃ A c, n9 = .slice A x.insts.length c := by
  obtain ⟨A0, c0, A1, c1, A2, c2, A3, c3, A4, c4, A5, c5, A6, c6, A7, c7, A8, c8, A9, c9, rfl, -⟩ := kAU h.rf
  exact ⟨_, rfl, _, _, rfl⟩
 obtain ⟨A9, c9, rfl⟩ := hc9
 have H9 := hid hn9
 clear h hok hn9
 go_enter func12, ntmps12
 go_upto_region 1 with fail
 generalize w.alloc (.cells cs.toArray 39) = W at *
 -- the function
 go_wp2_with fail
 refine (kMV AA.o.H i HK.o.fu (fun a ha => ⟨by have := (HK.o.fb a ha).1; omega, by have := (HK.o.fb a ha).2; omega⟩)).mono ?_
 obtain ⟨y, hy⟩ : ∃ y, y = (atD zFi x.funcs i).1 := ⟨_, rfl⟩
 obtain ⟨ok, hok⟩ : ∃ ok, ok = (atD zFi x.funcs i).2 := ⟨_, rfl⟩
 have HFB : Hid (y.ty.params.length ≤ 1048576 ∧ y.ty.results.length ≤ 1048576) := by rw [hy]; exact kCG (p := fun a : Fi => a.ty.params.length ≤ 1048576 ∧ a.ty.results.length ≤ 1048576) dc HK.o.fb
 have HY := hid hy
 have HOK := hid hok
 rw [← hy, ← hok]
 clear hy hok
 rintro e w1 ⟨es, rfl, hr1, f1⟩
 obtain ⟨A1, c1, A2, c2, rfl, -, -, e1, -, -, e2, -, -⟩ := kBm hr1
 have E1 := hid (And.intro e1 e2)
 clear hr1 e1 e2
 replace AA := hid (AA.o.no f1)
 have hw1 : W.heap.size ≤ w1.heap.size := f1.size
 clear f1
 go_upto_region 2 with fail
 have f2 := (Fr.refl No w1).alloc (.cells #[.slice A1 y.ty.params.length c1, .slice A2 y.ty.results.length c2, .int .i64 y.inst, .int .i64 y.index] 47)
 have G1 := hid (Blk.new w1 47 #[.slice A1 y.ty.params.length c1, .slice A2 y.ty.results.length c2, .int .i64 y.inst, .int .i64 y.index])
 replace E1 : Hid (tI.els (w1.alloc (.cells #[.slice A1 y.ty.params.length c1, .slice A2 y.ty.results.length c2, .int .i64 y.inst, .int .i64 y.index] 47)) (· < (w1.alloc (.cells #[.slice A1 y.ty.params.length c1, .slice A2 y.ty.results.length c2, .int .i64 y.inst, .int .i64 y.index] 47)).heap.size) A1 y.ty.params ∧ tI.els (w1.alloc (.cells #[.slice A1 y.ty.params.length c1, .slice A2 y.ty.results.length c2, .int .i64 y.inst, .int .i64 y.index] 47)) (· < (w1.alloc (.cells #[.slice A1 y.ty.params.length c1, .slice A2 y.ty.results.length c2, .int .i64 y.inst, .int .i64 y.index] 47)).heap.size) A2 y.ty.results) := ⟨kAA E1.o.1 f2 (fun _ hk => hk.2) (fun _ hk => ltl hk.2 f2.size), kAA E1.o.2 f2 (fun _ hk => hk.2) (fun _ hk => ltl hk.2 f2.size)⟩
 replace AA := hid (AA.o.no f2)
 clear f2 hw1
 generalize w1.alloc (.cells #[.slice A1 y.ty.params.length c1, .slice A2 y.ty.results.length c2, .int .i64 y.inst, .int .i64 y.index] 47) = W2 at *
 generalize w1.heap.size = q1 at *
 go_wp2_with (first | refine ldX AA.o.GX AA.o.CL ?_ | fail)
 have HR := hid (kKr AA.o.RF (fun _ hk => hk.1) i)
 rw [← HY.o, ← HOK.o] at HR
 refine HR.o.mono ?_
 rintro e w3 ⟨ds, rfl, hr2, f3⟩
 obtain ⟨B1, d1, B2, d2, rfl, -, -, e1, -, -, e2, -, -⟩ := kBm hr2
 have E2 : Hid (tI.els w3 (· < w3.heap.size) B1 y.ty.params ∧ tI.els w3 (· < w3.heap.size) B2 y.ty.results) := ⟨e1.more (fun _ hk => ltl hk.1 f3.size), e2.more (fun _ hk => ltl hk.1 f3.size)⟩
 replace E1 : Hid (tI.els w3 (· < w3.heap.size) A1 y.ty.params ∧ tI.els w3 (· < w3.heap.size) A2 y.ty.results) := ⟨kAA E1.o.1 f3 (fun _ hk => hk) (fun _ hk => ltl hk f3.size), kAA E1.o.2 f3 (fun _ hk => hk) (fun _ hk => ltl hk f3.size)⟩
 clear hr2 e1 e2 HR HY HOK
 replace AA := hid (AA.o.no f3)
 replace G1 := hid (G1.o.fr f3 id)
 clear f3
 go_upto_region 3 with fail
 have f4 := (Fr.refl No w3).alloc (.cells #[.slice B1 y.ty.params.length d1, .slice B2 y.ty.results.length d2, .int .i64 y.inst, .int .i64 y.index] 47)
 have G2 := hid (Blk.new w3 47 #[.slice B1 y.ty.params.length d1, .slice B2 y.ty.results.length d2, .int .i64 y.inst, .int .i64 y.index])
 have HC := hid (fun (X : World) (f : Fr No w3 X) => kCV y.ty y.ty A1 A2 B1 B2 c1 c2 d1 d2 (· < X.heap.size) (· < X.heap.size) X i2 i2 (kAA E1.o.1 f i2 (fun _ h => ltl h f.size)) (kAA E1.o.2 f i2 (fun _ h => ltl h f.size)) (kAA E2.o.1 f i2 (fun _ h => ltl h f.size)) (kAA E2.o.2 f i2 (fun _ h => ltl h f.size)) (by have := HFB.o.1; omega) (by have := HFB.o.2; omega) (by have := HFB.o.1; omega) (by have := HFB.o.2; omega))
 replace HC := hid (HC.o _ f4)
 rw [kGJ] at HC
 replace AA := hid (AA.o.no f4)
 replace G1 := hid (G1.o.fr f4 id)
 clear f4 E1 E2
 generalize w3.alloc (.cells #[.slice B1 y.ty.params.length d1, .slice B2 y.ty.results.length d2, .int .i64 y.inst, .int .i64 y.index] 47) = W4 at *
 generalize w3.heap.size = q2 at *
 have u0 := G1.o.cell 0
 have v0 := G2.o.cell 0
 have u1 := G1.o.cell 1
 have v1 := G2.o.cell 1
 have u2 := G1.o.cell 2
 have v2 := G2.o.cell 2
 have u3 := G1.o.cell 3
 have v3 := G2.o.cell 3
 go_wp2_with fail
 refine HC.o.mono ?_
 rintro e w5 ⟨rfl, f5⟩
 replace AA := hid (AA.o.no f5)
 clear f5 HC G1 G2 u0 v0 u1 v1 u2 v2 u3 v3
 -- the global
 go_wp2_with fail
 obtain ⟨g, hg⟩ : ∃ g, g = (atD zRg x.globs i).1 := ⟨_, rfl⟩
 obtain ⟨ok2, hok2⟩ : ∃ ok, ok = (atD zRg x.globs i).2 := ⟨_, rfl⟩
 have HG := hid (kFi AA.o.H i HK.o.gl)
 rw [← hg, ← hok2] at HG
 have HGe := hid hg
 have HOe := hid hok2
 clear hg hok2
 refine HG.o.mono ?_
 rintro e w6 ⟨rfl, f6⟩
 clear HG
 replace AA := hid (AA.o.no f6)
 clear f6
 go_upto_region 6 with fail
 have f7 := ((Fr.refl No w6).alloc (.cells #[.int .i64 g.t.val, .bool g.t.mut_] 54)).alloc (.cells #[.int .i64 g.v.t, .int .u64 g.v.n] 57)
 have G1 := hid ((Blk.new w6 54 #[.int .i64 g.t.val, .bool g.t.mut_]).alloc (.cells #[.int .i64 g.v.t, .int .u64 g.v.n] 57))
 have G2 := hid (Blk.new1 w6 (.cells #[.int .i64 g.t.val, .bool g.t.mut_] 54) 57 #[.int .i64 g.v.t, .int .u64 g.v.n])
 replace AA := hid (AA.o.no f7)
 clear f7
 try simp only [World.size_alloc]
 generalize (w6.alloc (.cells #[.int .i64 g.t.val, .bool g.t.mut_] 54)).alloc (.cells #[.int .i64 g.v.t, .int .u64 g.v.n] 57) = W7 at *
 generalize w6.heap.size = q3 at *
 go_wp2_with (first | refine ldX AA.o.GX AA.o.CL ?_ | fail)
 have HG := hid (kIS AA.o.RF (fun _ hk => hk.1) i)
 rw [← HGe.o, ← HOe.o] at HG
 refine HG.o.mono ?_
 rintro e w8 ⟨rfl, f8⟩
 clear HG HGe HOe
 replace AA := hid (AA.o.no f8)
 replace G1 := hid (G1.o.fr f8 id)
 replace G2 := hid (G2.o.fr f8 id)
 clear f8
 go_upto_region 7 with fail
 have f9 := ((Fr.refl No w8).alloc (.cells #[.int .i64 g.t.val, .bool g.t.mut_] 54)).alloc (.cells #[.int .i64 g.v.t, .int .u64 g.v.n] 57)
 have G3 := hid ((Blk.new w8 54 #[.int .i64 g.t.val, .bool g.t.mut_]).alloc (.cells #[.int .i64 g.v.t, .int .u64 g.v.n] 57))
 have G4 := hid (Blk.new1 w8 (.cells #[.int .i64 g.t.val, .bool g.t.mut_] 54) 57 #[.int .i64 g.v.t, .int .u64 g.v.n])
 replace AA := hid (AA.o.no f9)
 replace G1 := hid (G1.o.fr f9 id)
 replace G2 := hid (G2.o.fr f9 id)
 clear f9
 try simp only [World.size_alloc]
 generalize (w8.alloc (.cells #[.int .i64 g.t.val, .bool g.t.mut_] 54)).alloc (.cells #[.int .i64 g.v.t, .int .u64 g.v.n] 57) = W9 at *
 generalize w8.heap.size = q4 at *
 have u01 := G1.o.cell 0
 have u11 := G1.o.cell 1
 have u02 := G2.o.cell 0
 have u12 := G2.o.cell 1
 have u03 := G3.o.cell 0
 have u13 := G3.o.cell 1
 have u04 := G4.o.cell 0
 have u14 := G4.o.cell 1
 go_wp2_with fail
 clear G1 G2 G3 G4 u01 u11 u02 u12 u03 u13 u04 u14
 obtain ⟨l4, hl4⟩ : ∃ l, l = (atD zRs x.elems i).1.l := ⟨_, rfl⟩
 obtain ⟨k4, hk4⟩ : ∃ k, k = (atD zRs x.elems i).2 := ⟨_, rfl⟩
 have LB4 : Hid (l4.length ≤ 1048576) := by rw [hl4]; exact kCG (p := fun a : Rs => a.l.length ≤ 1048576) dc HK.o.eb
 have HG := hid (kMX AA.o.H i HK.o.el (fun a ha => by have := HK.o.eb a ha; omega))
 rw [← hl4, ← hk4] at HG
 have HR4 : Hid (∀ (X : World) (R : Nat → Prop), tRx.rd X (Sd X R) cs x → Calls prog 52 #[.agg cs.toArray, .int .i64 i] X (kGw tU (Sd X R) l4 k4 X)) := fun X R hr => by
  have := kKs hr (fun _ hk => hk.1) i
  rw [kNq HK.o.eg] at this
  rw [hl4, hk4]
  exact this
 clear hl4 hk4
 refine HG.o.mono ?_
 rintro e wa4 ⟨A4, c4, rfl, hr, f⟩
 obtain ⟨-, -, hq⟩ := kAl (w := W9) hr nr (Fr.refl No wa4) (fun _ _ _ x => x)
 have EA4 : Hid (tU.els wa4 (· < wa4.heap.size) A4 l4) := hq.more (fun _ hk => hk.2)
 clear hr hq HG
 replace AA := hid (AA.o.no f)
 clear f
 go_wp2_with (first | refine ldX AA.o.GX AA.o.CL ?_ | fail)
 refine (HR4.o _ _ AA.o.RF).mono ?_
 rintro e wb4 ⟨B4, d4, rfl, -, -, hq, f⟩
 have EB4 : Hid (tU.els wb4 (· < wb4.heap.size) B4 l4) := hq.more (fun _ hk => ltl hk.1 f.size)
 replace EA4 : Hid (tU.els wb4 (· < wb4.heap.size) A4 l4) := kAA EA4.o f i2 (fun _ h => ltl h f.size)
 replace AA := hid (AA.o.no f)
 clear f hq HR4
 go_wp2_with fail
 obtain ⟨l5, hl5⟩ : ∃ l, l = (atD zRb x.datas i).1.b := ⟨_, rfl⟩
 obtain ⟨k5, hk5⟩ : ∃ k, k = (atD zRb x.datas i).2 := ⟨_, rfl⟩
 have LB5 : Hid (l5.length ≤ 1048576) := by rw [hl5]; exact kCG (p := fun a : Rb => a.b.length ≤ 1048576) dc HK.o.db
 have HG := hid (kMY AA.o.H i HK.o.da (fun a ha => by have := HK.o.db a ha; omega))
 rw [← hl5, ← hk5] at HG
 have HR5 : Hid (∀ (X : World) (R : Nat → Prop), tRx.rd X (Sd X R) cs x → Calls prog 54 #[.agg cs.toArray, .int .i64 i] X (kGw tB (Sd X R) l5 k5 X)) := fun X R hr => by
  have := kKt hr (fun _ hk => hk.1) i
  rw [kNz HK.o.dg] at this
  rw [hl5, hk5]
  exact this
 clear hl5 hk5
 refine HG.o.mono ?_
 rintro e wa5 ⟨A5, c5, rfl, hr, f⟩
 obtain ⟨-, -, hq⟩ := kAl (w := wb4) hr nr (Fr.refl No wa5) (fun _ _ _ x => x)
 have EA5 : Hid (tB.els wa5 (· < wa5.heap.size) A5 l5) := hq.more (fun _ hk => hk.2)
 clear hr hq HG
 replace AA := hid (AA.o.no f)
 replace EA4 : Hid (tU.els wa5 (· < wa5.heap.size) A4 l4) := kAA EA4.o f i2 (fun _ h => ltl h f.size)
 replace EB4 : Hid (tU.els wa5 (· < wa5.heap.size) B4 l4) := kAA EB4.o f i2 (fun _ h => ltl h f.size)
 clear f
 go_wp2_with (first | refine ldX AA.o.GX AA.o.CL ?_ | fail)
 refine (HR5.o _ _ AA.o.RF).mono ?_
 rintro e wb5 ⟨B5, d5, rfl, -, -, hq, f⟩
 have EB5 : Hid (tB.els wb5 (· < wb5.heap.size) B5 l5) := hq.more (fun _ hk => ltl hk.1 f.size)
 replace EA5 : Hid (tB.els wb5 (· < wb5.heap.size) A5 l5) := kAA EA5.o f i2 (fun _ h => ltl h f.size)
 replace EA4 : Hid (tU.els wb5 (· < wb5.heap.size) A4 l4) := kAA EA4.o f i2 (fun _ h => ltl h f.size)
 replace EB4 : Hid (tU.els wb5 (· < wb5.heap.size) B4 l4) := kAA EB4.o f i2 (fun _ h => ltl h f.size)
 replace AA := hid (AA.o.no f)
 clear f hq HR5
 go_wp2_with fail
 have l4b := LB4.o
 refine (kHQ A4 B4 l4 l4 c4 d4 (· < wb5.heap.size) (· < wb5.heap.size) _ EA4.o EB4.o om om).mono ?_
 rintro e _ ⟨rfl, nn, rfl⟩
 have f := Fr.drewN (Fr.refl No wb5) nn
 clear l4b
 generalize World.drewN wb5 nn = w10 at *
 replace AA := hid (AA.o.no f)
 have hcv1 := (kBI c5 (kAA (S' := (· < w10.heap.size)) EA5.o f i2 (fun _ h => ltl h f.size))).1
 have hcv2 := (kBI d5 (kAA (S' := (· < w10.heap.size)) EB5.o f i2 (fun _ h => ltl h f.size))).1
 clear f EA4 EB4 EA5 EB5
 go_wp2_with fail
 clear hcv1 hcv2
 -- the instance
 obtain ⟨y, hy⟩ : ∃ y, y = (atD zRi x.insts i).1 := ⟨_, rfl⟩
 obtain ⟨ok, hok⟩ : ∃ ok, ok = (atD zRi x.insts i).2 := ⟨_, rfl⟩
 have HIB : Hid (MdB y.m ∧ AdB y.a) := by rw [hy]; exact kCG (p := fun y : Ri => MdB y.m ∧ AdB y.a) kLm HK.o.ib
 have HG := hid (kLb AA.o.H i HK.o.is HK.o.ib)
 rw [← hy, ← hok] at HG
 have HY := hid hy
 have HOK := hid hok
 clear hy hok
 refine HG.o.mono ?_
 rintro e w11 ⟨ms, ns, rfl, hm, hn, f⟩
 have HM : Hid (tMd.rd w11 (· < w11.heap.size) ms y.m) := TyMore.more _ _ _ _ _ hm (fun _ hk => hk.2)
 have HN : Hid (tAd.rd w11 (· < w11.heap.size) ns y.a) := TyMore.more _ _ _ _ _ hn (fun _ hk => hk.2)
 clear hm hn HG
 replace AA := hid (AA.o.no f)
 clear f
 have hl1 : ms.length = 12 := TyOk.len _ _ _ _ HM.o
 have hl2 : ns.length = 6 := TyOk.len _ _ _ _ HN.o
 have HJ1ms : Hid ((prog.info? 71).map (·.size) = some ms.toArray.size) := by unfold Hid; rw [show ms.toArray.size = 12 from hl1]; kernel_rfl
 have HJ2ms : Hid ((prog.info? 73).map (·.size) = some ns.toArray.size) := by unfold Hid; rw [show ns.toArray.size = 6 from hl2]; kernel_rfl
 have HO1 := hid (all_oneCell_toArray ((inferInstance : kAG tMd).one _ _ _ _ HM.o))
 have HO2 := hid (all_oneCell_toArray ((inferInstance : kAG tAd).one _ _ _ _ HN.o))
 have fz := ((Fr.refl No w11).alloc (.cells kAo 71)).alloc (.cells kAm 73)
 have B1 := (Blk.new w11 71 kAo).alloc (.cells kAm 73)
 have B2 := Blk.new1 w11 (.cells kAo 71) 73 kAm
 have T0 : Hid (((w11.alloc (.cells kAo 71)).alloc (.cells kAm 73)).there w11.heap.size 0 ms.toArray.size) := by
  have h := there_blk (n := 12) B1 rfl
  rw [show ms.toArray.size = 12 from hl1]
  exact h
 have T1 : Hid ((((w11.alloc (.cells kAo 71)).alloc (.cells kAm 73)).setCells w11.heap.size 0 ms).there (w11.heap.size + 1) 0 ns.toArray.size) := by
  have h := World.there_setCells (there_blk (n := 6) B2 rfl) w11.heap.size 0 ms
  rw [show ns.toArray.size = 6 from hl2]
  exact h
 clear hl1 hl2
 go_upto_region 16 with (first
  | (refine wpList_store_mid (by rfl) 71 _ _ (by rfl) w11.heap.size 0 ms.toArray (by rfl) (by rfl) (by exact T0.o) (by exact HJ1ms.o) (by exact HO1.o) ?_)
  | (refine wpList_store_mid (by rfl) 73 _ _ (by rfl) (w11.heap.size + 1) 0 ns.toArray (by rfl) (by rfl) (by exact T1.o) (by exact HJ2ms.o) (by exact HO2.o) ?_)
  | fail)
 have f : Fr No w11 ((((w11.alloc (.cells kAo 71)).alloc (.cells kAm 73)).setCells w11.heap.size 0 ms).setCells (w11.heap.size + 1) 0 ns) := Fr.setCells' (b := w11.heap.size + 1) (fun h => absurd h om) ns 0 _ (Fr.setCells' (b := w11.heap.size) (fun h => absurd h om) ms 0 _ fz)
 have M1 := World.rangeAt_setCells_apart (World.rangeAt_setCells_same ((w11.alloc (.cells kAo 71)).alloc (.cells kAm 73)) w11.heap.size 0 ms T0.o) (w11.heap.size + 1) 0 ns (.inl om)
 have M2 := World.rangeAt_setCells_same (((w11.alloc (.cells kAo 71)).alloc (.cells kAm 73)).setCells w11.heap.size 0 ms) (w11.heap.size + 1) 0 ns T1.o
 have hsz : w11.heap.size + 1 < ((((w11.alloc (.cells kAo 71)).alloc (.cells kAm 73)).setCells w11.heap.size 0 ms).setCells (w11.heap.size + 1) 0 ns).heap.size := by
  have h1 := (Fr.setCells' (M := fun _ => True) (b := w11.heap.size + 1) (fun _ => trivial) ns 0 _ (Fr.setCells' (M := fun _ => True) (b := w11.heap.size) (fun _ => trivial) ms 0 _ (Fr.refl (fun _ => True) ((w11.alloc (.cells kAo 71)).alloc (.cells kAm 73))))).size
  exact ltl B2.lt h1
 try rw [show ms.toArray.toList = ms from rfl, show ns.toArray.toList = ns from rfl]
 replace AA := hid (AA.o.no f)
 clear fz B1 B2 T0 T1 HO1 HO2
 generalize ((((w11.alloc (.cells kAo 71)).alloc (.cells kAm 73)).setCells w11.heap.size 0 ms).setCells (w11.heap.size + 1) 0 ns) = W12 at *
 replace HM : Hid (tMd.rd W12 (· < W12.heap.size) ms y.m) := kAH HM.o f i2 (fun _ h => ltl h f.size)
 replace HN : Hid (tAd.rd W12 (· < W12.heap.size) ns y.a) := kAH HN.o f i2 (fun _ h => ltl h f.size)
 generalize w11.heap.size = qms at *
 have RGms : Hid (∀ X, Fr No W12 X → X.rangeAt qms 0 ms ∧ X.rangeAt (qms + 1) 0 ns) := fun X f => ⟨kBN M1 f om, kBN M2 f hsz⟩
 clear M1 M2 hsz
 clear f
 go_wp2_with (first | refine ldX AA.o.GX AA.o.CL ?_ | fail)
 have HG := hid (kHT AA.o.RF (fun _ hk => hk.1) i)
 rw [← HY.o, ← HOK.o] at HG
 refine HG.o.mono ?_
 rintro e w13 ⟨ms2, ns2, rfl, hm, hn, f⟩
 have HM2 : Hid (tMd.rd w13 (· < w13.heap.size) ms2 y.m) := TyMore.more _ _ _ _ _ hm (fun _ hk => ltl hk.1 f.size)
 have HN2 : Hid (tAd.rd w13 (· < w13.heap.size) ns2 y.a) := TyMore.more _ _ _ _ _ hn (fun _ hk => ltl hk.1 f.size)
 replace HM : Hid (tMd.rd w13 (· < w13.heap.size) ms y.m) := kAH HM.o f i2 (fun _ h => ltl h f.size)
 replace HN : Hid (tAd.rd w13 (· < w13.heap.size) ns y.a) := kAH HN.o f i2 (fun _ h => ltl h f.size)
 replace RGms : Hid (∀ X, Fr No w13 X → X.rangeAt qms 0 ms ∧ X.rangeAt (qms + 1) 0 ns) := fun X g => RGms.o X (f.trans g i3)
 clear hm hn HG HY HOK
 replace AA := hid (AA.o.no f)
 clear f
 have hl1 : ms2.length = 12 := TyOk.len _ _ _ _ HM2.o
 have hl2 : ns2.length = 6 := TyOk.len _ _ _ _ HN2.o
 have HJ1ms2 : Hid ((prog.info? 71).map (·.size) = some ms2.toArray.size) := by unfold Hid; rw [show ms2.toArray.size = 12 from hl1]; kernel_rfl
 have HJ2ms2 : Hid ((prog.info? 73).map (·.size) = some ns2.toArray.size) := by unfold Hid; rw [show ns2.toArray.size = 6 from hl2]; kernel_rfl
 have HO1 := hid (all_oneCell_toArray ((inferInstance : kAG tMd).one _ _ _ _ HM2.o))
 have HO2 := hid (all_oneCell_toArray ((inferInstance : kAG tAd).one _ _ _ _ HN2.o))
 have fz := ((Fr.refl No w13).alloc (.cells kAo 71)).alloc (.cells kAm 73)
 have B1 := (Blk.new w13 71 kAo).alloc (.cells kAm 73)
 have B2 := Blk.new1 w13 (.cells kAo 71) 73 kAm
 have T0 : Hid (((w13.alloc (.cells kAo 71)).alloc (.cells kAm 73)).there w13.heap.size 0 ms2.toArray.size) := by
  have h := there_blk (n := 12) B1 rfl
  rw [show ms2.toArray.size = 12 from hl1]
  exact h
 have T1 : Hid ((((w13.alloc (.cells kAo 71)).alloc (.cells kAm 73)).setCells w13.heap.size 0 ms2).there (w13.heap.size + 1) 0 ns2.toArray.size) := by
  have h := World.there_setCells (there_blk (n := 6) B2 rfl) w13.heap.size 0 ms2
  rw [show ns2.toArray.size = 6 from hl2]
  exact h
 clear hl1 hl2
 go_upto_region 17 with (first
  | (refine wpList_store_mid (by rfl) 71 _ _ (by rfl) w13.heap.size 0 ms2.toArray (by rfl) (by rfl) (by exact T0.o) (by exact HJ1ms2.o) (by exact HO1.o) ?_)
  | (refine wpList_store_mid (by rfl) 73 _ _ (by rfl) (w13.heap.size + 1) 0 ns2.toArray (by rfl) (by rfl) (by exact T1.o) (by exact HJ2ms2.o) (by exact HO2.o) ?_)
  | fail)
 have f : Fr No w13 ((((w13.alloc (.cells kAo 71)).alloc (.cells kAm 73)).setCells w13.heap.size 0 ms2).setCells (w13.heap.size + 1) 0 ns2) := Fr.setCells' (b := w13.heap.size + 1) (fun h => absurd h om) ns2 0 _ (Fr.setCells' (b := w13.heap.size) (fun h => absurd h om) ms2 0 _ fz)
 have M1 := World.rangeAt_setCells_apart (World.rangeAt_setCells_same ((w13.alloc (.cells kAo 71)).alloc (.cells kAm 73)) w13.heap.size 0 ms2 T0.o) (w13.heap.size + 1) 0 ns2 (.inl om)
 have M2 := World.rangeAt_setCells_same (((w13.alloc (.cells kAo 71)).alloc (.cells kAm 73)).setCells w13.heap.size 0 ms2) (w13.heap.size + 1) 0 ns2 T1.o
 have hsz : w13.heap.size + 1 < ((((w13.alloc (.cells kAo 71)).alloc (.cells kAm 73)).setCells w13.heap.size 0 ms2).setCells (w13.heap.size + 1) 0 ns2).heap.size := by
  have h1 := (Fr.setCells' (M := fun _ => True) (b := w13.heap.size + 1) (fun _ => trivial) ns2 0 _ (Fr.setCells' (M := fun _ => True) (b := w13.heap.size) (fun _ => trivial) ms2 0 _ (Fr.refl (fun _ => True) ((w13.alloc (.cells kAo 71)).alloc (.cells kAm 73))))).size
  exact ltl B2.lt h1
 try rw [show ms2.toArray.toList = ms2 from rfl, show ns2.toArray.toList = ns2 from rfl]
 replace AA := hid (AA.o.no f)
 clear fz B1 B2 T0 T1 HO1 HO2
 generalize ((((w13.alloc (.cells kAo 71)).alloc (.cells kAm 73)).setCells w13.heap.size 0 ms2).setCells (w13.heap.size + 1) 0 ns2) = W14 at *
 replace HM : Hid (tMd.rd W14 (· < W14.heap.size) ms y.m) := kAH HM.o f i2 (fun _ h => ltl h f.size)
 replace HN : Hid (tAd.rd W14 (· < W14.heap.size) ns y.a) := kAH HN.o f i2 (fun _ h => ltl h f.size)
 replace HM2 : Hid (tMd.rd W14 (· < W14.heap.size) ms2 y.m) := kAH HM2.o f i2 (fun _ h => ltl h f.size)
 replace HN2 : Hid (tAd.rd W14 (· < W14.heap.size) ns2 y.a) := kAH HN2.o f i2 (fun _ h => ltl h f.size)
 generalize w13.heap.size = qms2 at *
 have RGms2 : Hid (∀ X, Fr No W14 X → X.rangeAt qms2 0 ms2 ∧ X.rangeAt (qms2 + 1) 0 ns2) := fun X f => ⟨kBN M1 f om, kBN M2 f hsz⟩
 clear M1 M2 hsz
 replace RGms : Hid (∀ X, Fr No W14 X → X.rangeAt qms 0 ms ∧ X.rangeAt (qms + 1) 0 ns) := fun X g => RGms.o X (f.trans g i3)
 clear f
 have HX : Hid (∀ X, Fr No W14 X → Ce X w.heap.size 9 (.slice A9 x.insts.length c9)) := fun X g => ((AA.o.GX.fr g id).cell 9).trans (by rw [← H9.o]; simp)
 have HC1 := hid (fun (X : World) (f : Fr No W14 X) => kHN y.m (· < X.heap.size) (· < X.heap.size) X (kAH HM.o f i2 (fun _ h => ltl h f.size)) (kAH HM2.o f i2 (fun _ h => ltl h f.size)) i2 i2 HIB.o.1)
 have HC2 := hid (fun (X : World) (f : Fr No W14 X) => kKp y.a X (kAH (S' := (· < X.heap.size)) HN.o f i2 (fun _ h => ltl h f.size)) (kAH (S' := (· < X.heap.size)) HN2.o f i2 (fun _ h => ltl h f.size)) i2 i2 (by have := HIB.o.2.funcs; have := HIB.o.2.tables; have := HIB.o.2.mems; have := HIB.o.2.globals; have := HIB.o.2.elems; have := HIB.o.2.datas; omega))
 have HC3 := hid (fun (X : World) (f : Fr No W14 X) => kLH (AA.o.H.frNo f))
 clear HM HN HM2 HN2 HIB HK H9
 refine rwP (Fr No W14) [] [0, 1, 2, 3, 4, 5, 6, 7, 8, 9, 10, 11, 12, 13, 14, 16, 17, 18, 15, 19, 20, 21] [2, 6, 15] (Fr.refl No W14).drew ?_
 have FZ := hid (Fr.refl No W14).drew
 refine kAp rfl rfl rfl 71 _ rfl (qms) 0 (by rfl) ms _ (fun X hX => (RGms.o X hX).1) underlying71 (by rfl) (by have := HJ1ms.o; simpa using this) ?_
 simp only [zA, zC, Act.put]
 refine kAp rfl rfl rfl 71 _ rfl (qms2) 0 (by rfl) ms2 _ (fun X hX => (RGms2.o X hX).1) underlying71 (by rfl) (by have := HJ1ms2.o; simpa using this) ?_
 simp only [zA, zC, Act.put]
 refine kAE rfl rfl fun K hK => sz ?_
 refine (HC1.o _ FZ.o).mono ?_
 rintro e wz1 ⟨rfl, f⟩
 replace FZ := ftr FZ f
 clear f
 refine hK _ _ (fun _ => FZ.o) ?_
 clear hK K
 refine rP HX.o ?_
 refine kAp rfl rfl rfl 73 _ rfl (qms + 1) 0 (by rfl) ns _ (fun X hX => (RGms.o X hX).2) underlying73 (by rfl) (by have := HJ2ms.o; simpa using this) ?_
 simp only [zA, zC, Act.put]
 refine kAp rfl rfl rfl 73 _ rfl (qms2 + 1) 0 (by rfl) ns2 _ (fun X hX => (RGms2.o X hX).2) underlying73 (by rfl) (by have := HJ2ms2.o; simpa using this) ?_
 simp only [zA, zC, Act.put]
 refine kAE rfl rfl fun K hK => sz ?_
 refine (HC2.o _ FZ.o).mono ?_
 rintro e wz2 ⟨rfl, f⟩
 replace FZ := ftr FZ f
 clear f
 refine hK _ _ (fun _ => FZ.o) ?_
 clear hK K
 refine rP HX.o ?_
 refine kAE rfl rfl fun K hK => sz ?_
 refine (HC3.o _ FZ.o).mono ?_
 rintro e wz3 ⟨rfl, f⟩
 replace FZ := ftr FZ f
 clear f
 refine hK _ _ (fun _ => FZ.o) ?_
 clear hK K
 refine rP HX.o ?_
 refine kAj ?_
 clear HX HC1 HC2 HC3 RGms RGms2
 go_wp2
 go_ret
 exact ⟨rfl, AA.o.F0.trans FZ.o i3⟩
end
structure kEg (x : Rx) : Prop where
 ta : x.tabs.length ≤ 1000000
 me : x.mems.length ≤ 1000000
 ms : kDg x
section
variable {w : World} {R : Nat → Prop} {V : Pl} {x : Rx} {cs : LV}
theorem kNZ (h : Both w R V x cs) (hok : kEg x) (i : Int) (k : Nat) (hi : i = k) (hk : k < x.tabs.length) (j : Nat) (hj : i = j) (hl : j < x.mems.length) :
    Calls prog 13 (kET V cs i) w (YesTo w) := by
 have HK := hid hok
 have AA := ab h
 have hg : getI x.tabs i = some x.tabs[k] := by rw [hi]; exact getI_yes hk
 have HA : Hid (atD zRt x.tabs i = (x.tabs[k], true)) := by rw [hi]; exact atD_yes hk
 obtain ⟨z, hz⟩ := kBi AA.o.H.tl (List.getElem?_eq_getElem hk)
 have HN : Hid (getI (V.tp.map (·.1)) i = some z.1) := by rw [Hid, kAx, hi]; unfold getI; rw [if_pos (by omega), Int.toNat_natCast, hz]; rfl
 have HT : Hid (∀ X, StIn X R V x → TabAt X z.1 z.2.1 z.2.2 x.tabs[k].t.elem x.tabs[k].t.lim.min x.tabs[k].t.lim.max x.tabs[k].t.lim.has x.tabs[k].l) := fun X h => h.tat k z _ hz (List.getElem?_eq_getElem hk)
 clear hz hg
 generalize x.tabs[k] = t at *
 generalize z.1 = zp at *
 have HB : Hid (atD zRm x.mems i = (x.mems[j], true)) := by rw [hj]; exact atD_yes hl
 obtain ⟨y, hy⟩ := kBi AA.o.H.ml (List.getElem?_eq_getElem hl)
 have HM : Hid (getI (V.mp.map (·.1)) i = some y.1) := by rw [Hid, kAx, hj]; unfold getI; rw [if_pos (by omega), Int.toNat_natCast, hy]; rfl
 have HO : Hid (∀ X, StIn X R V x → Mo X y.1 y.2.1 y.2.2 x.mems[j].lim x.mems[j].b) := fun X h => h.mat j y _ hy (List.getElem?_eq_getElem hl)
 have HML : Hid (x.mems[j].b.length ≤ 65536) := (hok.ms _ (List.getElem_mem hl)).1
 clear hy
 generalize x.mems[j] = m at *
 generalize y.1 = yp at *
 clear h hok hi hk hj hl
 go_enter func13, ntmps13
 go_upto_region 1 with fail
 generalize w.alloc (.cells cs.toArray 39) = W at *
 go_wp2_with fail
 refine (kCT AA.o.H i HK.o.ta).mono ?_
 rw [HN.o]
 rintro e w1 ⟨rfl, f⟩
 simp only [ptrV]
 replace AA := hid (AA.o.no f)
 clear f
 go_wp2_with fail
 refine (mem_any AA.o.H i HK.o.me).mono ?_
 rw [HM.o]
 rintro e w2 ⟨rfl, f⟩
 simp only [ptrV]
 replace AA := hid (AA.o.no f)
 clear f HN HM
 go_wp2_with (first | refine ldX AA.o.GX AA.o.CL ?_ | fail)
 have HG := hid (kCi AA.o.RF (fun _ hk => hk.1) i)
 rw [HA.o] at HG
 refine HG.o.mono ?_
 rintro e w3 ⟨ds, rfl, hr, f⟩
 obtain ⟨B1, d1, rfl, -⟩ := kDD hr
 clear hr HG HA
 replace AA := hid (AA.o.no f)
 clear f
 go_upto_region 3 with fail
 have f := (Fr.refl No w3).alloc (.cells #[.int .i64 t.t.elem, .int .i64 t.t.lim.min, .int .i64 t.t.lim.max, .bool t.t.lim.has, .slice B1 t.l.length d1] 170)
 have G1 := hid (Blk.new w3 170 #[.int .i64 t.t.elem, .int .i64 t.t.lim.min, .int .i64 t.t.lim.max, .bool t.t.lim.has, .slice B1 t.l.length d1])
 replace AA := hid (AA.o.no f)
 clear f
 generalize w3.alloc (.cells #[.int .i64 t.t.elem, .int .i64 t.t.lim.min, .int .i64 t.t.lim.max, .bool t.t.lim.has, .slice B1 t.l.length d1] 170) = W4 at *
 generalize w3.heap.size = q1 at *
 go_wp2_with (first | refine ldX AA.o.GX AA.o.CL ?_ | fail)
 have HG := hid (kBd AA.o.RF (fun _ hk => hk.1) i)
 rw [HB.o] at HG
 refine HG.o.mono ?_
 rintro e w5 ⟨ds, rfl, hr, f⟩
 obtain ⟨B2, d2, rfl, -⟩ := kBR hr
 clear hr HG HB
 replace AA := hid (AA.o.no f)
 replace G1 := hid (G1.o.fr f id)
 clear f
 go_upto_region 4 with fail
 have f := (Fr.refl No w5).alloc (.cells #[.int .i64 m.lim.min, .int .i64 m.lim.max, .bool m.lim.has, .slice B2 m.b.length d2] 143)
 have G2 := hid (Blk.new w5 143 #[.int .i64 m.lim.min, .int .i64 m.lim.max, .bool m.lim.has, .slice B2 m.b.length d2])
 replace AA := hid (AA.o.no f)
 replace G1 := hid (G1.o.fr f id)
 clear f
 generalize w5.alloc (.cells #[.int .i64 m.lim.min, .int .i64 m.lim.max, .bool m.lim.has, .slice B2 m.b.length d2] 143) = W6 at *
 generalize w5.heap.size = q2 at *
 go_upto_region 6 with fail
 have HX : Hid (∀ X, Fr No W6 X → Ce X q1 0 (.int .i64 t.t.elem) ∧ Ce X q1 1 (.int .i64 t.t.lim.min) ∧ Ce X q1 2 (.int .i64 t.t.lim.max) ∧ Ce X q1 3 (.bool t.t.lim.has) ∧ Ce X q1 4 (.slice B1 t.l.length d1) ∧ (Op.equalIn 10000 52 (.agg #[.int .i64 t.t.elem, .int .i64 t.t.lim.min, .int .i64 t.t.lim.max, .bool t.t.lim.has]) (.agg #[.int .i64 t.t.elem, .int .i64 t.t.lim.min, .int .i64 t.t.lim.max, .bool t.t.lim.has])).run prog X = .ok true X) := fun X f => ⟨(G1.o.fr f id).cell 0, (G1.o.fr f id).cell 1, (G1.o.fr f id).cell 2, (G1.o.fr f id).cell 3, (G1.o.fr f id).cell 4, kEb t.t 9997 X⟩
 have HX2 : Hid (∀ X, Fr No W6 X → Ce X q2 0 (.int .i64 m.lim.min) ∧ Ce X q2 1 (.int .i64 m.lim.max) ∧ Ce X q2 2 (.bool m.lim.has) ∧ Ce X q2 3 (.slice B2 m.b.length d2) ∧ (Op.equalIn 10000 50 (.agg #[.int .i64 m.lim.min, .int .i64 m.lim.max, .bool m.lim.has]) (.agg #[.int .i64 m.lim.min, .int .i64 m.lim.max, .bool m.lim.has])).run prog X = .ok true X) := fun X f => ⟨(G2.o.fr f id).cell 0, (G2.o.fr f id).cell 1, (G2.o.fr f id).cell 2, (G2.o.fr f id).cell 3, kCw m.lim 9998 X⟩
 refine rwO (Fr No W6) [] [0, 1, 2, 4, 5, 3, 6, 7, 8, 10, 11, 12, 9, 13, 14, 15] [3, 9] (Fr.refl No W6).drew ?_
 have FZ := hid (Fr.refl No W6).drew
 refine rO HX.o ?_
 refine wpO_eff rfl rfl fun K hK => sz ?_
 refine (kHD (HT.o _ (AA.o.H.frNo FZ.o))).mono ?_
 rintro e wz ⟨rfl, f⟩
 replace FZ := ftr FZ f
 clear f
 refine hK _ _ (fun _ => FZ.o) ?_
 clear hK K
 refine rO HX.o ?_
 refine wpO_eff rfl rfl fun K hK => sz ?_
 refine (kHG (HT.o _ (AA.o.H.frNo FZ.o))).mono ?_
 rintro e wz2 ⟨rfl, rfl⟩
 refine hK _ _ (fun _ => FZ.o) ?_
 clear hK K
 refine rO HX.o ?_
 refine wpO_nil ?_
 obtain ⟨W7, hW7⟩ : ∃ X, X = wz := ⟨_, rfl⟩
 exact yy21
theorem kKl (h : Both w R V x cs) (hok : kEg x) (i : Int) (k : Nat) (hi : i = k) (hk : k < x.tabs.length) (hm : getI x.mems i = none) :
    Calls prog 13 (kET V cs i) w (YesTo w) := by
 have HK := hid hok
 have AA := ab h
 have hg : getI x.tabs i = some x.tabs[k] := by rw [hi]; exact getI_yes hk
 have HA : Hid (atD zRt x.tabs i = (x.tabs[k], true)) := by rw [hi]; exact atD_yes hk
 obtain ⟨z, hz⟩ := kBi AA.o.H.tl (List.getElem?_eq_getElem hk)
 have HN : Hid (getI (V.tp.map (·.1)) i = some z.1) := by rw [Hid, kAx, hi]; unfold getI; rw [if_pos (by omega), Int.toNat_natCast, hz]; rfl
 have HT : Hid (∀ X, StIn X R V x → TabAt X z.1 z.2.1 z.2.2 x.tabs[k].t.elem x.tabs[k].t.lim.min x.tabs[k].t.lim.max x.tabs[k].t.lim.has x.tabs[k].l) := fun X h => h.tat k z _ hz (List.getElem?_eq_getElem hk)
 clear hz hg
 generalize x.tabs[k] = t at *
 generalize z.1 = zp at *
 have HB : Hid (atD zRm x.mems i = (zRm, false)) := by
  exact yy98
 have HM : Hid (getI (V.mp.map (·.1)) i = none) := by
  rw [Hid, kAx]
  have := kCQ (l := V.mp) (m := x.mems) AA.o.H.ml i
  rw [hm] at this
  exact yy70
 obtain ⟨m, hm'⟩ : ∃ m, m = zRm := ⟨_, rfl⟩
 replace HB : Hid (atD zRm x.mems i = (m, false)) := by rw [hm']; exact HB.o
 clear hm hm'
 clear h hok hi hk
 go_enter func13, ntmps13
 go_upto_region 1 with fail
 generalize w.alloc (.cells cs.toArray 39) = W at *
 go_wp2_with fail
 refine (kCT AA.o.H i HK.o.ta).mono ?_
 rw [HN.o]
 rintro e w1 ⟨rfl, f⟩
 simp only [ptrV]
 replace AA := hid (AA.o.no f)
 clear f
 go_wp2_with fail
 refine (mem_any AA.o.H i HK.o.me).mono ?_
 rw [HM.o]
 rintro e w2 ⟨rfl, f⟩
 simp only [ptrV]
 replace AA := hid (AA.o.no f)
 clear f HN HM
 go_wp2_with (first | refine ldX AA.o.GX AA.o.CL ?_ | fail)
 have HG := hid (kCi AA.o.RF (fun _ hk => hk.1) i)
 rw [HA.o] at HG
 refine HG.o.mono ?_
 rintro e w3 ⟨ds, rfl, hr, f⟩
 obtain ⟨B1, d1, rfl, -⟩ := kDD hr
 clear hr HG HA
 replace AA := hid (AA.o.no f)
 clear f
 go_upto_region 3 with fail
 have f := (Fr.refl No w3).alloc (.cells #[.int .i64 t.t.elem, .int .i64 t.t.lim.min, .int .i64 t.t.lim.max, .bool t.t.lim.has, .slice B1 t.l.length d1] 170)
 have G1 := hid (Blk.new w3 170 #[.int .i64 t.t.elem, .int .i64 t.t.lim.min, .int .i64 t.t.lim.max, .bool t.t.lim.has, .slice B1 t.l.length d1])
 replace AA := hid (AA.o.no f)
 clear f
 generalize w3.alloc (.cells #[.int .i64 t.t.elem, .int .i64 t.t.lim.min, .int .i64 t.t.lim.max, .bool t.t.lim.has, .slice B1 t.l.length d1] 170) = W4 at *
 generalize w3.heap.size = q1 at *
 go_wp2_with (first | refine ldX AA.o.GX AA.o.CL ?_ | fail)
 have HG := hid (kBd AA.o.RF (fun _ hk => hk.1) i)
 rw [HB.o] at HG
 refine HG.o.mono ?_
 rintro e w5 ⟨ds, rfl, hr, f⟩
 obtain ⟨B2, d2, rfl, -⟩ := kBR hr
 clear hr HG HB
 replace AA := hid (AA.o.no f)
 replace G1 := hid (G1.o.fr f id)
 clear f
 go_upto_region 4 with fail
 have f := (Fr.refl No w5).alloc (.cells #[.int .i64 m.lim.min, .int .i64 m.lim.max, .bool m.lim.has, .slice B2 m.b.length d2] 143)
 have G2 := hid (Blk.new w5 143 #[.int .i64 m.lim.min, .int .i64 m.lim.max, .bool m.lim.has, .slice B2 m.b.length d2])
 replace AA := hid (AA.o.no f)
 replace G1 := hid (G1.o.fr f id)
 clear f
 generalize w5.alloc (.cells #[.int .i64 m.lim.min, .int .i64 m.lim.max, .bool m.lim.has, .slice B2 m.b.length d2] 143) = W6 at *
 generalize w5.heap.size = q2 at *
 go_upto_region 6 with fail
 have HX : Hid (∀ X, Fr No W6 X → Ce X q1 0 (.int .i64 t.t.elem) ∧ Ce X q1 1 (.int .i64 t.t.lim.min) ∧ Ce X q1 2 (.int .i64 t.t.lim.max) ∧ Ce X q1 3 (.bool t.t.lim.has) ∧ Ce X q1 4 (.slice B1 t.l.length d1) ∧ (Op.equalIn 10000 52 (.agg #[.int .i64 t.t.elem, .int .i64 t.t.lim.min, .int .i64 t.t.lim.max, .bool t.t.lim.has]) (.agg #[.int .i64 t.t.elem, .int .i64 t.t.lim.min, .int .i64 t.t.lim.max, .bool t.t.lim.has])).run prog X = .ok true X) := fun X f => ⟨(G1.o.fr f id).cell 0, (G1.o.fr f id).cell 1, (G1.o.fr f id).cell 2, (G1.o.fr f id).cell 3, (G1.o.fr f id).cell 4, kEb t.t 9997 X⟩
 have HX2 : Hid (∀ X, Fr No W6 X → Ce X q2 0 (.int .i64 m.lim.min) ∧ Ce X q2 1 (.int .i64 m.lim.max) ∧ Ce X q2 2 (.bool m.lim.has) ∧ Ce X q2 3 (.slice B2 m.b.length d2) ∧ (Op.equalIn 10000 50 (.agg #[.int .i64 m.lim.min, .int .i64 m.lim.max, .bool m.lim.has]) (.agg #[.int .i64 m.lim.min, .int .i64 m.lim.max, .bool m.lim.has])).run prog X = .ok true X) := fun X f => ⟨(G2.o.fr f id).cell 0, (G2.o.fr f id).cell 1, (G2.o.fr f id).cell 2, (G2.o.fr f id).cell 3, kCw m.lim 9998 X⟩
 refine rwO (Fr No W6) [] [0, 1, 2, 4, 5, 3, 6, 7, 8, 10, 11, 12, 9, 13, 14, 15] [3, 9] (Fr.refl No W6).drew ?_
 have FZ := hid (Fr.refl No W6).drew
 refine rO HX.o ?_
 refine wpO_eff rfl rfl fun K hK => sz ?_
 refine (kHD (HT.o _ (AA.o.H.frNo FZ.o))).mono ?_
 rintro e wz ⟨rfl, f⟩
 replace FZ := ftr FZ f
 clear f
 refine hK _ _ (fun _ => FZ.o) ?_
 clear hK K
 refine rO HX.o ?_
 refine wpO_eff rfl rfl fun K hK => sz ?_
 refine (kHG (HT.o _ (AA.o.H.frNo FZ.o))).mono ?_
 rintro e wz2 ⟨rfl, rfl⟩
 refine hK _ _ (fun _ => FZ.o) ?_
 clear hK K
 refine rO HX.o ?_
 refine wpO_nil ?_
 obtain ⟨W7, hW7⟩ : ∃ X, X = wz := ⟨_, rfl⟩
 exact yy39
theorem kKm (h : Both w R V x cs) (hok : kEg x) (i : Int) (ht : getI x.tabs i = none) (j : Nat) (hj : i = j) (hl : j < x.mems.length) :
    Calls prog 13 (kET V cs i) w (YesTo w) := by
 have HK := hid hok
 have AA := ab h
 have HA : Hid (atD zRt x.tabs i = (zRt, false)) := by
  exact yy97
 have HN : Hid (getI (V.tp.map (·.1)) i = none) := by
  rw [Hid, kAx]
  have := kCQ (l := V.tp) (m := x.tabs) AA.o.H.tl i
  rw [ht] at this
  exact yy70
 obtain ⟨t, ht'⟩ : ∃ t, t = zRt := ⟨_, rfl⟩
 replace HA : Hid (atD zRt x.tabs i = (t, false)) := by rw [ht']; exact HA.o
 clear ht ht'
 have HB : Hid (atD zRm x.mems i = (x.mems[j], true)) := by rw [hj]; exact atD_yes hl
 obtain ⟨y, hy⟩ := kBi AA.o.H.ml (List.getElem?_eq_getElem hl)
 have HM : Hid (getI (V.mp.map (·.1)) i = some y.1) := by rw [Hid, kAx, hj]; unfold getI; rw [if_pos (by omega), Int.toNat_natCast, hy]; rfl
 have HO : Hid (∀ X, StIn X R V x → Mo X y.1 y.2.1 y.2.2 x.mems[j].lim x.mems[j].b) := fun X h => h.mat j y _ hy (List.getElem?_eq_getElem hl)
 have HML : Hid (x.mems[j].b.length ≤ 65536) := (hok.ms _ (List.getElem_mem hl)).1
 clear hy
 generalize x.mems[j] = m at *
 generalize y.1 = yp at *
 clear h hok hj hl
 go_enter func13, ntmps13
 go_upto_region 1 with fail
 generalize w.alloc (.cells cs.toArray 39) = W at *
 go_wp2_with fail
 refine (kCT AA.o.H i HK.o.ta).mono ?_
 rw [HN.o]
 rintro e w1 ⟨rfl, f⟩
 simp only [ptrV]
 replace AA := hid (AA.o.no f)
 clear f
 go_wp2_with fail
 refine (mem_any AA.o.H i HK.o.me).mono ?_
 rw [HM.o]
 rintro e w2 ⟨rfl, f⟩
 simp only [ptrV]
 replace AA := hid (AA.o.no f)
 clear f HN HM
 go_wp2_with (first | refine ldX AA.o.GX AA.o.CL ?_ | fail)
 have HG := hid (kCi AA.o.RF (fun _ hk => hk.1) i)
 rw [HA.o] at HG
 refine HG.o.mono ?_
 rintro e w3 ⟨ds, rfl, hr, f⟩
 obtain ⟨B1, d1, rfl, -⟩ := kDD hr
 clear hr HG HA
 replace AA := hid (AA.o.no f)
 clear f
 go_upto_region 3 with fail
 have f := (Fr.refl No w3).alloc (.cells #[.int .i64 t.t.elem, .int .i64 t.t.lim.min, .int .i64 t.t.lim.max, .bool t.t.lim.has, .slice B1 t.l.length d1] 170)
 have G1 := hid (Blk.new w3 170 #[.int .i64 t.t.elem, .int .i64 t.t.lim.min, .int .i64 t.t.lim.max, .bool t.t.lim.has, .slice B1 t.l.length d1])
 replace AA := hid (AA.o.no f)
 clear f
 generalize w3.alloc (.cells #[.int .i64 t.t.elem, .int .i64 t.t.lim.min, .int .i64 t.t.lim.max, .bool t.t.lim.has, .slice B1 t.l.length d1] 170) = W4 at *
 generalize w3.heap.size = q1 at *
 go_wp2_with (first | refine ldX AA.o.GX AA.o.CL ?_ | fail)
 have HG := hid (kBd AA.o.RF (fun _ hk => hk.1) i)
 rw [HB.o] at HG
 refine HG.o.mono ?_
 rintro e w5 ⟨ds, rfl, hr, f⟩
 obtain ⟨B2, d2, rfl, -⟩ := kBR hr
 clear hr HG HB
 replace AA := hid (AA.o.no f)
 replace G1 := hid (G1.o.fr f id)
 clear f
 go_upto_region 4 with fail
 have f := (Fr.refl No w5).alloc (.cells #[.int .i64 m.lim.min, .int .i64 m.lim.max, .bool m.lim.has, .slice B2 m.b.length d2] 143)
 have G2 := hid (Blk.new w5 143 #[.int .i64 m.lim.min, .int .i64 m.lim.max, .bool m.lim.has, .slice B2 m.b.length d2])
 replace AA := hid (AA.o.no f)
 replace G1 := hid (G1.o.fr f id)
 clear f
 generalize w5.alloc (.cells #[.int .i64 m.lim.min, .int .i64 m.lim.max, .bool m.lim.has, .slice B2 m.b.length d2] 143) = W6 at *
 generalize w5.heap.size = q2 at *
 go_upto_region 6 with fail
 have HX : Hid (∀ X, Fr No W6 X → Ce X q1 0 (.int .i64 t.t.elem) ∧ Ce X q1 1 (.int .i64 t.t.lim.min) ∧ Ce X q1 2 (.int .i64 t.t.lim.max) ∧ Ce X q1 3 (.bool t.t.lim.has) ∧ Ce X q1 4 (.slice B1 t.l.length d1) ∧ (Op.equalIn 10000 52 (.agg #[.int .i64 t.t.elem, .int .i64 t.t.lim.min, .int .i64 t.t.lim.max, .bool t.t.lim.has]) (.agg #[.int .i64 t.t.elem, .int .i64 t.t.lim.min, .int .i64 t.t.lim.max, .bool t.t.lim.has])).run prog X = .ok true X) := fun X f => ⟨(G1.o.fr f id).cell 0, (G1.o.fr f id).cell 1, (G1.o.fr f id).cell 2, (G1.o.fr f id).cell 3, (G1.o.fr f id).cell 4, kEb t.t 9997 X⟩
 have HX2 : Hid (∀ X, Fr No W6 X → Ce X q2 0 (.int .i64 m.lim.min) ∧ Ce X q2 1 (.int .i64 m.lim.max) ∧ Ce X q2 2 (.bool m.lim.has) ∧ Ce X q2 3 (.slice B2 m.b.length d2) ∧ (Op.equalIn 10000 50 (.agg #[.int .i64 m.lim.min, .int .i64 m.lim.max, .bool m.lim.has]) (.agg #[.int .i64 m.lim.min, .int .i64 m.lim.max, .bool m.lim.has])).run prog X = .ok true X) := fun X f => ⟨(G2.o.fr f id).cell 0, (G2.o.fr f id).cell 1, (G2.o.fr f id).cell 2, (G2.o.fr f id).cell 3, kCw m.lim 9998 X⟩
 refine rwO (Fr No W6) [] [0, 1, 2, 4, 5, 3, 6, 7, 8, 10, 11, 12, 9, 13, 14, 15] [3, 9] (Fr.refl No W6).drew ?_
 have FZ := hid (Fr.refl No W6).drew
 refine rO HX.o ?_
 refine wpO_skipE rfl rfl FZ.o ?_
 simp only [zA, zC, Act.put]
 refine rO HX.o ?_
 refine wpO_skipE rfl rfl FZ.o ?_
 simp only [zA, zC, Act.put]
 refine rO HX.o ?_
 refine wpO_nil ?_
 obtain ⟨W7, hW7⟩ : ∃ X, X = W6.drew := ⟨_, rfl⟩
 exact yy21
theorem kFA (h : Both w R V x cs) (hok : kEg x) (i : Int) (ht : getI x.tabs i = none) (hm : getI x.mems i = none) :
    Calls prog 13 (kET V cs i) w (YesTo w) := by
 have HK := hid hok
 have AA := ab h
 have HA : Hid (atD zRt x.tabs i = (zRt, false)) := by
  exact yy97
 have HN : Hid (getI (V.tp.map (·.1)) i = none) := by
  rw [Hid, kAx]
  have := kCQ (l := V.tp) (m := x.tabs) AA.o.H.tl i
  rw [ht] at this
  exact yy70
 obtain ⟨t, ht'⟩ : ∃ t, t = zRt := ⟨_, rfl⟩
 replace HA : Hid (atD zRt x.tabs i = (t, false)) := by rw [ht']; exact HA.o
 clear ht ht'
 have HB : Hid (atD zRm x.mems i = (zRm, false)) := by
  exact yy98
 have HM : Hid (getI (V.mp.map (·.1)) i = none) := by
  rw [Hid, kAx]
  have := kCQ (l := V.mp) (m := x.mems) AA.o.H.ml i
  rw [hm] at this
  exact yy70
 obtain ⟨m, hm'⟩ : ∃ m, m = zRm := ⟨_, rfl⟩
 replace HB : Hid (atD zRm x.mems i = (m, false)) := by rw [hm']; exact HB.o
 clear hm hm'
 clear h hok
 go_enter func13, ntmps13
 go_upto_region 1 with fail
 generalize w.alloc (.cells cs.toArray 39) = W at *
 go_wp2_with fail
 refine (kCT AA.o.H i HK.o.ta).mono ?_
 rw [HN.o]
 rintro e w1 ⟨rfl, f⟩
 simp only [ptrV]
 replace AA := hid (AA.o.no f)
 clear f
 go_wp2_with fail
 refine (mem_any AA.o.H i HK.o.me).mono ?_
 rw [HM.o]
 rintro e w2 ⟨rfl, f⟩
 simp only [ptrV]
 replace AA := hid (AA.o.no f)
 clear f HN HM
 go_wp2_with (first | refine ldX AA.o.GX AA.o.CL ?_ | fail)
 have HG := hid (kCi AA.o.RF (fun _ hk => hk.1) i)
 rw [HA.o] at HG
 refine HG.o.mono ?_
 rintro e w3 ⟨ds, rfl, hr, f⟩
 obtain ⟨B1, d1, rfl, -⟩ := kDD hr
 clear hr HG HA
 replace AA := hid (AA.o.no f)
 clear f
 go_upto_region 3 with fail
 have f := (Fr.refl No w3).alloc (.cells #[.int .i64 t.t.elem, .int .i64 t.t.lim.min, .int .i64 t.t.lim.max, .bool t.t.lim.has, .slice B1 t.l.length d1] 170)
 have G1 := hid (Blk.new w3 170 #[.int .i64 t.t.elem, .int .i64 t.t.lim.min, .int .i64 t.t.lim.max, .bool t.t.lim.has, .slice B1 t.l.length d1])
 replace AA := hid (AA.o.no f)
 clear f
 generalize w3.alloc (.cells #[.int .i64 t.t.elem, .int .i64 t.t.lim.min, .int .i64 t.t.lim.max, .bool t.t.lim.has, .slice B1 t.l.length d1] 170) = W4 at *
 generalize w3.heap.size = q1 at *
 go_wp2_with (first | refine ldX AA.o.GX AA.o.CL ?_ | fail)
 have HG := hid (kBd AA.o.RF (fun _ hk => hk.1) i)
 rw [HB.o] at HG
 refine HG.o.mono ?_
 rintro e w5 ⟨ds, rfl, hr, f⟩
 obtain ⟨B2, d2, rfl, -⟩ := kBR hr
 clear hr HG HB
 replace AA := hid (AA.o.no f)
 replace G1 := hid (G1.o.fr f id)
 clear f
 go_upto_region 4 with fail
 have f := (Fr.refl No w5).alloc (.cells #[.int .i64 m.lim.min, .int .i64 m.lim.max, .bool m.lim.has, .slice B2 m.b.length d2] 143)
 have G2 := hid (Blk.new w5 143 #[.int .i64 m.lim.min, .int .i64 m.lim.max, .bool m.lim.has, .slice B2 m.b.length d2])
 replace AA := hid (AA.o.no f)
 replace G1 := hid (G1.o.fr f id)
 clear f
 generalize w5.alloc (.cells #[.int .i64 m.lim.min, .int .i64 m.lim.max, .bool m.lim.has, .slice B2 m.b.length d2] 143) = W6 at *
 generalize w5.heap.size = q2 at *
 go_upto_region 6 with fail
 have HX : Hid (∀ X, Fr No W6 X → Ce X q1 0 (.int .i64 t.t.elem) ∧ Ce X q1 1 (.int .i64 t.t.lim.min) ∧ Ce X q1 2 (.int .i64 t.t.lim.max) ∧ Ce X q1 3 (.bool t.t.lim.has) ∧ Ce X q1 4 (.slice B1 t.l.length d1) ∧ (Op.equalIn 10000 52 (.agg #[.int .i64 t.t.elem, .int .i64 t.t.lim.min, .int .i64 t.t.lim.max, .bool t.t.lim.has]) (.agg #[.int .i64 t.t.elem, .int .i64 t.t.lim.min, .int .i64 t.t.lim.max, .bool t.t.lim.has])).run prog X = .ok true X) := fun X f => ⟨(G1.o.fr f id).cell 0, (G1.o.fr f id).cell 1, (G1.o.fr f id).cell 2, (G1.o.fr f id).cell 3, (G1.o.fr f id).cell 4, kEb t.t 9997 X⟩
 have HX2 : Hid (∀ X, Fr No W6 X → Ce X q2 0 (.int .i64 m.lim.min) ∧ Ce X q2 1 (.int .i64 m.lim.max) ∧ Ce X q2 2 (.bool m.lim.has) ∧ Ce X q2 3 (.slice B2 m.b.length d2) ∧ (Op.equalIn 10000 50 (.agg #[.int .i64 m.lim.min, .int .i64 m.lim.max, .bool m.lim.has]) (.agg #[.int .i64 m.lim.min, .int .i64 m.lim.max, .bool m.lim.has])).run prog X = .ok true X) := fun X f => ⟨(G2.o.fr f id).cell 0, (G2.o.fr f id).cell 1, (G2.o.fr f id).cell 2, (G2.o.fr f id).cell 3, kCw m.lim 9998 X⟩
 refine rwO (Fr No W6) [] [0, 1, 2, 4, 5, 3, 6, 7, 8, 10, 11, 12, 9, 13, 14, 15] [3, 9] (Fr.refl No W6).drew ?_
 have FZ := hid (Fr.refl No W6).drew
 refine rO HX.o ?_
 refine wpO_skipE rfl rfl FZ.o ?_
 simp only [zA, zC, Act.put]
 refine rO HX.o ?_
 refine wpO_skipE rfl rfl FZ.o ?_
 simp only [zA, zC, Act.put]
 refine rO HX.o ?_
 refine wpO_nil ?_
 obtain ⟨W7, hW7⟩ : ∃ X, X = W6.drew := ⟨_, rfl⟩
 exact yy39
theorem kMh (h : Both w R V x cs) (hok : kEg x) (i : Int) :
    Calls prog 13 (kET V cs i) w (YesTo w) := by
 rcases at_cases x.tabs i with ⟨k, hk, hi⟩ | hi | ⟨hi0, hi⟩ <;> rcases at_cases x.mems i with ⟨j, hj, hl⟩ | hl | ⟨hl0, hl⟩
 · exact kNZ h hok i k hi hk j hl hj
 · exact kKl h hok i k hi hk (getI_no (.inl hl))
 · exact kKl h hok i k hi hk (getI_no (.inr hl))
 · exact kKm h hok i (getI_no (.inl hi)) j hl hj
 · exact kFA h hok i (getI_no (.inl hi)) (getI_no (.inl hl))
 · exact kFA h hok i (getI_no (.inl hi)) (getI_no (.inr hl))
 · exact kKm h hok i (getI_no (.inr hi)) j hl hj
 · exact kFA h hok i (getI_no (.inr hi)) (getI_no (.inl hl))
 exact kFA h hok i (getI_no (.inr hi)) (getI_no (.inr hl))
end
structure RmJn (w : World) (A : OA) (c : Nat) (B : List Int) : Prop where
 rd : Rd w w.heap.size A (Ks .u8 B)
 nil : A = none → B = []
 spot : B.length ≠ 0 → ∀ ad, A = some ad → ∃ q o, ad = ⟨q, o, none⟩
 bts : Bts B
 cap : B.length ≤ c
 max : c ≤ maxLen
theorem RmJn.fr {w w' : World} {A : OA} {c : Nat} {B : List Int} (h : RmJn w A c B) (f : Fr No w w') : RmJn w' A c B :=
 ⟨(h.rd.fr f (fun _ _ x => x)).more f.size, h.nil, h.spot, h.bts, h.cap, h.max⟩
abbrev q12x2 (a0 : Lim) (a1 : Option Addr) (a2 : List Int) (a3 : Nat) : Array Value := #[.int .i64 a0.min, .int .i64 a0.max, .bool a0.has, .slice a1 a2.length a3]
def RmUo (l : Lim) (A0 : OA) (B0 B : List Int) (t : Int) (w : World) (e : Ending) (w' : World) : Prop :=
 ∃ (A : OA) (c : Nat), e = .returned (.tuple #[.agg (q12x2 l A B c), .int .i64 t]) ∧ RmJn w' A c B ∧ ((A = A0 ∧ B = B0) ∨ ∀ q o, A = some ⟨q, o, none⟩ → w.heap.size ≤ q) ∧ Fr No w w'
theorem RmIn.jn {w : World} {A : OA} {c : Nat} {B : List Int} (h : RmIn w A c B) (hm : c ≤ maxLen) : RmJn w A c B := ⟨h.rd, h.nil, fun _ => h.spot, h.bts, h.cap, hm⟩
theorem kHL (ad : Addr) (D : OA) (c c' : Nat) (w : World) :
    Calls prog 135 #[.slice (some ad) 0 c, .int .i64 0, .slice D 0 c'] w (WrTo [] w) := by
 have h1 : ∀ W, (Instr.slice 59 (.slice (some ad) 0 c) none (some (.int .i64 0)) none).run prog W = .ok (.slice (some ad) 0 c) W := fun W => by
  have hs : (sizeOf (prog.elem 59)).run prog W = .ok 1 W := by kernel_rfl
  have h := run_slice_h (P := prog) (w := W) 59 (some ad) 0 c kr .i64 0 om om
  simp only [hs, Result.andThen_ok] at h
  rw [h]
  simp [sliced, Addr.add]
 have h2 : ∀ W, (Instr.slice 59 (.slice (some ad) 0 c) (some (.int .i64 0)) none none).run prog W = .ok (.slice (some ad) 0 c) W := fun W => by
  have hs : (sizeOf (prog.elem 59)).run prog W = .ok 1 W := by kernel_rfl
  have h := run_slice_l (P := prog) (w := W) 59 (some ad) 0 c kr .i64 0 om om
  simp only [hs, Result.andThen_ok] at h
  rw [h]
  simp [sliced, Addr.add]
 exact yy12
theorem kGW (A D : OA) (c c' a : Nat) (B bs : List Int) (w : World) (hB : Rd w w.heap.size A (Ks .u8 B)) (hA : A = none → B = []) (hD : Rd w w.heap.size D (Ks .u8 bs)) (b1 : Bts B) (b2 : Bts bs) (ha : a + bs.length ≤ B.length) (hc : B.length ≤ c) (hn : B.length ≤ 100000) (hspot : B.length ≠ 0 → ∀ ad, A = some ad → ∃ q o, ad = ⟨q, o, none⟩) :
    Calls prog 135 #[.slice A B.length c, .int .i64 a, .slice D bs.length c'] w (WrTo (splice B a bs) w) := by
 by_cases h0 : B.length = 0
 · have e : B = [] := List.eq_nil_of_length_eq_zero h0
   subst e
   cases A with
   | none => exact kDQ none D c c' a [] bs w hB hA hD b1 b2 ha hc hn (fun _ h => by cases h)
   | some ad =>
    have hl0 : ([] : List Int).length = 0 := rfl
    have ha0 : a = 0 := om
    have hbs : bs = [] := List.eq_nil_of_length_eq_zero om
    subst ha0 hbs
    exact kHL ad D c c' w
 exact kDQ A D c c' a B bs w hB hA hD b1 b2 ha hc hn (hspot h0)
theorem kHo (l : Lim) (A D : OA) (c d : Nat) (B bs : List Int) (xt xa xn : Int) (w : World) (hI : RmJn w A c B) (hD : SrcIn w D d bs) (hn : B.length ≤ 100000) (hn2 : bs.length ≤ 1000000) (h1 : 0 ≤ xt ∧ xt < 18446744073709551616) (h2 : 0 ≤ xa ∧ xa < 18446744073709551616) (h3 : 0 ≤ xn ∧ xn < 18446744073709551616) :
    Calls prog 44 #[rmv l A B.length c, .slice D bs.length d, .int .u64 xt, .int .u64 xa, .int .u64 xn] w (RmUo l A B (kAr B bs (lo xt) (lo xa) (lo xn)).1 (kAr B bs (lo xt) (lo xa) (lo xn)).2 w) := by
 have F := hid (((Fr.refl No w).alloc (.cells (q12x2 l A B c) 143)).alloc (.cells #[.int .i64 0, .int .i64 0, .bool false, .slice none 0 0] 143))
 have G := hid ((Blk.new w 143 (q12x2 l A B c)).alloc (.cells #[.int .i64 0, .int .i64 0, .bool false, .slice none 0 0] 143))
 have GR := hid (Blk.new1 w (.cells (q12x2 l A B c) 143) 143 #[.int .i64 0, .int .i64 0, .bool false, .slice none 0 0])
 have HT := hid (fun W => kCp xt W h1)
 have HA := hid (fun W => kCp xa W h2)
 have HN := hid (fun W => kCp xn W h3)
 have HI := hid hI
 have HD := hid hD
 have b1 := kCM xt
 have b2 := kCM xa
 have b3 := kCM xn
 generalize lo xt = t at *
 generalize lo xa = a at *
 generalize lo xn = n at *
 have HR1 := hid (fun W => kDo bs.length a n W hn2 b2 b3)
 have HR2 := hid (fun W => kDo B.length t n W om b1 b3)
 clear hI hD h1 h2 h3
 unfold rmv kAr
 by_cases e1 : a + n ≤ bs.length
 · rw [if_pos e1]
   rw [decide_eq_true e1] at HR1
   by_cases e2 : t + n ≤ B.length
   · rw [if_pos e2]
     rw [decide_eq_true e2] at HR2
     go_enter func44, ntmps44
     go_wp2
     generalize (w.alloc (.cells (q12x2 l A B c) 143)).alloc (.cells #[.int .i64 0, .int .i64 0, .bool false, .slice none 0 0] 143) = W at *
     have hc1 : w.heap.size + 1 < W.heap.size := GR.o.lt
     have HX : Hid (∀ X, Fr (One (w.heap.size + 1)) W X → Ce X w.heap.size 0 (.int .i64 l.min) ∧ Ce X w.heap.size 1 (.int .i64 l.max) ∧ Ce X w.heap.size 2 (.bool l.has) ∧ Ce X w.heap.size 3 (.slice A B.length c)) := fun X f => by
      exact yy45
     refine rwO (fun X => Ce X w.heap.size 0 (.int .i64 l.min) ∧ Ce X w.heap.size 1 (.int .i64 l.max) ∧ Ce X w.heap.size 2 (.bool l.has) ∧ Ce X w.heap.size 3 (.slice A B.length c)) [] [0, 1, 2, 4, 3, 5, 6, 7, 8, 9, 10, 11, 12, 14, 13, 15, 16, 17, 18] [3, 5, 6, 13, 15, 16] (HX.o _ (Fr.refl _ _).drew) ?_
     refine rC ?_
     refine wpO_eff rfl rfl fun K hK => sz ?_
     refine (HA.o _).mono ?_
     rintro e w' ⟨rfl, rfl⟩
     refine hK _ _ (fun _ => HX.o _ (Fr.refl _ _).drew) ?_
     clear hK K
     refine rC ?_
     refine wpO_eff rfl rfl fun K hK => sz ?_
     refine (HN.o _).mono ?_
     rintro e w' ⟨rfl, rfl⟩
     refine hK _ _ (fun _ => HX.o _ (Fr.refl _ _).drew) ?_
     clear hK K
     refine rC ?_
     refine wpO_eff rfl rfl fun K hK => sz ?_
     refine (HR1.o _).mono ?_
     rintro e w' ⟨rfl, rfl⟩
     refine hK _ _ (fun _ => HX.o _ (Fr.refl _ _).drew) ?_
     clear hK K
     refine rC ?_
     refine wpO_eff rfl rfl fun K hK => sz ?_
     refine (HT.o _).mono ?_
     rintro e w' ⟨rfl, rfl⟩
     refine hK _ _ (fun _ => HX.o _ (Fr.refl _ _).drew) ?_
     clear hK K
     refine rC ?_
     refine wpO_eff rfl rfl fun K hK => sz ?_
     refine (HN.o _).mono ?_
     rintro e w' ⟨rfl, rfl⟩
     refine hK _ _ (fun _ => HX.o _ (Fr.refl _ _).drew) ?_
     clear hK K
     refine rC ?_
     refine wpO_eff rfl rfl fun K hK => sz ?_
     refine (HR2.o _).mono ?_
     rintro e w' ⟨rfl, rfl⟩
     refine hK _ _ (fun _ => HX.o _ (Fr.refl _ _).drew) ?_
     clear hK K
     refine rC ?_
     refine wpO_nil ?_
     obtain ⟨D', d', hsl, hd1, hd2⟩ := kEd .i64 .i64 D bs.length d a n e1 HD.o.cap HD.o.spot
     have hw1 : IntKind.i64.wrap ((a : Int) + n) = a + n := by rw [IntKind.wrap_i64]; omega
     go_wp2_with fail
     refine rwO (fun X => Ce X w.heap.size 0 (.int .i64 l.min) ∧ Ce X w.heap.size 1 (.int .i64 l.max) ∧ Ce X w.heap.size 2 (.bool l.has) ∧ Ce X w.heap.size 3 (.slice A B.length c)) [] [0, 1, 2, 3, 4, 6, 7, 9, 11, 5, 8, 10, 12, 13, 14, 15, 16, 17, 18] [5, 8, 10, 12, 15, 17] (HX.o _ ((Fr.refl (One (w.heap.size + 1)) W).drew.drew)) ?_
     refine rC ?_
     refine wpO_eff rfl rfl fun K hK => sz ?_
     refine (HT.o _).mono ?_
     rintro e w' ⟨rfl, rfl⟩
     refine hK _ _ (fun _ => HX.o _ ((Fr.refl (One (w.heap.size + 1)) W).drew.drew)) ?_
     clear hK K
     refine rC ?_
     refine wpO_eff rfl rfl fun K hK => sz ?_
     refine (HA.o _).mono ?_
     rintro e w' ⟨rfl, rfl⟩
     refine hK _ _ (fun _ => HX.o _ ((Fr.refl (One (w.heap.size + 1)) W).drew.drew)) ?_
     clear hK K
     refine rC ?_
     refine wpO_eff rfl rfl fun K hK => sz ?_
     refine (HA.o _).mono ?_
     rintro e w' ⟨rfl, rfl⟩
     refine hK _ _ (fun _ => HX.o _ ((Fr.refl (One (w.heap.size + 1)) W).drew.drew)) ?_
     clear hK K
     refine rC ?_
     refine wpO_eff rfl rfl fun K hK => sz ?_
     refine (HN.o _).mono ?_
     rintro e w' ⟨rfl, rfl⟩
     refine hK _ _ (fun _ => HX.o _ ((Fr.refl (One (w.heap.size + 1)) W).drew.drew)) ?_
     clear hK K
     refine rC ?_
     refine wpO_eff rfl rfl fun K hK => sz ?_
     have FW := hid (F.o.drew.drew)
     have HI2 := hid (HI.o.fr FW.o)
     have hlen : ((bs.drop a).take n).length = n := by rw [List.length_take, List.length_drop]; omega
     have HW := kGW A D' c d' t B ((bs.drop a).take n) W.drew.drew HI2.o.rd HI2.o.nil (kHF (HD.o.fr FW.o).rd HD.o.nil e1 hd2) HI2.o.bts (HD.o.bts.sub a n) (by rw [hlen]; exact e2) HI2.o.cap hn HI2.o.spot
     rw [hlen] at HW
     refine HW.mono ?_
     clear HW
     rintro e w3 ⟨E, ec, rfl, hrow, f⟩
     have F3 := hid ((Fr.refl No W).drew.drew.trans f i3)
     have HR := hid hrow
     have GR3 := hid (GR.o.fr F3.o id)
     clear hrow f
     refine hK _ _ (fun _ => HX.o _ (F3.o.mono (fun _ _ h => h.elim))) ?_
     clear hK K
     refine rC ?_
     have q0 := GR3.o.frozen 0
     have q1 := GR3.o.frozen 1
     have q2 := GR3.o.frozen 2
     have q3 := GR3.o.frozen 3
     have z0 := GR3.o.cell 0
     have z1 := GR3.o.cell 1
     have z2 := GR3.o.cell 2
     have z3 := GR3.o.cell 3
     have FZ := hid ((((((Fr.refl (One (w.heap.size + 1)) w3).setCell ⟨w.heap.size + 1, 0, none⟩ (.int .i64 l.min) (fun _ => rfl)).setCell ⟨w.heap.size + 1, 1, none⟩ (.int .i64 l.max) (fun _ => rfl)).setCell ⟨w.heap.size + 1, 2, none⟩ (.bool l.has) (fun _ => rfl)).setCell ⟨w.heap.size + 1, 3, none⟩ (.slice E (splice B t ((bs.drop a).take n)).length ec) (fun _ => rfl)))
     refine wpO_eff rfl rfl fun K hK => sz ?_
     refine hK _ _ (fun _ => HX.o _ ((F3.o.mono (fun _ _ h => h.elim)).trans FZ.o i3)) ?_
     clear hK K
     refine rC ?_
     refine wpO_nil ?_
     go_wp2
     have FF := (F.o.trans F3.o i3).trans FZ.o (fun i hi h => by simp only [One] at h; omega)
     have hRm := kDV (HR.o.fr FZ.o (fun _ h => h.elim) (fun k hk h => by have h1 := (HR.o.own hk).1; have h2 : W.drew.drew.heap.size = W.heap.size := rfl; simp only [One] at h; omega))
     exact bodyPost_ret (v := .tuple #[.agg #[.int .i64 l.min, .int .i64 l.max, .bool l.has, .slice E (splice B t ((bs.drop a).take n)).length ec], .int .i64 0]) (by simp [results, Tryz.results44, go_sem, z0, z1, z2, z3]) rfl ⟨E, ec, rfl, hRm.jn (kBK HR.o).2.1, (.inr (fun q o he => by subst he; have h1 := (HR.o.own (g := q) (by simp [Value.ownBlock])).1; exact Nat.le_trans F.o.size h1)), FF⟩
   rw [if_neg e2]
   rw [decide_eq_false e2] at HR2
   go_enter func44, ntmps44
   go_wp2
   generalize (w.alloc (.cells (q12x2 l A B c) 143)).alloc (.cells #[.int .i64 0, .int .i64 0, .bool false, .slice none 0 0] 143) = W at *
   have hc1 : w.heap.size + 1 < W.heap.size := GR.o.lt
   have HX : Hid (∀ X, Fr (One (w.heap.size + 1)) W X → Ce X w.heap.size 0 (.int .i64 l.min) ∧ Ce X w.heap.size 1 (.int .i64 l.max) ∧ Ce X w.heap.size 2 (.bool l.has) ∧ Ce X w.heap.size 3 (.slice A B.length c)) := fun X f => by
    exact yy45
   refine rwO (fun X => Ce X w.heap.size 0 (.int .i64 l.min) ∧ Ce X w.heap.size 1 (.int .i64 l.max) ∧ Ce X w.heap.size 2 (.bool l.has) ∧ Ce X w.heap.size 3 (.slice A B.length c)) [] [0, 1, 2, 4, 3, 5, 6, 7, 8, 9, 10, 11, 12, 14, 13, 15, 16, 17, 18] [3, 5, 6, 13, 15, 16] (HX.o _ (Fr.refl _ _).drew) ?_
   refine rC ?_
   refine wpO_eff rfl rfl fun K hK => sz ?_
   refine (HA.o _).mono ?_
   rintro e w' ⟨rfl, rfl⟩
   refine hK _ _ (fun _ => HX.o _ (Fr.refl _ _).drew) ?_
   clear hK K
   refine rC ?_
   refine wpO_eff rfl rfl fun K hK => sz ?_
   refine (HN.o _).mono ?_
   rintro e w' ⟨rfl, rfl⟩
   refine hK _ _ (fun _ => HX.o _ (Fr.refl _ _).drew) ?_
   clear hK K
   refine rC ?_
   refine wpO_eff rfl rfl fun K hK => sz ?_
   refine (HR1.o _).mono ?_
   rintro e w' ⟨rfl, rfl⟩
   refine hK _ _ (fun _ => HX.o _ (Fr.refl _ _).drew) ?_
   clear hK K
   refine rC ?_
   refine wpO_eff rfl rfl fun K hK => sz ?_
   refine (HT.o _).mono ?_
   rintro e w' ⟨rfl, rfl⟩
   refine hK _ _ (fun _ => HX.o _ (Fr.refl _ _).drew) ?_
   clear hK K
   refine rC ?_
   refine wpO_eff rfl rfl fun K hK => sz ?_
   refine (HN.o _).mono ?_
   rintro e w' ⟨rfl, rfl⟩
   refine hK _ _ (fun _ => HX.o _ (Fr.refl _ _).drew) ?_
   clear hK K
   refine rC ?_
   refine wpO_eff rfl rfl fun K hK => sz ?_
   refine (HR2.o _).mono ?_
   rintro e w' ⟨rfl, rfl⟩
   refine hK _ _ (fun _ => HX.o _ (Fr.refl _ _).drew) ?_
   clear hK K
   exact yy4
 rw [if_neg e1]
 rw [decide_eq_false e1] at HR1
 go_enter func44, ntmps44
 go_wp2
 generalize (w.alloc (.cells (q12x2 l A B c) 143)).alloc (.cells #[.int .i64 0, .int .i64 0, .bool false, .slice none 0 0] 143) = W at *
 have hc1 : w.heap.size + 1 < W.heap.size := GR.o.lt
 have HX : Hid (∀ X, Fr (One (w.heap.size + 1)) W X → Ce X w.heap.size 0 (.int .i64 l.min) ∧ Ce X w.heap.size 1 (.int .i64 l.max) ∧ Ce X w.heap.size 2 (.bool l.has) ∧ Ce X w.heap.size 3 (.slice A B.length c)) := fun X f => by
  exact yy45
 refine rwO (fun X => Ce X w.heap.size 0 (.int .i64 l.min) ∧ Ce X w.heap.size 1 (.int .i64 l.max) ∧ Ce X w.heap.size 2 (.bool l.has) ∧ Ce X w.heap.size 3 (.slice A B.length c)) [] [0, 1, 2, 4, 3, 5, 6, 7, 8, 9, 10, 11, 12, 14, 13, 15, 16, 17, 18] [3, 5, 6, 13, 15, 16] (HX.o _ (Fr.refl _ _).drew) ?_
 refine rC ?_
 refine wpO_eff rfl rfl fun K hK => sz ?_
 refine (HA.o _).mono ?_
 rintro e w' ⟨rfl, rfl⟩
 refine hK _ _ (fun _ => HX.o _ (Fr.refl _ _).drew) ?_
 clear hK K
 refine rC ?_
 refine wpO_eff rfl rfl fun K hK => sz ?_
 refine (HN.o _).mono ?_
 rintro e w' ⟨rfl, rfl⟩
 refine hK _ _ (fun _ => HX.o _ (Fr.refl _ _).drew) ?_
 clear hK K
 refine rC ?_
 refine wpO_eff rfl rfl fun K hK => sz ?_
 refine (HR1.o _).mono ?_
 rintro e w' ⟨rfl, rfl⟩
 refine hK _ _ (fun _ => HX.o _ (Fr.refl _ _).drew) ?_
 clear hK K
 refine rC ?_
 refine wpO_skipE rfl rfl (HX.o _ (Fr.refl _ _).drew) ?_
 simp only [zA, zC, Act.put]
 refine rC ?_
 refine wpO_skipE rfl rfl (HX.o _ (Fr.refl _ _).drew) ?_
 simp only [zA, zC, Act.put]
 refine rC ?_
 refine wpO_skipE rfl rfl (HX.o _ (Fr.refl _ _).drew) ?_
 simp only [zA, zC, Act.put]
 exact yy4
theorem RmJn.of_els {w : World} {S : Nat → Prop} {A : OA} {c : Nat} {B : List Int} (h : tB.els w S A B) (hS : Lt S w) (hc : B.length ≤ c) (hx : c ≤ maxLen) : RmJn w A c B := by
 obtain ⟨css, h1, h2⟩ := kAY (B := w.heap.size) h hS
 obtain ⟨e, hb⟩ := kLR h1
 rw [e] at h2
 refine ⟨h2, fun e => ?_, fun hn ad e => ?_, hb, hc, hx⟩
 · rcases h with h | ⟨b, o, e2, _⟩
   · exact h
   rw [e] at e2; cases e2
 rcases h with h | ⟨b, o, e2, _⟩
 · rw [h] at hn; exact absurd rfl hn
 rw [e] at e2
 exact ⟨b, o, Option.some.inj e2⟩
theorem SrcIn.of_els {w : World} {S : Nat → Prop} {A : OA} {c : Nat} {B : List Int} (h : tB.els w S A B) (hS : Lt S w) (hc : B.length ≤ c) (hx : c ≤ maxLen) : SrcIn w A c B :=
 ⟨(RmJn.of_els h hS hc hx).rd, (RmJn.of_els h hS hc hx).nil, (RmJn.of_els h hS hc hx).spot, (RmJn.of_els h hS hc hx).bts, hc⟩
theorem RmJn.els {w : World} {A : OA} {c : Nat} {B : List Int} (h : RmJn w A c B) {S : Nat → Prop} (hS : ∀ q o, A = some ⟨q, o, none⟩ → q < w.heap.size → S q) : tB.els w S A B := by
 rcases h.rd with hh | ⟨q, o, rfl, hq, hh⟩
 · have : B = [] := by cases B with
    | nil => rfl
    | cons _ _ => simp [Ks] at hh
   exact .inl this
 exact kGF (S := Emp) (S' := S) (css := B.map fun b => [.int .u8 b]) (kBW h.bts) inferInstance (fun _ h => h.elim) (hS q o rfl hq) o (fun k u hu => hh k u (by rwa [kBB] at hu))
def memS (x : Rx) (i : Int) (bs : List Int) : Rx := match getI x.mems i with
 | none => x
 | some m => { x with mems := x.mems.set i.toNat ⟨m.lim, (kAr m.b bs (lo 0) (lo 0) (lo bs.length)).1⟩ }
section
variable {w : World} {R : Nat → Prop} {V : Pl} {x : Rx} {cs : LV}
theorem kJJ (h : Both w R V x cs) (a : At) {es : LV} (ha : tAt.rd w (Sd w R) es a) (hc : ∀ k : Int, 1 ≤ k → k ≤ 12 → a.call ≠ k)  :
    Calls prog 11 (kAw V cs es) w (kAZ R V x w) := by
 have HCL : Hid (cs.length = 10) := TyOk.len _ _ _ _ h.rf
 obtain ⟨P1, p1, P2, p2, A1, c1, A2, c2, A3, c3, ms, ns, hes, ml, nl, -, -, hfi, hta, hme, hgl, hvl, hre, hby, hmd, had, -⟩ := kAg ha
 have HES := hid hes
 clear hes
 obtain ⟨R0, HD⟩ := hd h es
 go_enter func11, ntmps11
 go_upto_region 1 with fail
 generalize ((w.alloc (.cells cs.toArray 39)).alloc (.cells es.toArray 76)).alloc (.cells z10 39) = W at *
 obtain ⟨F0, GX, GA, GR, H, RF0, HOW⟩ := HD.all
 have y0 : W.cell? ⟨w.heap.size + 1, 0, none⟩ = some (.int .i64 a.call) := (GA.o.cell 0).trans (by rw [HES.o]; try rfl)
 have dd1 : (a.call == 1) = false := by simpa using hc 1 om om
 have dd2 : (a.call == 2) = false := by simpa using hc 2 om om
 have dd3 : (a.call == 3) = false := by simpa using hc 3 om om
 have dd4 : (a.call == 4) = false := by simpa using hc 4 om om
 have dd5 : (a.call == 5) = false := by simpa using hc 5 om om
 have dd6 : (a.call == 6) = false := by simpa using hc 6 om om
 have dd7 : (a.call == 7) = false := by simpa using hc 7 om om
 have dd8 : (a.call == 8) = false := by simpa using hc 8 om om
 have dd9 : (a.call == 9) = false := by simpa using hc 9 om om
 have dd10 : (a.call == 10) = false := by simpa using hc 10 om om
 have dd11 : (a.call == 11) = false := by simpa using hc 11 om om
 have dd12 : (a.call == 12) = false := by simpa using hc 12 om om
 have F3 := hid (Fr.refl No W)
 have K1 := H
 have GG := hid (Grown.refl W R0 V)
 have RF2 := RF0
 exact yy78
theorem kJv (h : Both w R V x cs) (a : At) {es : LV} (ha : tAt.rd w (Sd w R) es a) (hc : a.call = 12) (hn : x.mems.length ≤ 1000000) (hg : getI x.mems a.addr = none) :
    Calls prog 11 (kAw V cs es) w (kAZ R V x w) := by
 have HCL : Hid (cs.length = 10) := TyOk.len _ _ _ _ h.rf
 obtain ⟨P1, p1, P2, p2, A1, c1, A2, c2, A3, c3, ms, ns, hes, ml, nl, -, -, hfi, hta, hme, hgl, hvl, hre, hby, hmd, had, -⟩ := kAg ha
 have HES := hid hes
 clear hes
 obtain ⟨R0, HD⟩ := hd h es
 go_enter func11, ntmps11
 go_upto_region 1 with fail
 generalize ((w.alloc (.cells cs.toArray 39)).alloc (.cells es.toArray 76)).alloc (.cells z10 39) = W at *
 obtain ⟨F0, GX, GA, GR, H, RF0, HOW⟩ := HD.all
 have y0 : W.cell? ⟨w.heap.size + 1, 0, none⟩ = some (.int .i64 12) := by rw [← hc]; exact (GA.o.cell 0).trans (by rw [HES.o]; try rfl)
 go_upto_region 25 with fail
 clear y0
 have HB : Hid (atD zRm x.mems a.addr = (zRm, false)) := by
  rcases at_cases x.mems a.addr with ⟨k, hk, e⟩ | hi | ⟨hi0, hi⟩
  · rw [e, getI_yes hk] at hg; cases hg
  · exact atD_no (.inl hi)
  exact atD_no (.inr hi)
 have HN : Hid (getI (V.mp.map (·.1)) a.addr = none) := by
  rw [Hid, kAx]
  have := kCQ (l := V.mp) (m := x.mems) H.o.ml a.addr
  rw [hg] at this
  exact yy70
 have y1 := (GA.o.cell 1).trans (by rw [HES.o]; try rfl)
 go_wp2_with fail
 refine (mem_any H.o a.addr hn).mono ?_
 rw [HN.o]
 rintro e w1 ⟨rfl, f⟩
 simp only [ptrV]
 have F1 := hid f
 replace GX := hid (GX.o.fr f id)
 replace GA := hid (GA.o.fr f id)
 replace GR := hid (GR.o.fr f id)
 have RFx := hid (kBX RF0.o f)
 clear f y1
 have y1 := (GA.o.cell 1).trans (by rw [HES.o]; try rfl)
 go_wp2_with (first | refine ldX GX.o HCL.o ?_ | fail)
 have HG := hid (kBd RFx.o (fun _ hk => hk.1) a.addr)
 rw [HB.o] at HG
 refine HG.o.mono ?_
 rintro e w2 ⟨ds, rfl, hr, f⟩
 obtain ⟨B2, d2, rfl, -⟩ := kBR hr
 clear hr HG HB HN
 replace F1 := ftr F1 f
 replace GX := hid (GX.o.fr f id)
 replace GR := hid (GR.o.fr f id)
 clear f y1 GA
 go_upto_region 27 with fail
 have f := (Fr.refl No w2).alloc (.cells #[.int .i64 zRm.lim.min, .int .i64 zRm.lim.max, .bool zRm.lim.has, .slice B2 zRm.b.length d2] 143)
 have F3 := ftr F1 f
 replace GX := hid (GX.o.fr f id)
 replace GR := hid (GR.o.fr f id)
 clear f F1
 generalize w2.alloc (.cells #[.int .i64 zRm.lim.min, .int .i64 zRm.lim.max, .bool zRm.lim.has, .slice B2 zRm.b.length d2] 143) = W3 at *
 have K1 := H
 have GG := hid (Grown.refl W R0 V)
 have RF2 := hid (kBX RF0.o F3.o)
 exact yy78
theorem kIM (h : Both w R V x cs) (a : At) {es : LV} (ha : tAt.rd w (Sd w R) es a) (hc : a.call = 12) (hn : x.mems.length ≤ 1000000) (k : Nat) (hi : a.addr = k) (m : Rm) (hmk : x.mems[k]? = some m) (hb : a.b.length ≤ 1000000) (hm : m.b.length ≤ 65536) :
    Calls prog 11 (kAw V cs es) w (kAZ R V { x with mems := x.mems.set k ⟨m.lim, (kAr m.b a.b (lo 0) (lo 0) (lo a.b.length)).1⟩ } w) := by
 have HCL : Hid (cs.length = 10) := TyOk.len _ _ _ _ h.rf
 obtain ⟨P1, p1, P2, p2, A1, c1, A2, c2, A3, c3, ms, ns, hes, ml, nl, -, -, hfi, hta, hme, hgl, hvl, hre, hby, hmd, had, -⟩ := kAg ha
 have HES := hid hes
 clear hes
 obtain ⟨R0, HD⟩ := hd h es
 have HP0 := hid (HD.upE hby.2.2)
 go_enter func11, ntmps11
 go_upto_region 1 with fail
 generalize ((w.alloc (.cells cs.toArray 39)).alloc (.cells es.toArray 76)).alloc (.cells z10 39) = W at *
 obtain ⟨F0, GX, GA, GR, H, RF0, HOW⟩ := HD.all
 have y0 : W.cell? ⟨w.heap.size + 1, 0, none⟩ = some (.int .i64 12) := by rw [← hc]; exact (GA.o.cell 0).trans (by rw [HES.o]; try rfl)
 go_upto_region 25 with fail
 clear y0
 have hk : k < x.mems.length := (List.getElem?_eq_some_iff.1 hmk).1
 have hme2 : x.mems[k] = m := (List.getElem?_eq_some_iff.1 hmk).2
 have HB : Hid (atD zRm x.mems a.addr = (m, true)) := by rw [hi, ← hme2]; exact atD_yes hk
 obtain ⟨z, hz⟩ := kBi H.o.ml hmk
 have HN : Hid (getI (V.mp.map (·.1)) a.addr = some z.1) := by rw [Hid, kAx, hi]; unfold getI; rw [if_pos (by omega), Int.toNat_natCast, hz]; rfl
 have HZ := hid (And.intro hz hmk)
 have HKK := hid hk
 have HII := hid hi
 clear hz hi hmk hme2
 have y1 := (GA.o.cell 1).trans (by rw [HES.o]; try rfl)
 go_wp2_with fail
 refine (mem_any H.o a.addr hn).mono ?_
 rw [HN.o]
 rintro e w1 ⟨rfl, f⟩
 simp only [ptrV]
 have K0 := hid (H.o.frNo f)
 have FG := hid f
 have RFx := hid (kBX RF0.o f)
 replace HP0 := hid (kBH HP0.o f (fun _ _ m => m.elim) (fun _ _ r => r))
 replace GX := hid (GX.o.fr f id)
 replace GA := hid (GA.o.fr f id)
 replace GR := hid (GR.o.fr f id)
 clear f y1
 have y1 := (GA.o.cell 1).trans (by rw [HES.o]; try rfl)
 go_wp2_with (first | refine ldX GX.o HCL.o ?_ | fail)
 have HG := hid (kBd RFx.o (fun _ hk => hk.1) a.addr)
 rw [HB.o] at HG
 refine HG.o.mono ?_
 rintro e w2 ⟨ds, rfl, hr, f⟩
 obtain ⟨B2, d2, rfl, wl1, wl2, hl2, hl3, em⟩ := kBR hr
 have EM : Hid (tB.els w2 (Sd w2 R0) B2 m.b) := em.more (fun _ hk => hk.up f.size (fun _ _ r => r))
 clear hr HG HB HN em
 replace K0 := hid (K0.o.frNo f)
 replace FG := ftr FG f
 replace RFx := hid (kBX RFx.o f)
 replace HP0 := hid (kBH HP0.o f (fun _ _ m => m.elim) (fun _ _ r => r))
 replace GX := hid (GX.o.fr f id)
 replace GA := hid (GA.o.fr f id)
 replace GR := hid (GR.o.fr f id)
 clear f y1
 go_upto_region 27 with fail
 have f := (Fr.refl No w2).alloc (.cells #[.int .i64 m.lim.min, .int .i64 m.lim.max, .bool m.lim.has, .slice B2 m.b.length d2] 143)
 have GM := hid (Blk.new w2 143 #[.int .i64 m.lim.min, .int .i64 m.lim.max, .bool m.lim.has, .slice B2 m.b.length d2])
 have HQ : Hid (w.heap.size + 2 < w2.heap.size) := ltl HD.GR.lt FG.o.size
 replace K0 := hid (K0.o.frNo f)
 replace FG := ftr FG f
 replace RFx := hid (kBX RFx.o f)
 replace HP0 := hid (kBH HP0.o f (fun _ _ m => m.elim) (fun _ _ r => r))
 replace EM := hid (kBH EM.o f (fun _ _ m => m.elim) (fun _ _ r => r))
 replace GX := hid (GX.o.fr f id)
 replace GA := hid (GA.o.fr f id)
 replace GR := hid (GR.o.fr f id)
 clear f
 generalize w2.alloc (.cells #[.int .i64 m.lim.min, .int .i64 m.lim.max, .bool m.lim.has, .slice B2 m.b.length d2] 143) = W2 at *
 generalize w2.heap.size = q at *
 go_upto_region 31 with fail
 have hw : IntKind.u64.wrap (a.b.length : Int) = a.b.length := IntWalk.u64_in _ om
 have y18 := (GA.o.cell 18).trans (by rw [HES.o]; try rfl)
 have HMO := hid (K0.o.mat k z m HZ.o.1 HZ.o.2)
 go_wp2_with fail
 refine (kLC z.1 z.2.1 z.2.2 m.lim m.b a.b A2 c2 0 0 (a.b.length : Nat) W2 HMO.o (SrcIn.of_els HP0.o (fun _ hk => hk.1) hby.1 hby.2.1) om om om om om).mono ?_
 rintro e w3 ⟨rfl, hM, f⟩
 obtain ⟨k1, g1⟩ := K0.o.setMem (t' := ⟨m.lim, (kAr m.b a.b (lo 0) (lo 0) (lo a.b.length)).1⟩) HZ.o.1 HZ.o.2 (f.mono (fun _ _ h => .inr h)) hM (.inl rfl)
 obtain ⟨V1, hV1⟩ : ∃ V1, V1 = { V with mp := V.mp.set k (z.1, z.2.1, z.2.2) } := ⟨_, rfl⟩
 obtain ⟨R1, hR1⟩ : ∃ R1 : Nat → Prop, R1 = fun b => R0 b ∨ b = z.2.1 := ⟨_, rfl⟩
 rw [← hV1, ← hR1] at k1 g1
 have K1 := hid k1
 have GG := hid ((Grown.of_no FG.o).trans g1)
 have RF := hid (kCK RFx.o K0.o g1)
 replace HP0 := hid (kCO HP0.o K0.o g1)
 replace EM := hid (kCO EM.o K0.o g1)
 have HNO : Hid (∀ b, w.heap.size ≤ b → ¬ V.own b) := HOW
 replace GX := hid (GX.o.fr g1.fr (HOW.o _ nr))
 replace GA := hid (GA.o.fr g1.fr (HOW.o _ om))
 replace GR := hid (GR.o.fr g1.fr (HOW.o _ om))
 replace GM := hid (GM.o.fr g1.fr (HOW.o _ (by have := HQ.o; omega)))
 clear k1 g1 hM f y18 hV1 hR1 RFx K0 HMO HZ
 have y18 := (GA.o.cell 18).trans (by rw [HES.o]; try rfl)
 have m0 := GM.o.cell 0
 have m1 := GM.o.cell 1
 have m2 := GM.o.cell 2
 have m3 := GM.o.cell 3
 go_wp2_with fail
 refine (kHo m.lim B2 A2 d2 c2 m.b a.b 0 0 (a.b.length : Nat) w3 (RmJn.of_els EM.o (fun _ hk => hk.1) hl2 hl3) (SrcIn.of_els HP0.o (fun _ hk => hk.1) hby.1 hby.2.1) om om om om om).mono ?_
 rintro e w4 ⟨E, ec, rfl, hJ, hor, f⟩
 obtain ⟨tr, htr⟩ : ∃ t, t = (kAr m.b a.b (lo 0) (lo 0) (lo a.b.length)).2 := ⟨_, rfl⟩
 have EE : tB.els w4 (Sd w4 R1) E (kAr m.b a.b (lo 0) (lo 0) (lo a.b.length)).1 := by
  rcases hor with ⟨he, hbe⟩ | hfr
  · rw [he, hbe]
    exact kBH EM.o f (fun _ _ m => m.elim) (fun _ _ r => r)
  exact hJ.els (fun q o he hq => kCL K1.o.low ⟨hfr q o he, hq⟩)
 have EN := hid (kGv (a := ⟨m.lim, (kAr m.b a.b (lo 0) (lo 0) (lo a.b.length)).1⟩) wl1 wl2 hJ.cap hJ.max EE)
 replace RF := hid (kBX RF.o f)
 have K2 := hid (K1.o.frNo f)
 have F4 := hid f
 replace GX := hid (GX.o.fr f id)
 replace GA := hid (GA.o.fr f id)
 replace GR := hid (GR.o.fr f id)
 clear f EE hJ hor EM HP0 GM y18 m0 m1 m2 m3 htr
 go_upto_region 33 with fail
 have f := (Fr.refl No w4).alloc (.cells #[.int .i64 m.lim.min, .int .i64 m.lim.max, .bool m.lim.has, .slice E (kAr m.b a.b (lo 0) (lo 0) (lo a.b.length)).1.length ec] 143)
 have G4 := hid (Blk.new w4 143 #[.int .i64 m.lim.min, .int .i64 m.lim.max, .bool m.lim.has, .slice E (kAr m.b a.b (lo 0) (lo 0) (lo a.b.length)).1.length ec])
 replace EN := hid (kBX EN.o f)
 replace RF := hid (kBX RF.o f)
 replace K2 := hid (K2.o.frNo f)
 replace F4 := ftr F4 f
 replace GX := hid (GX.o.fr f id)
 replace GA := hid (GA.o.fr f id)
 replace GR := hid (GR.o.fr f id)
 clear f
 generalize w4.alloc (.cells #[.int .i64 m.lim.min, .int .i64 m.lim.max, .bool m.lim.has, .slice E (kAr m.b a.b (lo 0) (lo 0) (lo a.b.length)).1.length ec] 143) = W5 at *
 generalize w4.heap.size = q4 at *
 have y1 : W5.cell? ⟨w.heap.size + 1, 1, none⟩ = some (.int .i64 (k : Nat)) := by rw [← HII.o]; exact (GA.o.cell 1).trans (by rw [HES.o]; try rfl)
 have m0 := G4.o.cell 0
 have m1 := G4.o.cell 1
 have m2 := G4.o.cell 2
 have m3 := G4.o.cell 3
 go_wp2_with (first | refine ldX GX.o HCL.o ?_ | fail)
 refine (kEu RF.o (fun _ hk => hk.1) ⟨m.lim, (kAr m.b a.b (lo 0) (lo 0) (lo a.b.length)).1⟩ E ec k HKK.o EN.o hn).mono ?_
 rintro e W3 ⟨cs2, rfl, hr2, f2⟩
 clear y1 m0 m1 m2 m3 G4
 have RF2 := hid (rd_fresh2 K2.o.low f2 hr2)
 obtain ⟨l2, o2⟩ := rx_one RF2.o
 have HL2 := hid l2
 have HO2 := hid o2
 have F3 := ftr F4 f2
 replace GR := hid (GR.o.fr f2 id)
 clear hr2 f2 l2 o2 GX GA RF RF0
 go_wp2_with (first | refine stX GR.o rfl HL2.o HO2.o ?_ | fail)
 exact HD.fin GG.o K1.o F3.o RF2.o GR.o
end
end Go.Proofs.YtdckghiipijobaaGreat
