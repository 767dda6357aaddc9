/- Part 9 of the proof: lemmas and contracts of functions. No condition. -/
import Derived.Test.YtdckghiipijobaaGreatQ5
import Derived.Test.YtdckghiipijobaaGreatQ2
import Derived.Test.YtdckghiipijobaaGreatQ1
import Derived.Test.YtdckghiipijobaaGreatQ8
set_option maxRecDepth 100000
set_option maxHeartbeats 12800000
set_option linter.unusedVariables false
set_option linter.unusedSimpArgs false
set_option linter.unusedSectionVars false
namespace Go.Proofs.YtdckghiipijobaaGreat
open Go.RowKit Go.Proofs.Tryz
theorem kAA {α : Type} {t : Ty α} [TyOk t] [TyMore t] {w w' : World} {S S' : Nat → Prop} {A : OA} {xs : List α} (h : t.els w S A xs) (f : Fr No w w') (hS : Lt S w) (hB : ∀ k, S k → S' k) : t.els w' S' A xs :=
 (h.fr f (fun k hk => ⟨hS k hk, fun x => x⟩)).more hB
theorem kAH {α : Type} {t : Ty α} [ho : TyOk t] [hm : TyMore t] {w w' : World} {S S' : Nat → Prop} {cs : LV} {x : α} (h : t.rd w S cs x) (f : Fr No w w') (hS : Lt S w) (hB : ∀ k, S k → S' k) : t.rd w' S' cs x :=
 hm.more _ _ _ _ _ (ho.keep _ _ _ _ _ h (fun p hp => f.cell (hS _ hp) id)) hB
theorem kAv {P : Program} {fn : Func} {p : Tmp} {ty : TypeId} (h : fn.results = #[.cell p ty]) (tmps : Array Value) (w : World) (g : Nat) (ds : LV) (d : TypeDesc)
    (hp : tmps.getD p undef = .pointer (some ⟨g, 0, none⟩)) (hr : w.rangeAt g 0 ds) (hu : P.underlying ty = some d) (hd : d.isRow = true) (hi : (P.info? ty).map (·.size) = some ds.length) :
    (results fn tmps).run P w = .ok (.agg ds.toArray) w := by
 have hp' : tmps[p]?.getD undef = .pointer (some ⟨g, 0, none⟩) := by simpa using hp
 exact yy97
def RfTo (S : Nat → Prop) (x' : Rx) (v : Value) (w : World) (e : Ending) (w' : World) : Prop :=
 ∃ cs, e = .returned (.tuple #[.agg cs.toArray, v]) ∧ tRx.rd w' (fun k => S k ∨ Nw w w' k) cs x' ∧ Fr No w w'
def kCA (S : Nat → Prop) (x' : Rx) (w : World) (e : Ending) (w' : World) : Prop :=
 ∃ cs, e = .returned (.agg cs.toArray) ∧ tRx.rd w' (fun k => S k ∨ Nw w w' k) cs x' ∧ Fr No w w'
section
variable {w : World} {S : Nat → Prop} {x : Rx} {A0 A1 A2 A3 A4 A5 A6 A7 A8 A9 : OA} {c0 c1 c2 c3 c4 c5 c6 c7 c8 c9 : Nat}
abbrev q9x1 (a0 a1 a2 a3 a4 a5 a6 a7 a8 a9 : Option Addr) (a10 : Rx) (a11 a12 a13 a14 a15 a16 a17 a18 a19 a20 : Nat) : List Value := [.slice a0 a10.hosts.length a11, .slice a1 a10.counts.length a12, .slice a2 a10.calls.length a13, .slice a3 a10.funcs.length a14, .slice a4 a10.tabs.length a15, .slice a5 a10.mems.length a16, .slice a6 a10.globs.length a17, .slice a7 a10.elems.length a18, .slice a8 a10.datas.length a19, .slice a9 a10.insts.length a20]
theorem kAI (h : tRx.rd w S (q9x1 A0 A1 A2 A3 A4 A5 A6 A7 A8 A9 x c0 c1 c2 c3 c4 c5 c6 c7 c8 c9) x) : x.hosts.length ≤ c0 ∧ c0 ≤ maxLen ∧ tHo.els w S A0 x.hosts := by
 obtain ⟨B0, d0, B1, d1, B2, d2, B3, d3, B4, d4, B5, d5, B6, d6, B7, d7, B8, d8, B9, d9, e, h0, k0, e0, h1, k1, e1, h2, k2, e2, h3, k3, e3, h4, k4, e4, h5, k5, e5, h6, k6, e6, h7, k7, e7, h8, k8, e8, h9, k9, e9⟩ := kAU h
 simp only [List.cons.injEq, Value.slice.injEq, true_and, and_true] at e
 obtain ⟨⟨rfl, rfl⟩, ⟨rfl, rfl⟩, ⟨rfl, rfl⟩, ⟨rfl, rfl⟩, ⟨rfl, rfl⟩, ⟨rfl, rfl⟩, ⟨rfl, rfl⟩, ⟨rfl, rfl⟩, ⟨rfl, rfl⟩, ⟨rfl, rfl⟩⟩ := e
 exact ⟨h0, k0, e0⟩
theorem kAJ (h : tRx.rd w S (q9x1 A0 A1 A2 A3 A4 A5 A6 A7 A8 A9 x c0 c1 c2 c3 c4 c5 c6 c7 c8 c9) x) : x.counts.length ≤ c1 ∧ c1 ≤ maxLen ∧ tI.els w S A1 x.counts := by
 obtain ⟨B0, d0, B1, d1, B2, d2, B3, d3, B4, d4, B5, d5, B6, d6, B7, d7, B8, d8, B9, d9, e, h0, k0, e0, h1, k1, e1, h2, k2, e2, h3, k3, e3, h4, k4, e4, h5, k5, e5, h6, k6, e6, h7, k7, e7, h8, k8, e8, h9, k9, e9⟩ := kAU h
 simp only [List.cons.injEq, Value.slice.injEq, true_and, and_true] at e
 obtain ⟨⟨rfl, rfl⟩, ⟨rfl, rfl⟩, ⟨rfl, rfl⟩, ⟨rfl, rfl⟩, ⟨rfl, rfl⟩, ⟨rfl, rfl⟩, ⟨rfl, rfl⟩, ⟨rfl, rfl⟩, ⟨rfl, rfl⟩, ⟨rfl, rfl⟩⟩ := e
 exact ⟨h1, k1, e1⟩
theorem kAQ (h : tRx.rd w S (q9x1 A0 A1 A2 A3 A4 A5 A6 A7 A8 A9 x c0 c1 c2 c3 c4 c5 c6 c7 c8 c9) x) : x.calls.length ≤ c2 ∧ c2 ≤ maxLen ∧ tCa.els w S A2 x.calls := by
 obtain ⟨B0, d0, B1, d1, B2, d2, B3, d3, B4, d4, B5, d5, B6, d6, B7, d7, B8, d8, B9, d9, e, h0, k0, e0, h1, k1, e1, h2, k2, e2, h3, k3, e3, h4, k4, e4, h5, k5, e5, h6, k6, e6, h7, k7, e7, h8, k8, e8, h9, k9, e9⟩ := kAU h
 simp only [List.cons.injEq, Value.slice.injEq, true_and, and_true] at e
 obtain ⟨⟨rfl, rfl⟩, ⟨rfl, rfl⟩, ⟨rfl, rfl⟩, ⟨rfl, rfl⟩, ⟨rfl, rfl⟩, ⟨rfl, rfl⟩, ⟨rfl, rfl⟩, ⟨rfl, rfl⟩, ⟨rfl, rfl⟩, ⟨rfl, rfl⟩⟩ := e
 exact ⟨h2, k2, e2⟩
theorem kAN (h : tRx.rd w S (q9x1 A0 A1 A2 A3 A4 A5 A6 A7 A8 A9 x c0 c1 c2 c3 c4 c5 c6 c7 c8 c9) x) : x.funcs.length ≤ c3 ∧ c3 ≤ maxLen ∧ tFi.els w S A3 x.funcs := by
 obtain ⟨B0, d0, B1, d1, B2, d2, B3, d3, B4, d4, B5, d5, B6, d6, B7, d7, B8, d8, B9, d9, e, h0, k0, e0, h1, k1, e1, h2, k2, e2, h3, k3, e3, h4, k4, e4, h5, k5, e5, h6, k6, e6, h7, k7, e7, h8, k8, e8, h9, k9, e9⟩ := kAU h
 simp only [List.cons.injEq, Value.slice.injEq, true_and, and_true] at e
 obtain ⟨⟨rfl, rfl⟩, ⟨rfl, rfl⟩, ⟨rfl, rfl⟩, ⟨rfl, rfl⟩, ⟨rfl, rfl⟩, ⟨rfl, rfl⟩, ⟨rfl, rfl⟩, ⟨rfl, rfl⟩, ⟨rfl, rfl⟩, ⟨rfl, rfl⟩⟩ := e
 exact ⟨h3, k3, e3⟩
theorem kAR (h : tRx.rd w S (q9x1 A0 A1 A2 A3 A4 A5 A6 A7 A8 A9 x c0 c1 c2 c3 c4 c5 c6 c7 c8 c9) x) : x.tabs.length ≤ c4 ∧ c4 ≤ maxLen ∧ tRt.els w S A4 x.tabs := by
 obtain ⟨B0, d0, B1, d1, B2, d2, B3, d3, B4, d4, B5, d5, B6, d6, B7, d7, B8, d8, B9, d9, e, h0, k0, e0, h1, k1, e1, h2, k2, e2, h3, k3, e3, h4, k4, e4, h5, k5, e5, h6, k6, e6, h7, k7, e7, h8, k8, e8, h9, k9, e9⟩ := kAU h
 simp only [List.cons.injEq, Value.slice.injEq, true_and, and_true] at e
 obtain ⟨⟨rfl, rfl⟩, ⟨rfl, rfl⟩, ⟨rfl, rfl⟩, ⟨rfl, rfl⟩, ⟨rfl, rfl⟩, ⟨rfl, rfl⟩, ⟨rfl, rfl⟩, ⟨rfl, rfl⟩, ⟨rfl, rfl⟩, ⟨rfl, rfl⟩⟩ := e
 exact ⟨h4, k4, e4⟩
theorem kAS (h : tRx.rd w S (q9x1 A0 A1 A2 A3 A4 A5 A6 A7 A8 A9 x c0 c1 c2 c3 c4 c5 c6 c7 c8 c9) x) : x.mems.length ≤ c5 ∧ c5 ≤ maxLen ∧ tRm.els w S A5 x.mems := by
 obtain ⟨B0, d0, B1, d1, B2, d2, B3, d3, B4, d4, B5, d5, B6, d6, B7, d7, B8, d8, B9, d9, e, h0, k0, e0, h1, k1, e1, h2, k2, e2, h3, k3, e3, h4, k4, e4, h5, k5, e5, h6, k6, e6, h7, k7, e7, h8, k8, e8, h9, k9, e9⟩ := kAU h
 simp only [List.cons.injEq, Value.slice.injEq, true_and, and_true] at e
 obtain ⟨⟨rfl, rfl⟩, ⟨rfl, rfl⟩, ⟨rfl, rfl⟩, ⟨rfl, rfl⟩, ⟨rfl, rfl⟩, ⟨rfl, rfl⟩, ⟨rfl, rfl⟩, ⟨rfl, rfl⟩, ⟨rfl, rfl⟩, ⟨rfl, rfl⟩⟩ := e
 exact ⟨h5, k5, e5⟩
theorem kAM (h : tRx.rd w S (q9x1 A0 A1 A2 A3 A4 A5 A6 A7 A8 A9 x c0 c1 c2 c3 c4 c5 c6 c7 c8 c9) x) : x.globs.length ≤ c6 ∧ c6 ≤ maxLen ∧ tRg.els w S A6 x.globs := by
 obtain ⟨B0, d0, B1, d1, B2, d2, B3, d3, B4, d4, B5, d5, B6, d6, B7, d7, B8, d8, B9, d9, e, h0, k0, e0, h1, k1, e1, h2, k2, e2, h3, k3, e3, h4, k4, e4, h5, k5, e5, h6, k6, e6, h7, k7, e7, h8, k8, e8, h9, k9, e9⟩ := kAU h
 simp only [List.cons.injEq, Value.slice.injEq, true_and, and_true] at e
 obtain ⟨⟨rfl, rfl⟩, ⟨rfl, rfl⟩, ⟨rfl, rfl⟩, ⟨rfl, rfl⟩, ⟨rfl, rfl⟩, ⟨rfl, rfl⟩, ⟨rfl, rfl⟩, ⟨rfl, rfl⟩, ⟨rfl, rfl⟩, ⟨rfl, rfl⟩⟩ := e
 exact ⟨h6, k6, e6⟩
theorem kAO (h : tRx.rd w S (q9x1 A0 A1 A2 A3 A4 A5 A6 A7 A8 A9 x c0 c1 c2 c3 c4 c5 c6 c7 c8 c9) x) : x.elems.length ≤ c7 ∧ c7 ≤ maxLen ∧ tRs.els w S A7 x.elems := by
 obtain ⟨B0, d0, B1, d1, B2, d2, B3, d3, B4, d4, B5, d5, B6, d6, B7, d7, B8, d8, B9, d9, e, h0, k0, e0, h1, k1, e1, h2, k2, e2, h3, k3, e3, h4, k4, e4, h5, k5, e5, h6, k6, e6, h7, k7, e7, h8, k8, e8, h9, k9, e9⟩ := kAU h
 simp only [List.cons.injEq, Value.slice.injEq, true_and, and_true] at e
 obtain ⟨⟨rfl, rfl⟩, ⟨rfl, rfl⟩, ⟨rfl, rfl⟩, ⟨rfl, rfl⟩, ⟨rfl, rfl⟩, ⟨rfl, rfl⟩, ⟨rfl, rfl⟩, ⟨rfl, rfl⟩, ⟨rfl, rfl⟩, ⟨rfl, rfl⟩⟩ := e
 exact ⟨h7, k7, e7⟩
theorem kAP (h : tRx.rd w S (q9x1 A0 A1 A2 A3 A4 A5 A6 A7 A8 A9 x c0 c1 c2 c3 c4 c5 c6 c7 c8 c9) x) : x.datas.length ≤ c8 ∧ c8 ≤ maxLen ∧ tRb.els w S A8 x.datas := by
 obtain ⟨B0, d0, B1, d1, B2, d2, B3, d3, B4, d4, B5, d5, B6, d6, B7, d7, B8, d8, B9, d9, e, h0, k0, e0, h1, k1, e1, h2, k2, e2, h3, k3, e3, h4, k4, e4, h5, k5, e5, h6, k6, e6, h7, k7, e7, h8, k8, e8, h9, k9, e9⟩ := kAU h
 simp only [List.cons.injEq, Value.slice.injEq, true_and, and_true] at e
 obtain ⟨⟨rfl, rfl⟩, ⟨rfl, rfl⟩, ⟨rfl, rfl⟩, ⟨rfl, rfl⟩, ⟨rfl, rfl⟩, ⟨rfl, rfl⟩, ⟨rfl, rfl⟩, ⟨rfl, rfl⟩, ⟨rfl, rfl⟩, ⟨rfl, rfl⟩⟩ := e
 exact ⟨h8, k8, e8⟩
theorem kAL (h : tRx.rd w S (q9x1 A0 A1 A2 A3 A4 A5 A6 A7 A8 A9 x c0 c1 c2 c3 c4 c5 c6 c7 c8 c9) x) : x.insts.length ≤ c9 ∧ c9 ≤ maxLen ∧ tRi.els w S A9 x.insts := by
 obtain ⟨B0, d0, B1, d1, B2, d2, B3, d3, B4, d4, B5, d5, B6, d6, B7, d7, B8, d8, B9, d9, e, h0, k0, e0, h1, k1, e1, h2, k2, e2, h3, k3, e3, h4, k4, e4, h5, k5, e5, h6, k6, e6, h7, k7, e7, h8, k8, e8, h9, k9, e9⟩ := kAU h
 simp only [List.cons.injEq, Value.slice.injEq, true_and, and_true] at e
 obtain ⟨⟨rfl, rfl⟩, ⟨rfl, rfl⟩, ⟨rfl, rfl⟩, ⟨rfl, rfl⟩, ⟨rfl, rfl⟩, ⟨rfl, rfl⟩, ⟨rfl, rfl⟩, ⟨rfl, rfl⟩, ⟨rfl, rfl⟩, ⟨rfl, rfl⟩⟩ := e
 exact ⟨h9, k9, e9⟩
theorem kGk {w' : World} {S' : Nat → Prop} {A : OA} {c : Nat} {ys : List Int} (h : tRx.rd w S (q9x1 A0 A1 A2 A3 A4 A5 A6 A7 A8 A9 x c0 c1 c2 c3 c4 c5 c6 c7 c8 c9) x) (f : Fr No w w') (hS : Lt S w) (hB : ∀ k, S k → S' k) (h1 : ys.length ≤ c) (h2 : c ≤ maxLen) (h3 : tI.els w' S' A ys) :
    tRx.rd w' S' [.slice A0 x.hosts.length c0, .slice A ys.length c, .slice A2 x.calls.length c2, .slice A3 x.funcs.length c3, .slice A4 x.tabs.length c4, .slice A5 x.mems.length c5, .slice A6 x.globs.length c6, .slice A7 x.elems.length c7, .slice A8 x.datas.length c8, .slice A9 x.insts.length c9] { x with counts := ys } :=
 kCZ (a := { x with counts := ys }) (kAI h).1 (kAI h).2.1 (kAA (kAI h).2.2 f hS hB) h1 h2 h3 (kAQ h).1 (kAQ h).2.1 (kAA (kAQ h).2.2 f hS hB) (kAN h).1 (kAN h).2.1 (kAA (kAN h).2.2 f hS hB) (kAR h).1 (kAR h).2.1 (kAA (kAR h).2.2 f hS hB) (kAS h).1 (kAS h).2.1 (kAA (kAS h).2.2 f hS hB) (kAM h).1 (kAM h).2.1 (kAA (kAM h).2.2 f hS hB) (kAO h).1 (kAO h).2.1 (kAA (kAO h).2.2 f hS hB) (kAP h).1 (kAP h).2.1 (kAA (kAP h).2.2 f hS hB) (kAL h).1 (kAL h).2.1 (kAA (kAL h).2.2 f hS hB)
theorem kHz {w' : World} {S' : Nat → Prop} {A : OA} {c : Nat} {ys : List Ca} (h : tRx.rd w S (q9x1 A0 A1 A2 A3 A4 A5 A6 A7 A8 A9 x c0 c1 c2 c3 c4 c5 c6 c7 c8 c9) x) (f : Fr No w w') (hS : Lt S w) (hB : ∀ k, S k → S' k) (h1 : ys.length ≤ c) (h2 : c ≤ maxLen) (h3 : tCa.els w' S' A ys) :
    tRx.rd w' S' [.slice A0 x.hosts.length c0, .slice A1 x.counts.length c1, .slice A ys.length c, .slice A3 x.funcs.length c3, .slice A4 x.tabs.length c4, .slice A5 x.mems.length c5, .slice A6 x.globs.length c6, .slice A7 x.elems.length c7, .slice A8 x.datas.length c8, .slice A9 x.insts.length c9] { x with calls := ys } :=
 kCZ (a := { x with calls := ys }) (kAI h).1 (kAI h).2.1 (kAA (kAI h).2.2 f hS hB) (kAJ h).1 (kAJ h).2.1 (kAA (kAJ h).2.2 f hS hB) h1 h2 h3 (kAN h).1 (kAN h).2.1 (kAA (kAN h).2.2 f hS hB) (kAR h).1 (kAR h).2.1 (kAA (kAR h).2.2 f hS hB) (kAS h).1 (kAS h).2.1 (kAA (kAS h).2.2 f hS hB) (kAM h).1 (kAM h).2.1 (kAA (kAM h).2.2 f hS hB) (kAO h).1 (kAO h).2.1 (kAA (kAO h).2.2 f hS hB) (kAP h).1 (kAP h).2.1 (kAA (kAP h).2.2 f hS hB) (kAL h).1 (kAL h).2.1 (kAA (kAL h).2.2 f hS hB)
theorem kHw {w' : World} {S' : Nat → Prop} {A : OA} {c : Nat} {ys : List Fi} (h : tRx.rd w S (q9x1 A0 A1 A2 A3 A4 A5 A6 A7 A8 A9 x c0 c1 c2 c3 c4 c5 c6 c7 c8 c9) x) (f : Fr No w w') (hS : Lt S w) (hB : ∀ k, S k → S' k) (h1 : ys.length ≤ c) (h2 : c ≤ maxLen) (h3 : tFi.els w' S' A ys) :
    tRx.rd w' S' [.slice A0 x.hosts.length c0, .slice A1 x.counts.length c1, .slice A2 x.calls.length c2, .slice A ys.length c, .slice A4 x.tabs.length c4, .slice A5 x.mems.length c5, .slice A6 x.globs.length c6, .slice A7 x.elems.length c7, .slice A8 x.datas.length c8, .slice A9 x.insts.length c9] { x with funcs := ys } :=
 kCZ (a := { x with funcs := ys }) (kAI h).1 (kAI h).2.1 (kAA (kAI h).2.2 f hS hB) (kAJ h).1 (kAJ h).2.1 (kAA (kAJ h).2.2 f hS hB) (kAQ h).1 (kAQ h).2.1 (kAA (kAQ h).2.2 f hS hB) h1 h2 h3 (kAR h).1 (kAR h).2.1 (kAA (kAR h).2.2 f hS hB) (kAS h).1 (kAS h).2.1 (kAA (kAS h).2.2 f hS hB) (kAM h).1 (kAM h).2.1 (kAA (kAM h).2.2 f hS hB) (kAO h).1 (kAO h).2.1 (kAA (kAO h).2.2 f hS hB) (kAP h).1 (kAP h).2.1 (kAA (kAP h).2.2 f hS hB) (kAL h).1 (kAL h).2.1 (kAA (kAL h).2.2 f hS hB)
theorem kIv {w' : World} {S' : Nat → Prop} {A : OA} {c : Nat} {ys : List Rt} (h : tRx.rd w S (q9x1 A0 A1 A2 A3 A4 A5 A6 A7 A8 A9 x c0 c1 c2 c3 c4 c5 c6 c7 c8 c9) x) (f : Fr No w w') (hS : Lt S w) (hB : ∀ k, S k → S' k) (h1 : ys.length ≤ c) (h2 : c ≤ maxLen) (h3 : tRt.els w' S' A ys) :
    tRx.rd w' S' [.slice A0 x.hosts.length c0, .slice A1 x.counts.length c1, .slice A2 x.calls.length c2, .slice A3 x.funcs.length c3, .slice A ys.length c, .slice A5 x.mems.length c5, .slice A6 x.globs.length c6, .slice A7 x.elems.length c7, .slice A8 x.datas.length c8, .slice A9 x.insts.length c9] { x with tabs := ys } :=
 kCZ (a := { x with tabs := ys }) (kAI h).1 (kAI h).2.1 (kAA (kAI h).2.2 f hS hB) (kAJ h).1 (kAJ h).2.1 (kAA (kAJ h).2.2 f hS hB) (kAQ h).1 (kAQ h).2.1 (kAA (kAQ h).2.2 f hS hB) (kAN h).1 (kAN h).2.1 (kAA (kAN h).2.2 f hS hB) h1 h2 h3 (kAS h).1 (kAS h).2.1 (kAA (kAS h).2.2 f hS hB) (kAM h).1 (kAM h).2.1 (kAA (kAM h).2.2 f hS hB) (kAO h).1 (kAO h).2.1 (kAA (kAO h).2.2 f hS hB) (kAP h).1 (kAP h).2.1 (kAA (kAP h).2.2 f hS hB) (kAL h).1 (kAL h).2.1 (kAA (kAL h).2.2 f hS hB)
theorem kIw {w' : World} {S' : Nat → Prop} {A : OA} {c : Nat} {ys : List Rm} (h : tRx.rd w S (q9x1 A0 A1 A2 A3 A4 A5 A6 A7 A8 A9 x c0 c1 c2 c3 c4 c5 c6 c7 c8 c9) x) (f : Fr No w w') (hS : Lt S w) (hB : ∀ k, S k → S' k) (h1 : ys.length ≤ c) (h2 : c ≤ maxLen) (h3 : tRm.els w' S' A ys) :
    tRx.rd w' S' [.slice A0 x.hosts.length c0, .slice A1 x.counts.length c1, .slice A2 x.calls.length c2, .slice A3 x.funcs.length c3, .slice A4 x.tabs.length c4, .slice A ys.length c, .slice A6 x.globs.length c6, .slice A7 x.elems.length c7, .slice A8 x.datas.length c8, .slice A9 x.insts.length c9] { x with mems := ys } :=
 kCZ (a := { x with mems := ys }) (kAI h).1 (kAI h).2.1 (kAA (kAI h).2.2 f hS hB) (kAJ h).1 (kAJ h).2.1 (kAA (kAJ h).2.2 f hS hB) (kAQ h).1 (kAQ h).2.1 (kAA (kAQ h).2.2 f hS hB) (kAN h).1 (kAN h).2.1 (kAA (kAN h).2.2 f hS hB) (kAR h).1 (kAR h).2.1 (kAA (kAR h).2.2 f hS hB) h1 h2 h3 (kAM h).1 (kAM h).2.1 (kAA (kAM h).2.2 f hS hB) (kAO h).1 (kAO h).2.1 (kAA (kAO h).2.2 f hS hB) (kAP h).1 (kAP h).2.1 (kAA (kAP h).2.2 f hS hB) (kAL h).1 (kAL h).2.1 (kAA (kAL h).2.2 f hS hB)
theorem kHv {w' : World} {S' : Nat → Prop} {A : OA} {c : Nat} {ys : List Rg} (h : tRx.rd w S (q9x1 A0 A1 A2 A3 A4 A5 A6 A7 A8 A9 x c0 c1 c2 c3 c4 c5 c6 c7 c8 c9) x) (f : Fr No w w') (hS : Lt S w) (hB : ∀ k, S k → S' k) (h1 : ys.length ≤ c) (h2 : c ≤ maxLen) (h3 : tRg.els w' S' A ys) :
    tRx.rd w' S' [.slice A0 x.hosts.length c0, .slice A1 x.counts.length c1, .slice A2 x.calls.length c2, .slice A3 x.funcs.length c3, .slice A4 x.tabs.length c4, .slice A5 x.mems.length c5, .slice A ys.length c, .slice A7 x.elems.length c7, .slice A8 x.datas.length c8, .slice A9 x.insts.length c9] { x with globs := ys } :=
 kCZ (a := { x with globs := ys }) (kAI h).1 (kAI h).2.1 (kAA (kAI h).2.2 f hS hB) (kAJ h).1 (kAJ h).2.1 (kAA (kAJ h).2.2 f hS hB) (kAQ h).1 (kAQ h).2.1 (kAA (kAQ h).2.2 f hS hB) (kAN h).1 (kAN h).2.1 (kAA (kAN h).2.2 f hS hB) (kAR h).1 (kAR h).2.1 (kAA (kAR h).2.2 f hS hB) (kAS h).1 (kAS h).2.1 (kAA (kAS h).2.2 f hS hB) h1 h2 h3 (kAO h).1 (kAO h).2.1 (kAA (kAO h).2.2 f hS hB) (kAP h).1 (kAP h).2.1 (kAA (kAP h).2.2 f hS hB) (kAL h).1 (kAL h).2.1 (kAA (kAL h).2.2 f hS hB)
theorem kHx {w' : World} {S' : Nat → Prop} {A : OA} {c : Nat} {ys : List Rs} (h : tRx.rd w S (q9x1 A0 A1 A2 A3 A4 A5 A6 A7 A8 A9 x c0 c1 c2 c3 c4 c5 c6 c7 c8 c9) x) (f : Fr No w w') (hS : Lt S w) (hB : ∀ k, S k → S' k) (h1 : ys.length ≤ c) (h2 : c ≤ maxLen) (h3 : tRs.els w' S' A ys) :
    tRx.rd w' S' [.slice A0 x.hosts.length c0, .slice A1 x.counts.length c1, .slice A2 x.calls.length c2, .slice A3 x.funcs.length c3, .slice A4 x.tabs.length c4, .slice A5 x.mems.length c5, .slice A6 x.globs.length c6, .slice A ys.length c, .slice A8 x.datas.length c8, .slice A9 x.insts.length c9] { x with elems := ys } :=
 kCZ (a := { x with elems := ys }) (kAI h).1 (kAI h).2.1 (kAA (kAI h).2.2 f hS hB) (kAJ h).1 (kAJ h).2.1 (kAA (kAJ h).2.2 f hS hB) (kAQ h).1 (kAQ h).2.1 (kAA (kAQ h).2.2 f hS hB) (kAN h).1 (kAN h).2.1 (kAA (kAN h).2.2 f hS hB) (kAR h).1 (kAR h).2.1 (kAA (kAR h).2.2 f hS hB) (kAS h).1 (kAS h).2.1 (kAA (kAS h).2.2 f hS hB) (kAM h).1 (kAM h).2.1 (kAA (kAM h).2.2 f hS hB) h1 h2 h3 (kAP h).1 (kAP h).2.1 (kAA (kAP h).2.2 f hS hB) (kAL h).1 (kAL h).2.1 (kAA (kAL h).2.2 f hS hB)
theorem kHy {w' : World} {S' : Nat → Prop} {A : OA} {c : Nat} {ys : List Rb} (h : tRx.rd w S (q9x1 A0 A1 A2 A3 A4 A5 A6 A7 A8 A9 x c0 c1 c2 c3 c4 c5 c6 c7 c8 c9) x) (f : Fr No w w') (hS : Lt S w) (hB : ∀ k, S k → S' k) (h1 : ys.length ≤ c) (h2 : c ≤ maxLen) (h3 : tRb.els w' S' A ys) :
    tRx.rd w' S' [.slice A0 x.hosts.length c0, .slice A1 x.counts.length c1, .slice A2 x.calls.length c2, .slice A3 x.funcs.length c3, .slice A4 x.tabs.length c4, .slice A5 x.mems.length c5, .slice A6 x.globs.length c6, .slice A7 x.elems.length c7, .slice A ys.length c, .slice A9 x.insts.length c9] { x with datas := ys } :=
 kCZ (a := { x with datas := ys }) (kAI h).1 (kAI h).2.1 (kAA (kAI h).2.2 f hS hB) (kAJ h).1 (kAJ h).2.1 (kAA (kAJ h).2.2 f hS hB) (kAQ h).1 (kAQ h).2.1 (kAA (kAQ h).2.2 f hS hB) (kAN h).1 (kAN h).2.1 (kAA (kAN h).2.2 f hS hB) (kAR h).1 (kAR h).2.1 (kAA (kAR h).2.2 f hS hB) (kAS h).1 (kAS h).2.1 (kAA (kAS h).2.2 f hS hB) (kAM h).1 (kAM h).2.1 (kAA (kAM h).2.2 f hS hB) (kAO h).1 (kAO h).2.1 (kAA (kAO h).2.2 f hS hB) h1 h2 h3 (kAL h).1 (kAL h).2.1 (kAA (kAL h).2.2 f hS hB)
theorem kHu {w' : World} {S' : Nat → Prop} {A : OA} {c : Nat} {ys : List Ri} (h : tRx.rd w S (q9x1 A0 A1 A2 A3 A4 A5 A6 A7 A8 A9 x c0 c1 c2 c3 c4 c5 c6 c7 c8 c9) x) (f : Fr No w w') (hS : Lt S w) (hB : ∀ k, S k → S' k) (h1 : ys.length ≤ c) (h2 : c ≤ maxLen) (h3 : tRi.els w' S' A ys) :
    tRx.rd w' S' [.slice A0 x.hosts.length c0, .slice A1 x.counts.length c1, .slice A2 x.calls.length c2, .slice A3 x.funcs.length c3, .slice A4 x.tabs.length c4, .slice A5 x.mems.length c5, .slice A6 x.globs.length c6, .slice A7 x.elems.length c7, .slice A8 x.datas.length c8, .slice A ys.length c] { x with insts := ys } :=
 kCZ (a := { x with insts := ys }) (kAI h).1 (kAI h).2.1 (kAA (kAI h).2.2 f hS hB) (kAJ h).1 (kAJ h).2.1 (kAA (kAJ h).2.2 f hS hB) (kAQ h).1 (kAQ h).2.1 (kAA (kAQ h).2.2 f hS hB) (kAN h).1 (kAN h).2.1 (kAA (kAN h).2.2 f hS hB) (kAR h).1 (kAR h).2.1 (kAA (kAR h).2.2 f hS hB) (kAS h).1 (kAS h).2.1 (kAA (kAS h).2.2 f hS hB) (kAM h).1 (kAM h).2.1 (kAA (kAM h).2.2 f hS hB) (kAO h).1 (kAO h).2.1 (kAA (kAO h).2.2 f hS hB) (kAP h).1 (kAP h).2.1 (kAA (kAP h).2.2 f hS hB) h1 h2 h3
end
theorem kEC {w : World} {S : Nat → Prop} {x : Rx} {cs : LV} (h : tRx.rd w S cs x) : ∃ A c, cs[0]? = some (.slice A x.hosts.length c) ∧ x.hosts.length ≤ c ∧ c ≤ maxLen ∧ tHo.els w S A x.hosts := by
 obtain ⟨A0, c0, A1, c1, A2, c2, A3, c3, A4, c4, A5, c5, A6, c6, A7, c7, A8, c8, A9, c9, rfl, -⟩ := kAU h
 exact ⟨A0, c0, rfl, kAI h⟩
theorem kKW {w : World} {S : Nat → Prop} {x : Rx} {cs : LV} (h : tRx.rd w S cs x) : ∃ A c, cs[3]? = some (.slice A x.funcs.length c) ∧ x.funcs.length ≤ c ∧ c ≤ maxLen ∧ tFi.els w S A x.funcs := by
 obtain ⟨A0, c0, A1, c1, A2, c2, A3, c3, A4, c4, A5, c5, A6, c6, A7, c7, A8, c8, A9, c9, rfl, -⟩ := kAU h
 exact ⟨A3, c3, rfl, kAN h⟩
theorem Rx_p3 {w w' : World} {S S' : Nat → Prop} {x : Rx} {cs : LV} {A : OA} {c : Nat} {ys : List Fi} (h : tRx.rd w S cs x) (f : Fr No w w') (hS : Lt S w) (hB : ∀ k, S k → S' k) (h1 : ys.length ≤ c) (h2 : c ≤ maxLen) (h3 : tFi.els w' S' A ys) :
    tRx.rd w' S' (cs.set 3 (.slice A ys.length c)) { x with funcs := ys } := by
 obtain ⟨A0, c0, A1, c1, A2, c2, A3, c3, A4, c4, A5, c5, A6, c6, A7, c7, A8, c8, A9, c9, rfl, -⟩ := kAU h
 exact kHw h f hS hB h1 h2 h3
theorem kNJ {w : World} {S : Nat → Prop} {x : Rx} {cs : LV} (h : tRx.rd w S cs x) : ∃ A c, cs[4]? = some (.slice A x.tabs.length c) ∧ x.tabs.length ≤ c ∧ c ≤ maxLen ∧ tRt.els w S A x.tabs := by
 obtain ⟨A0, c0, A1, c1, A2, c2, A3, c3, A4, c4, A5, c5, A6, c6, A7, c7, A8, c8, A9, c9, rfl, -⟩ := kAU h
 exact ⟨A4, c4, rfl, kAR h⟩
theorem kOy {w w' : World} {S S' : Nat → Prop} {x : Rx} {cs : LV} {A : OA} {c : Nat} {ys : List Rt} (h : tRx.rd w S cs x) (f : Fr No w w') (hS : Lt S w) (hB : ∀ k, S k → S' k) (h1 : ys.length ≤ c) (h2 : c ≤ maxLen) (h3 : tRt.els w' S' A ys) :
    tRx.rd w' S' (cs.set 4 (.slice A ys.length c)) { x with tabs := ys } := by
 obtain ⟨A0, c0, A1, c1, A2, c2, A3, c3, A4, c4, A5, c5, A6, c6, A7, c7, A8, c8, A9, c9, rfl, -⟩ := kAU h
 exact kIv h f hS hB h1 h2 h3
theorem kKV {w : World} {S : Nat → Prop} {x : Rx} {cs : LV} (h : tRx.rd w S cs x) : ∃ A c, cs[5]? = some (.slice A x.mems.length c) ∧ x.mems.length ≤ c ∧ c ≤ maxLen ∧ tRm.els w S A x.mems := by
 obtain ⟨A0, c0, A1, c1, A2, c2, A3, c3, A4, c4, A5, c5, A6, c6, A7, c7, A8, c8, A9, c9, rfl, -⟩ := kAU h
 exact ⟨A5, c5, rfl, kAS h⟩
theorem kNI {w w' : World} {S S' : Nat → Prop} {x : Rx} {cs : LV} {A : OA} {c : Nat} {ys : List Rm} (h : tRx.rd w S cs x) (f : Fr No w w') (hS : Lt S w) (hB : ∀ k, S k → S' k) (h1 : ys.length ≤ c) (h2 : c ≤ maxLen) (h3 : tRm.els w' S' A ys) :
    tRx.rd w' S' (cs.set 5 (.slice A ys.length c)) { x with mems := ys } := by
 obtain ⟨A0, c0, A1, c1, A2, c2, A3, c3, A4, c4, A5, c5, A6, c6, A7, c7, A8, c8, A9, c9, rfl, -⟩ := kAU h
 exact kIw h f hS hB h1 h2 h3
theorem Rx_g6 {w : World} {S : Nat → Prop} {x : Rx} {cs : LV} (h : tRx.rd w S cs x) : ∃ A c, cs[6]? = some (.slice A x.globs.length c) ∧ x.globs.length ≤ c ∧ c ≤ maxLen ∧ tRg.els w S A x.globs := by
 obtain ⟨A0, c0, A1, c1, A2, c2, A3, c3, A4, c4, A5, c5, A6, c6, A7, c7, A8, c8, A9, c9, rfl, -⟩ := kAU h
 exact ⟨A6, c6, rfl, kAM h⟩
theorem kNH {w w' : World} {S S' : Nat → Prop} {x : Rx} {cs : LV} {A : OA} {c : Nat} {ys : List Rg} (h : tRx.rd w S cs x) (f : Fr No w w') (hS : Lt S w) (hB : ∀ k, S k → S' k) (h1 : ys.length ≤ c) (h2 : c ≤ maxLen) (h3 : tRg.els w' S' A ys) :
    tRx.rd w' S' (cs.set 6 (.slice A ys.length c)) { x with globs := ys } := by
 obtain ⟨A0, c0, A1, c1, A2, c2, A3, c3, A4, c4, A5, c5, A6, c6, A7, c7, A8, c8, A9, c9, rfl, -⟩ := kAU h
 exact kHv h f hS hB h1 h2 h3
theorem kGu {w : World} {S : Nat → Prop} {x : Rx} {cs : LV} (h : tRx.rd w S cs x) : ∃ A c, cs[7]? = some (.slice A x.elems.length c) ∧ x.elems.length ≤ c ∧ c ≤ maxLen ∧ tRs.els w S A x.elems := by
 obtain ⟨A0, c0, A1, c1, A2, c2, A3, c3, A4, c4, A5, c5, A6, c6, A7, c7, A8, c8, A9, c9, rfl, -⟩ := kAU h
 exact ⟨A7, c7, rfl, kAO h⟩
theorem kNG {w w' : World} {S S' : Nat → Prop} {x : Rx} {cs : LV} {A : OA} {c : Nat} {ys : List Rs} (h : tRx.rd w S cs x) (f : Fr No w w') (hS : Lt S w) (hB : ∀ k, S k → S' k) (h1 : ys.length ≤ c) (h2 : c ≤ maxLen) (h3 : tRs.els w' S' A ys) :
    tRx.rd w' S' (cs.set 7 (.slice A ys.length c)) { x with elems := ys } := by
 obtain ⟨A0, c0, A1, c1, A2, c2, A3, c3, A4, c4, A5, c5, A6, c6, A7, c7, A8, c8, A9, c9, rfl, -⟩ := kAU h
 exact kHx h f hS hB h1 h2 h3
theorem kGt {w : World} {S : Nat → Prop} {x : Rx} {cs : LV} (h : tRx.rd w S cs x) : ∃ A c, cs[8]? = some (.slice A x.datas.length c) ∧ x.datas.length ≤ c ∧ c ≤ maxLen ∧ tRb.els w S A x.datas := by
 obtain ⟨A0, c0, A1, c1, A2, c2, A3, c3, A4, c4, A5, c5, A6, c6, A7, c7, A8, c8, A9, c9, rfl, -⟩ := kAU h
 exact ⟨A8, c8, rfl, kAP h⟩
theorem kNF {w w' : World} {S S' : Nat → Prop} {x : Rx} {cs : LV} {A : OA} {c : Nat} {ys : List Rb} (h : tRx.rd w S cs x) (f : Fr No w w') (hS : Lt S w) (hB : ∀ k, S k → S' k) (h1 : ys.length ≤ c) (h2 : c ≤ maxLen) (h3 : tRb.els w' S' A ys) :
    tRx.rd w' S' (cs.set 8 (.slice A ys.length c)) { x with datas := ys } := by
 obtain ⟨A0, c0, A1, c1, A2, c2, A3, c3, A4, c4, A5, c5, A6, c6, A7, c7, A8, c8, A9, c9, rfl, -⟩ := kAU h
 exact kHy h f hS hB h1 h2 h3
theorem kFr {w : World} {S : Nat → Prop} {x : Rx} {cs : LV} (h : tRx.rd w S cs x) : ∃ A c, cs[9]? = some (.slice A x.insts.length c) ∧ x.insts.length ≤ c ∧ c ≤ maxLen ∧ tRi.els w S A x.insts := by
 obtain ⟨A0, c0, A1, c1, A2, c2, A3, c3, A4, c4, A5, c5, A6, c6, A7, c7, A8, c8, A9, c9, rfl, -⟩ := kAU h
 exact ⟨A9, c9, rfl, kAL h⟩
theorem kOx {w w' : World} {S S' : Nat → Prop} {x : Rx} {cs : LV} {A : OA} {c : Nat} {ys : List Ri} (h : tRx.rd w S cs x) (f : Fr No w w') (hS : Lt S w) (hB : ∀ k, S k → S' k) (h1 : ys.length ≤ c) (h2 : c ≤ maxLen) (h3 : tRi.els w' S' A ys) :
    tRx.rd w' S' (cs.set 9 (.slice A ys.length c)) { x with insts := ys } := by
 obtain ⟨A0, c0, A1, c1, A2, c2, A3, c3, A4, c4, A5, c5, A6, c6, A7, c7, A8, c8, A9, c9, rfl, -⟩ := kAU h
 exact kHu h f hS hB h1 h2 h3
section
variable {w : World}
abbrev z10 : Array Value := #[.slice none 0 0, .slice none 0 0, .slice none 0 0, .slice none 0 0, .slice none 0 0, .slice none 0 0, .slice none 0 0, .slice none 0 0, .slice none 0 0, .slice none 0 0]
theorem kBo : (prog.info? 39).map (·.size) = some 10 := by kernel_rfl
theorem Blk.to {p : Nat} {t : TypeId} {C : Array Value} (h : Blk w p t C) (hC : C.size = 10) : ∀ {n : Nat}, n = 10 → w.there p 0 n := fun e => by rw [e]; exact there_blk h hC
theorem ldX {ops : Array Oper} {rest : List Oper} {op : Oper} {a : Act} {Q : Exit → Act → World → Prop} {p : Nat} {cs : LV} (b : Blk w p 39 cs.toArray) (hl : cs.length = 10) (h : wpList prog ops Q rest (a.put op.dst (.agg cs.toArray)) w)
    (hgd : op.guard = none := by rfl) {o : Operand} (ho : op.op = .load 39 o := by rfl) (hx : a.eval o = .pointer (some ⟨p, 0, none⟩) := by rfl) : wpList prog ops Q (op :: rest) a w :=
 wpList_load_mid hgd 39 o ho p 0 hx cs _ (by simpa using rangeAt_blk b) underlying39 rfl (by rw [hl]; exact kBo) h
theorem stX {ops : Array Oper} {rest : List Oper} {op : Oper} {a : Act} {Q : Exit → Act → World → Prop} {p : Nat} {C : Array Value} {cs : LV} (b : Blk w p 39 C) (hC : C.size = 10) (hl : cs.length = 10) (h1 : cs.all (·.oneCell') = true) (h : wpList prog ops Q rest (a.put op.dst undef) (w.setCells p 0 cs))
    (hgd : op.guard = none := by rfl) {o v : Operand} (ho : op.op = .store 39 o v := by rfl) (hx : a.eval o = .pointer (some ⟨p, 0, none⟩) := by rfl) (hy : a.eval v = .agg cs.toArray := by rfl) : wpList prog ops Q (op :: rest) a w :=
 wpList_store_mid hgd 39 o v ho p 0 cs.toArray hx hy (b.to hC hl) (by rw [show cs.toArray.size = 10 from hl]; exact kBo) (by simpa using h1) h
theorem nwX {ops : Array Oper} {rest : List Oper} {op : Oper} {a : Act} {Q : Exit → Act → World → Prop} {cs : LV} (hl : cs.length = 10) (h1 : cs.all (·.oneCell') = true) (h : wpList prog ops Q rest (a.put op.dst undef) (w.alloc (.cells cs.toArray 39)))
    (hgd : op.guard = none := by rfl) {o v : Operand} (ho : op.op = .store 39 o v := by rfl) (hx : a.eval o = .pointer (some ⟨w.heap.size, 0, none⟩) := by rfl) (hy : a.eval v = .agg cs.toArray := by rfl) : wpList prog ops Q (op :: rest) a (w.alloc (.cells z10 39)) :=
 kAz hgd 39 o v ho z10 cs hx hy (by rw [hl]; exact kBo) (by rw [hl]; rfl) h1 h
theorem rx_one {X : World} {S : Nat → Prop} {c : LV} {y : Rx} (h : tRx.rd X S c y) : c.length = 10 ∧ c.all (·.oneCell') = true := ⟨TyOk.len _ _ _ _ h, List.all_eq_true.2 ((inferInstance : kAG tRx).one _ _ _ _ h)⟩
end
theorem Blk.at_ {w : World} {p i : Nat} {t : TypeId} {cs : LV} {v : Value} (h : Blk w p t cs.toArray) (e : cs[i]? = some v) : w.cell? ⟨p, i, none⟩ = some v := by
 rw [h.cell, List.getElem?_toArray, e]
theorem bx0 (w : World) (cs : LV) (C : Array Value) (T : TypeId) : Hid (Fr No w ((w.alloc (.cells cs.toArray 39)).alloc (.cells C T))) ∧ Hid (Blk ((w.alloc (.cells cs.toArray 39)).alloc (.cells C T)) w.heap.size 39 cs.toArray) ∧ Hid (Blk ((w.alloc (.cells cs.toArray 39)).alloc (.cells C T)) (w.heap.size + 1) T C) :=
 ⟨((Fr.refl No w).alloc _).alloc _, (Blk.new w 39 cs.toArray).alloc _, Blk.new1 w (.cells cs.toArray 39) T C⟩
theorem bx1 (w : World) (cs : LV) (C : Array Value) (T : TypeId) (D : Array Value) (U : TypeId) : Hid (Fr No w (((w.alloc (.cells cs.toArray 39)).alloc (.cells C T)).alloc (.cells D U))) ∧ Hid (Blk (((w.alloc (.cells cs.toArray 39)).alloc (.cells C T)).alloc (.cells D U)) w.heap.size 39 cs.toArray) ∧ Hid (Blk (((w.alloc (.cells cs.toArray 39)).alloc (.cells C T)).alloc (.cells D U)) (w.heap.size + 1) T C) ∧ Hid (Blk (((w.alloc (.cells cs.toArray 39)).alloc (.cells C T)).alloc (.cells D U)) (w.heap.size + 1 + 1) U D) := by
 obtain ⟨f, g0, g1⟩ := bx0 w cs C T
 exact ⟨f.o.alloc _, g0.o.alloc _, g1.o.alloc _, by have h := Blk.new ((w.alloc (.cells cs.toArray 39)).alloc (.cells C T)) U D; simp only [World.size_alloc] at h; exact h⟩
theorem bx2 (w : World) (cs : LV) (C : Array Value) (T : TypeId) (D : Array Value) (U : TypeId) (E : Array Value) (Y : TypeId) : Hid (Fr No w ((((w.alloc (.cells cs.toArray 39)).alloc (.cells C T)).alloc (.cells D U)).alloc (.cells E Y))) ∧ Hid (Blk ((((w.alloc (.cells cs.toArray 39)).alloc (.cells C T)).alloc (.cells D U)).alloc (.cells E Y)) w.heap.size 39 cs.toArray) ∧ Hid (Blk ((((w.alloc (.cells cs.toArray 39)).alloc (.cells C T)).alloc (.cells D U)).alloc (.cells E Y)) (w.heap.size + 1) T C) ∧ Hid (Blk ((((w.alloc (.cells cs.toArray 39)).alloc (.cells C T)).alloc (.cells D U)).alloc (.cells E Y)) (w.heap.size + 1 + 1) U D) ∧ Hid (Blk ((((w.alloc (.cells cs.toArray 39)).alloc (.cells C T)).alloc (.cells D U)).alloc (.cells E Y)) (w.heap.size + 1 + 1 + 1) Y E) := by
 obtain ⟨f, g0, g1, g2⟩ := bx1 w cs C T D U
 exact ⟨f.o.alloc _, g0.o.alloc _, g1.o.alloc _, g2.o.alloc _, by have h := Blk.new (((w.alloc (.cells cs.toArray 39)).alloc (.cells C T)).alloc (.cells D U)) Y E; simp only [World.size_alloc] at h; exact h⟩
section
variable {w w2 : World} {S S2 : Nat → Prop} {x x' : Rx} {cs ds : LV}
theorem setf {p q : Nat} {C : Array Value} (G0 : Blk w2 p 39 cs.toArray) (G1 : Blk w2 q 39 C) (ne : q ≠ p) (H : tRx.rd w S cs x) (i : Nat) (v : Value) (hv : v.oneCell' = true) :
    Hid (Blk (w2.setCell ⟨p, i, none⟩ v) p 39 (cs.set i v).toArray) ∧ Hid (Blk (w2.setCell ⟨p, i, none⟩ v) q 39 C) ∧ Hid ((cs.set i v).length = 10) ∧ Hid ((cs.set i v).all (·.oneCell') = true) := by
 obtain ⟨h1, h2⟩ := rx_one H
 refine ⟨by have h := G0.set_ i v; unfold Hid; simpa using h, G1.far (p := ⟨p, i, none⟩) ne v, by unfold Hid; simpa using h1, List.all_eq_true.2 fun u hu => ?_⟩
 rcases List.mem_or_eq_of_mem_set hu with h | rfl
 · exact List.all_eq_true.1 h2 u h
 exact hv
theorem rcore {α : Type} {t : Ty α} [TyOk t] [TyMore t] {ys : List α} {A : OA} {c n i q n0 base : Nat} {tid : TypeId}
    (put : ∀ {w' : World} {S' : Nat → Prop} {A : OA} {c : Nat}, Fr No w w' → (∀ k, S k → S' k) → ys.length ≤ c → c ≤ maxLen → t.els w' S' A ys → tRx.rd w' S' (cs.set i (.slice A ys.length c)) x') (H : tRx.rd w S cs x)
    (F : Fr No w w2) (G0 : Blk w2 w.heap.size 39 cs.toArray) (G1 : Blk w2 q 39 z10) (hq : w.heap.size < q)
    (HR : (ys.length ≤ c ∧ c ≤ maxLen) ∧ t.els w2 (fun k => S2 k ∨ (Value.slice A n c).ownBlock = some k) A ys ∧ ∀ g, (Value.slice A n c).ownBlock = some g → base ≤ g ∧ ∃ C, Blk w2 g tid C) (hn : ys.length = n)
    (HSS : ∀ k, S2 k → k < n0 ∧ ¬ k = w.heap.size ∧ ¬ k = q ∧ (S k ∨ w.heap.size ≤ k)) (h0 : n0 ≤ w2.heap.size) (hb : w.heap.size ≤ base) (ht : tid ≠ 39) :
    tRx.rd ((w2.setCell ⟨w.heap.size, i, none⟩ (.slice A n c)).setCells q 0 (cs.set i (.slice A n c))) (fun k => S k ∨ Nw w ((w2.setCell ⟨w.heap.size, i, none⟩ (.slice A n c)).setCells q 0 (cs.set i (.slice A n c))) k) (cs.set i (.slice A n c)) x' ∧ Fr No w ((w2.setCell ⟨w.heap.size, i, none⟩ (.slice A n c)).setCells q 0 (cs.set i (.slice A n c))) ∧ ((w2.setCell ⟨w.heap.size, i, none⟩ (.slice A n c)).setCells q 0 (cs.set i (.slice A n c))).rangeAt q 0 (cs.set i (.slice A n c)) := by
 subst hn
 have FX := Fr.setCells' (a := w2) (b := q) (M := Two w.heap.size q) (fun _ => .inr rfl) (cs.set i (.slice A ys.length c)) 0 _ ((Fr.refl _ w2).setCell ⟨w.heap.size, i, none⟩ (.slice A ys.length c) (fun _ => .inl rfl))
 have FT := Fr.setCells' (a := w) (b := q) (M := No) (fun h => absurd h om) (cs.set i (.slice A ys.length c)) 0 _ (F.setCell ⟨w.heap.size, i, none⟩ (.slice A ys.length c) (fun h => absurd h (by show ¬ w.heap.size < _; omega)))
 have E := HR.2.1.fr FX (fun k hk => by
  rcases hk with hk | hk
  · obtain ⟨h1, h2, h3, -⟩ := HSS k hk
    refine ⟨by omega, ?_⟩
    rintro (h | h)
    · exact h2 h
    exact h3 h
  · obtain ⟨-, C, q3⟩ := HR.2.2 k hk
    refine ⟨q3.lt, ?_⟩
    rintro (rfl | rfl)
    · exact Blk.ne_ q3 G0 ht rfl
    · exact Blk.ne_ q3 G1 ht rfl)
 refine ⟨put FT (fun _ h => .inl h) HR.1.1 HR.1.2 (E.more fun k hk => ?_), FT, World.rangeAt_setCells_same _ q 0 _ ((G1.far (p := ⟨w.heap.size, i, none⟩) (by show q ≠ w.heap.size; omega) _).to rfl (by simpa using (rx_one H).1))⟩
 rcases hk with hk | hk
 · exact (HSS k hk).2.2.2.elim .inl (fun h => .inr ⟨h, by have := (HSS k hk).1; have := FX.size; omega⟩)
 obtain ⟨q1, C, q3⟩ := HR.2.2 k hk
 exact .inr ⟨by omega, ltl q3.lt FX.size⟩
theorem rnc {q : Nat} (H : tRx.rd w S cs x) (hS : Lt S w) (F : Fr No w w2) (G : Blk w2 q 39 z10) (hq : w.heap.size < q) :
    tRx.rd (w2.setCells q 0 cs) (fun k => S k ∨ Nw w (w2.setCells q 0 cs) k) cs x ∧ Fr No w (w2.setCells q 0 cs) ∧ (w2.setCells q 0 cs).rangeAt q 0 cs := by
 have FT := Fr.setCells' (a := w) (b := q) (M := No) (fun h => absurd h om) cs 0 w2 F
 exact ⟨kAH H FT hS (fun _ h => .inl h), FT, World.rangeAt_setCells_same w2 q 0 cs (G.to rfl (rx_one H).1)⟩
theorem ryes {X : World} {q : Nat} {v : Value} {fn : Func} {act : Act} {s u : Tmp} (h : tRx.rd X (fun k => S k ∨ Nw w X k) ds x' ∧ Fr No w X ∧ X.rangeAt q 0 ds) (hf : fn.results = #[.cell s 39, .tmp u] := by rfl) (hp : act.tmps.getD s undef = .pointer (some ⟨q, 0, none⟩) := by rfl) (hv : act.tmps.getD u undef = v := by rfl) (hd : act.defers = [] := by rfl) :
    bodyPost prog fn (RfTo S x' v w) .ret act X :=
 bodyPost_ret (v := .tuple #[.agg ds.toArray, v]) (by rw [← hv]; exact kCi hf _ _ q _ _ hp h.2.2 underlying39 rfl (by rw [(rx_one h.1).1]; exact kBo)) hd ⟨_, rfl, h.1, h.2.1⟩
theorem ryes1 {X : World} {q : Nat} {fn : Func} {act : Act} {s : Tmp} (h : tRx.rd X (fun k => S k ∨ Nw w X k) ds x' ∧ Fr No w X ∧ X.rangeAt q 0 ds) (hf : fn.results = #[.cell s 39] := by rfl) (hp : act.tmps.getD s undef = .pointer (some ⟨q, 0, none⟩) := by rfl) (hd : act.defers = [] := by rfl) :
    bodyPost prog fn (kCA S x' w) .ret act X :=
 bodyPost_ret (v := .agg ds.toArray) (kAv hf _ _ q _ _ hp h.2.2 underlying39 rfl (by rw [(rx_one h.1).1]; exact kBo)) hd ⟨_, rfl, h.1, h.2.1⟩
end
section
variable {ops : Array Oper} {rest : List Oper} {op : Oper} {a : Act} {Q : Exit → Act → World → Prop} {w : World} {T : TypeId} {d : TypeDesc} {n p q : Nat} {ds : LV}
theorem ldG (hu : prog.underlying T = some d) (hi : (prog.info? T).map (·.size) = some n) (r : w.rangeAt p q ds) (hl : ds.length = n) (h : wpList prog ops Q rest (a.put op.dst (.agg ds.toArray)) w)
    (hd : d.isRow = true := by rfl) (hgd : op.guard = none := by rfl) {o : Operand} (ho : op.op = .load T o := by rfl) (hx : a.eval o = .pointer (some ⟨p, q, none⟩) := by rfl) : wpList prog ops Q (op :: rest) a w :=
 wpList_load_mid hgd T o ho p q hx ds _ r hu hd (by rw [hl]; exact hi) h
theorem stG (hi : (prog.info? T).map (·.size) = some n) (th : w.there p q n) (hl : ds.length = n) (h1 : ds.all (·.oneCell') = true) (h : wpList prog ops Q rest (a.put op.dst undef) (w.setCells p q ds))
    (hgd : op.guard = none := by rfl) {o v : Operand} (ho : op.op = .store T o v := by rfl) (hx : a.eval o = .pointer (some ⟨p, q, none⟩) := by rfl) (hy : a.eval v = .agg ds.toArray := by rfl) : wpList prog ops Q (op :: rest) a w :=
 wpList_store_mid hgd T o v ho p q ds.toArray hx hy (by rw [show ds.toArray.size = n from hl]; exact th) (by rw [show ds.toArray.size = n from hl]; exact hi) (by simpa using h1) h
theorem nwG {c : Array Value} (hi : (prog.info? T).map (·.size) = some n) (hc : c.size = n) (hl : ds.length = n) (h1 : ds.all (·.oneCell') = true) (h : wpList prog ops Q rest (a.put op.dst undef) (w.alloc (.cells ds.toArray T)))
    (hgd : op.guard = none := by rfl) {o v : Operand} (ho : op.op = .store T o v := by rfl) (hx : a.eval o = .pointer (some ⟨w.heap.size, 0, none⟩) := by rfl) (hy : a.eval v = .agg ds.toArray := by rfl) : wpList prog ops Q (op :: rest) a (w.alloc (.cells c T)) :=
 kAz hgd T o v ho c ds hx hy (by rw [hl]; exact hi) (by rw [hl]; exact hc) h1 h
end
section
variable {α : Type} {t : Ty α} [hok : TyOk t] [hm : TyMore t] [hone : kAG t] {P : Program} {ts e : TypeId} {bytes : Nat} {z : Value} {ops : Array Oper} {rest : List Oper} {o : Oper} {a : Act} {Q : Exit → Act → World → Prop} {W w1 : World} {S : Nat → Prop}
theorem app0 {ys : List α} {css : List (LV)} {A : OA} {B : Nat} (E : ElemOk P ts e t.size bytes z) (HC : Css t W S css ys ∧ Rd W B A css.flatten) (hl : ys.length ≤ 1000000) (hby : bytes ≤ 1000) (hS : Lt S W)
    (h : ∀ v w1, t.row w1 W.heap.size S e v ([] ++ ys) → Fr No W w1 → wpList P ops Q rest (a.put o.dst v) w1)
    (hgd : o.guard = none := by rfl) {s y : Operand} (ho : o.op = .call { callee := .builtin .append, args := #[s, y], argTypes := #[ts, ts] } := by rfl) (hs : a.eval s = .slice none 0 0 := by rfl) {cs : Nat} (hx : a.eval y = .slice A ys.length cs := by rfl) : wpList P ops Q (o :: rest) a W := by
 have hb : (0 + ys.length) * bytes ≤ 1000000 * 1000 := Nat.mul_le_mul om hby
 have R0 := Ty.row.nil (t := t) W W.heap.size S e
 exact wpList_appC E hgd ho hs hx R0 HC.1 HC.2 rfl so (Nat.le_trans hb dc) (fun k hk => ⟨hS k hk, fun e => nomatch e⟩) nr fun v w1 hr fr _ => h v w1 hr (own_frame R0 (Fr.refl No W) fr nr)
theorem app1 {v1 : Value} {xs : List α} {x : α} {es : LV} {base : Nat} (E : ElemOk P ts e t.size bytes z) (R1 : t.row w1 base S e v1 xs) (hx : t.rd w1 S es x) (hl : xs.length ≤ 1000000) (hby : bytes ≤ 1000) (hS : ∀ k, S k → k < base) (hb : base ≤ w1.heap.size) (F1 : Fr No W w1) (hW : W.heap.size ≤ base)
    (h : ∀ v2 w2, t.row w2 base S e v2 (xs ++ [x]) → Fr No W w2 → (∀ (g : Nat) (u : TypeId) (C : Array Value), Blk w1 g u C → u ≠ e → Blk w2 g u C) → wpList P ops Q rest (a.put o.dst v2) w2)
    (hgd : o.guard = none := by rfl) {s y : Operand} (ho : o.op = .call { callee := .builtin .append, args := #[s, y], argTypes := #[ts, ts] } := by rfl) (hs : a.eval s = v1 := by rfl) {cs : Nat} (hy : a.eval y = .slice (some ⟨w1.heap.size, 0, none⟩) 1 cs := by rfl) :
    wpList P ops Q (o :: rest) a (w1.alloc (.cells es.toArray e)) := by
 have FA := (Fr.refl No w1).alloc (.cells es.toArray e)
 have s1 := FA.size
 have hb2 : (xs.length + 1) * bytes ≤ 1000001 * 1000 := Nat.mul_le_mul om hby
 have RA := R1.fr FA (fun k hk => ⟨by have := hS k hk; omega, fun x => x⟩) (fun _ _ x => x)
 have HE : t.rd (w1.alloc (.cells es.toArray e)) S es x := hok.keep _ _ _ _ _ hx (fun p hp => FA.cell (by have := hS _ hp; omega) id)
 refine wpList_appC (dss := [es]) (B2 := w1.heap.size + 1) E hgd ho hs hy RA (Css.one HE) (by simpa using kFY w1 es e) rfl om om (fun k hk => ⟨by have := hS k hk; omega, fun e => by have h1 := hS k hk; have h2 := (R1.own e.symm).1; omega⟩) om fun v2 w2 hr fr _ => ?_
 refine h v2 w2 hr (own_frame RA (F1.trans FA i3) fr om) (fun g u C hb hne => (hb.fr FA id).fr fr (fun e => ?_))
 obtain ⟨-, cs', h2⟩ := R1.own e.symm
 exact Blk.ne_ hb h2 hne rfl
end
structure FLi where
 α : Type
 t : Ty α
 A : OA
 l : List α
 c : Nat
 ok : TyOk t
 more : TyMore t
abbrev FLi.on (i : FLi) (W X : World) : Prop := i.l.length ≤ i.c ∧ i.c ≤ maxLen ∧ i.t.els X (Nw W X) i.A i.l
def Its (W X : World) (L : List FLi) : Prop := ∀ (n : Nat) (i : FLi), L[n]? = some i → i.on W X
section
variable {w W X Y : World} {L : List FLi}
theorem Its.nil : Its W X [] := fun n i h => by simp at h
theorem Its.fr {M : Nat → Prop} (h : Its W X L) (f : Fr M X Y) (hM : ∀ k, W.heap.size ≤ k → ¬ M k) : Its W Y L := fun n i e => by
 obtain ⟨h1, h2, h3⟩ := h n i e
 have := i.ok
 have := i.more
 exact ⟨h1, h2, (h3.fr f (fun k hk => ⟨hk.2, hM k hk.1⟩)).more (fun k hk => ⟨hk.1, ltl hk.2 f.size⟩)⟩
theorem Its.no (h : Its W X L) (f : Fr No X Y) : Its W Y L := h.fr f (fun _ _ m => m)
theorem Its.push {α : Type} {t : Ty α} [ho : TyOk t] [hm : TyMore t] {A : OA} {l : List α} {c : Nat} (h : Its W X L) (f : Fr No X Y) (hx : W.heap.size ≤ X.heap.size) (h1 : l.length ≤ c) (h2 : c ≤ maxLen) (e : t.els Y (Nw X Y) A l) : Its W Y (⟨α, t, A, l, c, ho, hm⟩ :: L) := fun n i e1 => by
 cases n with
 | zero =>
  simp only [List.getElem?_cons_zero, Option.some.injEq] at e1
  subst e1
  exact ⟨h1, h2, e.more (fun k hk => ⟨Nat.le_trans hx hk.1, hk.2⟩)⟩
 | succ n => exact h.no f n i (by simpa using e1)
theorem Its.low (h : Its W X L) (hw : w.heap.size ≤ W.heap.size) : Its w X L := fun n i e => by
 obtain ⟨h1, h2, h3⟩ := h n i e
 have := i.more
 exact ⟨h1, h2, h3.more (fun k hk => ⟨Nat.le_trans hw hk.1, hk.2⟩)⟩
theorem Its.get (h : Its W X L) (n : Nat) {i : FLi} (e : L[n]? = some i) : i.on W X := h n i e
end
section
variable {α : Type} {t : Ty α} {w W : World} {x : α} {T : TypeId} {d : TypeDesc} {n q : Nat} {ds : LV} {fn : Func} {act : Act} {s : Tmp}
theorem kDv (hu : prog.underlying T = some d) (hi : (prog.info? T).map (·.size) = some n) (F : Fr No w W) (hq : w.heap.size ≤ q) (th : W.there q 0 n) (hl : ds.length = n) (hr : Fr (One q) W (W.setCells q 0 ds) → t.rd (W.setCells q 0 ds) (Nw w (W.setCells q 0 ds)) ds x)
    (hd : d.isRow = true := by rfl) (hf : fn.results = #[.cell s T] := by rfl) (hp : act.tmps.getD s undef = .pointer (some ⟨q, 0, none⟩) := by rfl) (hdd : act.defers = [] := by rfl) :
    bodyPost prog fn (kAa t x w) .ret act (W.setCells q 0 ds) := by
 have FT := Fr.setCells' (a := w) (b := q) (M := No) (fun h => absurd h om) ds 0 W F
 exact bodyPost_ret (v := .agg ds.toArray) (kAv hf _ _ q _ _ hp (World.rangeAt_setCells_same W q 0 ds (by rw [hl]; exact th)) hu hd (by rw [hl]; exact hi)) hdd ⟨ds, rfl, hr (Fr.setCells' (M := One q) (b := q) (fun _ => rfl) ds 0 W (Fr.refl _ W)), FT⟩
end
theorem Blk.setCells_ {p : Nat} {t : TypeId} : ∀ (ds : LV) (o : Nat) (w : World) (C : Array Value), Blk w p t C → Blk (w.setCells p o ds) p t (List.foldl (fun (cs : Array Value) (x : Value × Nat) => cs.setIfInBounds x.snd x.fst) C (ds.zipIdx o))
 | [], _, _, _, h => h
 | v :: r, o, w, C, h => by
  rw [List.zipIdx_cons, List.foldl_cons]
  exact Blk.setCells_ r (o + 1) _ _ (h.set_ o v)
theorem Blk.setAll {w : World} {p : Nat} {t : TypeId} {C : Array Value} {ds : LV} (h : Blk w p t C) (hl : C.size = ds.length) : Blk (w.setCells p 0 ds) p t ds.toArray := by
 have := Blk.setCells_ ds 0 w C h
 rwa [kBj hl] at this
section
variable {P : Program} {ops : Array Oper} {Q : Exit → Act → World → Prop} {i : Nat} {r : OT} {o : Oper} {a : Act} {wr w : World} {tb : TypeId} {zs : Array Value}
theorem tNw {A : Nat → Act} (F : Fr No wr w) (h : ∀ (q : Nat) (w' : World), Hid (Fr No wr w') → Hid (Fr No w w') → Hid (Blk w' q tb zs) → Hid (wr.heap.size ≤ q ∧ w.heap.size ≤ q ∧ q < w'.heap.size) → wpT P ops Q (Fr No wr) r (A q) w') (ho : ops[i]? = some o := by rfl) (hw : Region.wanted o (yielded ops a.tmps) = true := by rfl)
    (hv : ∀ (K : Act → World → Prop) (q : Nat), w.heap.size = q → K (A q) (w.alloc (.cells zs tb)) → o.wp P a w K Q := by intro K q hq hK; (try dsimp only [World.drew] at hq); simp only [zA]; go_simp; (try rw [hq]); exact hK) :
    wpT P ops Q (Fr No wr) (.eff i r) a w :=
 wpT_eff ho hw fun K hK => hv K _ rfl (hK _ _ (F.alloc _) (h _ _ (F.alloc _) ((Fr.refl No w).alloc _) (Blk.new w tb zs) ⟨F.size, nr, (Blk.new w tb zs).lt⟩))
theorem tWr {a' : Act} {q : Nat} {ty : TypeId} {x y : Operand} {ds : LV} (F : Fr No wr w) (L : wr.heap.size ≤ q) (B : Blk w q tb zs) (h : ∀ w' : World, Hid (Fr No wr w') → Hid (Fr (One q) w w') → Hid (Blk w' q tb ds.toArray) → wpT P ops Q (Fr No wr) r a' w') (ho : ops[i]? = some o := by rfl) (hw : Region.wanted o (yielded ops a.tmps) = true := by rfl)
    (hst : o.op = .store ty x y := by rfl) (hx : a.eval x = .pointer (some ⟨q, 0, none⟩) := by rfl) (hy : a.eval y = .agg ds.toArray := by rfl) (hn : zs.size = ds.length := by rfl) (hi : (P.info? ty).map (·.size) = some ds.toArray.size := by kernel_rfl) (h1 : ds.toArray.all (·.oneCell') = true := by simp [Value.oneCell'])
    (ha : a.put o.dst undef = a' := by simp only [zA, zC, Act.put]; rfl) : wpT P ops Q (Fr No wr) (.eff i r) a w := by
 have f := Fr.setCells' (M := One q) (b := q) (fun _ => rfl) ds 0 w (Fr.refl _ w)
 have g := F.trans f (fun i hi e => by have e : i = q := e; omega)
 refine wpT_eff ho hw fun K hK => wp_store_mid ty x y hst q 0 ds.toArray hx hy (there_blk B (by simpa using hn)) hi h1 (hK _ _ g ?_)
 rw [ha]
 exact h _ g f (B.setAll hn)
end
theorem kHa {w : World} {S : Nat → Prop} {x : Rx} {cs : LV} (h : tRx.rd w S cs x) (hS : Lt S w) (refs : List Int) (A : OA) (c : Nat) (he : tRs.rd w S [.slice A refs.length c, .bool false] ⟨refs, false⟩) (hn : x.elems.length ≤ 1000000) :
    Calls prog 123 #[.agg cs.toArray, .slice A refs.length c] w (RfTo S { x with elems := x.elems ++ [⟨refs, false⟩] } (.int .i64 (x.elems.length : Nat)) w) := by
 obtain ⟨F0, G0, G1⟩ := bx0 w cs z10 39
 obtain ⟨A7, c7, e7, -, -, E7⟩ := kGu h
 obtain ⟨css, hcs, hrd⟩ := kAY E7 hS
 have HC := hid (And.intro hcs hrd)
 have H := hid h
 have HS := hid hS
 have HE7 := hid e7
 have HE := hid he
 clear he
 clear hcs hrd h hS e7 E7
 have HN := hid hn
 go_enter func123, ntmps123
 have z := G0.o.at_ HE7.o
 go_upto_region 2 with fail
 generalize ((w.alloc (.cells cs.toArray 39)).alloc (.cells z10 39)) = W at *
 have HSS : Hid (∀ k, S k → k < W.heap.size ∧ ¬ k = w.heap.size ∧ ¬ k = w.heap.size + 1 ∧ (S k ∨ w.heap.size ≤ k)) := fun k hk => ⟨ltl (HS.o k hk) F0.o.size, by have := HS.o k hk; omega, by have := HS.o k hk; omega, .inl hk⟩
 have HCW := hid (And.intro ((HC.o.1.fr F0.o (fun k hk => ⟨HS.o k hk, fun x => x⟩))) (HC.o.2.frNo F0.o))
 have HEW := hid (kAH HE.o F0.o HS.o i2)
 go_upto_region 3 with (first | (at_builtin; refine app0 elRs HCW.o (by have := HN.o; omega) dc (fun k hk => (HSS.o k hk).1) ?_; intro v1 w1 hr1 f1; have R1 := hid hr1; have FW1 := hid f1; clear hr1 f1 HCW z) | fail)
 have FT1 := ftr F0 FW1.o
 replace G0 := hid (G0.o.fr FW1.o id)
 replace G1 := hid (G1.o.fr FW1.o id)
 go_upto_region 4 with (first | (at_builtin; refine app1 elRs R1.o (kAH HEW.o FW1.o (fun k hk => (HSS.o k hk).1) i2) (by have := HN.o; simp; omega) dc (fun k hk => (HSS.o k hk).1) FW1.o.size FW1.o nr ?_; intro v2 w2 hr2 f2 kg; have R2 := hid hr2; have FW2 := hid f2; have KG := hid kg; clear hr2 f2 kg R1) | fail)
 replace G0 := hid (KG.o _ _ _ G0.o dc)
 replace G1 := hid (KG.o _ _ _ G1.o dc)
 clear KG FW1 FT1
 have FT2 := ftr F0 FW2.o
 obtain ⟨A', c', e2, l1, l2, E2⟩ := R2.o.els (S' := fun k => S k ∨ v2.ownBlock = some k) (fun _ h => .inl h) (fun g hg => .inr hg)
 have e3 : ([] ++ x.elems ++ [(⟨refs, false⟩ : Rs)]).length = x.elems.length + 1 := by simp
 have HR := hid (And.intro (And.intro l1 l2) (And.intro E2 (fun g (e : v2.ownBlock = some g) => R2.o.own e)))
 rw [e3] at e2
 subst e2
 clear R2 l1 l2 E2
 have y := G0.o.frozen 7
 have y' := G0.o.at_ HE7.o
 go_upto_region 5 with fail
 clear y y'
 obtain ⟨N0, N1, HL2, HO2⟩ := setf G0.o G1.o om H.o 7 (.slice A' (x.elems.length + 1) c') rfl
 go_wp2_with (first | refine ldX N0.o HL2.o ?_ | refine stX N1.o rfl HL2.o HO2.o ?_ | fail)
 exact ryes (rcore (x' := { x with elems := x.elems ++ [(⟨refs, false⟩ : Rs)] }) (t := tRs) (ys := [] ++ x.elems ++ [(⟨refs, false⟩ : Rs)]) (fun f hB l m e => kNG H.o f HS.o hB l m e) H.o FT2.o G0.o G1.o om HR.o e3 HSS.o (by have := FW2.o.size; omega) F0.o.size dc)
theorem kHb {w : World} {S : Nat → Prop} {x : Rx} {cs : LV} (h : tRx.rd w S cs x) (hS : Lt S w) (bs : List Int) (A : OA) (c : Nat) (he : tRb.rd w S [.slice A bs.length c, .bool false] ⟨bs, false⟩) (hn : x.datas.length ≤ 1000000) :
    Calls prog 124 #[.agg cs.toArray, .slice A bs.length c] w (RfTo S { x with datas := x.datas ++ [⟨bs, false⟩] } (.int .i64 (x.datas.length : Nat)) w) := by
 obtain ⟨F0, G0, G1⟩ := bx0 w cs z10 39
 obtain ⟨A8, c8, e8, -, -, E8⟩ := kGt h
 obtain ⟨css, hcs, hrd⟩ := kAY E8 hS
 have HC := hid (And.intro hcs hrd)
 have H := hid h
 have HS := hid hS
 have HE8 := hid e8
 have HE := hid he
 clear he
 clear hcs hrd h hS e8 E8
 have HN := hid hn
 go_enter func124, ntmps124
 have z := G0.o.at_ HE8.o
 go_upto_region 2 with fail
 generalize ((w.alloc (.cells cs.toArray 39)).alloc (.cells z10 39)) = W at *
 have HSS : Hid (∀ k, S k → k < W.heap.size ∧ ¬ k = w.heap.size ∧ ¬ k = w.heap.size + 1 ∧ (S k ∨ w.heap.size ≤ k)) := fun k hk => ⟨ltl (HS.o k hk) F0.o.size, by have := HS.o k hk; omega, by have := HS.o k hk; omega, .inl hk⟩
 have HCW := hid (And.intro ((HC.o.1.fr F0.o (fun k hk => ⟨HS.o k hk, fun x => x⟩))) (HC.o.2.frNo F0.o))
 have HEW := hid (kAH HE.o F0.o HS.o i2)
 go_upto_region 3 with (first | (at_builtin; refine app0 elRb HCW.o (by have := HN.o; omega) dc (fun k hk => (HSS.o k hk).1) ?_; intro v1 w1 hr1 f1; have R1 := hid hr1; have FW1 := hid f1; clear hr1 f1 HCW z) | fail)
 have FT1 := ftr F0 FW1.o
 replace G0 := hid (G0.o.fr FW1.o id)
 replace G1 := hid (G1.o.fr FW1.o id)
 go_upto_region 4 with (first | (at_builtin; refine app1 elRb R1.o (kAH HEW.o FW1.o (fun k hk => (HSS.o k hk).1) i2) (by have := HN.o; simp; omega) dc (fun k hk => (HSS.o k hk).1) FW1.o.size FW1.o nr ?_; intro v2 w2 hr2 f2 kg; have R2 := hid hr2; have FW2 := hid f2; have KG := hid kg; clear hr2 f2 kg R1) | fail)
 replace G0 := hid (KG.o _ _ _ G0.o dc)
 replace G1 := hid (KG.o _ _ _ G1.o dc)
 clear KG FW1 FT1
 have FT2 := ftr F0 FW2.o
 obtain ⟨A', c', e2, l1, l2, E2⟩ := R2.o.els (S' := fun k => S k ∨ v2.ownBlock = some k) (fun _ h => .inl h) (fun g hg => .inr hg)
 have e3 : ([] ++ x.datas ++ [(⟨bs, false⟩ : Rb)]).length = x.datas.length + 1 := by simp
 have HR := hid (And.intro (And.intro l1 l2) (And.intro E2 (fun g (e : v2.ownBlock = some g) => R2.o.own e)))
 rw [e3] at e2
 subst e2
 clear R2 l1 l2 E2
 have y := G0.o.frozen 8
 have y' := G0.o.at_ HE8.o
 go_upto_region 5 with fail
 clear y y'
 obtain ⟨N0, N1, HL2, HO2⟩ := setf G0.o G1.o om H.o 8 (.slice A' (x.datas.length + 1) c') rfl
 go_wp2_with (first | refine ldX N0.o HL2.o ?_ | refine stX N1.o rfl HL2.o HO2.o ?_ | fail)
 exact ryes (rcore (x' := { x with datas := x.datas ++ [(⟨bs, false⟩ : Rb)] }) (t := tRb) (ys := [] ++ x.datas ++ [(⟨bs, false⟩ : Rb)]) (fun f hB l m e => kNF H.o f HS.o hB l m e) H.o FT2.o G0.o G1.o om HR.o e3 HSS.o (by have := FW2.o.size; omega) F0.o.size dc)
abbrev q9x0 (a0 a1 a2 a3 a4 a5 a6 a7 a8 a9 : Option Addr) (a10 : Md) (a11 a12 a13 a14 a15 a16 a17 a18 a19 a20 : Nat) : Array Value := #[.slice a0 a10.types.length a11, .slice a1 a10.imports.length a12, .slice a2 a10.funcs.length a13, .slice a3 a10.tables.length a14, .slice a4 a10.mems.length a15, .slice a5 a10.globals.length a16, .slice a6 a10.exports.length a17, .bool a10.hasStart, .int .i64 a10.start, .slice a7 a10.elems.length a18, .slice a8 a10.datas.length a19, .slice a9 a10.customs.length a20]
abbrev q9x2 (a0 a1 a2 a3 a4 a5 : Option Addr) (a6 : Ad) (a7 a8 a9 a10 a11 a12 : Nat) : Array Value := #[.slice a0 a6.funcs.length a7, .slice a1 a6.tables.length a8, .slice a2 a6.mems.length a9, .slice a3 a6.globals.length a10, .slice a4 a6.elems.length a11, .slice a5 a6.datas.length a12]
theorem kHZ {w : World} {S : Nat → Prop} {x : Rx} {cs : LV} (h : tRx.rd w S cs x) (hS : Lt S w) (m : Md) (d : Ad) {At Ai Af Ata Am Ag Ae Ael Ad Ac : OA} {ct ci cf cta cm cg ce cel cd cc : Nat} {Bf Bt Bm Bg Be Bd : OA} {df dt dm dg de dd : Nat} (he : tRi.rd w S [.slice At m.types.length ct, .slice Ai m.imports.length ci, .slice Af m.funcs.length cf, .slice Ata m.tables.length cta, .slice Am m.mems.length cm, .slice Ag m.globals.length cg, .slice Ae m.exports.length ce, .bool m.hasStart, .int .i64 m.start, .slice Ael m.elems.length cel, .slice Ad m.datas.length cd, .slice Ac m.customs.length cc, .slice Bf d.funcs.length df, .slice Bt d.tables.length dt, .slice Bm d.mems.length dm, .slice Bg d.globals.length dg, .slice Be d.elems.length de, .slice Bd d.datas.length dd] ⟨m, d⟩) (hi : x.insts.length < 16) (hn : x.insts.length ≤ 1000000) :
    Calls prog 125 #[.agg cs.toArray, .agg (q9x0 At Ai Af Ata Am Ag Ae Ael Ad Ac m ct ci cf cta cm cg ce cel cd cc), .agg (q9x2 Bf Bt Bm Bg Be Bd d df dt dm dg de dd)] w (RfTo S { x with insts := x.insts ++ [⟨m, d⟩] } (.int .i64 (x.insts.length : Nat)) w) := by
 obtain ⟨F0, G0, G1, G2, G3⟩ := bx2 w cs (q9x0 At Ai Af Ata Am Ag Ae Ael Ad Ac m ct ci cf cta cm cg ce cel cd cc) 71 (q9x2 Bf Bt Bm Bg Be Bd d df dt dm dg de dd) 73 z10 39
 obtain ⟨A9, c9, e9, -, -, E9⟩ := kFr h
 obtain ⟨css, hcs, hrd⟩ := kAY E9 hS
 have HC := hid (And.intro hcs hrd)
 have H := hid h
 have HS := hid hS
 have HE9 := hid e9
 have HE := hid he
 clear he
 have d1 : decide ((16 : Int) ≤ (x.insts.length : Int)) = false := by simp; omega
 clear hcs hrd h hS e9 E9
 have HN := hid hn
 go_enter func125, ntmps125
 have z := G0.o.at_ HE9.o
 go_upto_region 4 with fail
 generalize ((((w.alloc (.cells cs.toArray 39)).alloc (.cells (q9x0 At Ai Af Ata Am Ag Ae Ael Ad Ac m ct ci cf cta cm cg ce cel cd cc) 71)).alloc (.cells (q9x2 Bf Bt Bm Bg Be Bd d df dt dm dg de dd) 73)).alloc (.cells z10 39)) = W at *
 have HSS : Hid (∀ k, S k → k < W.heap.size ∧ ¬ k = w.heap.size ∧ ¬ k = w.heap.size + 1 + 1 + 1 ∧ (S k ∨ w.heap.size ≤ k)) := fun k hk => ⟨ltl (HS.o k hk) F0.o.size, by have := HS.o k hk; omega, by have := HS.o k hk; omega, .inl hk⟩
 have HCW := hid (And.intro ((HC.o.1.fr F0.o (fun k hk => ⟨HS.o k hk, fun x => x⟩))) (HC.o.2.frNo F0.o))
 have HEW := hid (kAH HE.o F0.o HS.o i2)
 go_upto_region 5 with (first | (at_builtin; refine app0 elRi HCW.o (by have := HN.o; omega) dc (fun k hk => (HSS.o k hk).1) ?_; intro v1 w1 hr1 f1; have R1 := hid hr1; have FW1 := hid f1; clear hr1 f1 HCW z) | fail)
 have FT1 := ftr F0 FW1.o
 replace G0 := hid (G0.o.fr FW1.o id)
 replace G1 := hid (G1.o.fr FW1.o id)
 replace G2 := hid (G2.o.fr FW1.o id)
 replace G3 := hid (G3.o.fr FW1.o id)
 have z0_0 := G1.o.cell 0
 have z0_1 := G1.o.cell 1
 have z0_2 := G1.o.cell 2
 have z0_3 := G1.o.cell 3
 have z0_4 := G1.o.cell 4
 have z0_5 := G1.o.cell 5
 have z0_6 := G1.o.cell 6
 have z0_7 := G1.o.cell 7
 have z0_8 := G1.o.cell 8
 have z0_9 := G1.o.cell 9
 have z0_10 := G1.o.cell 10
 have z0_11 := G1.o.cell 11
 have z1_0 := G2.o.cell 0
 have z1_1 := G2.o.cell 1
 have z1_2 := G2.o.cell 2
 have z1_3 := G2.o.cell 3
 have z1_4 := G2.o.cell 4
 have z1_5 := G2.o.cell 5
 go_upto_region 6 with (first | (at_builtin; refine app1 elRi R1.o (kAH HEW.o FW1.o (fun k hk => (HSS.o k hk).1) i2) (by have := HN.o; simp; omega) dc (fun k hk => (HSS.o k hk).1) FW1.o.size FW1.o nr ?_; intro v2 w2 hr2 f2 kg; have R2 := hid hr2; have FW2 := hid f2; have KG := hid kg; clear hr2 f2 kg R1) | fail)
 clear z0_0 z0_1 z0_2 z0_3 z0_4 z0_5 z0_6 z0_7 z0_8 z0_9 z0_10 z0_11 z1_0 z1_1 z1_2 z1_3 z1_4 z1_5
 replace G0 := hid (KG.o _ _ _ G0.o dc)
 replace G3 := hid (KG.o _ _ _ G3.o dc)
 clear KG FW1 FT1 G1 G2
 have FT2 := ftr F0 FW2.o
 obtain ⟨A', c', e2, l1, l2, E2⟩ := R2.o.els (S' := fun k => S k ∨ v2.ownBlock = some k) (fun _ h => .inl h) (fun g hg => .inr hg)
 have e3 : ([] ++ x.insts ++ [(⟨m, d⟩ : Ri)]).length = x.insts.length + 1 := by simp
 have HR := hid (And.intro (And.intro l1 l2) (And.intro E2 (fun g (e : v2.ownBlock = some g) => R2.o.own e)))
 rw [e3] at e2
 subst e2
 clear R2 l1 l2 E2
 have y := G0.o.frozen 9
 have y' := G0.o.at_ HE9.o
 go_upto_region 7 with fail
 clear y y'
 obtain ⟨N0, N1, HL2, HO2⟩ := setf G0.o G3.o om H.o 9 (.slice A' (x.insts.length + 1) c') rfl
 go_wp2_with (first | refine ldX N0.o HL2.o ?_ | refine stX N1.o rfl HL2.o HO2.o ?_ | fail)
 exact ryes (rcore (x' := { x with insts := x.insts ++ [(⟨m, d⟩ : Ri)] }) (t := tRi) (ys := [] ++ x.insts ++ [(⟨m, d⟩ : Ri)]) (fun f hB l m e => kOx H.o f HS.o hB l m e) H.o FT2.o G0.o G3.o om HR.o e3 HSS.o (by have := FW2.o.size; omega) F0.o.size dc)
theorem kIW {w : World} {S : Nat → Prop} {x : Rx} {cs : LV} (h : tRx.rd w S cs x) (hS : Lt S w) (m : Md) (d : Ad) {At Ai Af Ata Am Ag Ae Ael Ad Ac : OA} {ct ci cf cta cm cg ce cel cd cc : Nat} {Bf Bt Bm Bg Be Bd : OA} {df dt dm dg de dd : Nat} (hi : ¬ x.insts.length < 16) :
    Calls prog 125 #[.agg cs.toArray, .agg (q9x0 At Ai Af Ata Am Ag Ae Ael Ad Ac m ct ci cf cta cm cg ce cel cd cc), .agg (q9x2 Bf Bt Bm Bg Be Bd d df dt dm dg de dd)] w (RfTo S x (.int .i64 (-1)) w) := by
 obtain ⟨F0, G0, G1, G2, G3⟩ := bx2 w cs (q9x0 At Ai Af Ata Am Ag Ae Ael Ad Ac m ct ci cf cta cm cg ce cel cd cc) 71 (q9x2 Bf Bt Bm Bg Be Bd d df dt dm dg de dd) 73 z10 39
 have H := hid h
 have HS := hid hS
 have HCL := hid (rx_one h)
 have d1 : decide ((16 : Int) ≤ (x.insts.length : Int)) = true := by simp; omega
 clear h hS
 go_enter func125, ntmps125
 obtain ⟨A9, c9, e9, -⟩ := kFr H.o
 have z := G0.o.at_ e9
 clear e9
 go_upto_region 2 with fail
 generalize ((((w.alloc (.cells cs.toArray 39)).alloc (.cells (q9x0 At Ai Af Ata Am Ag Ae Ael Ad Ac m ct ci cf cta cm cg ce cel cd cc) 71)).alloc (.cells (q9x2 Bf Bt Bm Bg Be Bd d df dt dm dg de dd) 73)).alloc (.cells z10 39)) = W at *
 exact yy48
theorem r6glob_any (g : Gl) (w : World) : Calls prog 192 #[.agg #[.int .i64 g.val, .bool g.mut_]] w fun e w' => e = .returned (.bool (kAf g.val)) ∧ Fr No w w' := by
 have F0 := hid ((Fr.refl No w).alloc (.cells #[.int .i64 g.val, .bool g.mut_] 54))
 go_enter func192, ntmps192
 go_wp2_with (go_at_call 202; refine (kEQ _ _).mono ?_; rintro e w' ⟨rfl, rfl⟩)
 go_ret
 exact ⟨rfl, F0.o⟩
abbrev q9x5 (a0 : LV) (a1 : Gl) (a2 : Vl) : Array Value := #[.agg a0.toArray, .agg #[.int .i64 a1.val, .bool a1.mut_], .agg #[.int .i64 a2.t, .int .u64 a2.n]]
theorem kGD {w : World} {S : Nat → Prop} {x : Rx} {cs : LV} (h : tRx.rd w S cs x) (hS : Lt S w) (g : Gl) (v : Vl) (h1 : kAf g.val = false) :
    Calls prog 122 (q9x5 cs g v) w (RfTo S x (.int .i64 (-1)) w) := by
 obtain ⟨F0, G0, G1, G2, G3⟩ := bx2 w cs #[.int .i64 g.val, .bool g.mut_] 54 #[.int .i64 v.t, .int .u64 v.n] 57 z10 39
 exact yy23
theorem kGC {w : World} {S : Nat → Prop} {x : Rx} {cs : LV} (h : tRx.rd w S cs x) (hS : Lt S w) (g : Gl) (v : Vl) (h1 : kAf g.val = true) (h2 : (v.t != g.val) = true) :
    Calls prog 122 (q9x5 cs g v) w (RfTo S x (.int .i64 (-1)) w) := by
 obtain ⟨F0, G0, G1, G2, G3⟩ := bx2 w cs #[.int .i64 g.val, .bool g.mut_] 54 #[.int .i64 v.t, .int .u64 v.n] 57 z10 39
 exact yy23
theorem kGB {w : World} {S : Nat → Prop} {x : Rx} {cs : LV} (h : tRx.rd w S cs x) (hS : Lt S w) (g : Gl) (v : Vl) (h1 : kAf g.val = true) (h2 : (v.t != g.val) = false) (h3 : vlB v = false) :
    Calls prog 122 (q9x5 cs g v) w (RfTo S x (.int .i64 (-1)) w) := by
 obtain ⟨F0, G0, G1, G2, G3⟩ := bx2 w cs #[.int .i64 g.val, .bool g.mut_] 54 #[.int .i64 v.t, .int .u64 v.n] 57 z10 39
 have H := hid h
 have HS := hid hS
 have HCL := hid (rx_one h)
 have HV1 := hid h1
 have HV3 := hid h3
 clear h1 h3
 clear h hS
 go_enter func122, ntmps122
 go_wp2_with fail
 generalize ((((w.alloc (.cells cs.toArray 39)).alloc (.cells #[.int .i64 g.val, .bool g.mut_] 54)).alloc (.cells #[.int .i64 v.t, .int .u64 v.n] 57)).alloc (.cells z10 39)) = W0 at *
 refine (r6glob_any g _).mono ?_
 rintro e wa ⟨rfl, f1⟩
 replace F0 := ftr F0 f1
 replace G0 := hid (G0.o.fr f1 id)
 replace G1 := hid (G1.o.fr f1 id)
 replace G2 := hid (G2.o.fr f1 id)
 replace G3 := hid (G3.o.fr f1 id)
 clear f1
 rw [HV1.o]
 have z1_0 := G1.o.cell 0
 have z1_1 := G1.o.cell 1
 have z2_0 := G2.o.cell 0
 have z2_1 := G2.o.cell 1
 go_wp2_with fail
 clear z1_0 z1_1
 clear z2_0 z2_1
 refine (kBe v _).mono ?_
 rintro e wb ⟨rfl, f1⟩
 replace F0 := ftr F0 f1
 replace G0 := hid (G0.o.fr f1 id)
 replace G1 := hid (G1.o.fr f1 id)
 replace G2 := hid (G2.o.fr f1 id)
 replace G3 := hid (G3.o.fr f1 id)
 clear f1
 rw [HV3.o]
 go_upto_region 2 with fail
 generalize wb = W at *
 exact yy48
theorem kGA {w : World} {S : Nat → Prop} {x : Rx} {cs : LV} (h : tRx.rd w S cs x) (hS : Lt S w) (g : Gl) (v : Vl) (he : tRg.rd w S [.int .i64 g.val, .bool g.mut_, .int .i64 v.t, .int .u64 v.n] ⟨g, v⟩) (h1 : kAf g.val = true) (h2 : (v.t != g.val) = false) (h3 : vlB v = true) (hn : x.globs.length ≤ 1000000) :
    Calls prog 122 (q9x5 cs g v) w (RfTo S { x with globs := x.globs ++ [⟨g, v⟩] } (.int .i64 (x.globs.length : Nat)) w) := by
 obtain ⟨F0, G0, G1, G2, G3⟩ := bx2 w cs #[.int .i64 g.val, .bool g.mut_] 54 #[.int .i64 v.t, .int .u64 v.n] 57 z10 39
 obtain ⟨A6, c6, e6, -, -, E6⟩ := Rx_g6 h
 obtain ⟨css, hcs, hrd⟩ := kAY E6 hS
 have HC := hid (And.intro hcs hrd)
 have H := hid h
 have HS := hid hS
 have HE6 := hid e6
 have HE := hid he
 clear he
 have HV1 := hid h1
 have HV3 := hid h3
 clear h1 h3
 clear hcs hrd h hS e6 E6
 have HN := hid hn
 go_enter func122, ntmps122
 go_wp2_with fail
 generalize ((((w.alloc (.cells cs.toArray 39)).alloc (.cells #[.int .i64 g.val, .bool g.mut_] 54)).alloc (.cells #[.int .i64 v.t, .int .u64 v.n] 57)).alloc (.cells z10 39)) = W0 at *
 refine (r6glob_any g _).mono ?_
 rintro e wa ⟨rfl, f1⟩
 replace F0 := ftr F0 f1
 replace G0 := hid (G0.o.fr f1 id)
 replace G1 := hid (G1.o.fr f1 id)
 replace G2 := hid (G2.o.fr f1 id)
 replace G3 := hid (G3.o.fr f1 id)
 clear f1
 rw [HV1.o]
 have z1_0 := G1.o.cell 0
 have z1_1 := G1.o.cell 1
 have z2_0 := G2.o.cell 0
 have z2_1 := G2.o.cell 1
 go_wp2_with fail
 clear z1_0 z1_1
 clear z2_0 z2_1
 refine (kBe v _).mono ?_
 rintro e wb ⟨rfl, f1⟩
 replace F0 := ftr F0 f1
 replace G0 := hid (G0.o.fr f1 id)
 replace G1 := hid (G1.o.fr f1 id)
 replace G2 := hid (G2.o.fr f1 id)
 replace G3 := hid (G3.o.fr f1 id)
 clear f1
 rw [HV3.o]
 go_upto_region 4 with fail
 generalize wb = W at *
 have HSS : Hid (∀ k, S k → k < W.heap.size ∧ ¬ k = w.heap.size ∧ ¬ k = w.heap.size + 1 + 1 + 1 ∧ (S k ∨ w.heap.size ≤ k)) := fun k hk => ⟨ltl (HS.o k hk) F0.o.size, by have := HS.o k hk; omega, by have := HS.o k hk; omega, .inl hk⟩
 have HCW := hid (And.intro ((HC.o.1.fr F0.o (fun k hk => ⟨HS.o k hk, fun x => x⟩))) (HC.o.2.frNo F0.o))
 have HEW := hid (kAH HE.o F0.o HS.o i2)
 have z := G0.o.at_ HE6.o
 go_upto_region 5 with (first | (at_builtin; refine app0 elRg HCW.o (by have := HN.o; omega) dc (fun k hk => (HSS.o k hk).1) ?_; intro v1 w1 hr1 f1; have R1 := hid hr1; have FW1 := hid f1; clear hr1 f1 HCW z) | fail)
 have FT1 := ftr F0 FW1.o
 replace G0 := hid (G0.o.fr FW1.o id)
 replace G1 := hid (G1.o.fr FW1.o id)
 replace G2 := hid (G2.o.fr FW1.o id)
 replace G3 := hid (G3.o.fr FW1.o id)
 have z0_0 := G1.o.cell 0
 have z0_1 := G1.o.cell 1
 have z1_0 := G2.o.cell 0
 have z1_1 := G2.o.cell 1
 go_upto_region 6 with (first | (at_builtin; refine app1 elRg R1.o (kAH HEW.o FW1.o (fun k hk => (HSS.o k hk).1) i2) (by have := HN.o; simp; omega) dc (fun k hk => (HSS.o k hk).1) FW1.o.size FW1.o nr ?_; intro v2 w2 hr2 f2 kg; have R2 := hid hr2; have FW2 := hid f2; have KG := hid kg; clear hr2 f2 kg R1) | fail)
 clear z0_0 z0_1 z1_0 z1_1
 replace G0 := hid (KG.o _ _ _ G0.o dc)
 replace G3 := hid (KG.o _ _ _ G3.o dc)
 clear KG FW1 FT1 G1 G2
 have FT2 := ftr F0 FW2.o
 obtain ⟨A', c', e2, l1, l2, E2⟩ := R2.o.els (S' := fun k => S k ∨ v2.ownBlock = some k) (fun _ h => .inl h) (fun g hg => .inr hg)
 have e3 : ([] ++ x.globs ++ [(⟨g, v⟩ : Rg)]).length = x.globs.length + 1 := by simp
 have HR := hid (And.intro (And.intro l1 l2) (And.intro E2 (fun g (e : v2.ownBlock = some g) => R2.o.own e)))
 rw [e3] at e2
 subst e2
 clear R2 l1 l2 E2
 have y := G0.o.frozen 6
 have y' := G0.o.at_ HE6.o
 go_upto_region 7 with fail
 clear y y'
 obtain ⟨N0, N1, HL2, HO2⟩ := setf G0.o G3.o om H.o 6 (.slice A' (x.globs.length + 1) c') rfl
 go_wp2_with (first | refine ldX N0.o HL2.o ?_ | refine stX N1.o rfl HL2.o HO2.o ?_ | fail)
 exact ryes (rcore (x' := { x with globs := x.globs ++ [(⟨g, v⟩ : Rg)] }) (t := tRg) (ys := [] ++ x.globs ++ [(⟨g, v⟩ : Rg)]) (fun f hB l m e => kNH H.o f HS.o hB l m e) H.o FT2.o G0.o G3.o om HR.o e3 HSS.o (by have := FW2.o.size; omega) F0.o.size dc)
theorem kBp {α : Type} {t : Ty α} [hf : kAh t] {w : World} {S T : Nat → Prop} {A : OA} {xs : List α} (h : t.els w S A xs) (hT : ∀ k o, A = some ⟨k, o, none⟩ → S k → T k) : t.els w T A xs := by
 rcases h with h | ⟨b, o, e, hb, h⟩
 · exact .inl h
 exact .inr ⟨b, o, e, hT b o e hb, fun i x hx => by obtain ⟨ds, h1, h2⟩ := h i x hx; exact ⟨ds, h1, hf.flat _ _ _ _ _ _ h2⟩⟩
theorem kJn {w : World} {S : Nat → Prop} {x : Rx} {cs : LV} (h : tRx.rd w S cs x) (hS : Lt S w) (l : Lim) (h1 : validB l = false) :
    Calls prog 121 #[.agg cs.toArray, .agg #[.int .i64 l.min, .int .i64 l.max, .bool l.has]] w (RfTo S x (.int .i64 (-1)) w) := by
 obtain ⟨F0, G0, G1, G2⟩ := bx1 w cs #[.int .i64 l.min, .int .i64 l.max, .bool l.has] 50 z10 39
 have H := hid h
 have HS := hid hS
 have HCL := hid (rx_one h)
 have HV1 := hid h1
 clear h1
 clear h hS
 go_enter func121, ntmps121
 go_wp2_with fail
 generalize (((w.alloc (.cells cs.toArray 39)).alloc (.cells #[.int .i64 l.min, .int .i64 l.max, .bool l.has] 50)).alloc (.cells z10 39)) = W0 at *
 refine (kHP l W0).mono ?_
 rintro e wa hN
 unfold RnTo at hN
 rw [if_neg (by rw [HV1.o]; decide)] at hN
 obtain ⟨rfl, f1⟩ := hN
 replace F0 := hid ((F0.o.trans f1 i3).alloc (.cells #[.int .i64 0, .int .i64 0, .bool false, .slice none 0 0] 143))
 replace G0 := hid ((G0.o.fr f1 id).alloc (.cells #[.int .i64 0, .int .i64 0, .bool false, .slice none 0 0] 143))
 replace G1 := hid ((G1.o.fr f1 id).alloc (.cells #[.int .i64 0, .int .i64 0, .bool false, .slice none 0 0] 143))
 replace G2 := hid ((G2.o.fr f1 id).alloc (.cells #[.int .i64 0, .int .i64 0, .bool false, .slice none 0 0] 143))
 clear f1
 go_upto_region 3 with fail
 generalize wa.alloc (.cells #[.int .i64 0, .int .i64 0, .bool false, .slice none 0 0] 143) = W at *
 exact yy13
abbrev q9x6 (a0 : Lim) (a1 : Option Addr) (a2 : Nat) : Array Value := #[.int .i64 a0.min, .int .i64 a0.max, .bool a0.has, .slice a1 (a0.min.toNat * 256) a2]
theorem kIV {w : World} {S : Nat → Prop} {x : Rx} {cs : LV} (h : tRx.rd w S cs x) (hS : Lt S w) (l : Lim) (h1 : validB l = true) (w1 : (Lit.int .i64 l.min).wf = true) (w2 : (Lit.int .i64 l.max).wf = true) (hn : x.mems.length ≤ 1000000) :
    Calls prog 121 #[.agg cs.toArray, .agg #[.int .i64 l.min, .int .i64 l.max, .bool l.has]] w (RfTo S { x with mems := x.mems ++ [⟨l, List.replicate (l.min.toNat * 256) 0⟩] } (.int .i64 (x.mems.length : Nat)) w) := by
 obtain ⟨F0, G0, G1, G2⟩ := bx1 w cs #[.int .i64 l.min, .int .i64 l.max, .bool l.has] 50 z10 39
 obtain ⟨A5, c5, e5, -, -, E5⟩ := kKV h
 obtain ⟨css, hcs, hrd⟩ := kAY E5 hS
 have HC := hid (And.intro hcs hrd)
 have H := hid h
 have HS := hid hS
 have HE5 := hid e5
 have HV1 := hid h1
 have HWF := hid (And.intro w1 w2)
 clear h1 w1 w2
 clear hcs hrd h hS e5 E5
 have HN := hid hn
 go_enter func121, ntmps121
 go_wp2_with fail
 generalize (((w.alloc (.cells cs.toArray 39)).alloc (.cells #[.int .i64 l.min, .int .i64 l.max, .bool l.has] 50)).alloc (.cells z10 39)) = W0 at *
 refine (kHP l W0).mono ?_
 rintro e wa hN
 unfold RnTo at hN
 rw [if_pos HV1.o] at hN
 obtain ⟨A, c, rfl, hm, hcm, hq, f1⟩ := hN
 have HM := hid (kBp (T := Nw W0 wa) hm.els (fun k o e hk => ⟨hq k o e, hk⟩))
 have HMC := hid (And.intro hm.cap hcm)
 have W0S := hid (And.intro G2.o.lt (And.intro F0.o.size f1.size))
 clear hm hq hcm
 replace F0 := hid ((F0.o.trans f1 i3).alloc (.cells (q9x6 l A c) 143))
 replace G0 := hid ((G0.o.fr f1 id).alloc (.cells (q9x6 l A c) 143))
 replace G1 := hid ((G1.o.fr f1 id).alloc (.cells (q9x6 l A c) 143))
 replace G2 := hid ((G2.o.fr f1 id).alloc (.cells (q9x6 l A c) 143))
 have GL := hid (Blk.new wa 143 (q9x6 l A c))
 have HEM := hid (HM.o.fr ((Fr.refl No wa).alloc (.cells (q9x6 l A c) 143)) (fun k hk => ⟨hk.2, fun x => x⟩))
 have GLL := hid GL.o.lt
 clear HM
 clear f1
 go_upto_region 5 with fail
 generalize wa.alloc (.cells (q9x6 l A c) 143) = W at *
 have HSS : Hid (∀ k, (fun k => S k ∨ Nw W0 wa k) k → k < W.heap.size ∧ ¬ k = w.heap.size ∧ ¬ k = w.heap.size + 1 + 1 ∧ (S k ∨ w.heap.size ≤ k)) := fun k hk => by
  have h1 := W0S.o.1
  have h2 := W0S.o.2.1
  have h3 := W0S.o.2.2
  have h4 := GLL.o
  rcases hk with hk | ⟨ha, hb⟩
  · have := HS.o k hk
    exact ⟨by omega, by omega, by omega, .inl hk⟩
  exact ⟨by omega, by omega, by omega, .inr om⟩
 have HCW := hid (And.intro ((HC.o.1.fr F0.o (fun k hk => ⟨HS.o k hk, fun x => x⟩)).more (S' := fun k => S k ∨ Nw W0 wa k) (fun _ h => Or.inl h)) (HC.o.2.frNo F0.o))
 have HEW := hid (by
  have h := kGv (w := W) (S := fun k => S k ∨ Nw W0 wa k) (a := ⟨l, List.replicate (l.min.toNat * 256) 0⟩) (Ab := A) (cb := c) HWF.o.1 HWF.o.2 HMC.o.1 HMC.o.2 (HEM.o.more (fun _ h => .inr h))
  simp only [List.length_replicate] at h
  exact h)
 have z := G0.o.at_ HE5.o
 go_upto_region 6 with (first | (at_builtin; refine app0 elRm HCW.o (by have := HN.o; omega) dc (fun k hk => (HSS.o k hk).1) ?_; intro v1 w1 hr1 f1; have R1 := hid hr1; have FW1 := hid f1; clear hr1 f1 HCW z) | fail)
 have FT1 := ftr F0 FW1.o
 replace G0 := hid (G0.o.fr FW1.o id)
 replace G1 := hid (G1.o.fr FW1.o id)
 replace G2 := hid (G2.o.fr FW1.o id)
 have z0_0 := G1.o.cell 0
 have z0_1 := G1.o.cell 1
 have z0_2 := G1.o.cell 2
 replace GL := hid (GL.o.fr FW1.o id)
 have zGL_0 := GL.o.cell 0
 have zGL_1 := GL.o.cell 1
 have zGL_2 := GL.o.cell 2
 have zGL_3 := GL.o.cell 3
 go_upto_region 7 with (first | (at_builtin; refine app1 elRm R1.o (kAH HEW.o FW1.o (fun k hk => (HSS.o k hk).1) i2) (by have := HN.o; simp; omega) dc (fun k hk => (HSS.o k hk).1) FW1.o.size FW1.o nr ?_; intro v2 w2 hr2 f2 kg; have R2 := hid hr2; have FW2 := hid f2; have KG := hid kg; clear hr2 f2 kg R1) | fail)
 clear z0_0 z0_1 z0_2 zGL_0 zGL_1 zGL_2 zGL_3
 replace G0 := hid (KG.o _ _ _ G0.o dc)
 replace G2 := hid (KG.o _ _ _ G2.o dc)
 clear KG FW1 FT1 G1
 have FT2 := ftr F0 FW2.o
 obtain ⟨A', c', e2, l1, l2, E2⟩ := R2.o.els (S' := fun k => (fun k => S k ∨ Nw W0 wa k) k ∨ v2.ownBlock = some k) (fun _ h => .inl h) (fun g hg => .inr hg)
 have e3 : ([] ++ x.mems ++ [(⟨l, List.replicate (l.min.toNat * 256) 0⟩ : Rm)]).length = x.mems.length + 1 := by simp
 have HR := hid (And.intro (And.intro l1 l2) (And.intro E2 (fun g (e : v2.ownBlock = some g) => R2.o.own e)))
 rw [e3] at e2
 subst e2
 clear R2 l1 l2 E2
 have y := G0.o.frozen 5
 have y' := G0.o.at_ HE5.o
 go_upto_region 8 with fail
 clear y y'
 obtain ⟨N0, N1, HL2, HO2⟩ := setf G0.o G2.o om H.o 5 (.slice A' (x.mems.length + 1) c') rfl
 go_wp2_with (first | refine ldX N0.o HL2.o ?_ | refine stX N1.o rfl HL2.o HO2.o ?_ | fail)
 exact ryes (rcore (x' := { x with mems := x.mems ++ [(⟨l, List.replicate (l.min.toNat * 256) 0⟩ : Rm)] }) (t := tRm) (ys := [] ++ x.mems ++ [(⟨l, List.replicate (l.min.toNat * 256) 0⟩ : Rm)]) (fun f hB l m e => kNI H.o f HS.o hB l m e) H.o FT2.o G0.o G2.o om HR.o e3 HSS.o (by have := FW2.o.size; omega) F0.o.size dc)
theorem kKw (e : Int) (w : World) :
    Calls prog 204 #[.int .i64 e] w fun e' w' => e' = .returned (.bool (refB e)) ∧ w = w' := by
 go_enter func204, ntmps204
 go_wp2
 all_goals go_ret
 all_goals simp_all [refB]
theorem kKx (mn mx : Int) (h : Bool) (most : Int) (w : World) :
    Calls prog 205 #[.agg #[.int .i64 mn, .int .i64 mx, .bool h], .int .i64 most] w fun e' w' => e' = .returned (.bool (limB mn mx h most)) ∧ Fr No w w' := by
 go_enter func205, ntmps205
 go_wp2
 all_goals go_ret
 all_goals (refine ⟨rt_bool ?_, (Fr.refl No _).alloc _⟩)
 all_goals (first | (simp [limB, *] <;> omega) | (cases h <;> simp_all [limB] <;> omega))
theorem kEv (e mn mx : Int) (h : Bool) (w : World) :
    Calls prog 190 #[.agg #[.int .i64 e, .int .i64 mn, .int .i64 mx, .bool h]] w fun e' w' => e' = .returned (.bool (tabB e mn mx h)) ∧ Fr No w w' := by
 cases hr : refB e
 all_goals
  go_enter func190, ntmps190
  go_wp2_with (first
   | (go_at_call 204; refine (kKw _ _).mono ?_; rintro e w' ⟨rfl, rfl⟩)
   | (go_at_call 205; refine (kKx _ _ _ _ _).mono ?_; rintro e w' ⟨rfl, hb⟩))
  go_ret
 · exact ⟨rt_bool (by simp [tabB, hr]), (Fr.refl No _).alloc _⟩
 exact ⟨rt_bool (by simp [tabB, hr]), ((Fr.refl No _).alloc _).trans hb i3⟩
abbrev q9x7 (a0 : Tb) : Array Value := #[.int .i64 a0.elem, .int .i64 a0.lim.min, .int .i64 a0.lim.max, .bool a0.lim.has]
theorem kHY {w : World} {S : Nat → Prop} {x : Rx} {cs : LV} (h : tRx.rd w S cs x) (hS : Lt S w) (t : Tb) (h1 : tabB t.elem t.lim.min t.lim.max t.lim.has = false) :
    Calls prog 120 #[.agg cs.toArray, .agg (q9x7 t)] w (RfTo S x (.int .i64 (-1)) w) := by
 obtain ⟨F0, G0, G1, G2⟩ := bx1 w cs (q9x7 t) 52 z10 39
 have H := hid h
 have HS := hid hS
 have HCL := hid (rx_one h)
 have HV1 := hid h1
 clear h1
 clear h hS
 go_enter func120, ntmps120
 go_wp2_with fail
 generalize (((w.alloc (.cells cs.toArray 39)).alloc (.cells (q9x7 t) 52)).alloc (.cells z10 39)) = W0 at *
 refine (kEv _ _ _ _ _).mono ?_
 rintro e wa ⟨rfl, f1⟩
 replace F0 := ftr F0 f1
 replace G0 := hid (G0.o.fr f1 id)
 replace G1 := hid (G1.o.fr f1 id)
 replace G2 := hid (G2.o.fr f1 id)
 clear f1
 rw [HV1.o]
 go_upto_region 2 with fail
 generalize wa = W at *
 exact yy13
theorem kGg {w : World} {S : Nat → Prop} {x : Rx} {cs : LV} (h : tRx.rd w S cs x) (hS : Lt S w) (e mx : Int) (has : Bool) (n : Nat) (h1 : tabB e n mx has = true) (hn2 : n ≤ 1024) (w1 : (Lit.int .i64 e).wf = true) (w2 : (Lit.int .i64 (n : Nat)).wf = true) (w3 : (Lit.int .i64 mx).wf = true) (hn : x.tabs.length ≤ 1000000) :
    Calls prog 120 #[.agg cs.toArray, .agg #[.int .i64 e, .int .i64 (n : Nat), .int .i64 mx, .bool has]] w (RfTo S { x with tabs := x.tabs ++ [⟨⟨e, ⟨n, mx, has⟩⟩, List.replicate n 0⟩] } (.int .i64 (x.tabs.length : Nat)) w) := by
 obtain ⟨F0, G0, G1, G2⟩ := bx1 w cs #[.int .i64 e, .int .i64 (n : Nat), .int .i64 mx, .bool has] 52 z10 39
 obtain ⟨A4, c4, e4, -, -, E4⟩ := kNJ h
 obtain ⟨css, hcs, hrd⟩ := kAY E4 hS
 have HC := hid (And.intro hcs hrd)
 have H := hid h
 have HS := hid hS
 have HE4 := hid e4
 have HV1 := hid h1
 have HNN := hid hn2
 have HWF := hid (And.intro w1 (And.intro w2 w3))
 have HEL := hid trivial
 clear h1 hn2 w1 w2 w3
 clear hcs hrd h hS e4 E4
 have HN := hid hn
 go_enter func120, ntmps120
 go_wp2_with fail
 generalize (((w.alloc (.cells cs.toArray 39)).alloc (.cells #[.int .i64 e, .int .i64 (n : Nat), .int .i64 mx, .bool has] 52)).alloc (.cells z10 39)) = W0 at *
 refine (kEv _ _ _ _ _).mono ?_
 rintro e wa ⟨rfl, f1⟩
 replace F0 := ftr F0 f1
 replace G0 := hid (G0.o.fr f1 id)
 replace G1 := hid (G1.o.fr f1 id)
 replace G2 := hid (G2.o.fr f1 id)
 clear f1
 rw [HV1.o]
 go_upto_region 4 with fail
 generalize wa = W at *
 have HSS : Hid (∀ k, S k → k < W.heap.size ∧ ¬ k = w.heap.size ∧ ¬ k = w.heap.size + 1 + 1 ∧ (S k ∨ w.heap.size ≤ k)) := fun k hk => ⟨ltl (HS.o k hk) F0.o.size, by have := HS.o k hk; omega, by have := HS.o k hk; omega, .inl hk⟩
 have HCW := hid (And.intro ((HC.o.1.fr F0.o (fun k hk => ⟨HS.o k hk, fun x => x⟩))) (HC.o.2.frNo F0.o))
 have z := G0.o.at_ HE4.o
 go_upto_region 5 with (first | (at_builtin; refine app0 elRt HCW.o (by have := HN.o; omega) dc (fun k hk => (HSS.o k hk).1) ?_; intro v1 w1 hr1 f1; have R1 := hid hr1; have FW1 := hid f1; clear hr1 f1 HCW z) | fail)
 have FT1 := ftr F0 FW1.o
 replace G0 := hid (G0.o.fr FW1.o id)
 replace G1 := hid (G1.o.fr FW1.o id)
 replace G2 := hid (G2.o.fr FW1.o id)
 have z0_0 := G1.o.cell 0
 have z0_1 := G1.o.cell 1
 have z0_2 := G1.o.cell 2
 have z0_3 := G1.o.cell 3
 have HX : Hid (∀ X, Fr No w1 X → (fun X => Ce X (w.heap.size + 1) 0 (.int .i64 e) ∧ Ce X (w.heap.size + 1) 1 (.int .i64 (n : Nat)) ∧ Ce X (w.heap.size + 1) 2 (.int .i64 mx) ∧ Ce X (w.heap.size + 1) 3 (.bool has)) X) := fun X f => ⟨(G1.o.fr f id).cell 0, (G1.o.fr f id).cell 1, (G1.o.fr f id).cell 2, (G1.o.fr f id).cell 3⟩
 clear z0_0 z0_1 z0_2 z0_3
 have hmk := fun (W : World) => run_mk kMz rfl W .i64 .i64 n (by have := HNN.o; omega) dc
 have n0 : (0 : Int) ≤ (n : Int) := om
 refine rwO (fun X => Ce X (w.heap.size + 1) 0 (.int .i64 e) ∧ Ce X (w.heap.size + 1) 1 (.int .i64 (n : Nat)) ∧ Ce X (w.heap.size + 1) 2 (.int .i64 mx) ∧ Ce X (w.heap.size + 1) 3 (.bool has)) [] (List.range 10) [5, 7, 8] (HX.o _ (Fr.refl No _).drew) ?_
 refine rC ?_
 refine wpO_eff rfl rfl fun K hK => sz ?_
 refine hK _ _ (fun _ => HX.o _ ((Fr.refl No w1).alloc (.cells (Array.replicate n (.int .u64 0)) 55)).drew) ?_
 clear hK K
 refine rC ?_
 refine wpO_eff rfl rfl fun K hK => sz ?_
 refine hK _ _ (fun _ => HX.o _ (((Fr.refl No w1).alloc (.cells (Array.replicate n (.int .u64 0)) 55)).alloc (.cells #[.int .i64 e, .int .i64 (n : Nat), .int .i64 mx, .bool has, .slice (some ⟨w1.heap.size, 0, none⟩) n n] 170)).drew) ?_
 clear hK K
 have FXA := hid ((((Fr.refl No w1).alloc (.cells (Array.replicate n (.int .u64 0)) 55)).alloc (.cells #[.int .i64 e, .int .i64 (n : Nat), .int .i64 mx, .bool has, .slice (some ⟨w1.heap.size, 0, none⟩) n n] 170)).drew)
 have BU : Hid (Blk (((w1.alloc (.cells (Array.replicate n (.int .u64 0)) 55)).alloc (.cells #[.int .i64 e, .int .i64 (n : Nat), .int .i64 mx, .bool has, .slice (some ⟨w1.heap.size, 0, none⟩) n n] 170)).drew) w1.heap.size 55 (Array.replicate n (.int .u64 0))) := ((Blk.new w1 55 (Array.replicate n (.int .u64 0))).alloc (.cells #[.int .i64 e, .int .i64 (n : Nat), .int .i64 mx, .bool has, .slice (some ⟨w1.heap.size, 0, none⟩) n n] 170)).drew
 have BE := hid (Blk.new (w1.alloc (.cells (Array.replicate n (.int .u64 0)) 55)) 170 #[.int .i64 e, .int .i64 (n : Nat), .int .i64 mx, .bool has, .slice (some ⟨w1.heap.size, 0, none⟩) n n])
 have EU : Hid (tU.els (((w1.alloc (.cells (Array.replicate n (.int .u64 0)) 55)).alloc (.cells #[.int .i64 e, .int .i64 (n : Nat), .int .i64 mx, .bool has, .slice (some ⟨w1.heap.size, 0, none⟩) n n] 170)).drew) (fun k => k = w1.heap.size) (some ⟨w1.heap.size, 0, none⟩) (List.replicate n 0)) := by
  refine .inr ⟨_, _, rfl, rfl, fun i x hx => ⟨[.int .u64 x], ?_, rfl, by rw [List.eq_of_mem_replicate (List.mem_of_getElem? hx)]; rfl⟩⟩
  have hi : i < n := by have := (List.getElem?_eq_some_iff.1 hx).1; simpa using this
  have e0 : x = 0 := List.eq_of_mem_replicate (List.mem_of_getElem? hx)
  intro j u hu
  cases j with
  | zero => simp at hu; subst hu; subst e0; rw [Nat.zero_add, Nat.add_zero, show tU.size = 1 from rfl, Nat.mul_one]; exact (BU.o.cell i).trans (by simp [hi])
  | succ j => simp at hu
 have HER : Hid (tRt.rd (((w1.alloc (.cells (Array.replicate n (.int .u64 0)) 55)).alloc (.cells #[.int .i64 e, .int .i64 (n : Nat), .int .i64 mx, .bool has, .slice (some ⟨w1.heap.size, 0, none⟩) n n] 170)).drew) (fun k => S k ∨ k = w1.heap.size) [.int .i64 e, .int .i64 (n : Nat), .int .i64 mx, .bool has, .slice (some ⟨w1.heap.size, 0, none⟩) n n] ⟨⟨e, ⟨n, mx, has⟩⟩, List.replicate n 0⟩) := by
  have h := kNK (w := ((w1.alloc (.cells (Array.replicate n (.int .u64 0)) 55)).alloc (.cells #[.int .i64 e, .int .i64 (n : Nat), .int .i64 mx, .bool has, .slice (some ⟨w1.heap.size, 0, none⟩) n n] 170)).drew) (S := fun k => S k ∨ k = w1.heap.size) (a := ⟨⟨e, ⟨n, mx, has⟩⟩, List.replicate n 0⟩) (Al := some ⟨w1.heap.size, 0, none⟩) (cl := n) HWF.o.1 HWF.o.2.1 HWF.o.2.2 sm (by have := HNN.o; simp only [maxLen]; omega) (EU.o.more (fun _ h => .inr h))
  simp only [List.length_replicate] at h
  exact h
 have HR1 := hid (R1.o.more (S' := fun k => S k ∨ k = w1.heap.size) nr (fun _ h => Or.inl h))
 have HR2 := hid (R1.o.fr FXA.o (fun k hk => ⟨ltl (HSS.o k hk).1 FW1.o.size, fun x => x⟩) (fun _ _ x => x))
 have HR3 := hid (HR2.o.more (S' := fun k => S k ∨ k = w1.heap.size) nr (fun _ h => Or.inl h))
 have HO1 := hid (fun g (e : v1.ownBlock = some g) => R1.o.own e)
 clear HR1 HR2
 have S1 : w1.heap.size < ((w1.alloc (.cells (Array.replicate n (.int .u64 0)) 55)).alloc (.cells #[.int .i64 e, .int .i64 (n : Nat), .int .i64 mx, .bool has, .slice (some ⟨w1.heap.size, 0, none⟩) n n] 170)).drew.heap.size := BU.o.lt
 have HSE := hid (show ((w1.alloc (.cells (Array.replicate n (.int .u64 0)) 55)).heap.size = w1.heap.size + 1) by simp)
 refine wpO_eff rfl rfl (fun K hK => ?_)
 simp only [List.getElem_toArray, List.getElem_cons_succ, List.getElem_cons_zero]
 refine kAs (m := 1) (t := tRt) (P := prog) (base := W.heap.size) (S := fun k => S k ∨ k = w1.heap.size) (v := v1) (xs := [] ++ x.tabs) (ys := [⟨⟨e, ⟨n, mx, has⟩⟩, List.replicate n 0⟩]) (dss := [[.int .i64 e, .int .i64 (n : Nat), .int .i64 mx, .bool has, .slice (some ⟨w1.heap.size, 0, none⟩) n n]]) (B2 := w1.heap.size + 2) elRt rfl rfl rfl HR3.o (Css.one HER.o) ?_ rfl (by have := HN.o; simp; omega) (by have := HN.o; simp; omega) ?_ ?_ ?_
 · have := kFY (w1.alloc (.cells (Array.replicate n (.int .u64 0)) 55)) [.int .i64 e, .int .i64 (n : Nat), .int .i64 mx, .bool has, .slice (some ⟨w1.heap.size, 0, none⟩) n n] 170
   rw [HSE.o] at this
   exact this.drew
 · intro k hk
   have f1 := FXA.o.size
   have f2 := FW1.o.size
   rcases hk with hk | rfl
   · have h1 := (HSS.o k hk).1
     exact ⟨by omega, fun e => by have h2 := (R1.o.own e.symm).1; omega⟩
   exact ⟨S1, fun e => by obtain ⟨_, cs', hb⟩ := R1.o.own e.symm; have := hb.lt; omega⟩
 · have f1 := FXA.o.size
   have f2 := FW1.o.size
   omega
 intro v2 w2 hr2 fr2 hv2
 have R2 := hid hr2
 have FW2 := hid (own_frame HR3.o (FW1.o.trans FXA.o i3) fr2 nr)
 have FB2 := hid fr2
 have W1S := hid (And.intro S1 FW1.o.size)
 have GT1 : Hid ((fun X => Ce X (w.heap.size + 1) 0 (.int .i64 e) ∧ Ce X (w.heap.size + 1) 1 (.int .i64 (n : Nat)) ∧ Ce X (w.heap.size + 1) 2 (.int .i64 mx) ∧ Ce X (w.heap.size + 1) 3 (.bool has)) w2) := by
  have hb := (G1.o.fr FXA.o id).fr fr2 (fun e => by obtain ⟨h1, cs', h2⟩ := HO1.o _ e.symm; exact Blk.ne_ G1.o h2 dc rfl)
  exact ⟨hb.cell 0, hb.cell 1, hb.cell 2, hb.cell 3⟩
 refine hK _ _ (fun _ => GT1.o) ?_
 clear hK K hr2 fr2 hv2 HER HR3 BE EU R1 HEL
 refine rC ?_
 refine wpO_nil ?_
 have HSS2 : Hid (∀ k, (fun k => S k ∨ k = w1.heap.size) k → k < w2.heap.size ∧ ¬ k = w.heap.size ∧ ¬ k = w.heap.size + 1 + 1 ∧ (S k ∨ w.heap.size ≤ k)) := by
  intro k hk
  have f0 := F0.o.size
  have f1 := FW2.o.size
  have f2 := W1S.o.1
  have f3 := W1S.o.2
  have f4 := G2.o.lt
  have f5 := FB2.o.size
  rcases hk with hk | rfl
  · obtain ⟨h1, h2, h3, h4⟩ := HSS.o k hk
    exact ⟨by omega, h2, h3, h4⟩
  exact ⟨by omega, by omega, by omega, .inr om⟩
 go_upto_region 6 with fail
 clear GT1 HX hmk n0 BU W1S
 have KG : Hid (∀ (g : Nat) (t : TypeId) (cs : Array Value), Blk w1 g t cs → t ≠ 170 → Blk w2 g t cs) := fun g t cs hb hne => (hb.fr FXA.o id).fr FB2.o (fun e => by obtain ⟨h1, cs', h2⟩ := HO1.o g e.symm; exact Blk.ne_ hb h2 hne rfl)
 replace G0 := hid (KG.o _ _ _ G0.o dc)
 replace G2 := hid (KG.o _ _ _ G2.o dc)
 clear KG FW1 FT1 FB2 HO1 G1
 have FT2 := ftr F0 FW2.o
 obtain ⟨A', c', e2, l1, l2, E2⟩ := R2.o.els (S' := fun k => (fun k => S k ∨ k = w1.heap.size) k ∨ v2.ownBlock = some k) (fun _ h => .inl h) (fun g hg => .inr hg)
 have e3 : ([] ++ x.tabs ++ [(⟨⟨e, ⟨n, mx, has⟩⟩, List.replicate n 0⟩ : Rt)]).length = x.tabs.length + 1 := by simp
 have HR := hid (And.intro (And.intro l1 l2) (And.intro E2 (fun g (e : v2.ownBlock = some g) => R2.o.own e)))
 rw [e3] at e2
 subst e2
 clear R2 l1 l2 E2
 have y := G0.o.frozen 4
 have y' := G0.o.at_ HE4.o
 go_upto_region 7 with fail
 clear y y'
 obtain ⟨N0, N1, HL2, HO2⟩ := setf G0.o G2.o om H.o 4 (.slice A' (x.tabs.length + 1) c') rfl
 go_wp2_with (first | refine ldX N0.o HL2.o ?_ | refine stX N1.o rfl HL2.o HO2.o ?_ | fail)
 exact ryes (rcore (x' := { x with tabs := x.tabs ++ [(⟨⟨e, ⟨n, mx, has⟩⟩, List.replicate n 0⟩ : Rt)] }) (t := tRt) (ys := [] ++ x.tabs ++ [(⟨⟨e, ⟨n, mx, has⟩⟩, List.replicate n 0⟩ : Rt)]) (fun f hB l m e => kOy H.o f HS.o hB l m e) H.o FT2.o G0.o G2.o om HR.o e3 HSS2.o (by have := FW2.o.size; omega) F0.o.size dc)
abbrev q9x3 (a0 : LV) (a1 a2 : Option Addr) (a3 : Fi) (a4 a5 : Nat) : Array Value := #[.agg a0.toArray, .agg #[.slice a1 a3.ty.params.length a4, .slice a2 a3.ty.results.length a5, .int .i64 a3.inst, .int .i64 a3.index]]
abbrev q9x4 (a0 a1 : Option Addr) (a2 : Fi) (a3 a4 : Nat) : Array Value := #[.slice a0 a2.ty.params.length a3, .slice a1 a2.ty.results.length a4, .int .i64 a2.inst, .int .i64 a2.index]
theorem kIe {w : World} {S : Nat → Prop} {x : Rx} {cs : LV} (h : tRx.rd w S cs x) (hS : Lt S w) (f : Fi) (P1 P2 : OA) (q1 q2 : Nat) (h1 : tI.els w S P1 f.ty.params) (h2 : tI.els w S P2 f.ty.results) (b1 : f.ty.params.length ≤ 140737488351232) (b2 : f.ty.results.length ≤ 140737488351232) (hv : fnB f.ty = false) :
    Calls prog 119 (q9x3 cs P1 P2 f q1 q2) w (RfTo S x (.int .i64 (-1)) w) := by
 obtain ⟨F0, G0, G1, G2⟩ := bx1 w cs (q9x4 P1 P2 f q1 q2) 47 z10 39
 have H := hid h
 have HS := hid hS
 have HCL := hid (rx_one h)
 obtain ⟨A0, c0, e0, -, -, EH0⟩ := kEC H.o
 have HE0 := hid e0
 clear e0
 have HR := hid (fun (X : World) (f0 : Fr No w X) => kAe f.ty P1 P2 q1 q2 w.heap.size X f0.size (kAA h1 f0 HS.o HS.o) (kAA h2 f0 HS.o HS.o) b1 b2)
 rw [hv] at HR
 have HI1 := hid h1
 have HI2 := hid h2
 clear hv h1 h2
 clear h hS
 go_enter func119, ntmps119
 go_wp2_with fail
 generalize (((w.alloc (.cells cs.toArray 39)).alloc (.cells (q9x4 P1 P2 f q1 q2) 47)).alloc (.cells z10 39)) = W0 at *
 refine (HR.o _ F0.o).mono ?_
 rintro e wa ⟨rfl, f1⟩
 replace F0 := ftr F0 f1
 replace G0 := hid (G0.o.fr f1 id)
 replace G1 := hid (G1.o.fr f1 id)
 replace G2 := hid (G2.o.fr f1 id)
 clear f1 HR
 go_upto_region 2 with fail
 generalize wa = W at *
 exact yy13
theorem kId {w : World} {S : Nat → Prop} {x : Rx} {cs : LV} (h : tRx.rd w S cs x) (hS : Lt S w) (f : Fi) (P1 P2 : OA) (q1 q2 : Nat) (h1 : tI.els w S P1 f.ty.params) (h2 : tI.els w S P2 f.ty.results) (b1 : f.ty.params.length ≤ 140737488351232) (b2 : f.ty.results.length ≤ 140737488351232) (hv : fnB f.ty = true) (d1 : decide (f.inst < -1) = true) :
    Calls prog 119 (q9x3 cs P1 P2 f q1 q2) w (RfTo S x (.int .i64 (-1)) w) := by
 obtain ⟨F0, G0, G1, G2⟩ := bx1 w cs (q9x4 P1 P2 f q1 q2) 47 z10 39
 have H := hid h
 have HS := hid hS
 have HCL := hid (rx_one h)
 obtain ⟨A0, c0, e0, -, -, EH0⟩ := kEC H.o
 have HE0 := hid e0
 clear e0
 have HR := hid (fun (X : World) (f0 : Fr No w X) => kAe f.ty P1 P2 q1 q2 w.heap.size X f0.size (kAA h1 f0 HS.o HS.o) (kAA h2 f0 HS.o HS.o) b1 b2)
 rw [hv] at HR
 have HI1 := hid h1
 have HI2 := hid h2
 clear hv h1 h2
 clear h hS
 go_enter func119, ntmps119
 go_wp2_with fail
 generalize (((w.alloc (.cells cs.toArray 39)).alloc (.cells (q9x4 P1 P2 f q1 q2) 47)).alloc (.cells z10 39)) = W0 at *
 refine (HR.o _ F0.o).mono ?_
 rintro e wa ⟨rfl, f1⟩
 replace F0 := ftr F0 f1
 replace G0 := hid (G0.o.fr f1 id)
 replace G1 := hid (G1.o.fr f1 id)
 replace G2 := hid (G2.o.fr f1 id)
 clear f1 HR
 have z1_0 := G1.o.cell 0
 have z1_1 := G1.o.cell 1
 have z1_2 := G1.o.cell 2
 have z1_3 := G1.o.cell 3
 go_upto_region 2 with fail
 clear z1_0 z1_1 z1_2 z1_3
 generalize wa = W at *
 exact yy13
theorem kIc {w : World} {S : Nat → Prop} {x : Rx} {cs : LV} (h : tRx.rd w S cs x) (hS : Lt S w) (f : Fi) (P1 P2 : OA) (q1 q2 : Nat) (h1 : tI.els w S P1 f.ty.params) (h2 : tI.els w S P2 f.ty.results) (b1 : f.ty.params.length ≤ 140737488351232) (b2 : f.ty.results.length ≤ 140737488351232) (hv : fnB f.ty = true) (d1 : decide (f.inst < -1) = false) (d2 : decide (f.index < 0) = true) :
    Calls prog 119 (q9x3 cs P1 P2 f q1 q2) w (RfTo S x (.int .i64 (-1)) w) := by
 obtain ⟨F0, G0, G1, G2⟩ := bx1 w cs (q9x4 P1 P2 f q1 q2) 47 z10 39
 have H := hid h
 have HS := hid hS
 have HCL := hid (rx_one h)
 obtain ⟨A0, c0, e0, -, -, EH0⟩ := kEC H.o
 have HE0 := hid e0
 clear e0
 have HR := hid (fun (X : World) (f0 : Fr No w X) => kAe f.ty P1 P2 q1 q2 w.heap.size X f0.size (kAA h1 f0 HS.o HS.o) (kAA h2 f0 HS.o HS.o) b1 b2)
 rw [hv] at HR
 have HI1 := hid h1
 have HI2 := hid h2
 clear hv h1 h2
 clear h hS
 go_enter func119, ntmps119
 go_wp2_with fail
 generalize (((w.alloc (.cells cs.toArray 39)).alloc (.cells (q9x4 P1 P2 f q1 q2) 47)).alloc (.cells z10 39)) = W0 at *
 refine (HR.o _ F0.o).mono ?_
 rintro e wa ⟨rfl, f1⟩
 replace F0 := ftr F0 f1
 replace G0 := hid (G0.o.fr f1 id)
 replace G1 := hid (G1.o.fr f1 id)
 replace G2 := hid (G2.o.fr f1 id)
 clear f1 HR
 have z1_0 := G1.o.cell 0
 have z1_1 := G1.o.cell 1
 have z1_2 := G1.o.cell 2
 have z1_3 := G1.o.cell 3
 go_upto_region 2 with fail
 clear z1_0 z1_1 z1_2 z1_3
 generalize wa = W at *
 exact yy13
theorem kIb {w : World} {S : Nat → Prop} {x : Rx} {cs : LV} (h : tRx.rd w S cs x) (hS : Lt S w) (f : Fi) (P1 P2 : OA) (q1 q2 : Nat) (h1 : tI.els w S P1 f.ty.params) (h2 : tI.els w S P2 f.ty.results) (b1 : f.ty.params.length ≤ 140737488351232) (b2 : f.ty.results.length ≤ 140737488351232) (hv : fnB f.ty = true) (d1 : decide (f.inst < -1) = false) (d2 : decide (f.index < 0) = false) (d3 : (f.inst == -1) = true) (i1 : decide ((x.hosts.length : Int) ≤ f.index) = true) :
    Calls prog 119 (q9x3 cs P1 P2 f q1 q2) w (RfTo S x (.int .i64 (-1)) w) := by
 obtain ⟨F0, G0, G1, G2⟩ := bx1 w cs (q9x4 P1 P2 f q1 q2) 47 z10 39
 have H := hid h
 have HS := hid hS
 have HCL := hid (rx_one h)
 obtain ⟨A0, c0, e0, -, -, EH0⟩ := kEC H.o
 have HE0 := hid e0
 clear e0
 have HR := hid (fun (X : World) (f0 : Fr No w X) => kAe f.ty P1 P2 q1 q2 w.heap.size X f0.size (kAA h1 f0 HS.o HS.o) (kAA h2 f0 HS.o HS.o) b1 b2)
 rw [hv] at HR
 have HI1 := hid h1
 have HI2 := hid h2
 clear hv h1 h2
 clear h hS
 go_enter func119, ntmps119
 go_wp2_with fail
 generalize (((w.alloc (.cells cs.toArray 39)).alloc (.cells (q9x4 P1 P2 f q1 q2) 47)).alloc (.cells z10 39)) = W0 at *
 refine (HR.o _ F0.o).mono ?_
 rintro e wa ⟨rfl, f1⟩
 replace F0 := ftr F0 f1
 replace G0 := hid (G0.o.fr f1 id)
 replace G1 := hid (G1.o.fr f1 id)
 replace G2 := hid (G2.o.fr f1 id)
 clear f1 HR
 have z1_0 := G1.o.cell 0
 have z1_1 := G1.o.cell 1
 have z1_2 := G1.o.cell 2
 have z1_3 := G1.o.cell 3
 go_upto_region 3 with fail
 clear z1_0 z1_1 z1_2 z1_3
 have HX : Hid (∀ X, Fr No wa X → Ce X (w.heap.size + 1) 0 (.slice P1 f.ty.params.length q1) ∧ Ce X (w.heap.size + 1) 1 (.slice P2 f.ty.results.length q2) ∧ Ce X (w.heap.size + 1) 2 (.int .i64 f.inst) ∧ Ce X (w.heap.size + 1) 3 (.int .i64 f.index) ∧ Ce X w.heap.size 0 (.slice A0 x.hosts.length c0)) := fun X f => ⟨(G1.o.fr f id).cell 0, (G1.o.fr f id).cell 1, (G1.o.fr f id).cell 2, (G1.o.fr f id).cell 3, (G0.o.fr f id).at_ HE0.o⟩
 refine rwO (fun X => Ce X (w.heap.size + 1) 0 (.slice P1 f.ty.params.length q1) ∧ Ce X (w.heap.size + 1) 1 (.slice P2 f.ty.results.length q2) ∧ Ce X (w.heap.size + 1) 2 (.int .i64 f.inst) ∧ Ce X (w.heap.size + 1) 3 (.int .i64 f.index) ∧ Ce X w.heap.size 0 (.slice A0 x.hosts.length c0)) [] (List.range 24) [20] (HX.o _ (Fr.refl No _).drew) ?_
 refine rC ?_
 refine wpO_skipE rfl rfl (HX.o _ (Fr.refl No _).drew) ?_
 simp only [List.getElem_toArray, List.getElem_cons_succ, List.getElem_cons_zero, Act.put, List.setIfInBounds_toArray, List.set_cons_zero, List.set_cons_succ]
 refine rC ?_
 refine wpO_nil ?_
 replace F0 := hid F0.o.drew
 replace G0 := hid G0.o.drew
 replace G1 := hid G1.o.drew
 replace G2 := hid G2.o.drew
 clear HX
 generalize wa.drew = W at *
 go_upto_region 4 with fail
 exact yy13
theorem kIa {w : World} {S : Nat → Prop} {x : Rx} {cs : LV} (h : tRx.rd w S cs x) (hS : Lt S w) (f : Fi) (P1 P2 : OA) (q1 q2 : Nat) (h1 : tI.els w S P1 f.ty.params) (h2 : tI.els w S P2 f.ty.results) (b1 : f.ty.params.length ≤ 140737488351232) (b2 : f.ty.results.length ≤ 140737488351232) (hv : fnB f.ty = true) (d1 : decide (f.inst < -1) = false) (d2 : decide (f.index < 0) = false) (d3 : (f.inst == -1) = true) (hlt : f.index < x.hosts.length) (hh : ∀ a ∈ x.hosts, a.ty.params.length ≤ 140737488351232 ∧ a.ty.results.length ≤ 140737488351232) (HQ0 : ∀ y, getI x.hosts f.index = some y → fnEq f.ty y.ty = false) :
    Calls prog 119 (q9x3 cs P1 P2 f q1 q2) w (RfTo S x (.int .i64 (-1)) w) := by
 obtain ⟨F0, G0, G1, G2⟩ := bx1 w cs (q9x4 P1 P2 f q1 q2) 47 z10 39
 have H := hid h
 have HS := hid hS
 have HCL := hid (rx_one h)
 obtain ⟨A0, c0, e0, -, -, EH0⟩ := kEC H.o
 have HE0 := hid e0
 clear e0
 have HR := hid (fun (X : World) (f0 : Fr No w X) => kAe f.ty P1 P2 q1 q2 w.heap.size X f0.size (kAA h1 f0 HS.o HS.o) (kAA h2 f0 HS.o HS.o) b1 b2)
 rw [hv] at HR
 have HI1 := hid h1
 have HI2 := hid h2
 clear hv h1 h2
 have i0 : (0 : Int) ≤ f.index := by have := of_decide_eq_false d2; omega
 have i1 : decide ((x.hosts.length : Int) ≤ f.index) = false := by simp; omega
 have i2 : f.index < (x.hosts.length : Int) := hlt
 have hk : f.index.toNat < x.hosts.length := om
 obtain ⟨b, o, T1, t1, T2, t2, Q, qc, eA0, hb, -, -, y2, y3, -, -, -, -, -, e1, -, -, e2, -⟩ := kBa EH0 f.index.toNat hk
 have EA0 := hid eA0
 clear eA0
 have hhk := hh x.hosts[f.index.toNat] (List.getElem_mem hk)
 have HY : Hid (∀ X, Fr No w X → Ce X b (o + f.index.toNat * 5 + 2) (.slice T1 (x.hosts[f.index.toNat]).ty.params.length t1) ∧ Ce X b (o + f.index.toNat * 5 + 3) (.slice T2 (x.hosts[f.index.toNat]).ty.results.length t2)) := fun X f0 => ⟨(f0.cell (p := ⟨b, o + f.index.toNat * 5 + 2, none⟩) (HS.o _ hb) id).trans y2, (f0.cell (p := ⟨b, o + f.index.toNat * 5 + 3, none⟩) (HS.o _ hb) id).trans y3⟩
 have hg := kBL hk
 rw [Int.toNat_of_nonneg i0] at hg
 have hq := HQ0 _ hg
 clear hh hlt HQ0
 generalize x.hosts[f.index.toNat] = y at *
 have HSM := hid (fun (X : World) (f0 : Fr No w X) => kCV f.ty y.ty P1 P2 T1 T2 q1 q2 t1 t2 S S X (fun k hk => ltl (HS.o k hk) f0.size) (fun k hk => ltl (HS.o k hk) f0.size) (kAA HI1.o f0 HS.o (fun _ h => h)) (kAA HI2.o f0 HS.o (fun _ h => h)) (kAA e1 f0 HS.o (fun _ h => h)) (kAA e2 f0 HS.o (fun _ h => h)) b1 b2 hhk.1 hhk.2)
 rw [hq] at HSM
 clear hg hk hq e1 e2 y2 y3 hb
 clear h hS
 go_enter func119, ntmps119
 go_wp2_with fail
 generalize (((w.alloc (.cells cs.toArray 39)).alloc (.cells (q9x4 P1 P2 f q1 q2) 47)).alloc (.cells z10 39)) = W0 at *
 refine (HR.o _ F0.o).mono ?_
 rintro e wa ⟨rfl, f1⟩
 replace F0 := ftr F0 f1
 replace G0 := hid (G0.o.fr f1 id)
 replace G1 := hid (G1.o.fr f1 id)
 replace G2 := hid (G2.o.fr f1 id)
 clear f1 HR
 have z1_0 := G1.o.cell 0
 have z1_1 := G1.o.cell 1
 have z1_2 := G1.o.cell 2
 have z1_3 := G1.o.cell 3
 go_upto_region 3 with fail
 clear z1_0 z1_1 z1_2 z1_3
 have HX : Hid (∀ X, Fr No wa X → Ce X (w.heap.size + 1) 0 (.slice P1 f.ty.params.length q1) ∧ Ce X (w.heap.size + 1) 1 (.slice P2 f.ty.results.length q2) ∧ Ce X (w.heap.size + 1) 2 (.int .i64 f.inst) ∧ Ce X (w.heap.size + 1) 3 (.int .i64 f.index) ∧ Ce X w.heap.size 0 (.slice (some ⟨b, o, none⟩) x.hosts.length c0) ∧ Ce X b (o + f.index.toNat * 5 + 2) (.slice T1 y.ty.params.length t1) ∧ Ce X b (o + f.index.toNat * 5 + 3) (.slice T2 y.ty.results.length t2)) := fun X f => ⟨(G1.o.fr f id).cell 0, (G1.o.fr f id).cell 1, (G1.o.fr f id).cell 2, (G1.o.fr f id).cell 3, (by rw [← EA0.o]; exact (G0.o.fr f id).at_ HE0.o), (HY.o _ (F0.o.trans f i3)).1, (HY.o _ (F0.o.trans f i3)).2⟩
 refine rwO (fun X => Ce X (w.heap.size + 1) 0 (.slice P1 f.ty.params.length q1) ∧ Ce X (w.heap.size + 1) 1 (.slice P2 f.ty.results.length q2) ∧ Ce X (w.heap.size + 1) 2 (.int .i64 f.inst) ∧ Ce X (w.heap.size + 1) 3 (.int .i64 f.index) ∧ Ce X w.heap.size 0 (.slice (some ⟨b, o, none⟩) x.hosts.length c0) ∧ Ce X b (o + f.index.toNat * 5 + 2) (.slice T1 y.ty.params.length t1) ∧ Ce X b (o + f.index.toNat * 5 + 3) (.slice T2 y.ty.results.length t2)) [] (List.range 24) [20] (HX.o _ (Fr.refl No _).drew) ?_
 refine rC ?_
 refine wpO_eff rfl rfl fun K hK => sz ?_
 refine (HSM.o _ F0.o.drew).mono ?_
 rintro e W ⟨rfl, f3⟩
 replace F0 := hid (F0.o.drew.trans f3 i3)
 replace G0 := hid (G0.o.drew.fr f3 id)
 replace G1 := hid (G1.o.drew.fr f3 id)
 replace G2 := hid (G2.o.drew.fr f3 id)
 refine hK _ _ (fun _ => HX.o _ ((Fr.refl No wa).drew.trans f3 i3)) ?_
 clear hK K f3
 refine rC ?_
 refine wpO_nil ?_
 clear HX HSM HY
 go_upto_region 4 with fail
 exact yy13
theorem kIZ {w : World} {S : Nat → Prop} {x : Rx} {cs : LV} (h : tRx.rd w S cs x) (hS : Lt S w) (f : Fi) (P1 P2 : OA) (q1 q2 : Nat) (h1 : tI.els w S P1 f.ty.params) (h2 : tI.els w S P2 f.ty.results) (b1 : f.ty.params.length ≤ 140737488351232) (b2 : f.ty.results.length ≤ 140737488351232) (he : tFi.rd w S [.slice P1 f.ty.params.length q1, .slice P2 f.ty.results.length q2, .int .i64 f.inst, .int .i64 f.index] f) (hv : fnB f.ty = true) (d1 : decide (f.inst < -1) = false) (d2 : decide (f.index < 0) = false) (d3 : (f.inst == -1) = false) (hn : x.funcs.length ≤ 1000000) :
    Calls prog 119 (q9x3 cs P1 P2 f q1 q2) w (RfTo S { x with funcs := x.funcs ++ [f] } (.int .i64 (x.funcs.length : Nat)) w) := by
 obtain ⟨F0, G0, G1, G2⟩ := bx1 w cs (q9x4 P1 P2 f q1 q2) 47 z10 39
 obtain ⟨A3, c3, e3, -, -, E3⟩ := kKW h
 obtain ⟨css, hcs, hrd⟩ := kAY E3 hS
 have HC := hid (And.intro hcs hrd)
 have H := hid h
 have HS := hid hS
 have HE3 := hid e3
 have HE := hid he
 clear he
 obtain ⟨A0, c0, e0, -, -, EH0⟩ := kEC H.o
 have HE0 := hid e0
 clear e0
 have HR := hid (fun (X : World) (f0 : Fr No w X) => kAe f.ty P1 P2 q1 q2 w.heap.size X f0.size (kAA h1 f0 HS.o HS.o) (kAA h2 f0 HS.o HS.o) b1 b2)
 rw [hv] at HR
 have HI1 := hid h1
 have HI2 := hid h2
 clear hv h1 h2
 clear hcs hrd h hS e3 E3
 have HN := hid hn
 go_enter func119, ntmps119
 go_wp2_with fail
 generalize (((w.alloc (.cells cs.toArray 39)).alloc (.cells (q9x4 P1 P2 f q1 q2) 47)).alloc (.cells z10 39)) = W0 at *
 refine (HR.o _ F0.o).mono ?_
 rintro e wa ⟨rfl, f1⟩
 replace F0 := ftr F0 f1
 replace G0 := hid (G0.o.fr f1 id)
 replace G1 := hid (G1.o.fr f1 id)
 replace G2 := hid (G2.o.fr f1 id)
 clear f1 HR
 have z1_0 := G1.o.cell 0
 have z1_1 := G1.o.cell 1
 have z1_2 := G1.o.cell 2
 have z1_3 := G1.o.cell 3
 go_upto_region 3 with fail
 clear z1_0 z1_1 z1_2 z1_3
 have HX : Hid (∀ X, Fr No wa X → Ce X (w.heap.size + 1) 0 (.slice P1 f.ty.params.length q1) ∧ Ce X (w.heap.size + 1) 1 (.slice P2 f.ty.results.length q2) ∧ Ce X (w.heap.size + 1) 2 (.int .i64 f.inst) ∧ Ce X (w.heap.size + 1) 3 (.int .i64 f.index) ∧ Ce X w.heap.size 0 (.slice A0 x.hosts.length c0)) := fun X f => ⟨(G1.o.fr f id).cell 0, (G1.o.fr f id).cell 1, (G1.o.fr f id).cell 2, (G1.o.fr f id).cell 3, (G0.o.fr f id).at_ HE0.o⟩
 refine rwO (fun X => Ce X (w.heap.size + 1) 0 (.slice P1 f.ty.params.length q1) ∧ Ce X (w.heap.size + 1) 1 (.slice P2 f.ty.results.length q2) ∧ Ce X (w.heap.size + 1) 2 (.int .i64 f.inst) ∧ Ce X (w.heap.size + 1) 3 (.int .i64 f.index) ∧ Ce X w.heap.size 0 (.slice A0 x.hosts.length c0)) [] (List.range 24) [20] (HX.o _ (Fr.refl No _).drew) ?_
 refine rC ?_
 refine wpO_skipE rfl rfl (HX.o _ (Fr.refl No _).drew) ?_
 simp only [List.getElem_toArray, List.getElem_cons_succ, List.getElem_cons_zero, Act.put, List.setIfInBounds_toArray, List.set_cons_zero, List.set_cons_succ]
 refine rC ?_
 refine wpO_nil ?_
 replace F0 := hid F0.o.drew
 replace G0 := hid G0.o.drew
 replace G1 := hid G1.o.drew
 replace G2 := hid G2.o.drew
 clear HX
 generalize wa.drew = W at *
 go_upto_region 6 with fail
 have HSS : Hid (∀ k, S k → k < W.heap.size ∧ ¬ k = w.heap.size ∧ ¬ k = w.heap.size + 1 + 1 ∧ (S k ∨ w.heap.size ≤ k)) := fun k hk => ⟨ltl (HS.o k hk) F0.o.size, by have := HS.o k hk; omega, by have := HS.o k hk; omega, .inl hk⟩
 have HCW := hid (And.intro ((HC.o.1.fr F0.o (fun k hk => ⟨HS.o k hk, fun x => x⟩))) (HC.o.2.frNo F0.o))
 have HEW := hid (kAH HE.o F0.o HS.o i2)
 have z := G0.o.at_ HE3.o
 go_upto_region 7 with (first | (at_builtin; refine app0 elFi HCW.o (by have := HN.o; omega) dc (fun k hk => (HSS.o k hk).1) ?_; intro v1 w1 hr1 f1; have R1 := hid hr1; have FW1 := hid f1; clear hr1 f1 HCW z) | fail)
 have FT1 := ftr F0 FW1.o
 replace G0 := hid (G0.o.fr FW1.o id)
 replace G1 := hid (G1.o.fr FW1.o id)
 replace G2 := hid (G2.o.fr FW1.o id)
 have z0_0 := G1.o.cell 0
 have z0_1 := G1.o.cell 1
 have z0_2 := G1.o.cell 2
 have z0_3 := G1.o.cell 3
 go_upto_region 8 with (first | (at_builtin; refine app1 elFi R1.o (kAH HEW.o FW1.o (fun k hk => (HSS.o k hk).1) i2) (by have := HN.o; simp; omega) dc (fun k hk => (HSS.o k hk).1) FW1.o.size FW1.o nr ?_; intro v2 w2 hr2 f2 kg; have R2 := hid hr2; have FW2 := hid f2; have KG := hid kg; clear hr2 f2 kg R1) | fail)
 exact yy19
theorem kIY {w : World} {S : Nat → Prop} {x : Rx} {cs : LV} (h : tRx.rd w S cs x) (hS : Lt S w) (f : Fi) (P1 P2 : OA) (q1 q2 : Nat) (h1 : tI.els w S P1 f.ty.params) (h2 : tI.els w S P2 f.ty.results) (b1 : f.ty.params.length ≤ 140737488351232) (b2 : f.ty.results.length ≤ 140737488351232) (he : tFi.rd w S [.slice P1 f.ty.params.length q1, .slice P2 f.ty.results.length q2, .int .i64 f.inst, .int .i64 f.index] f) (hv : fnB f.ty = true) (d1 : decide (f.inst < -1) = false) (d2 : decide (f.index < 0) = false) (d3 : (f.inst == -1) = true) (hlt : f.index < x.hosts.length) (hh : ∀ a ∈ x.hosts, a.ty.params.length ≤ 140737488351232 ∧ a.ty.results.length ≤ 140737488351232) (HQ0 : ∀ y, getI x.hosts f.index = some y → fnEq f.ty y.ty = true) (hn : x.funcs.length ≤ 1000000) :
    Calls prog 119 (q9x3 cs P1 P2 f q1 q2) w (RfTo S { x with funcs := x.funcs ++ [f] } (.int .i64 (x.funcs.length : Nat)) w) := by
 obtain ⟨F0, G0, G1, G2⟩ := bx1 w cs (q9x4 P1 P2 f q1 q2) 47 z10 39
 obtain ⟨A3, c3, e3, -, -, E3⟩ := kKW h
 obtain ⟨css, hcs, hrd⟩ := kAY E3 hS
 have HC := hid (And.intro hcs hrd)
 have H := hid h
 have HS := hid hS
 have HE3 := hid e3
 have HE := hid he
 clear he
 obtain ⟨A0, c0, e0, -, -, EH0⟩ := kEC H.o
 have HE0 := hid e0
 clear e0
 have HR := hid (fun (X : World) (f0 : Fr No w X) => kAe f.ty P1 P2 q1 q2 w.heap.size X f0.size (kAA h1 f0 HS.o HS.o) (kAA h2 f0 HS.o HS.o) b1 b2)
 rw [hv] at HR
 have HI1 := hid h1
 have HI2 := hid h2
 clear hv h1 h2
 have i0 : (0 : Int) ≤ f.index := by have := of_decide_eq_false d2; omega
 have i1 : decide ((x.hosts.length : Int) ≤ f.index) = false := by simp; omega
 have i2 : f.index < (x.hosts.length : Int) := hlt
 have hk : f.index.toNat < x.hosts.length := om
 obtain ⟨b, o, T1, t1, T2, t2, Q, qc, eA0, hb, -, -, y2, y3, -, -, -, -, -, e1, -, -, e2, -⟩ := kBa EH0 f.index.toNat hk
 have EA0 := hid eA0
 clear eA0
 have hhk := hh x.hosts[f.index.toNat] (List.getElem_mem hk)
 have HY : Hid (∀ X, Fr No w X → Ce X b (o + f.index.toNat * 5 + 2) (.slice T1 (x.hosts[f.index.toNat]).ty.params.length t1) ∧ Ce X b (o + f.index.toNat * 5 + 3) (.slice T2 (x.hosts[f.index.toNat]).ty.results.length t2)) := fun X f0 => ⟨(f0.cell (p := ⟨b, o + f.index.toNat * 5 + 2, none⟩) (HS.o _ hb) id).trans y2, (f0.cell (p := ⟨b, o + f.index.toNat * 5 + 3, none⟩) (HS.o _ hb) id).trans y3⟩
 have hg := kBL hk
 rw [Int.toNat_of_nonneg i0] at hg
 have hq := HQ0 _ hg
 clear hh hlt HQ0
 generalize x.hosts[f.index.toNat] = y at *
 have HSM := hid (fun (X : World) (f0 : Fr No w X) => kCV f.ty y.ty P1 P2 T1 T2 q1 q2 t1 t2 S S X (fun k hk => ltl (HS.o k hk) f0.size) (fun k hk => ltl (HS.o k hk) f0.size) (kAA HI1.o f0 HS.o (fun _ h => h)) (kAA HI2.o f0 HS.o (fun _ h => h)) (kAA e1 f0 HS.o (fun _ h => h)) (kAA e2 f0 HS.o (fun _ h => h)) b1 b2 hhk.1 hhk.2)
 rw [hq] at HSM
 clear hg hk hq e1 e2 y2 y3 hb
 clear hcs hrd h hS e3 E3
 have HN := hid hn
 go_enter func119, ntmps119
 go_wp2_with fail
 generalize (((w.alloc (.cells cs.toArray 39)).alloc (.cells (q9x4 P1 P2 f q1 q2) 47)).alloc (.cells z10 39)) = W0 at *
 refine (HR.o _ F0.o).mono ?_
 rintro e wa ⟨rfl, f1⟩
 replace F0 := ftr F0 f1
 replace G0 := hid (G0.o.fr f1 id)
 replace G1 := hid (G1.o.fr f1 id)
 replace G2 := hid (G2.o.fr f1 id)
 clear f1 HR
 have z1_0 := G1.o.cell 0
 have z1_1 := G1.o.cell 1
 have z1_2 := G1.o.cell 2
 have z1_3 := G1.o.cell 3
 go_upto_region 3 with fail
 clear z1_0 z1_1 z1_2 z1_3
 have HX : Hid (∀ X, Fr No wa X → Ce X (w.heap.size + 1) 0 (.slice P1 f.ty.params.length q1) ∧ Ce X (w.heap.size + 1) 1 (.slice P2 f.ty.results.length q2) ∧ Ce X (w.heap.size + 1) 2 (.int .i64 f.inst) ∧ Ce X (w.heap.size + 1) 3 (.int .i64 f.index) ∧ Ce X w.heap.size 0 (.slice (some ⟨b, o, none⟩) x.hosts.length c0) ∧ Ce X b (o + f.index.toNat * 5 + 2) (.slice T1 y.ty.params.length t1) ∧ Ce X b (o + f.index.toNat * 5 + 3) (.slice T2 y.ty.results.length t2)) := fun X f => ⟨(G1.o.fr f id).cell 0, (G1.o.fr f id).cell 1, (G1.o.fr f id).cell 2, (G1.o.fr f id).cell 3, (by rw [← EA0.o]; exact (G0.o.fr f id).at_ HE0.o), (HY.o _ (F0.o.trans f i3)).1, (HY.o _ (F0.o.trans f i3)).2⟩
 refine rwO (fun X => Ce X (w.heap.size + 1) 0 (.slice P1 f.ty.params.length q1) ∧ Ce X (w.heap.size + 1) 1 (.slice P2 f.ty.results.length q2) ∧ Ce X (w.heap.size + 1) 2 (.int .i64 f.inst) ∧ Ce X (w.heap.size + 1) 3 (.int .i64 f.index) ∧ Ce X w.heap.size 0 (.slice (some ⟨b, o, none⟩) x.hosts.length c0) ∧ Ce X b (o + f.index.toNat * 5 + 2) (.slice T1 y.ty.params.length t1) ∧ Ce X b (o + f.index.toNat * 5 + 3) (.slice T2 y.ty.results.length t2)) [] (List.range 24) [20] (HX.o _ (Fr.refl No _).drew) ?_
 refine rC ?_
 refine wpO_eff rfl rfl fun K hK => sz ?_
 refine (HSM.o _ F0.o.drew).mono ?_
 rintro e W ⟨rfl, f3⟩
 replace F0 := hid (F0.o.drew.trans f3 i3)
 replace G0 := hid (G0.o.drew.fr f3 id)
 replace G1 := hid (G1.o.drew.fr f3 id)
 replace G2 := hid (G2.o.drew.fr f3 id)
 refine hK _ _ (fun _ => HX.o _ ((Fr.refl No wa).drew.trans f3 i3)) ?_
 clear hK K f3
 refine rC ?_
 refine wpO_nil ?_
 clear HX HSM HY
 go_upto_region 6 with fail
 have HSS : Hid (∀ k, S k → k < W.heap.size ∧ ¬ k = w.heap.size ∧ ¬ k = w.heap.size + 1 + 1 ∧ (S k ∨ w.heap.size ≤ k)) := fun k hk => ⟨ltl (HS.o k hk) F0.o.size, by have := HS.o k hk; omega, by have := HS.o k hk; omega, .inl hk⟩
 have HCW := hid (And.intro ((HC.o.1.fr F0.o (fun k hk => ⟨HS.o k hk, fun x => x⟩))) (HC.o.2.frNo F0.o))
 have HEW := hid (kAH HE.o F0.o HS.o (fun _ h => h))
 have z := G0.o.at_ HE3.o
 go_upto_region 7 with (first | (at_builtin; refine app0 elFi HCW.o (by have := HN.o; omega) dc (fun k hk => (HSS.o k hk).1) ?_; intro v1 w1 hr1 f1; have R1 := hid hr1; have FW1 := hid f1; clear hr1 f1 HCW z) | fail)
 have FT1 := ftr F0 FW1.o
 replace G0 := hid (G0.o.fr FW1.o id)
 replace G1 := hid (G1.o.fr FW1.o id)
 replace G2 := hid (G2.o.fr FW1.o id)
 have z0_0 := G1.o.cell 0
 have z0_1 := G1.o.cell 1
 have z0_2 := G1.o.cell 2
 have z0_3 := G1.o.cell 3
 go_upto_region 8 with (first | (at_builtin; refine app1 elFi R1.o (kAH HEW.o FW1.o (fun k hk => (HSS.o k hk).1) (fun _ h => h)) (by have := HN.o; simp; omega) dc (fun k hk => (HSS.o k hk).1) FW1.o.size FW1.o nr ?_; intro v2 w2 hr2 f2 kg; have R2 := hid hr2; have FW2 := hid f2; have KG := hid kg; clear hr2 f2 kg R1) | fail)
 exact yy19
end Go.Proofs.YtdckghiipijobaaGreat
