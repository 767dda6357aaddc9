/- Part 7 of the proof: lemmas and contracts of functions. No condition. -/
import Derived.Test.YtdckghiipijobaaGreatQ6
import Derived.Test.YtdckghiipijobaaGreatQ1
set_option maxRecDepth 100000
set_option maxHeartbeats 12800000
set_option linter.unusedVariables false
set_option linter.unusedSimpArgs false
set_option linter.unusedSectionVars false
namespace Go.Proofs.YtdckghiipijobaaGreat
open Go.RowKit Go.Proofs.Tryz
theorem AddIn.finish {α : Type} {t : Ty α} [TyOk t] [TyMore t] {el : TypeId} {w w1 w2 : World} {P off : Nat} {S : Nat → Prop} {v v1 : Value} {xs : List α} {cs : LV} {x : α} (h : AddIn t el w P off S v xs cs x) (f1 : Fr No w w1) (hr1 : t.row w2 0 S el v1 (xs ++ [x])) (fr1 : Fr (fun k => some k = v.ownBlock) w1 w2)
    (hv1 : v1.ownBlock = v.ownBlock ∨ v1.ownBlock = some w1.heap.size) : kAn t el P off S v xs x w (.returned (.int .i64 xs.length)) (w2.setCell ⟨P, off, none⟩ v1) := by
 have hP : P < w.heap.size := World.block_lt_of_cell? w _ h.cell
 have s1 := f1.size
 have s2 := fr1.size
 have hvl : ∀ k, v1.ownBlock = some k → v.ownBlock = some k ∨ w.heap.size ≤ k ∧ k < w2.heap.size := fun k hk => by
  rcases hv1 with e | e
  · exact .inl (e.symm.trans hk)
  obtain ⟨_, cs1, hb1⟩ := hr1.own hk
  rw [hk] at e
  have := Option.some.inj e
  exact .inr ⟨by omega, hb1.lt⟩
 refine ⟨v1, rfl, ?_, ?_, ?_, ?_⟩
 · exact hr1.fr ((Fr.refl (One P) w2).setCell ⟨P, off, none⟩ _ (fun _ => rfl)) (fun k hk => ⟨by have := h.lt k hk; omega, fun e => (h.own k hk).2 e⟩) (fun k hk e => by
    have e : k = P := e
    rcases hvl k hk with h1 | h1
    · exact h.ne (h1.trans (congrArg some e))
    · omega)
 · exact ((f1.mono (M := fun k => k = P ∨ v.ownBlock = some k) (fun _ _ h => h.elim)).trans fr1 (fun _ _ h => .inr h.symm)).setCell _ _ (fun _ => .inl rfl)
 · intro T cs hb
   exact blk_gone (hb.fr f1 id) fr1 h.ne _
 intro k hk
 rcases hvl k hk with h1 | h1
 · exact .inl h1
 exact .inr ⟨h1.1, by simpa [World.setCell] using h1.2⟩
structure StOk (x : Rx) : Prop where
 ho : ∀ h ∈ x.hosts, hoB h = true
 hb : ∀ h ∈ x.hosts, HoBd h
 hl : x.hosts.length ≤ 32
 cl : x.counts.length = x.hosts.length
 cn : ∀ c ∈ x.counts, 0 ≤ c ∧ c ≤ 1000000
 ms : kDg x
 lc : x.calls.length ≤ 1000000
 lm : x.mems.length ≤ 1000000
def ansL (a : Ac) (rs : List Int) : List Vl × Int := if ansB a rs then (a.vals, 0) else ([], 11)
def kOb (l : List Vl × Int) (w : World) (e : Ending) (w' : World) : Prop :=
 ∃ (A : OA) (c : Nat), e = .returned (.tuple #[.slice A l.1.length c, .int .i64 l.2]) ∧ l.1.length ≤ c ∧ tVl.els w' (Nw w w') A l.1 ∧ Fr No w w'
theorem kHg (a : Ac) (np : Nat) (rs : List Int) (A A1 A2 : OA) (c c1 c2 : Nat) (S : Nat → Prop) (w : World) (hS : Lt S w) (ha : tVl.els w S A a.vals) (h2 : (Ty.int .i64).els w S A2 rs) (hc : a.vals.length ≤ c) (l1 : a.vals.length ≤ 500) (l2 : rs.length ≤ 140737488351232) :
    Calls prog 93 #[.agg #[.int .i64 a.kind, .slice A a.vals.length c, .int .i64 a.mem, .int .i64 a.at_, .int .u8 a.byte], .agg #[.slice A1 np c1, .slice A2 rs.length c2]] w (kOb (ansL a rs) w) := by
 unfold ansL
 by_cases hk : a.kind = 0 ∨ a.kind = 2
 · have hkb : (decide (a.kind = 0) || decide (a.kind = 2)) = true := by simpa using hk
   cases hf : fitB a.vals rs with
   | true =>
    rw [if_pos (by simp only [ansB, hkb, hf, Bool.and_self])]
    refine (kMT a.kind a.mem a.at_ a.byte a.vals np rs A A1 A2 c c1 c2 S w hS ha h2 hc l1 l2 hk hf).mono ?_
    rintro e w' ⟨A', c', rfl, h1, h3, h4⟩
    exact ⟨A', c', rfl, h1, h3, h4⟩
   | false =>
    rw [if_neg (by simp only [ansB, hkb, hf]; decide)]
    refine (kNl a.kind a.mem a.at_ a.byte a.vals np rs A A1 A2 c c1 c2 S w hS ha h2 hc l1 l2 hk hf).mono ?_
    exact yy78
 have hkb : (decide (a.kind = 0) || decide (a.kind = 2)) = false := by simpa using hk
 rw [if_neg (by simp only [ansB, hkb]; simp)]
 refine (kMU a.kind a.mem a.at_ a.byte a.vals np rs A A1 A2 c c1 c2 S w hS ha h2 hc l1 l2 (fun e => hk (.inl e)) (fun e => hk (.inr e))).mono ?_
 exact yy78
theorem kGE {vs : List Vl} {ts : List Int} (h : fitB vs ts = true) : vs.length = ts.length := by
 simp only [fitB, Bool.and_eq_true, decide_eq_true_eq] at h
 exact h.1
structure kOZ (h : Ho) : Prop where
 p : h.ty.params.length ≤ 8
 r : h.ty.results.length ≤ 8
 a : 0 < h.acts.length
 v : ∀ a ∈ h.acts, a.vals.length ≤ 8
 b : ∀ a ∈ h.acts, actB a h.ty.results = true
theorem kDu {h : Ho} (hb : hoB h = true) : kOZ h := by
 simp only [hoB, fnB, kBy, Bool.and_eq_true, decide_eq_true_eq] at hb
 obtain ⟨⟨⟨h1, _⟩, h2, _⟩, _, _, h3, h4⟩ := hb
 have hall : ∀ a ∈ h.acts, actB a h.ty.results = true := fun a ha => by
  obtain ⟨i, hi, rfl⟩ := List.getElem_of_mem ha
  have : kCN h i = true := kLX.1 h4 i hi
  simpa [kCN, hi] using this
 refine ⟨h1, h2, by omega, fun a ha => ?_, hall⟩
 have hb := hall a ha
 unfold actB at hb
 split at hb
 · simp only [Bool.and_eq_true] at hb; have := kGE hb.1; omega
 split at hb
 · simp only [Bool.and_eq_true, decide_eq_true_eq] at hb; omega
 split at hb
 · simp only [Bool.and_eq_true] at hb; have := kGE hb.1; omega
 cases hb
def zAc : Ac := ⟨0, [], 0, 0, 0⟩
def kCY (H : Ho) (n : Int) : Ac := (H.acts[n.toNat % H.acts.length]?).getD zAc
def kCc (x : Rx) (k : Nat) (n : Int) (args : List Vl) : Rx := { x with calls := x.calls ++ [⟨k, args⟩], counts := x.counts.set k (n + 1) }
def finS (x : Rx) (a : Ac) (rs : List Int) : Rx × List Vl × Int :=
 if a.kind = 2 then (if (kAt x a).2 then ((kAt x a).1, ansL a rs) else ((kAt x a).1, [], 11)) else (x, ansL a rs)
def kAc (x : Rx) (h : Int) (args : List Vl) : Rx × List Vl × Int :=
 match getI x.hosts h with
 | none => (x, [], 12)
 | some H => if fitB args H.ty.params then finS (kCc x h.toNat ((x.counts[h.toNat]?).getD 0) args) (kCY H ((x.counts[h.toNat]?).getD 0)) H.ty.results else (x, [], 12)
theorem kBF {α : Type} {t : Ty α} {w : World} {base : Nat} {S : Nat → Prop} {e : TypeId} {v : Value} {xs : List α} (h : t.row w base S e v xs) (hx : 0 < xs.length) : ∃ g c, v = .slice (some ⟨g, 0, none⟩) xs.length c ∧ base ≤ g := by
 obtain ⟨css, h1, h2⟩ := h
 rcases h2.2 with ⟨rfl, h0⟩ | ⟨g, cap, cur, rfl, hb, _⟩
 · omega
 exact ⟨g, cap, rfl, hb⟩
theorem StIn.setCount {w : World} {R : Nat → Prop} {V : Pl} {x : Rx} (h : StIn w R V x) {k : Nat} {n : Int} {g c : Nat} (hk : k < x.counts.length) (hv : V.co = .slice (some ⟨g, 0, none⟩) x.counts.length c) (wn : (Lit.int .i64 n).wf = true) :
    StIn (w.setCell ⟨g, k, none⟩ (.int .i64 n)) R V { x with counts := x.counts.set k n } ∧ Grown w (w.setCell ⟨g, k, none⟩ (.int .i64 n)) R R V V := by
 have ho : V.co.ownBlock = some g := by rw [hv]; rfl
 have f := (Fr.refl (fun k => k = V.P ∨ V.co.ownBlock = some k) w).setCell ⟨g, k, none⟩ (.int .i64 n) (fun _ => .inr ho)
 have hne : V.P ≠ g := fun e => Bt.ne ⟨_, h.blk⟩ (kAC h.co ho) dc e
 have hrow : tI.row (w.setCell ⟨g, k, none⟩ (.int .i64 n)) 0 (Sd w R) 3 (.slice (some ⟨g, 0, none⟩) x.counts.length c) (x.counts.set k n) := by
  have hr := h.co
  rw [hv] at hr
  refine hr.set (ds := [.int .i64 n]) k hk (kFg wn) (fun p hp => World.cell?_of_block (w := w) (Below.heap_setCell w _ _ _ (fun e => hp.2 (h.own _ (Pl.o_co (by rw [ho, e]))))))  (fun cur hb => ?_)
  have e : tI.size = 1 := rfl
  rw [e, Nat.mul_one]
  exact hb.set_ k _
 refine ⟨?_, rfl, f.mono (fun k _ e => e.elim (fun e => e ▸ V.oP) Pl.o_co), fun _ _ r => r, fun _ r => r, fun _ o => .inl o⟩
 have := h.put_co (v' := V.co) (xs := x.counts.set k n) f (h.blk.far hne _) ?_ (fun k hk => h.own k (Pl.o_co hk)) (fun _ _ r => r) (fun _ r => r) (fun k r => ltl (h.low k r) f.size)
 · exact this
 exact yy75
def CallTo (R : Nat → Prop) (V : Pl) (r : Rx × List Vl × Int) (w : World) (e : Ending) (w' : World) : Prop :=
 ∃ (V' : Pl) (R' : Nat → Prop) (A : OA) (c : Nat), e = .returned (.tuple #[.slice A r.2.1.length c, .int .i64 r.2.2]) ∧ StIn w' R' V' r.1 ∧ Grown w w' R R' V V' ∧ r.2.1.length ≤ c ∧ tVl.els w' (Sd w' R') A r.2.1
section
variable {w : World} {R : Nat → Prop} {V : Pl} {x : Rx}
theorem CallTo.no {w w' : World} {R : Nat → Prop} {V : Pl} {x : Rx} {t : Int} (h : StIn w R V x) (f : Fr No w w') : CallTo R V (x, [], t) w (.returned (.tuple #[.slice none 0 0, .int .i64 t])) w' :=
 ⟨V, R, none, 0, rfl, h.frNo f, Grown.of_no f, nr, .inl rfl⟩
theorem kMZ (h : StIn w R V x) (hok : StOk x) (i : Int) (args : List Vl) (A : OA) (c : Nat) (hi : i < 0 ∨ (x.hosts.length : Int) ≤ i) :
    Calls prog 28 #[.pointer (some ⟨V.P, 0, none⟩), .int .i64 i, .slice A args.length c] w (CallTo R V (kAc x i args) w) := by
 have hcs : kAc x i args = (x, [], 12) := by unfold kAc; rw [kBh hi]
 rw [hcs]
 clear hcs
 obtain ⟨Ah, ch, hv, _, hel⟩ := h.sl_ho
 have hcell : w.cell? ⟨V.P, 0, none⟩ = some (.slice Ah x.hosts.length ch) := by rw [← hv]; exact h.blk.cell 0
 have H := hid h
 have hl := hok.hl
 clear h hv hel hok
 by_cases h0 : i < 0
 · have hd : decide (i < 0) = true := by simpa using h0
   clear hi
   go_enter func28, ntmps28
   go_wp2
   go_ret2
   exact CallTo.no H.o (Fr.refl _ _)
 have h1 : (x.hosts.length : Int) ≤ i := om
 clear hi
 go_enter func28, ntmps28
 go_wp2
 go_ret2
 exact CallTo.no H.o (Fr.refl _ _)
theorem kKR (h : StIn w R V x) (hok : StOk x) (k : Nat) (args : List Vl) (A : OA) (c : Nat) (hk : k < x.hosts.length) (S : Nat → Prop) (hS : Lt S w) (ha : tVl.els w S A args) (hl2 : args.length ≤ 140737488351232) (hf : fitB args x.hosts[k].ty.params = false) :
    Calls prog 28 #[.pointer (some ⟨V.P, 0, none⟩), .int .i64 k, .slice A args.length c] w (CallTo R V (kAc x k args) w) := by
 have hcs : kAc x k args = (x, [], 12) := by unfold kAc; rw [kBL hk]; simp [hf]
 rw [hcs]
 clear hcs
 obtain ⟨Ah, ch, hv, _, hel⟩ := h.sl_ho
 have hcell : w.cell? ⟨V.P, 0, none⟩ = some (.slice Ah x.hosts.length ch) := by rw [← hv]; exact h.blk.cell 0
 have HG := hid (kDu (hok.ho _ (List.getElem_mem hk)))
 obtain ⟨b, o, A1, c1, A2, c2, A3, c3, rfl, hbS, y0, y1, y2, y3, y4, m1, m2, p1, p2, p3, q1, q2, q3, r1, r2, r3⟩ := kBa hel k hk
 have H := hid h
 have hl := hok.hl
 have i0 := nki k
 have i1 : (k : Int) < x.hosts.length := om
 have HF := hid (kCx A A1 args x.hosts[k].ty.params c c1 w.heap.size w.heap.size w nr nr (ha.more hS) p3 hl2 (by have := HG.o.p; omega))
 rw [hf] at HF
 clear h hv hel hok ha hf m1 m2 p1 p2 p3 q1 q2 q3 r1 r2 r3 y0 y1 y3 y4
 generalize x.hosts[k] = hx at *
 go_enter func28, ntmps28
 go_wp2_with (go_at_call 89; refine HF.o.mono ?_; rintro e w1 ⟨rfl, f1⟩; have F1 := hid f1; clear f1)
 go_ret2
 exact CallTo.no H.o F1.o
end
theorem CallTo.cast {R : Nat → Prop} {V : Pl} {r r' : Rx × List Vl × Int} {w w' : World} {e : Ending} (h : r = r') (k : CallTo R V r' w e w') : CallTo R V r w e w' := h ▸ k
theorem kIg (x : Rx) (a : Ac) : (kAt x a).1.hosts = x.hosts := by
 unfold kAt
 split
 · rfl
 split <;> rfl
theorem kJH {n : Int} {L : Nat} (h0 : 0 ≤ n) (hL : 0 < L) : n.toNat % L < L ∧ n.tmod L = ((n.toNat % L : Nat) : Int) := by
 obtain ⟨m, rfl⟩ := Int.eq_ofNat_of_zero_le h0
 refine ⟨Nat.mod_lt _ hL, ?_⟩
 rw [Int.tmod_eq_emod_of_nonneg (Int.natCast_nonneg m), Int.toNat_natCast, Int.natCast_emod]
section
variable {w : World} {R : Nat → Prop} {V : Pl} {x : Rx}
abbrev q7x7 : Array Value := #[.int .i64 0, .slice none 0 0, .int .i64 0, .int .i64 0, .int .u8 0]
theorem kFK (h : StIn w R V x) (hok : StOk x) (k : Nat) (args : List Vl) (A : OA) (c : Nat) (hk : k < x.hosts.length) (S : Nat → Prop) (hS : Lt S w) (ha : tVl.els w S A args) (hl2 : args.length ≤ 140737488351232) (hf : fitB args x.hosts[k].ty.params = true) :
    Calls prog 28 #[.pointer (some ⟨V.P, 0, none⟩), .int .i64 k, .slice A args.length c] w (CallTo R V (kAc x k args) w) := by
 have hkc : k < x.counts.length := by rw [hok.cl]; exact hk
 obtain ⟨n, hn⟩ : ∃ n, n = x.counts[k] := ⟨_, rfl⟩
 have hcn := hok.cn _ (List.getElem_mem hkc)
 rw [← hn] at hcn
 have hcs : kAc x k args = finS (kCc x k n args) (kCY x.hosts[k] n) x.hosts[k].ty.results := by
  unfold kAc
  rw [kBL hk]
  simp only [hf, if_true, Int.toNat_natCast, List.getElem?_eq_getElem hkc, Option.getD_some, ← hn]
 rw [hcs]
 clear hcs
 obtain ⟨X6, hX6⟩ : ∃ X6, X6 = kCc x k n args := ⟨_, rfl⟩
 have hH6 : Hid (X6.hosts = x.hosts) := by rw [hX6]; exact rfl
 have hMS : Hid (kDg X6 ∧ X6.mems.length ≤ 1000000) := by rw [hX6]; exact ⟨hok.ms, hok.lm⟩
 rw [← hX6]
 have HX6 := hid hX6
 clear hX6
 have HG := hid (kDu (hok.ho _ (List.getElem_mem hk)))
 have HBD := hid (hok.hb _ (List.getElem_mem hk))
 obtain ⟨a, hact⟩ : ∃ a, a = kCY x.hosts[k] n := ⟨_, rfl⟩
 rw [← hact]
 obtain ⟨hj0, hjm0⟩ := kJH (L := x.hosts[k].acts.length) hcn.1 HG.o.a
 have haj0 : a = x.hosts[k].acts[n.toNat % x.hosts[k].acts.length] := by
  rw [hact]; unfold kCY; rw [List.getElem?_eq_getElem hj0]; rfl
 have hav : a.vals.length ≤ 8 := by rw [haj0]; exact HG.o.v _ (List.getElem_mem hj0)
 obtain ⟨j, hjj⟩ : ∃ j, j = n.toNat % x.hosts[k].acts.length := ⟨_, rfl⟩
 have hj : j < x.hosts[k].acts.length := by rw [hjj]; exact hj0
 have hjm : n.tmod x.hosts[k].acts.length = j := by rw [hjj]; exact hjm0
 have haj : a = x.hosts[k].acts[j] := by rw [haj0]; simp only [hjj]
 have HAJ := hid haj
 clear haj hact haj0 hjm0 hj0 hjj
 obtain ⟨Ah, ch, hv, _, hel⟩ := h.sl_ho
 have hcell : w.cell? ⟨V.P, 0, none⟩ = some (.slice Ah x.hosts.length ch) := by rw [← hv]; exact h.blk.cell 0
 obtain ⟨b, o, A1, c1, A2, c2, A3, c3, rfl, hbS, y0, y1, y2, y3, y4, m1, m2, p1, p2, p3, q1, q2, q3, r1, r2, r3⟩ := kBa hel k hk
 have H := hid h
 have HOK := hid hok
 have HN := hid hn
 have hl := hok.hl
 have hargs : args.length ≤ 8 := by have := kGE hf; have := HG.o.p; omega
 have i0 := nki k
 have i1 : (k : Int) < x.hosts.length := om
 have HF := hid (kCx A A1 args x.hosts[k].ty.params c c1 w.heap.size w.heap.size w nr nr (ha.more hS) p3 hl2 (by have := HG.o.p; omega))
 rw [hf] at HF
 have HA := hid ha
 have HS := hid hS
 clear h hv hel hok ha hf m1 m2 p1 p2 p3 q1 q2 q3 r1 r2 r3 y0 y1 y3 y4 hS hn
 go_enter func28, ntmps28
 go_wp2_with (go_at_call 89; refine HF.o.mono ?_; rintro e w1 ⟨rfl, f1⟩; have F1 := hid f1; clear f1)
 clear y2 hcell HF
 -- the log
 have K1 := hid (H.o.frNo F1.o)
 have HX1 : Hid (∀ X, Fr No w1 X → X.cell? ⟨V.P, 2, none⟩ = some V.ca) := fun X f => (K1.o.blk.fr f id).cell 2
 refine rwO (fun X => X.cell? ⟨V.P, 2, none⟩ = some V.ca) [13] (List.range 14) [7, 9, 10, 13] (HX1.o _ (Fr.refl _ _).drew) ?_
 refine rC ?_
 refine wpO_eff rfl rfl fun K hK => sz ?_
 refine (kBx A c args S w1.drew (kBA HA.o F1.o.drew HS.o) (fun k hk => ltl (HS.o k hk) F1.o.size) om).mono ?_
 rintro e w2 ⟨B1, d1, rfl, hr1, f2⟩
 have F2 : Hid (Fr No w1 w2) := (Fr.refl No w1).drew.trans f2 i3
 obtain ⟨z1, z2, z3⟩ := kAl (w := w1) hr1 nr (Fr.refl No w2) (fun _ _ _ x => x)
 have K2 := hid (K1.o.frNo F2.o)
 have RX : Hid (tCa.rd w2 (Sd w2 R) [.int .i64 k, .slice B1 args.length d1] ⟨k, args⟩) := kKZ (a := ⟨k, args⟩) (kEN (by show -9223372036854775808 ≤ (k : Int) ∧ (k : Int) ≤ 9223372036854775807; omega)) z1 z2 (z3.more (fun b hb => kCL K1.o.low hb))
 clear f2 hr1 z1 z2 z3
 refine hK _ _ (fun _ => HX1.o _ F2.o) ?_
 clear hK K
 refine rC ?_
 refine wpO_eff rfl rfl fun K hK => sz ?_
 have F3 := hid ((Fr.refl No w2).alloc (.cells #[.int .i64 k, .slice B1 args.length d1] 113))
 have G3 := hid (Blk.new w2 113 #[.int .i64 k, .slice B1 args.length d1])
 refine hK _ _ (fun _ => HX1.o _ (F2.o.trans F3.o i3)) ?_
 clear hK K
 generalize w2.alloc (.cells #[.int .i64 k, .slice B1 args.length d1] 113) = w3 at *
 have AI := hid (K2.o.addIn_ca RX.o HOK.o.lc)
 have AJ := hid (AI.o.fr F3.o)
 refine rC ?_
 refine wpO_eff rfl rfl (fun K hK => ?_)
 simp only [zA]
 refine kAs (t := tCa) (P := prog) (base := 0) (S := Sd w2 R) (v := V.ca) (xs := x.calls) (ys := [⟨k, args⟩]) (dss := [[.int .i64 k, .slice B1 args.length d1]]) (B2 := w3.heap.size) elCa rfl rfl rfl AJ.o.row (Css.one AJ.o.rd) (Rd.blk G3.o G3.o.lt 0 (fun k u hu => by rw [Nat.zero_add]; simpa using hu)) rfl (by have := AJ.o.len; simp; omega) (by have := AJ.o.len; simp; omega) (fun k hk => ⟨AJ.o.lt k hk, fun e => (AJ.o.own k hk).1 e.symm⟩) nz ?_
 intro v1 w4 hr4 f4 hv4
 have ADD := hid (AI.o.finish F3.o hr4 f4 hv4)
 have HR4 := hid hr4
 have Z0 : Hid (w4.cell? ⟨V.P, 2, none⟩ = some V.ca) := (f4.cell (p := ⟨V.P, 2, none⟩) (World.block_lt_of_cell? w3 _ AJ.o.cell) (fun e => AJ.o.ne e.symm)).trans AJ.o.cell
 have Z1 : Hid (w4.frozen? ⟨V.P, 2, none⟩ = false) := (f4.frozen (p := ⟨V.P, 2, none⟩) (World.block_lt_of_cell? w3 _ AJ.o.cell) (fun e => AJ.o.ne e.symm)).trans AJ.o.fz
 refine hK _ _ (fun _ => Z0.o) ?_
 clear hK K hr4 f4 hv4
 simp only [zC, Act.put]
 refine rC ?_
 obtain ⟨A5, k5, e5, _, _, _⟩ := HR4.o.els (S' := fun _ => True) tvv tvv
 rw [show (x.calls ++ [(⟨k, args⟩ : Ca)]).length = x.calls.length + 1 by simp] at e5
 subst e5
 have z0 := Z0.o
 have z1 := Z1.o
 refine wpO_eff rfl rfl fun K hK => sz ?_
 refine hK _ _ (fun h => by simp at h) ?_
 clear hK K z0 z1 Z0 Z1 HR4
 refine wpO_nil ?_
 obtain ⟨V5, R5, _, k5', g5'⟩ := K2.o.added_ca ADD.o
 have K5 := hid k5'
 have GR5 := hid ((Grown.of_no (R := R) (V := V) (F1.o.trans F2.o i3)).trans g5')
 clear k5' g5' ADD
 generalize w4.setCell ⟨V.P, 2, none⟩ (.slice A5 (x.calls.length + 1) k5) = w5 at *
 -- the act
 obtain ⟨Ah5, ch5, hv5, _, hel5⟩ := K5.o.sl_ho
 have hP5 := GR5.o.P
 have hcell5 : w5.cell? ⟨V.P, 0, none⟩ = some (.slice Ah5 x.hosts.length ch5) := by have := K5.o.blk.cell 0; rw [hP5] at this; rw [← hv5]; exact this
 obtain ⟨b5, o5, E1, e1, E2, e2, E3, e3, rfl, hbS5, y0, y1, y2, y3, y4, m1, m2, p1, p2, p3, q1, q2, q3, r1, r2, r3⟩ := kBa hel5 k hk
 obtain ⟨gc, cc, hvc, _⟩ := kBF K5.o.co (by show 0 < x.counts.length; omega)
 have hvc : V5.co = .slice (some ⟨gc, 0, none⟩) x.counts.length cc := hvc
 have hcell6 : w5.cell? ⟨V.P, 1, none⟩ = some (.slice (some ⟨gc, 0, none⟩) x.counts.length cc) := by have := K5.o.blk.cell 1; rw [hP5] at this; rw [← hvc]; exact this
 obtain ⟨gc', oc', hgc, hcS, hcv, _⟩ := kDc (l := x.counts) (by
  obtain ⟨A', c', hv', _, hel'⟩ := K5.o.sl_co
  rw [hvc] at hv'
  injection hv' with e1 _ _
  subst e1
  exact hel') k hkc
 injection hgc with hgc
 injection hgc with e1 e2 _
 subst e1 e2
 rw [← HN.o, Nat.zero_add] at hcv
 have HX5 : Hid (∀ X, Fr No w5 X → Ce X V.P 0 (.slice (some ⟨b5, o5, none⟩) x.hosts.length ch5) ∧ Ce X b5 (o5 + k * 5) (.string x.hosts[k].mod) ∧ Ce X b5 (o5 + k * 5 + 1) (.string x.hosts[k].name) ∧ Ce X b5 (o5 + k * 5 + 2) (.slice E1 x.hosts[k].ty.params.length e1) ∧ Ce X b5 (o5 + k * 5 + 3) (.slice E2 x.hosts[k].ty.results.length e2) ∧ Ce X b5 (o5 + k * 5 + 4) (.slice E3 x.hosts[k].acts.length e3) ∧ Ce X V.P 1 (.slice (some ⟨gc, 0, none⟩) x.counts.length cc) ∧ Ce X gc k (.int .i64 n)) := fun X f => by
  have hPl := K5.o.blk.lt
  rw [hP5] at hPl
  exact ⟨(f.cell (p := ⟨V.P, 0, none⟩) hPl id).trans hcell5, (f.cell (p := ⟨b5, _, none⟩) hbS5 id).trans y0, (f.cell (p := ⟨b5, _, none⟩) hbS5 id).trans y1, (f.cell (p := ⟨b5, _, none⟩) hbS5 id).trans y2, (f.cell (p := ⟨b5, _, none⟩) hbS5 id).trans y3, (f.cell (p := ⟨b5, _, none⟩) hbS5 id).trans y4, (f.cell (p := ⟨V.P, 1, none⟩) hPl id).trans hcell6, (f.cell (p := ⟨gc, k, none⟩) hcS id).trans hcv⟩
 have HACT := hid (fun (X : World) (f : Fr No w5 X) => kMi x.hosts[k] E1 E2 E3 e1 e2 e3 (· < w5.heap.size) n j X (fun k hk => ltl hk f.size) (kBA r3 f i2) (by have := HBD.o.a; omega) hcn.1 om hj hjm (by rw [← HAJ.o]; omega))
 rw [← HAJ.o] at HACT
 have HAB : Hid ((-9223372036854775808 ≤ a.at_ ∧ a.at_ ≤ 9223372036854775807) ∧ 0 ≤ a.byte ∧ a.byte ≤ 255) := by
  obtain ⟨_, _, _, _, _, _, _, _, _, _, _, _, _, _, _, _, wa, wb⟩ := kGy r3 j hj
  rw [← HAJ.o] at wa wb
  exact ⟨kEM wa, kGm wb⟩
 clear hcell5 hcell6 hcv hel5 hv5 y0 y1 y2 y3 y4 m1 m2 p1 p2 p3 q1 q2 q3 r1 r2 r3
 have hkl : (k : Int) < x.counts.length := om
 go_wp2_with fail
 go_cut [8, 9] (fun t8 t9 wx => ∃ (ga : Nat) (Av : OA) (cv : Nat), t8 = .pointer (some ⟨ga, 0, none⟩) ∧ Hid (Fr No w5 wx) ∧ Hid (w5.heap.size ≤ ga) ∧ Hid (Blk wx ga 110 #[.int .i64 a.kind, .slice Av a.vals.length cv, .int .i64 a.mem, .int .i64 a.at_, .int .u8 a.byte]) ∧ Hid (a.vals.length ≤ cv ∧ tVl.els wx (fun b => Nw w5 wx b ∧ b ≠ ga) Av a.vals))
 case first => as_aux_lemma =>
  refine kBu (Fr No w5) (.rd 0 (.rd 1 (.rd 2 (.rd 3 (.rd 4 (.rd 5 (.rd 6 (.rd 7 (.rd 8 (.rd 9 (.rd 10 (.rd 11 (.rd 12 (.rd 13 (.alt 14 (.rd 15 (.rd 16 (.rd 17 (.eff 18 (.eff 19 (.rd 20 .nil)))))) 18 (.eff 14 (.rd 15 (.rd 16 (.rd 17 (.eff 19 (.rd 20 .nil))))))))))))))))))))) kr kr kr rfl (Fr.refl _ w5).drew ?_
  refine rT HX5.o ?_
  refine kCl ?_ ?_
  · refine wpT_eff rfl rfl fun K hK => sz ?_
    refine (HACT.o _ (Fr.refl No w5).drew).mono ?_
    rintro e w6 ⟨Av, cv, rfl, hcv, hev, f6⟩
    have F6 := hid ((Fr.refl No w5).drew.trans f6 i3)
    have HEV := hid hev
    clear f6 hev
    refine hK _ _ (F6.o) ?_
    clear hK K
    refine rT HX5.o ?_
    refine wpT_eff rfl rfl fun K hK => sz ?_
    refine hK _ _ ((F6.o.alloc _)) ?_
    clear hK K
    have FY := hid (F6.o.alloc (.cells q7x7 110))
    have GB := hid (Blk.new w6 110 q7x7)
    have EY := hid (((HEV.o.fr ((Fr.refl No w6).alloc (.cells q7x7 110)) (fun k hk => ⟨hk.2, fun x => x⟩)).more (S' := fun b => Nw w5 (w6.alloc (.cells q7x7 110)) b ∧ b ≠ w6.heap.size) (fun k hk => ⟨⟨hk.1, Nat.lt_trans hk.2 GB.o.lt⟩, by have := hk.2; omega⟩)))
    obtain ⟨ga, hga⟩ : ∃ ga, w6.heap.size = ga := ⟨_, rfl⟩
    have LG : Hid (w5.heap.size ≤ ga) := by have := F6.o.size; show w5.heap.size ≤ ga; omega
    rw [hga] at GB EY ⊢
    clear hga
    generalize w6.alloc (.cells q7x7 110) = Y at *
    exact yy8
  · refine wpT_eff rfl rfl fun K hK => sz ?_
    have FY0 := hid (((Fr.refl No w5).alloc (.cells q7x7 110)).drew)
    have GB0 := hid (Blk.new w5 110 q7x7).drew
    obtain ⟨ga, hga⟩ : ∃ ga, w5.heap.size = ga := ⟨_, rfl⟩
    have LG : Hid (w5.heap.size ≤ ga) := by show w5.heap.size ≤ ga; omega
    rw [hga] at GB0 ⊢
    clear hga
    generalize (w5.alloc (.cells q7x7 110)).drew = Y0 at *
    have hgy : ga < Y0.heap.size := GB0.o.lt
    refine hK _ _ (FY0.o) ?_
    clear hK K
    refine rT HX5.o ?_
    refine wpT_eff rfl rfl fun K hK => sz ?_
    refine (HACT.o _ FY0.o).mono ?_
    rintro e Y ⟨Av, cv, rfl, hcv, hev, f6⟩
    have FY := ftr FY0 f6
    have GB := hid (GB0.o.fr f6 id)
    have EY := hid (hev.more (S' := fun b => Nw w5 Y b ∧ b ≠ ga) (fun k hk => ⟨⟨Nat.le_trans FY0.o.size hk.1, hk.2⟩, by have := hk.1; omega⟩))
    clear f6 hev
    refine hK _ _ (FY.o) ?_
    clear hK K
    refine rT HX5.o ?_
    exact yy8
 obtain ⟨ga, Av, cv, rfl, FX, LG, GA, hcv, EV⟩ := hcut
 obtain ⟨wx, hwx⟩ : ∃ wx, wx = wc := ⟨_, rfl⟩
 subst hwx
 have HEV := hid (And.intro hcv EV)
 clear hcv EV HACT
 have KX := hid (K5.o.frNo FX.o)
 have hg5 := LG.o
 have y1 : wx.cell? ⟨V.P, 1, none⟩ = some (.slice (some ⟨gc, 0, none⟩) x.counts.length cc) := (HX5.o _ FX.o).2.2.2.2.2.2.1
 have y2 : wx.cell? ⟨gc, k, none⟩ = some (.int .i64 n) := (HX5.o _ FX.o).2.2.2.2.2.2.2
 have y3 : wx.frozen? ⟨gc, k, none⟩ = false := by
  obtain ⟨css, _, ho⟩ := KX.o.co
  rw [hvc] at ho
  exact kCk ho k
 have hwn : IntKind.i64.wrap (n + 1) = n + 1 := IntWalk.i64_in _ om
 obtain ⟨s1, s2⟩ := KX.o.setCount (n := n + 1) hkc hvc (kEN om)
 have K6 := hid s1
 have GR6 := hid ((GR5.o.trans (Grown.of_no FX.o)).trans s2)
 have f6 := (Fr.refl (One gc) wx).setCell ⟨gc, k, none⟩ (.int .i64 (n + 1)) (fun _ => rfl)
 have hgg : ga ≠ gc := om
 have GA6 := hid (GA.o.far (p := ⟨gc, k, none⟩) hgg (.int .i64 (n + 1)))
 have EV6 := hid (HEV.o.2.fr f6 (fun b hb => ⟨hb.1.2, fun e => by have e : b = gc := e; have := hb.1.1; omega⟩))
 have S6 := hid f6.size
 clear s1 s2 GA f6
 have K6 : Hid (StIn (wx.setCell ⟨gc, k, none⟩ (.int .i64 (n + 1))) R5 V5 X6) := by rw [HX6.o]; exact K6.o
 have HB7 := hid (And.intro HEV.o.1 (show a.vals.length ≤ 500 by omega))
 have z0 := GA6.o.cell 0
 have z1 := GA6.o.cell 1
 have z2 := GA6.o.cell 2
 have z3 := GA6.o.cell 3
 have z4 := GA6.o.cell 4
 by_cases hkk : a.kind = 2
 · have hd1 : decide (a.kind = 2) = true := by simpa using hkk
   have HKK := hid hkk
   obtain ⟨q, hq⟩ : ∃ q, q = (kAt X6 a).2 := ⟨_, rfl⟩
   have HPK := hid (kME K6.o hMS.o.1 a Av cv hMS.o.2 HAB.o.1 HAB.o.2)
   rw [← hq, hP5, hkk] at HPK
   have HQ := hid hq
   clear hq
   go_wp2_with fail
   refine HPK.o.mono ?_
   rintro e wc ⟨V7, R7, rfl, k7, g7⟩
   have GR7 := hid (GR6.o.trans g7)
   have hgo : ¬ V5.own ga := fun o => by have := K5.o.lt o; omega
   have GA7 := hid (GA6.o.fr g7.fr hgo)
   have EA7 := hid ((EV6.o.fr g7.fr (fun b hb => ⟨ltl hb.1.2 S6.o, fun o => by have := K5.o.lt o; have := hb.1.1; omega⟩)).more (S' := Nw w5 wc) (fun b hb => hb.1.up nr (Nat.le_trans S6.o g7.fr.size)))
   have K7 := hid k7
   have hH7 : Hid ((kAt X6 a).1.hosts = x.hosts) := (kIg X6 a).trans hH6.o
   clear z0 z1 z2 z3 z4 y1 y2 y3 k7 g7 HPK hkk hd1
   cases q with
   | false =>
    have HFIN : Hid (finS X6 a x.hosts[k].ty.results = ((kAt X6 a).1, [], 11)) := by
     unfold Hid finS
     rw [if_pos HKK.o, ← HQ.o]; rfl
    go_wp2
    go_ret2
    exact CallTo.cast HFIN.o ⟨V7, R7, none, 0, rfl, K7.o, GR7.o, nr, .inl rfl⟩
   | true =>
    have HFIN : Hid (finS X6 a x.hosts[k].ty.results = ((kAt X6 a).1, ansL a x.hosts[k].ty.results)) := by
     unfold Hid finS
     rw [if_pos HKK.o, ← HQ.o]; rfl
    generalize (kAt X6 a).1 = X7 at K7 hH7 HFIN
    obtain ⟨Ah7, ch7, hv7, _, hel7⟩ := K7.o.sl_ho
    have hP7 := GR7.o.P
    rw [hH7.o] at hel7 hv7
    have hcell7 : wc.cell? ⟨V.P, 0, none⟩ = some (.slice Ah7 x.hosts.length ch7) := by have := K7.o.blk.cell 0; rw [hP7, hv7] at this; exact this
    obtain ⟨b7, o7, D1, d1, D2, d2, D3, d3, rfl, hbS7, _, _, y2, y3, _, _, _, p17, p27, p37, q17, q27, q37, _, _, _⟩ := kBa hel7 k hk
    have HE7 := hid (And.intro p37 q37)
    have HX7 : Hid (∀ X, Fr No wc X → Ce X V.P 0 (.slice (some ⟨b7, o7, none⟩) x.hosts.length ch7) ∧ Ce X b7 (o7 + k * 5 + 2) (.slice D1 x.hosts[k].ty.params.length d1) ∧ Ce X b7 (o7 + k * 5 + 3) (.slice D2 x.hosts[k].ty.results.length d2) ∧ Ce X ga 0 (.int .i64 a.kind) ∧ Ce X ga 1 (.slice Av a.vals.length cv) ∧ Ce X ga 2 (.int .i64 a.mem) ∧ Ce X ga 3 (.int .i64 a.at_) ∧ Ce X ga 4 (.int .u8 a.byte)) := fun X f => by
     exact yy53
    clear hcell7 hel7 hv7 y2 y3 p37 q37 p17 p27 q17 q27
    go_wp2_with fail
    refine rwO (Fr No wc) [] (List.range 15) [9] (Fr.refl _ wc).drew ?_
    refine rO HX7.o ?_
    refine wpO_eff rfl rfl fun K hK => sz ?_
    refine (kHg a x.hosts[k].ty.params.length x.hosts[k].ty.results Av D1 D2 cv d1 d2 (· < wc.heap.size) wc.drew i2 (EA7.o.more (fun b hb => hb.2)) HE7.o.2 HB7.o.1 HB7.o.2 (by have := HG.o.r; omega)).mono ?_
    rintro e wd ⟨Ax, cx, rfl, hcx, hex, fd⟩
    have FD : Hid (Fr No wc wd) := (Fr.refl No wc).drew.trans fd i3
    have HXE := hid hex
    refine hK _ _ (fun _ => FD.o) ?_
    clear hK K
    clear fd hex
    generalize hL : ansL a x.hosts[k].ty.results = L at *
    refine rO HX7.o ?_
    refine wpO_nil ?_
    go_wp2_with fail
    have hL1 : L.1.length ≤ 500 := by
     rw [← hL]
     unfold ansL
     split
     · exact HB7.o.2
     simp
    refine (kBx Ax cx L.1 (· < wd.heap.size) wd (HXE.o.more (fun b hb => hb.2)) i2 om).mono ?_
    rintro e we ⟨Ay, cy, rfl, hry, fe⟩
    go_wp2
    go_ret2
    obtain ⟨z1, z2, z3⟩ := kAl (w := wd) hry nr (Fr.refl No we) (fun _ _ _ x => x)
    have K8 := (K7.o.frNo FD.o).frNo fe
    have hlow := (K7.o.frNo FD.o).low
    refine CallTo.cast HFIN.o ⟨V7, R7, Ay, cy, rfl, ?_, GR7.o.trans (Grown.of_no (FD.o.trans fe i3)), z1, z3.more (fun b hb => kCL hlow hb)⟩
    exact K8
 have hd1 : decide (a.kind = 2) = false := by simpa using hkk
 have HFIN : Hid (finS X6 a x.hosts[k].ty.results = (X6, ansL a x.hosts[k].ty.results)) := by
  unfold Hid finS
  rw [if_neg hkk]
 go_wp2_with fail
 clear hd1 hkk
 have EA7 := hid (EV6.o.more (S' := Nw w5 (wx.setCell ⟨gc, k, none⟩ (.int .i64 (n + 1)))) (fun b hb => hb.1.up nr S6.o))
 have K7 := K6
 have GR7 := GR6
 have GA7 := GA6
 have hH7 := hH6
 clear z0 z1 z2 z3 z4 y1 y2 y3 K6 GR6 GA6 EV6 S6
 generalize wx.setCell ⟨gc, k, none⟩ (.int .i64 (n + 1)) = wc at *
 obtain ⟨Ah7, ch7, hv7, _, hel7⟩ := K7.o.sl_ho
 have hP7 := GR7.o.P
 rw [hH7.o] at hel7 hv7
 have hcell7 : wc.cell? ⟨V.P, 0, none⟩ = some (.slice Ah7 x.hosts.length ch7) := by have := K7.o.blk.cell 0; rw [hP7, hv7] at this; exact this
 obtain ⟨b7, o7, D1, d1, D2, d2, D3, d3, rfl, hbS7, _, _, y2, y3, _, _, _, p17, p27, p37, q17, q27, q37, _, _, _⟩ := kBa hel7 k hk
 have HE7 := hid (And.intro p37 q37)
 have HX7 : Hid (∀ X, Fr No wc X → Ce X V.P 0 (.slice (some ⟨b7, o7, none⟩) x.hosts.length ch7) ∧ Ce X b7 (o7 + k * 5 + 2) (.slice D1 x.hosts[k].ty.params.length d1) ∧ Ce X b7 (o7 + k * 5 + 3) (.slice D2 x.hosts[k].ty.results.length d2) ∧ Ce X ga 0 (.int .i64 a.kind) ∧ Ce X ga 1 (.slice Av a.vals.length cv) ∧ Ce X ga 2 (.int .i64 a.mem) ∧ Ce X ga 3 (.int .i64 a.at_) ∧ Ce X ga 4 (.int .u8 a.byte)) := fun X f => by
  exact yy53
 clear hcell7 hel7 hv7 y2 y3 p37 q37 p17 p27 q17 q27
 go_wp2_with fail
 refine rwO (Fr No wc) [] (List.range 15) [9] (Fr.refl _ wc).drew ?_
 refine rO HX7.o ?_
 refine wpO_eff rfl rfl fun K hK => sz ?_
 refine (kHg a x.hosts[k].ty.params.length x.hosts[k].ty.results Av D1 D2 cv d1 d2 (· < wc.heap.size) wc.drew i2 (EA7.o.more (fun b hb => hb.2)) HE7.o.2 HB7.o.1 HB7.o.2 (by have := HG.o.r; omega)).mono ?_
 rintro e wd ⟨Ax, cx, rfl, hcx, hex, fd⟩
 have FD : Hid (Fr No wc wd) := (Fr.refl No wc).drew.trans fd i3
 have HXE := hid hex
 refine hK _ _ (fun _ => FD.o) ?_
 clear hK K
 clear fd hex
 generalize hL : ansL a x.hosts[k].ty.results = L at *
 refine rO HX7.o ?_
 refine wpO_nil ?_
 go_wp2_with fail
 have hL1 : L.1.length ≤ 500 := by
  rw [← hL]
  unfold ansL
  split
  · exact HB7.o.2
  simp
 refine (kBx Ax cx L.1 (· < wd.heap.size) wd (HXE.o.more (fun b hb => hb.2)) i2 om).mono ?_
 rintro e we ⟨Ay, cy, rfl, hry, fe⟩
 go_wp2
 go_ret2
 obtain ⟨z1, z2, z3⟩ := kAl (w := wd) hry nr (Fr.refl No we) (fun _ _ _ x => x)
 have K8 := (K7.o.frNo FD.o).frNo fe
 have hlow := (K7.o.frNo FD.o).low
 refine CallTo.cast HFIN.o ⟨V5, R5, Ay, cy, rfl, ?_, GR7.o.trans (Grown.of_no (FD.o.trans fe i3)), z1, z3.more (fun b hb => kCL hlow hb)⟩
 exact K8
end
structure Stg {α : Type} (t : Ty α) (T el : TypeId) (w0 wr : World) (B i : Nat) (cs : Array Value) (xs : List α) (v : Value) : Prop where
 fr : Fr (One B) w0 wr
 hB : Blk wr B T (cs.setIfInBounds i v)
 row : t.row wr w0.heap.size (fun b => Nw w0 wr b ∧ v.ownBlock ≠ some b) el v xs
 lt : B < w0.heap.size
section
variable {α : Type} {t : Ty α} {T el : TypeId} {w0 wr w' w3 w4 : World} {B i : Nat} {cs : Array Value} {xs : List α} {x : α} {v v1 : Value}
theorem Stg.start (hB : Blk w0 B T cs) (e : cs.setIfInBounds i (.slice none 0 0) = cs) : Stg t T el w0 w0 B i cs ([] : List α) (.slice none 0 0) :=
 ⟨Fr.refl _ _, e.symm ▸ hB, Ty.row.nil _ _ _ _, hB.lt⟩
theorem Stg.frNo [TyOk t] [TyMore t] (h : Stg t T el w0 wr B i cs xs v) (f : Fr No wr w') : Stg t T el w0 w' B i cs xs v :=
 ⟨h.fr.trans f (fun _ _ h => h.elim), h.hB.fr f id, (h.row.fr f (fun k hk => ⟨hk.1.2, fun x => x⟩) (fun _ _ x => x)).more nr (fun b hb => ⟨hb.1.up nr f.size, hb.2⟩), h.lt⟩
theorem Stg.own (h : Stg t T el w0 wr B i cs xs v) {k : Nat} (hk : v.ownBlock = some k) : w0.heap.size ≤ k ∧ k < wr.heap.size := by
 obtain ⟨h1, _, hb⟩ := h.row.own hk
 exact ⟨h1, hb.lt⟩
theorem Stg.push [TyOk t] [TyMore t] (h : Stg t T el w0 w3 B i cs xs v) (hr : t.row w4 w0.heap.size (fun b => Nw w0 w3 b ∧ v.ownBlock ≠ some b) el v1 (xs ++ [x])) (f4 : Fr (fun k => some k = v.ownBlock) w3 w4)
    (hv : v1.ownBlock = v.ownBlock ∨ v1.ownBlock = some w3.heap.size) : Stg t T el w0 (w4.setCell ⟨B, i, none⟩ v1) B i cs (xs ++ [x]) v1 := by
 have hlt := h.lt
 have s3 := h.fr.size
 have s4 := f4.size
 have hvB : ¬ some B = v.ownBlock := fun e => by have := (h.own e.symm).1; omega
 have f5 := (Fr.refl (One B) w4).setCell ⟨B, i, none⟩ v1 (fun _ => rfl)
 have hv1 : ∀ k, v1.ownBlock = some k → w0.heap.size ≤ k := fun k hk => (hr.own hk).1
 refine ⟨?_, ?_, ?_, hlt⟩
 · exact (h.fr.trans f4 (fun k hk e => by have := (h.own e.symm).1; omega)).trans f5 (fun _ _ e => e)
 · have := (h.hB.fr f4 hvB).set_ i v1
   simpa using this
 refine (hr.fr f5 (fun k hk => ⟨ltl hk.1.2 s4, fun e => by have e : k = B := e; have := hk.1.1; omega⟩) (fun k hk e => by have e : k = B := e; have := hv1 k hk; omega)).more nr ?_
 intro b hb
 refine ⟨⟨hb.1.1, by have := hb.1.2; have := f5.size; omega⟩, fun e => ?_⟩
 rcases hv with e1 | e1
 · exact hb.2 (e1.symm.trans e)
 rw [e] at e1; have := Option.some.inj e1; have := hb.1.2; omega
theorem Stg.els [TyOk t] [TyMore t] (h : Stg t T el w0 wr B i cs xs v) : ∃ A c, v = .slice A xs.length c ∧ xs.length ≤ c ∧ c ≤ maxLen ∧ t.els wr (fun b => Nw w0 wr b ∧ b ≠ B) A xs := by
 have hlt := h.lt
 obtain ⟨A, c, e, h1, h2, h3⟩ := h.row.els (S' := fun b => Nw w0 wr b ∧ b ≠ B) (fun k hk => ⟨hk.1, by have := hk.1.1; omega⟩) (fun k hk => by
  have := h.own hk
  exact ⟨this, by omega⟩)
 exact ⟨A, c, e, h1, h2, h3⟩
end
structure ShB (T : TypeId) (w wi : World) (D B : Nat) (zs cs : Array Value) : Prop where
 fr : Fr No w wi
 hD : Blk wi D T zs
 hB : Blk wi B T cs
 lD : w.heap.size ≤ D
 lB : w.heap.size ≤ B
 ne : D ≠ B
theorem ShB.frNo {T : TypeId} {w wi w' : World} {D B : Nat} {zs cs : Array Value} (h : ShB T w wi D B zs cs) (f : Fr No wi w') : ShB T w w' D B zs cs :=
 ⟨h.fr.trans f i3, h.hD.fr f id, h.hB.fr f id, h.lD, h.lB, h.ne⟩
theorem ShB.step {α : Type} {t : Ty α} {el T : TypeId} {w wi wr : World} {D B i : Nat} {zs cs : Array Value} {xs : List α} {v : Value} (h : ShB T w wi D B zs cs) (k : Stg t T el wi wr B i cs xs v) : ShB T w wr D B zs (cs.setIfInBounds i v) :=
 ⟨h.fr.trans k.fr (fun i hi e => by have e : i = B := e; have := h.lB; omega), h.hD.fr k.fr h.ne, k.hB, h.lD, h.lB, h.ne⟩
def ShE {α : Type} (t : Ty α) (w wi : World) (D B : Nat) (A : OA) (xs : List α) : Prop := t.els wi (fun b => Nw w wi b ∧ b ≠ B ∧ b ≠ D) A xs
theorem ShE.of {α : Type} {t : Ty α} [TyMore t] {T : TypeId} {w wi wr : World} {D B : Nat} {zs cs : Array Value} {A : OA} {xs : List α} (h : ShB T w wi D B zs cs) (k : t.els wr (fun b => Nw wi wr b ∧ b ≠ B) A xs) : ShE t w wr D B A xs :=
 k.more (fun b hb => ⟨⟨Nat.le_trans h.fr.size hb.1.1, hb.1.2⟩, hb.2, fun e => by have := h.hD.lt; have := hb.1.1; omega⟩)
theorem ShE.up {α : Type} {t : Ty α} [TyOk t] [TyMore t] {w wi wr : World} {D B : Nat} {A : OA} {xs : List α} (k : ShE t w wi D B A xs) (f : Fr (fun k => k = B ∨ k = D) wi wr) : ShE t w wr D B A xs :=
 Ty.els.more (Ty.els.fr k f (fun b hb => ⟨hb.1.2, fun e => e.elim hb.2.1 hb.2.2⟩)) (fun b hb => ⟨hb.1.up nr f.size, hb.2⟩)
theorem ShE.one {α : Type} {t : Ty α} [TyOk t] [TyMore t] {w wi wr : World} {D B : Nat} {A : OA} {xs : List α} (k : ShE t w wi D B A xs) (f : Fr (One B) wi wr) : ShE t w wr D B A xs :=
 k.up (f.mono (fun _ _ h => .inl h))
def kAi (x : Rx) : Sh := ⟨x.mems.map (·.b), x.tabs.map (·.l), x.globs.map (·.v), x.elems.map (·.gone), x.datas.map (·.gone), x.calls⟩
theorem kOA {w : World} {q c : Nat} {xs : List Int} {S : Nat → Prop} (h : Own w q 55 c (Us xs)) (hw : ∀ u ∈ xs, (Lit.int .u64 u).wf = true) (hS : q < w.heap.size → S q) :
    xs.length ≤ c ∧ c ≤ maxLen ∧ tU.els w S (some ⟨q, 0, none⟩) xs := by
 have hlt := h.lt
 obtain ⟨cur, h1, h2, h3, _⟩ := h.cur
 rw [kLF] at h2
 refine ⟨h2, h3, .inr ⟨q, 0, rfl, hS hlt, fun i u hi => ⟨[.int .u64 u], fun j v hj => ?_, kFg (hw u (List.mem_of_getElem? hi))⟩⟩⟩
 obtain ⟨hil, hiu⟩ := List.getElem?_eq_some_iff.1 hi
 obtain ⟨b, o, e, hc⟩ := kOv (h.rd h.lt) i hil
 injection e with e
 injection e with e1 e2 _
 subst e1 e2
 have hj0 : j = 0 := by have := (List.getElem?_eq_some_iff.1 hj).1; simpa using this
 subst hj0
 have hv : v = .int .u64 u := by simpa using hj.symm
 rw [hv, ← hiu, show tU.size = 1 from rfl, Nat.mul_one, Nat.add_zero]
 exact hc
structure ShOk (x : Rx) : Prop where
 tw : ∀ t ∈ x.tabs, ∀ u ∈ t.l, (Lit.int .u64 u).wf = true
 ms : ∀ m ∈ x.mems, m.b.length ≤ 100000
 lme : x.mems.length ≤ 1000000
 lta : x.tabs.length ≤ 1000000
 lgl : x.globs.length ≤ 1000000
 lel : x.elems.length ≤ 1000000
 lda : x.datas.length ≤ 1000000
 lca : x.calls.length ≤ 1000000
 ca : ∀ c ∈ x.calls, c.args.length * 16 ≤ 140737488351232
section
variable {w : World} {R : Nat → Prop} {V : Pl} {x : Rx}
abbrev q7x0 (a0 a1 a2 a3 : Option Addr) (a4 : Rx) (a5 a6 a7 a8 : Nat) : Array Value := #[.slice a0 a4.mems.length a5, .slice a1 a4.tabs.length a6, .slice a2 a4.globs.length a7, .slice a3 a4.elems.length a8, .slice none 0 0, .slice none 0 0]
abbrev q7x2 (a0 a1 a2 : Option Addr) (a3 : Rx) (a4 a5 a6 : Nat) : Array Value := #[.slice a0 a3.mems.length a4, .slice a1 a3.tabs.length a5, .slice a2 a3.globs.length a6, .slice none 0 0, .slice none 0 0, .slice none 0 0]
abbrev q7x4 (a0 a1 : Option Addr) (a2 : Rx) (a3 a4 : Nat) : Array Value := #[.slice a0 a2.mems.length a3, .slice a1 a2.tabs.length a4, .slice none 0 0, .slice none 0 0, .slice none 0 0, .slice none 0 0]
abbrev q7x5 (a0 : Option Addr) (a1 : Rx) (a2 : Nat) : Array Value := #[.slice a0 a1.mems.length a2, .slice none 0 0, .slice none 0 0, .slice none 0 0, .slice none 0 0, .slice none 0 0]
abbrev q7x6 : Array Value := #[.slice none 0 0, .slice none 0 0, .slice none 0 0, .slice none 0 0, .slice none 0 0, .slice none 0 0]
theorem kHH (h : StIn w R V x) (hok : ShOk x) :
    Calls prog 15 #[.pointer (some ⟨V.P, 0, none⟩)] w (kAa tSh (kAi x) w) := by
 have H := hid h
 have hok := hid hok
 obtain ⟨B0, d0, s0, _, e0⟩ := h.sl_me
 obtain ⟨B1, d1, s1, _, e1⟩ := h.sl_ta
 rw [List.length_map, h.ml] at s0
 rw [List.length_map, h.tl] at s1
 obtain ⟨B2, d2, s2, _, e2⟩ := h.sl_gl
 obtain ⟨B3, d3, s3, _, e3⟩ := h.sl_el
 obtain ⟨B4, d4, s4, _, e4⟩ := h.sl_da
 obtain ⟨B5, d5, s5, _, e5⟩ := h.sl_ca
 have SL0 := hid s0
 have EL0 := hid e0
 have SL1 := hid s1
 have EL1 := hid e1
 have SL2 := hid s2
 have EL2 := hid e2
 have SL3 := hid s3
 have EL3 := hid e3
 have SL4 := hid s4
 have EL4 := hid e4
 have SL5 := hid s5
 have EL5 := hid e5
 clear h s0 e0 s1 e1 s2 e2 s3 e3 s4 e4 s5 e5
 have SB0 : Hid (ShB 83 w ((w.alloc (.cells q7x6 83)).alloc (.cells q7x6 83)) w.heap.size (w.heap.size + 1) q7x6 q7x6) :=
  ⟨((Fr.refl No w).alloc _).alloc _, (Blk.new w 83 q7x6).alloc _, Blk.new1 w _ 83 q7x6, nr, by omega, by omega⟩
 go_enter func15, ntmps15
 have yP : w.cell? ⟨V.P, 5, none⟩ = some (.slice B0 x.mems.length d0) := (H.o.blk.cell 5).trans (congrArg some SL0.o)
 have hPl := H.o.blk.lt
 go_upto_region 4 with fail
 clear yP hPl
 generalize (w.alloc (.cells q7x6 83)).alloc (.cells q7x6 83) = W0 at *
 obtain ⟨B, hB⟩ : ∃ B, B = w.heap.size + 1 := ⟨_, rfl⟩
 obtain ⟨D, hD⟩ : ∃ D, D = w.heap.size := ⟨_, rfl⟩
 rw [← hB, ← hD] at SB0
 rw [← hB, ← hD]
 clear hB hD
 have SB := SB0
 clear SB0
 have y5 : W0.cell? ⟨V.P, 5, none⟩ = some (.slice B0 x.mems.length d0) := ((SB.o.fr.cell (p := ⟨V.P, 5, none⟩) H.o.blk.lt id).trans (H.o.blk.cell 5)).trans (congrArg some SL0.o)
 have ST := hid (Stg.start (t := tB.slice) (el := 59) (i := 0) SB.o.hB rfl)
 go_wp2_with fail
 clear y5
 go_loopw [23] (fun i wr => ∃ (k : Nat) (v : Value), k ≤ x.mems.length ∧ i = .int .i64 k ∧ Hid (Stg tB.slice 83 59 W0 wr B 0 q7x6 ((x.mems.map (·.b)).take k) v)) (fun i _ => x.mems.length - (intOf i).toNat)
 case atStart => exact ⟨0, _, by omega, rfl, ST.o⟩
 clear ST
 obtain ⟨k, v, hk, rfl, I⟩ := hrel
 by_cases hlt : k < x.mems.length
 · have F := hid (SB.o.step I.o).fr
   obtain ⟨z, hz⟩ := kBi H.o.ml (List.getElem?_eq_getElem hlt)
   have HZ := hid ((H.o.mat k z x.mems[k] hz (List.getElem?_eq_getElem hlt)).frNo F.o)
   have hlv : k < (V.mp.map (·.1)).length := by rw [List.length_map, H.o.ml]; exact hlt
   have hzz : (V.mp.map (·.1))[k]'hlv = z.1 := by simp [(List.getElem?_eq_some_iff.1 hz).2]
   have HLEN := hid (hok.o.ms _ (List.getElem_mem hlt))
   obtain ⟨b, o, hA, hbS, hcp⟩ := kGs EL0.o k hlv
   subst hA
   rw [hzz] at hcp
   clear hz hzz
   have hcp : wr.cell? ⟨b, o + k, none⟩ = some (.pointer (some ⟨z.1, 0, none⟩)) := (F.o.cell (p := ⟨b, o + k, none⟩) hbS id).trans hcp
   have i0 := nki k
   have i1 : (k : Int) < x.mems.length := om
   have HX : Hid (∀ X, Fr No wr X → Ce X B 0 v) := fun X f => (I.o.hB.fr f id).cell 0
   go_wp2_with fail
   clear hcp
   refine rwO (fun X => Ce X B 0 v) [7] (List.range 8) [3, 4, 5, 7] (HX.o _ (Fr.refl _ _).drew) ?_
   refine rC ?_
   refine wpO_eff rfl rfl fun K hK => sz ?_
   refine (kLT z.1 z.2.2 (some ⟨z.2.1, 0, none⟩) x.mems[k].b wr.drew ((HZ.o.frNo (Fr.refl No wr).drew).hp.cell 3) (HZ.o.frNo (Fr.refl No wr).drew).hp.lt (kNY (HZ.o.frNo (Fr.refl No wr).drew)) HLEN.o).mono ?_
   rintro e w2 ⟨A8, c8, rfl, hr2, f2⟩
   have F2 : Hid (Fr No wr w2) := (Fr.refl No wr).drew.trans f2 i3
   have RX : Hid (tB.slice.rd w2 (Nw wr w2) [.slice A8 x.mems[k].b.length c8] x.mems[k].b) := by
    obtain ⟨z1, z2, z3⟩ := kAl (w := wr) hr2 nr (Fr.refl No w2) (fun _ _ _ x => x)
    exact ⟨A8, c8, rfl, z1, z2, z3⟩
   clear hr2 f2
   refine hK _ _ (fun _ => HX.o _ F2.o) ?_
   clear hK K
   refine rC ?_
   refine wpO_eff rfl rfl fun K hK => sz ?_
   have F3 := hid ((Fr.refl No w2).alloc (.cells #[.slice A8 x.mems[k].b.length c8] 59))
   have G3 := hid (Blk.new w2 59 #[.slice A8 x.mems[k].b.length c8])
   refine hK _ _ (fun _ => HX.o _ (F2.o.trans F3.o i3)) ?_
   clear hK K
   generalize w2.alloc (.cells #[.slice A8 x.mems[k].b.length c8] 59) = w3 at *
   have I3 := hid (I.o.frNo (F2.o.trans F3.o i3))
   have RX3 : Hid (tB.slice.rd w3 (fun b => Nw W0 w3 b ∧ v.ownBlock ≠ some b) [.slice A8 x.mems[k].b.length c8] x.mems[k].b) :=
    TyMore.more _ _ _ _ _ (TyOk.keep _ w3 _ _ _ RX.o (fun p hp => F3.o.cell hp.2 id)) (fun b hb => by
     have h1 := hb.1
     have h2 := hb.2
     have h3 := I.o.fr.size
     have h4 := F3.o.size
     exact ⟨⟨by omega, by omega⟩, fun e => by have := (I.o.own e).2; omega⟩)
   refine rC ?_
   refine wpO_eff rfl rfl (fun K hK => ?_)
   simp only [zA]
   have hlk : ((x.mems.map (·.b)).take k).length = k := by simp; omega
   have hlm := hok.o.lme
   refine kAs (t := tB.slice) (P := prog) (base := W0.heap.size) (S := fun b => Nw W0 w3 b ∧ v.ownBlock ≠ some b) (v := v) (xs := (x.mems.map (·.b)).take k) (ys := [x.mems[k].b]) (dss := [[.slice A8 x.mems[k].b.length c8]]) (B2 := w3.heap.size) kNA rfl rfl rfl I3.o.row (Css.one RX3.o) (Rd.blk G3.o G3.o.lt 0 (fun k u hu => by rw [Nat.zero_add]; simpa using hu)) rfl (by rw [hlk]; omega) (by rw [hlk]; omega) (fun b hb => ⟨hb.1.2, fun e => hb.2 e.symm⟩) I3.o.fr.size ?_
   intro v1 w4 hr4 f4 hv4
   have PU := hid (I3.o.push hr4 f4 hv4)
   have HR4 := hid hr4
   have hBo : ¬ some B = v.ownBlock := fun e => by have := (I3.o.own e.symm).1; have := I3.o.lt; omega
   have Z0 : Hid (w4.cell? ⟨B, 0, none⟩ = some v) := (I3.o.hB.fr f4 hBo).cell 0
   have Z1 : Hid (w4.frozen? ⟨B, 0, none⟩ = false) := (I3.o.hB.fr f4 hBo).frozen 0
   refine hK _ _ (fun _ => Z0.o) ?_
   clear hK K hr4 f4 hv4 hlk
   simp only [zC, Act.put]
   refine rC ?_
   obtain ⟨A9, k9, e9, _, _, _⟩ := HR4.o.els (S' := fun _ => True) tvv tvv
   rw [show (((x.mems.map (·.b)).take k) ++ [x.mems[k].b]).length = k + 1 by simp; omega] at e9
   exact yy50
 have hkn : k = x.mems.length := om
 subst hkn
 have I : Hid (Stg tB.slice 83 59 W0 wr B 0 q7x6 (x.mems.map (·.b)) v) := by
  exact yy81
 obtain ⟨A0, c0, e, m1, m2, m3⟩ := I.o.els
 rw [List.length_map] at e
 subst e
 have M0 := hid (And.intro m1 m2)
 have E0 := hid (ShE.of SB.o m3)
 have SB : Hid (ShB 83 w wr D B q7x6 (q7x5 A0 x c0)) := SB.o.step I.o
 clear m1 m2 m3 I hlt hk
 obtain ⟨W1, hW⟩ : ∃ W, W = wr := ⟨_, rfl⟩
 subst hW
 have y4 : W1.cell? ⟨V.P, 4, none⟩ = some (.slice B1 x.tabs.length d1) := ((SB.o.fr.cell (p := ⟨V.P, 4, none⟩) H.o.blk.lt id).trans (H.o.blk.cell 4)).trans (congrArg some SL1.o)
 have ST := hid (Stg.start (t := tU.slice) (el := 58) (i := 1) SB.o.hB rfl)
 go_wp2_with fail
 clear y4
 go_loopw [41] (fun i wr => ∃ (k : Nat) (v : Value), k ≤ x.tabs.length ∧ i = .int .i64 k ∧ Hid (Stg tU.slice 83 58 W1 wr B 1 (q7x5 A0 x c0) ((x.tabs.map (·.l)).take k) v)) (fun i _ => x.tabs.length - (intOf i).toNat)
 case atStart => exact ⟨0, _, by omega, rfl, ST.o⟩
 clear ST
 obtain ⟨k, v, hk, rfl, I⟩ := hrel
 by_cases hlt : k < x.tabs.length
 · have F := hid (SB.o.step I.o).fr
   obtain ⟨z, hz⟩ := kBi H.o.tl (List.getElem?_eq_getElem hlt)
   have HZ := hid ((H.o.tat k z x.tabs[k] hz (List.getElem?_eq_getElem hlt)).fr F.o id id)
   have hlv : k < (V.tp.map (·.1)).length := by rw [List.length_map, H.o.tl]; exact hlt
   have hzz : (V.tp.map (·.1))[k]'hlv = z.1 := by simp [(List.getElem?_eq_some_iff.1 hz).2]
   have HLEN := hid (hok.o.tw _ (List.getElem_mem hlt))
   obtain ⟨b, o, hA, hbS, hcp⟩ := kGs EL1.o k hlv
   subst hA
   rw [hzz] at hcp
   clear hz hzz
   have hcp : wr.cell? ⟨b, o + k, none⟩ = some (.pointer (some ⟨z.1, 0, none⟩)) := (F.o.cell (p := ⟨b, o + k, none⟩) hbS id).trans hcp
   have i0 := nki k
   have i1 : (k : Int) < x.tabs.length := om
   have HX : Hid (∀ X, Fr No wr X → Ce X B 1 v) := fun X f => (I.o.hB.fr f id).cell 1
   go_wp2_with fail
   clear hcp
   refine rwO (fun X => Ce X B 1 v) [7] (List.range 8) [3, 4, 5, 7] (HX.o _ (Fr.refl _ _).drew) ?_
   refine rC ?_
   refine wpO_eff rfl rfl fun K hK => sz ?_
   refine (kLq (HZ.o.fr (Fr.refl No wr).drew id id)).mono ?_
   rintro e w2 ⟨q8, c8, rfl, ho8, hq8, f2⟩
   have F2 : Hid (Fr No wr w2) := (Fr.refl No wr).drew.trans f2 i3
   obtain ⟨A8, hA8⟩ : ∃ A8 : OA, A8 = some ⟨q8, 0, none⟩ := ⟨_, rfl⟩
   have RX : Hid (tU.slice.rd w2 (Nw wr w2) [.slice A8 x.tabs[k].l.length c8] x.tabs[k].l) := by
    obtain ⟨h1, h2, h3⟩ := kOA ho8 HLEN.o (S := Nw wr w2) (fun h => ⟨hq8, h⟩)
    rw [hA8]
    exact ⟨_, c8, rfl, h1, h2, h3⟩
   rw [← hA8]
   clear ho8 hq8 f2 hA8
   refine hK _ _ (fun _ => HX.o _ F2.o) ?_
   clear hK K
   refine rC ?_
   refine wpO_eff rfl rfl fun K hK => sz ?_
   have F3 := hid ((Fr.refl No w2).alloc (.cells #[.slice A8 x.tabs[k].l.length c8] 58))
   have G3 := hid (Blk.new w2 58 #[.slice A8 x.tabs[k].l.length c8])
   refine hK _ _ (fun _ => HX.o _ (F2.o.trans F3.o i3)) ?_
   clear hK K
   generalize w2.alloc (.cells #[.slice A8 x.tabs[k].l.length c8] 58) = w3 at *
   have I3 := hid (I.o.frNo (F2.o.trans F3.o i3))
   have RX3 : Hid (tU.slice.rd w3 (fun b => Nw W1 w3 b ∧ v.ownBlock ≠ some b) [.slice A8 x.tabs[k].l.length c8] x.tabs[k].l) :=
    TyMore.more _ _ _ _ _ (TyOk.keep _ w3 _ _ _ RX.o (fun p hp => F3.o.cell hp.2 id)) (fun b hb => by
     have h1 := hb.1
     have h2 := hb.2
     have h3 := I.o.fr.size
     have h4 := F3.o.size
     exact ⟨⟨by omega, by omega⟩, fun e => by have := (I.o.own e).2; omega⟩)
   refine rC ?_
   refine wpO_eff rfl rfl (fun K hK => ?_)
   simp only [zA]
   have hlk : ((x.tabs.map (·.l)).take k).length = k := by simp; omega
   have hlm := hok.o.lta
   refine kAs (t := tU.slice) (P := prog) (base := W1.heap.size) (S := fun b => Nw W1 w3 b ∧ v.ownBlock ≠ some b) (v := v) (xs := (x.tabs.map (·.l)).take k) (ys := [x.tabs[k].l]) (dss := [[.slice A8 x.tabs[k].l.length c8]]) (B2 := w3.heap.size) kMy rfl rfl rfl I3.o.row (Css.one RX3.o) (Rd.blk G3.o G3.o.lt 0 (fun k u hu => by rw [Nat.zero_add]; simpa using hu)) rfl (by rw [hlk]; omega) (by rw [hlk]; omega) (fun b hb => ⟨hb.1.2, fun e => hb.2 e.symm⟩) I3.o.fr.size ?_
   intro v1 w4 hr4 f4 hv4
   have PU := hid (I3.o.push hr4 f4 hv4)
   have HR4 := hid hr4
   have hBo : ¬ some B = v.ownBlock := fun e => by have := (I3.o.own e.symm).1; have := I3.o.lt; omega
   have Z0 : Hid (w4.cell? ⟨B, 1, none⟩ = some v) := (I3.o.hB.fr f4 hBo).cell 1
   have Z1 : Hid (w4.frozen? ⟨B, 1, none⟩ = false) := (I3.o.hB.fr f4 hBo).frozen 1
   refine hK _ _ (fun _ => Z0.o) ?_
   clear hK K hr4 f4 hv4 hlk
   simp only [zC, Act.put]
   refine rC ?_
   obtain ⟨A9, k9, e9, _, _, _⟩ := HR4.o.els (S' := fun _ => True) tvv tvv
   rw [show (((x.tabs.map (·.l)).take k) ++ [x.tabs[k].l]).length = k + 1 by simp; omega] at e9
   exact yy50
 have hkn : k = x.tabs.length := om
 subst hkn
 have I : Hid (Stg tU.slice 83 58 W1 wr B 1 (q7x5 A0 x c0) (x.tabs.map (·.l)) v) := by
  exact yy81
 obtain ⟨A1, c1, e, m1, m2, m3⟩ := I.o.els
 rw [List.length_map] at e
 subst e
 have M1 := hid (And.intro m1 m2)
 have E0 := hid (E0.o.one I.o.fr)
 have E1 := hid (ShE.of SB.o m3)
 have SB : Hid (ShB 83 w wr D B q7x6 (q7x4 A0 A1 x c0 c1)) := SB.o.step I.o
 clear m1 m2 m3 I hlt hk
 obtain ⟨W2, hW⟩ : ∃ W, W = wr := ⟨_, rfl⟩
 subst hW
 have y6 : W2.cell? ⟨V.P, 6, none⟩ = some (.slice B2 x.globs.length d2) := ((SB.o.fr.cell (p := ⟨V.P, 6, none⟩) H.o.blk.lt id).trans (H.o.blk.cell 6)).trans (congrArg some SL2.o)
 have ST := hid (Stg.start (t := tVl) (el := 57) (i := 2) SB.o.hB rfl)
 go_wp2_with fail
 clear y6
 go_loopw [59] (fun i wr => ∃ (k : Nat) (v : Value), k ≤ x.globs.length ∧ i = .int .i64 k ∧ Hid (Stg tVl 83 57 W2 wr B 2 (q7x4 A0 A1 x c0 c1) ((x.globs.map (·.v)).take k) v)) (fun i _ => x.globs.length - (intOf i).toNat)
 case atStart => exact ⟨0, _, by omega, rfl, ST.o⟩
 clear ST
 obtain ⟨k, v, hk, rfl, I⟩ := hrel
 by_cases hlt : k < x.globs.length
 · have F := hid (SB.o.step I.o).fr
   obtain ⟨b, o, hA, hbS, y0, y1, y2, y3, q1, q2, q3⟩ := kDO EL2.o k hlt
   subst hA
   have y0 := (F.o.cell (p := ⟨b, o + k * 4, none⟩) hbS id).trans y0
   have y1 := (F.o.cell (p := ⟨b, o + k * 4 + 1, none⟩) hbS id).trans y1
   have y2 := (F.o.cell (p := ⟨b, o + k * 4 + 2, none⟩) hbS id).trans y2
   have y3 := (F.o.cell (p := ⟨b, o + k * 4 + 3, none⟩) hbS id).trans y3
   have RX : Hid (∀ (w : World) (S : Nat → Prop), tVl.rd w S [.int .i64 x.globs[k].v.t, .int .u64 x.globs[k].v.n] x.globs[k].v) := fun w S => kKU q2 q3
   clear q1 q2 q3
   obtain ⟨a, ha⟩ : ∃ a, a = x.globs[k] := ⟨_, rfl⟩
   rw [← ha] at y0 y1 y2 y3 RX
   have HA := hid ha
   clear ha
   have i0 := nki k
   have i1 : (k : Int) < x.globs.length := om
   have F3 := hid (((Fr.refl No wr).alloc (.cells #[.int .i64 a.t.val, .bool a.t.mut_, .int .i64 a.v.t, .int .u64 a.v.n] 180)).alloc (.cells #[.int .i64 a.v.t, .int .u64 a.v.n] 57))
   have G3 := hid (Blk.new1 wr (.cells #[.int .i64 a.t.val, .bool a.t.mut_, .int .i64 a.v.t, .int .u64 a.v.n] 180) 57 #[.int .i64 a.v.t, .int .u64 a.v.n])
   have I3 := hid (I.o.frNo F3.o)
   have yb : wr.cell? ⟨B, 2, none⟩ = some v := I.o.hB.cell 2
   have hBl : B < wr.heap.size := I.o.hB.lt
   have hbl : b < wr.heap.size := ltl hbS F.o.size
   have hlk : ((x.globs.map (·.v)).take k).length = k := by simp; omega
   have hlm := hok.o.lgl
   go_wp2_with (at_builtin; refine wpList_appC (t := tVl) (P := prog) (base := W2.heap.size) (S := fun b => Nw W2 ((wr.alloc (.cells #[.int .i64 a.t.val, .bool a.t.mut_, .int .i64 a.v.t, .int .u64 a.v.n] 180)).alloc (.cells #[.int .i64 a.v.t, .int .u64 a.v.n] 57)) b ∧ v.ownBlock ≠ some b) (v := v) (xs := (x.globs.map (·.v)).take k) (ys := [a.v]) (dss := [[.int .i64 a.v.t, .int .u64 a.v.n]]) (B2 := ((wr.alloc (.cells #[.int .i64 a.t.val, .bool a.t.mut_, .int .i64 a.v.t, .int .u64 a.v.n] 180)).alloc (.cells #[.int .i64 a.v.t, .int .u64 a.v.n] 57)).heap.size) elVl rfl rfl rfl rfl I3.o.row (Css.one (RX.o _ _)) (Rd.blk G3.o G3.o.lt 0 (fun k u hu => by rw [Nat.zero_add]; simpa using hu)) rfl (by rw [hlk]; omega) (by rw [hlk]; omega) (fun b hb => ⟨hb.1.2, fun e => hb.2 e.symm⟩) I3.o.fr.size ?_; intro v1 w4 hr4 f4 hv4; have PU := hid (I3.o.push hr4 f4 hv4); have HR4 := hid hr4; have hBo : ¬ some B = v.ownBlock := (fun e => by have := (I3.o.own e.symm).1; have := I3.o.lt; omega); have z0 : w4.cell? ⟨B, 2, none⟩ = some v := (I3.o.hB.fr f4 hBo).cell 2; have z1 : w4.frozen? ⟨B, 2, none⟩ = false := (I3.o.hB.fr f4 hBo).frozen 2; clear hr4 f4 hv4 hlk hBo; obtain ⟨A9, k9, e9, _, _, _⟩ := HR4.o.els (S' := fun _ => True) tvv tvv; rw [show (((x.globs.map (·.v)).take k) ++ [a.v]).length = k + 1 by simp; omega] at e9; subst e9)
   exact yy46
 have hkn : k = x.globs.length := om
 subst hkn
 have I : Hid (Stg tVl 83 57 W2 wr B 2 (q7x4 A0 A1 x c0 c1) (x.globs.map (·.v)) v) := by
  exact yy81
 obtain ⟨A2, c2, e, m1, m2, m3⟩ := I.o.els
 rw [List.length_map] at e
 subst e
 have M2 := hid (And.intro m1 m2)
 have E0 := hid (E0.o.one I.o.fr)
 have E1 := hid (E1.o.one I.o.fr)
 have E2 := hid (ShE.of SB.o m3)
 have SB : Hid (ShB 83 w wr D B q7x6 (q7x2 A0 A1 A2 x c0 c1 c2)) := SB.o.step I.o
 clear m1 m2 m3 I hlt hk
 obtain ⟨W3, hW⟩ : ∃ W, W = wr := ⟨_, rfl⟩
 subst hW
 have y7 : W3.cell? ⟨V.P, 7, none⟩ = some (.slice B3 x.elems.length d3) := ((SB.o.fr.cell (p := ⟨V.P, 7, none⟩) H.o.blk.lt id).trans (H.o.blk.cell 7)).trans (congrArg some SL3.o)
 have ST := hid (Stg.start (t := Ty.bool) (el := 4) (i := 3) SB.o.hB rfl)
 go_wp2_with fail
 clear y7
 go_loopw [77] (fun i wr => ∃ (k : Nat) (v : Value), k ≤ x.elems.length ∧ i = .int .i64 k ∧ Hid (Stg Ty.bool 83 4 W3 wr B 3 (q7x2 A0 A1 A2 x c0 c1 c2) ((x.elems.map (·.gone)).take k) v)) (fun i _ => x.elems.length - (intOf i).toNat)
 case atStart => exact ⟨0, _, by omega, rfl, ST.o⟩
 clear ST
 obtain ⟨k, v, hk, rfl, I⟩ := hrel
 by_cases hlt : k < x.elems.length
 · have F := hid (SB.o.step I.o).fr
   obtain ⟨b, o, A7, c7, hA, hbS, y0, y1, _⟩ := kKX EL3.o k hlt
   subst hA
   have y0 := (F.o.cell (p := ⟨b, o + k * 2, none⟩) hbS id).trans y0
   have y1 := (F.o.cell (p := ⟨b, o + k * 2 + 1, none⟩) hbS id).trans y1
   have RX : Hid (∀ (w : World) (S : Nat → Prop), Ty.bool.rd w S [.bool x.elems[k].gone] x.elems[k].gone) := fun w S => rfl
   obtain ⟨a, ha⟩ : ∃ a, a = x.elems[k] := ⟨_, rfl⟩
   rw [← ha] at y0 y1 RX
   have HA := hid ha
   clear ha
   have i0 := nki k
   have i1 : (k : Int) < x.elems.length := om
   have F3 := hid (((Fr.refl No wr).alloc (.cells #[.slice A7 a.l.length c7, .bool a.gone] 182)).alloc (.cells #[.bool a.gone] 4))
   have G3 := hid (Blk.new1 wr (.cells #[.slice A7 a.l.length c7, .bool a.gone] 182) 4 #[.bool a.gone])
   have I3 := hid (I.o.frNo F3.o)
   have yb : wr.cell? ⟨B, 3, none⟩ = some v := I.o.hB.cell 3
   have hBl : B < wr.heap.size := I.o.hB.lt
   have hbl : b < wr.heap.size := ltl hbS F.o.size
   have hlk : ((x.elems.map (·.gone)).take k).length = k := by simp; omega
   have hlm := hok.o.lel
   go_wp2_with (at_builtin; refine wpList_appC (t := Ty.bool) (P := prog) (base := W3.heap.size) (S := fun b => Nw W3 ((wr.alloc (.cells #[.slice A7 a.l.length c7, .bool a.gone] 182)).alloc (.cells #[.bool a.gone] 4)) b ∧ v.ownBlock ≠ some b) (v := v) (xs := (x.elems.map (·.gone)).take k) (ys := [a.gone]) (dss := [[.bool a.gone]]) (B2 := ((wr.alloc (.cells #[.slice A7 a.l.length c7, .bool a.gone] 182)).alloc (.cells #[.bool a.gone] 4)).heap.size) kFn rfl rfl rfl rfl I3.o.row (Css.one (RX.o _ _)) (Rd.blk G3.o G3.o.lt 0 (fun k u hu => by rw [Nat.zero_add]; simpa using hu)) rfl (by rw [hlk]; omega) (by rw [hlk]; omega) (fun b hb => ⟨hb.1.2, fun e => hb.2 e.symm⟩) I3.o.fr.size ?_; intro v1 w4 hr4 f4 hv4; have PU := hid (I3.o.push hr4 f4 hv4); have HR4 := hid hr4; have hBo : ¬ some B = v.ownBlock := (fun e => by have := (I3.o.own e.symm).1; have := I3.o.lt; omega); have z0 : w4.cell? ⟨B, 3, none⟩ = some v := (I3.o.hB.fr f4 hBo).cell 3; have z1 : w4.frozen? ⟨B, 3, none⟩ = false := (I3.o.hB.fr f4 hBo).frozen 3; clear hr4 f4 hv4 hlk hBo; obtain ⟨A9, k9, e9, _, _, _⟩ := HR4.o.els (S' := fun _ => True) tvv tvv; rw [show (((x.elems.map (·.gone)).take k) ++ [a.gone]).length = k + 1 by simp; omega] at e9; subst e9)
   exact yy46
 have hkn : k = x.elems.length := om
 subst hkn
 have I : Hid (Stg Ty.bool 83 4 W3 wr B 3 (q7x2 A0 A1 A2 x c0 c1 c2) (x.elems.map (·.gone)) v) := by
  exact yy81
 obtain ⟨A3, c3, e, m1, m2, m3⟩ := I.o.els
 rw [List.length_map] at e
 subst e
 have M3 := hid (And.intro m1 m2)
 have E0 := hid (E0.o.one I.o.fr)
 have E1 := hid (E1.o.one I.o.fr)
 have E2 := hid (E2.o.one I.o.fr)
 have E3 := hid (ShE.of SB.o m3)
 have SB : Hid (ShB 83 w wr D B q7x6 (q7x0 A0 A1 A2 A3 x c0 c1 c2 c3)) := SB.o.step I.o
 clear m1 m2 m3 I hlt hk
 obtain ⟨W4, hW⟩ : ∃ W, W = wr := ⟨_, rfl⟩
 subst hW
 have y8 : W4.cell? ⟨V.P, 8, none⟩ = some (.slice B4 x.datas.length d4) := ((SB.o.fr.cell (p := ⟨V.P, 8, none⟩) H.o.blk.lt id).trans (H.o.blk.cell 8)).trans (congrArg some SL4.o)
 have ST := hid (Stg.start (t := Ty.bool) (el := 4) (i := 4) SB.o.hB rfl)
 go_wp2_with fail
 clear y8
 go_loopw [95] (fun i wr => ∃ (k : Nat) (v : Value), k ≤ x.datas.length ∧ i = .int .i64 k ∧ Hid (Stg Ty.bool 83 4 W4 wr B 4 (q7x0 A0 A1 A2 A3 x c0 c1 c2 c3) ((x.datas.map (·.gone)).take k) v)) (fun i _ => x.datas.length - (intOf i).toNat)
 case atStart => exact ⟨0, _, by omega, rfl, ST.o⟩
 clear ST
 obtain ⟨k, v, hk, rfl, I⟩ := hrel
 by_cases hlt : k < x.datas.length
 · have F := hid (SB.o.step I.o).fr
   obtain ⟨b, o, A7, c7, hA, hbS, y0, y1, _⟩ := kKY EL4.o k hlt
   subst hA
   have y0 := (F.o.cell (p := ⟨b, o + k * 2, none⟩) hbS id).trans y0
   have y1 := (F.o.cell (p := ⟨b, o + k * 2 + 1, none⟩) hbS id).trans y1
   have RX : Hid (∀ (w : World) (S : Nat → Prop), Ty.bool.rd w S [.bool x.datas[k].gone] x.datas[k].gone) := fun w S => rfl
   obtain ⟨a, ha⟩ : ∃ a, a = x.datas[k] := ⟨_, rfl⟩
   rw [← ha] at y0 y1 RX
   have HA := hid ha
   clear ha
   have i0 := nki k
   have i1 : (k : Int) < x.datas.length := om
   have F3 := hid (((Fr.refl No wr).alloc (.cells #[.slice A7 a.b.length c7, .bool a.gone] 184)).alloc (.cells #[.bool a.gone] 4))
   have G3 := hid (Blk.new1 wr (.cells #[.slice A7 a.b.length c7, .bool a.gone] 184) 4 #[.bool a.gone])
   have I3 := hid (I.o.frNo F3.o)
   have yb : wr.cell? ⟨B, 4, none⟩ = some v := I.o.hB.cell 4
   have hBl : B < wr.heap.size := I.o.hB.lt
   have hbl : b < wr.heap.size := ltl hbS F.o.size
   have hlk : ((x.datas.map (·.gone)).take k).length = k := by simp; omega
   have hlm := hok.o.lda
   go_wp2_with (at_builtin; refine wpList_appC (t := Ty.bool) (P := prog) (base := W4.heap.size) (S := fun b => Nw W4 ((wr.alloc (.cells #[.slice A7 a.b.length c7, .bool a.gone] 184)).alloc (.cells #[.bool a.gone] 4)) b ∧ v.ownBlock ≠ some b) (v := v) (xs := (x.datas.map (·.gone)).take k) (ys := [a.gone]) (dss := [[.bool a.gone]]) (B2 := ((wr.alloc (.cells #[.slice A7 a.b.length c7, .bool a.gone] 184)).alloc (.cells #[.bool a.gone] 4)).heap.size) kFn rfl rfl rfl rfl I3.o.row (Css.one (RX.o _ _)) (Rd.blk G3.o G3.o.lt 0 (fun k u hu => by rw [Nat.zero_add]; simpa using hu)) rfl (by rw [hlk]; omega) (by rw [hlk]; omega) (fun b hb => ⟨hb.1.2, fun e => hb.2 e.symm⟩) I3.o.fr.size ?_; intro v1 w4 hr4 f4 hv4; have PU := hid (I3.o.push hr4 f4 hv4); have HR4 := hid hr4; have hBo : ¬ some B = v.ownBlock := (fun e => by have := (I3.o.own e.symm).1; have := I3.o.lt; omega); have z0 : w4.cell? ⟨B, 4, none⟩ = some v := (I3.o.hB.fr f4 hBo).cell 4; have z1 : w4.frozen? ⟨B, 4, none⟩ = false := (I3.o.hB.fr f4 hBo).frozen 4; clear hr4 f4 hv4 hlk hBo; obtain ⟨A9, k9, e9, _, _, _⟩ := HR4.o.els (S' := fun _ => True) tvv tvv; rw [show (((x.datas.map (·.gone)).take k) ++ [a.gone]).length = k + 1 by simp; omega] at e9; subst e9)
   exact yy46
 have hkn : k = x.datas.length := om
 subst hkn
 have I : Hid (Stg Ty.bool 83 4 W4 wr B 4 (q7x0 A0 A1 A2 A3 x c0 c1 c2 c3) (x.datas.map (·.gone)) v) := by
  exact yy81
 obtain ⟨A4, c4, e, m1, m2, m3⟩ := I.o.els
 rw [List.length_map] at e
 subst e
 have M4 := hid (And.intro m1 m2)
 have E0 := hid (E0.o.one I.o.fr)
 have E1 := hid (E1.o.one I.o.fr)
 have E2 := hid (E2.o.one I.o.fr)
 have E3 := hid (E3.o.one I.o.fr)
 have E4 := hid (ShE.of SB.o m3)
 have SB : Hid (ShB 83 w wr D B q7x6 #[.slice A0 x.mems.length c0, .slice A1 x.tabs.length c1, .slice A2 x.globs.length c2, .slice A3 x.elems.length c3, .slice A4 x.datas.length c4, .slice none 0 0]) := SB.o.step I.o
 clear m1 m2 m3 I hlt hk
 obtain ⟨W5, hW⟩ : ∃ W, W = wr := ⟨_, rfl⟩
 subst hW
 have y2 : W5.cell? ⟨V.P, 2, none⟩ = some (.slice B5 x.calls.length d5) := ((SB.o.fr.cell (p := ⟨V.P, 2, none⟩) H.o.blk.lt id).trans (H.o.blk.cell 2)).trans (congrArg some SL5.o)
 go_wp2_with fail
 clear y2
 refine (kGj B5 d5 x.calls (· < w.heap.size) W5 (kBA EL5.o SB.o.fr i2) (fun k hk => ltl hk SB.o.fr.size) (by have := hok.o.lca; omega) hok.o.ca).mono ?_
 rintro e w2 ⟨A5, c5, rfl, hr2, f2⟩
 have F2 : Hid (Fr No W5 w2) := f2
 have SC := hid (SB.o.frNo F2.o)
 obtain ⟨_, _, e, m1, m2, m3⟩ := hr2.els (S' := Nw W5 w2) (fun b hb => hb.1) (fun b hb => by obtain ⟨h1, _, h2⟩ := hr2.own hb; exact ⟨h1, h2.lt⟩)
 injection e with ea eb ec
 subst ea ec
 have M5 := hid (And.intro m1 m2)
 have E5 : Hid (ShE tCa w w2 D B A5 x.calls) := ShE.of SB.o (m3.more (fun b hb => ⟨hb, fun e => by have := SB.o.hB.lt; have := hb.1; omega⟩))
 clear hr2 m1 m2 m3 eb f2
 have E0 := hid (E0.o.up (F2.o.mono (fun _ _ h => h.elim)))
 have E1 := hid (E1.o.up (F2.o.mono (fun _ _ h => h.elim)))
 have E2 := hid (E2.o.up (F2.o.mono (fun _ _ h => h.elim)))
 have E3 := hid (E3.o.up (F2.o.mono (fun _ _ h => h.elim)))
 have E4 := hid (E4.o.up (F2.o.mono (fun _ _ h => h.elim)))

 have z5 := SC.o.hB.cell 5
 have u5 := SC.o.hB.frozen 5
 have GB := hid (SC.o.hB.set_ 5 (.slice A5 x.calls.length c5))
 have GD := hid (SC.o.hD.far (p := ⟨B, 5, none⟩) SC.o.ne (.slice A5 x.calls.length c5))
 have b0 := GB.o.cell 0
 have q0 := GD.o.cell 0
 have r0 := GD.o.frozen 0
 have b1 := GB.o.cell 1
 have q1 := GD.o.cell 1
 have r1 := GD.o.frozen 1
 have b2 := GB.o.cell 2
 have q2 := GD.o.cell 2
 have r2 := GD.o.frozen 2
 have b3 := GB.o.cell 3
 have q3 := GD.o.cell 3
 have r3 := GD.o.frozen 3
 have b4 := GB.o.cell 4
 have q4 := GD.o.cell 4
 have r4 := GD.o.frozen 4
 have b5 := GB.o.cell 5
 have q5 := GD.o.cell 5
 have r5 := GD.o.frozen 5
 have hDl := GD.o.lt
 have hBl := GB.o.lt
 have hBD : ¬ B = D := fun e => SC.o.ne e.symm
 go_wp2
 clear z5 u5
 have GF := hid (((((((GD.o.set_ 0 (.slice A0 x.mems.length c0)).set_ 1 (.slice A1 x.tabs.length c1)).set_ 2 (.slice A2 x.globs.length c2)).set_ 3 (.slice A3 x.elems.length c3)).set_ 4 (.slice A4 x.datas.length c4)).set_ 5 (.slice A5 x.calls.length c5)))
 have FF := hid ((((((((Fr.refl (fun k => k = B ∨ k = D) w2).setCell ⟨B, 5, none⟩ (.slice A5 x.calls.length c5) (fun _ => .inl rfl)).setCell ⟨D, 0, none⟩ (.slice A0 x.mems.length c0) (fun _ => .inr rfl)).setCell ⟨D, 1, none⟩ (.slice A1 x.tabs.length c1) (fun _ => .inr rfl)).setCell ⟨D, 2, none⟩ (.slice A2 x.globs.length c2) (fun _ => .inr rfl)).setCell ⟨D, 3, none⟩ (.slice A3 x.elems.length c3) (fun _ => .inr rfl)).setCell ⟨D, 4, none⟩ (.slice A4 x.datas.length c4) (fun _ => .inr rfl)).setCell ⟨D, 5, none⟩ (.slice A5 x.calls.length c5) (fun _ => .inr rfl))
 clear b0 q0 r0 b1 q1 r1 b2 q2 r2 b3 q3 r3 b4 q4 r4 b5 q5 r5
 generalize (((((((w2.setCell ⟨B, 5, none⟩ (.slice A5 x.calls.length c5)).setCell ⟨D, 0, none⟩ (.slice A0 x.mems.length c0)).setCell ⟨D, 1, none⟩ (.slice A1 x.tabs.length c1)).setCell ⟨D, 2, none⟩ (.slice A2 x.globs.length c2)).setCell ⟨D, 3, none⟩ (.slice A3 x.elems.length c3)).setCell ⟨D, 4, none⟩ (.slice A4 x.datas.length c4)).setCell ⟨D, 5, none⟩ (.slice A5 x.calls.length c5)) = wf at *
 have p0 := GF.o.cell 0
 have p1 := GF.o.cell 1
 have p2 := GF.o.cell 2
 have p3 := GF.o.cell 3
 have p4 := GF.o.cell 4
 have p5 := GF.o.cell 5
 have E0 := hid (E0.o.up FF.o)
 have E1 := hid (E1.o.up FF.o)
 have E2 := hid (E2.o.up FF.o)
 have E3 := hid (E3.o.up FF.o)
 have E4 := hid (E4.o.up FF.o)
 have E5 := hid (E5.o.up FF.o)
 have FZ : Hid (Fr No w wf) := SC.o.fr.trans FF.o (fun i hi e => by have h1 := SC.o.lB; have h2 := SC.o.lD; rcases e with e | e <;> omega)
 have RZ : tSh.rd wf (Nw w wf) [.slice A0 x.mems.length c0, .slice A1 x.tabs.length c1, .slice A2 x.globs.length c2, .slice A3 x.elems.length c3, .slice A4 x.datas.length c4, .slice A5 x.calls.length c5] (kAi x) := by
  have := kNE (a := kAi x) (w := wf) (S := Nw w wf) M0.o.1 M0.o.2 (E0.o.more (fun b hb => hb.1)) M1.o.1 M1.o.2 (E1.o.more (fun b hb => hb.1)) M2.o.1 M2.o.2 (E2.o.more (fun b hb => hb.1)) M3.o.1 M3.o.2 (E3.o.more (fun b hb => hb.1)) M4.o.1 M4.o.2 (E4.o.more (fun b hb => hb.1)) M5.o.1 M5.o.2 (E5.o.more (fun b hb => hb.1))
  simpa only [kAi, List.length_map] using this
 exact bodyPost_ret (v := .agg #[.slice A0 x.mems.length c0, .slice A1 x.tabs.length c1, .slice A2 x.globs.length c2, .slice A3 x.elems.length c3, .slice A4 x.datas.length c4, .slice A5 x.calls.length c5]) (by simp [results, Tryz.results15, go_sem, p0, p1, p2, p3, p4, p5]) rfl ⟨_, rfl, RZ, FZ.o⟩
end
def aV : Vl := ⟨1, 5⟩
def aH : Ho := ⟨⟨#[109]⟩, ⟨#[102]⟩, ⟨[1], []⟩, [⟨1, [], 0, 0, 0⟩, ⟨0, [], 0, 0, 0⟩]⟩
def aX1 : Rx := ⟨[aH], [1], [⟨0, [aV]⟩], [], [], [], [], [], [], []⟩
def aX2 : Rx := ⟨[aH], [2], [⟨0, [aV]⟩, ⟨0, [aV]⟩], [], [], [], [], [], [], []⟩
def aX3 : Rx := ⟨[aH], [2], [⟨0, [aV]⟩, ⟨0, [aV]⟩], [], [], [⟨⟨1, 0, false⟩, List.replicate 256 0⟩], [], [], [], []⟩
theorem kOu : mayB [aH] = true := by decide +kernel
theorem a_hoB : hoB aH = true := by decide +kernel
theorem kND : fitB [aV] [1] = true := by decide +kernel
theorem a_c1 : kAc (sto0 [aH]) (0 : Nat) [aV] = (aX1, [], 11) := by kernel_rfl
theorem a_c2 : kAc aX1 (0 : Nat) [aV] = (aX2, [], 0) := by kernel_rfl
theorem a_m1 : kBQ aX2 ⟨1, 0, false⟩ = (aX3, 0) := by kernel_rfl
theorem a_m2 : kBQ aX3 ⟨-1, 0, false⟩ = (aX3, -1) := by kernel_rfl
theorem a_g : kBZ aX3 ⟨1, false⟩ ⟨2, 0⟩ = (aX3, -1) := by kernel_rfl
theorem a_s : kAi aX3 = ⟨[List.replicate 256 0], [], [], [], [], [⟨0, [aV]⟩, ⟨0, [aV]⟩]⟩ := rfl
theorem a_bd : HoBd aH := ⟨by decide, by decide, by decide, by decide⟩
theorem kOt : StOk (sto0 [aH]) := ⟨by intro h hh; rw [List.mem_singleton.1 hh]; exact a_hoB, by intro h hh; rw [List.mem_singleton.1 hh]; exact a_bd, by decide, by decide, by intro c hc; rw [List.mem_singleton.1 hc]; decide, (fun m hm => nomatch hm), by decide, by decide⟩
theorem kOs : StOk aX1 := ⟨by intro h hh; rw [List.mem_singleton.1 hh]; exact a_hoB, by intro h hh; rw [List.mem_singleton.1 hh]; exact a_bd, by decide, by decide, by intro c hc; rw [List.mem_singleton.1 hc]; decide, (fun m hm => nomatch hm), by decide, by decide⟩
theorem a_sh : ShOk aX3 := ⟨(fun t ht => nomatch ht), by intro m hm; rw [List.mem_singleton.1 hm]; show (List.replicate 256 (0 : Int)).length ≤ 100000; rw [List.length_replicate]; omega, by decide, by decide, by decide, by decide, by decide, by decide, by intro c hc; simp only [aX3, List.mem_cons, List.not_mem_nil, or_false, or_self] at hc; rw [hc]; decide⟩
theorem kEj {α : Type} {t : Ty α} [TyOk t] [TyMore t] {w : World} {q : Nat} {e : TypeId} {css : List (LV)} {xs : List α} (hb : Blk w q e css.flatten.toArray) (h : Css t w (· < w.heap.size) css xs) (hm : xs.length ≤ maxLen) : t.els w (· < w.heap.size) (some ⟨q, 0, none⟩) xs :=
 Ty.row.els' (Ty.row.lit (base := 0) hb nz h hm) i2 (fun g hg => by
  have : q = g := by simpa [Value.ownBlock] using hg
  subst this
  exact hb.lt)
theorem Grown.no {w0 w w' : World} {R R' : Nat → Prop} {V V' : Pl} (h : Grown w w' R R' V V') (f : Fr No w0 w) (ho : ∀ k, V.own k → w0.heap.size ≤ k) : Fr No w0 w' :=
 f.trans h.fr (fun i hi o => by have := ho i o; omega)
theorem kNP (w : World) (o1 o2 o3 : Obj) : (((w.alloc o1).alloc o2).alloc o3).heap.size = w.heap.size + 1 + 1 + 1 := by simp
abbrev q7x1 (a0 : World) : Array Value := #[.string ⟨#[109]⟩, .string ⟨#[102]⟩, .slice (some ⟨a0.heap.size, 0, none⟩) 1 1, .slice none 0 0, .slice (some ⟨a0.heap.size + 1, 0, none⟩) 2 2]
abbrev q7x3 : Array Value := #[.int .i64 1, .slice none 0 0, .int .i64 0, .int .i64 0, .int .u8 0, .int .i64 0, .slice none 0 0, .int .i64 0, .int .i64 0, .int .u8 0]
theorem kEZ (w : World) : Calls prog 7 #[] w fun e w' => e = .returned (.bool true) ∧ Fr No w w' := by
 have F0 : Hid (Fr No w ((((w.alloc (.cells #[.int .i64 1] 48)).alloc (.cells q7x3 110)).alloc (.cells (q7x1 w) 108)).alloc (.cells (q7x1 w) 108))) := ((((Fr.refl No w).alloc _).alloc _).alloc _).alloc _
 have B0 := hid ((((Blk.new w 48 #[.int .i64 1]).alloc (.cells q7x3 110)).alloc (.cells (q7x1 w) 108)).alloc (.cells (q7x1 w) 108))
 have B1 := hid (((Blk.new1 w (.cells #[.int .i64 1] 48) 110 q7x3).alloc (.cells (q7x1 w) 108)).alloc (.cells (q7x1 w) 108))
 have B3 := Blk.new (((w.alloc (.cells #[.int .i64 1] 48)).alloc (.cells q7x3 110)).alloc (.cells (q7x1 w) 108)) 108 (q7x1 w)
 rw [kNP] at B3
 have B3 := hid B3
 go_enter func7, ntmps7
 go_wp2_with fail
 generalize (((w.alloc (.cells #[.int .i64 1] 48)).alloc (.cells q7x3 110)).alloc (.cells (q7x1 w) 108)).alloc (.cells (q7x1 w) 108) = W at *
 have EH : Hid (tHo.els W (· < W.heap.size) (some ⟨w.heap.size + 1 + 1 + 1, 0, none⟩) [aH]) := by
  refine kEj (css := [[.string ⟨#[109]⟩, .string ⟨#[102]⟩, .slice (some ⟨w.heap.size, 0, none⟩) 1 1, .slice none 0 0, .slice (some ⟨w.heap.size + 1, 0, none⟩) 2 2]]) B3.o (Css.one ?_) dc
  refine kNM (a := aH) dc dc dc dc ?_ dc dc (.inl rfl) dc dc ?_
  · exact kEj (css := [[.int .i64 1]]) B0.o (Css.one (kFg rfl)) dc
  refine kEj (css := [[.int .i64 1, .slice none 0 0, .int .i64 0, .int .i64 0, .int .u8 0], [.int .i64 0, .slice none 0 0, .int .i64 0, .int .i64 0, .int .u8 0]]) B1.o (Css.two ?_ ?_) dc
  · exact kKb (a := ⟨1, [], 0, 0, 0⟩) rfl nr dc (.inl rfl) rfl rfl rfl
  exact kKb (a := ⟨0, [], 0, 0, 0⟩) rfl nr dc (.inl rfl) rfl rfl rfl
 refine (kHd (some ⟨w.heap.size + 1 + 1 + 1, 0, none⟩) 1 [aH] (· < W.heap.size) W EH.o i2 dc (by intro h hh; rw [List.mem_singleton.1 hh]; exact a_bd)).mono ?_
 rintro e w1 hN
 unfold kDf at hN
 rw [kOu] at hN
 obtain ⟨V, rfl, h1, h2, f1⟩ := hN
 have F1 := ftr F0 f1
 have LO : Hid (∀ k, V.own k → w.heap.size ≤ k) := fun k hk => Nat.le_trans F0.o.size (h2 k hk)
 have K1 := hid h1
 clear h1 h2 f1 B0 B1 B3 EH F0
 have FV := hid ((Fr.refl No w1).alloc (.cells #[.int .i64 1, .int .u64 5] 57))
 have BV := hid (Blk.new w1 57 #[.int .i64 1, .int .u64 5])
 have HLT : Hid (∀ k, V.own k → k < w1.heap.size) := fun k hk => K1.o.lt hk
 go_wp2_with fail
 obtain ⟨g, hg⟩ : ∃ g, g = w1.heap.size := ⟨_, rfl⟩
 rw [← hg] at BV ⊢
 have HG := hid hg
 clear hg
 generalize w1.alloc (.cells #[.int .i64 1, .int .u64 5] 57) = W1 at *
 have K2 := hid (K1.o.frNo FV.o)
 have NG : Hid (¬ V.own g) := fun o => by have := HLT.o g o; have := HG.o; omega
 have EV : Hid (∀ X, Fr V.own W1 X → tVl.els X (· < X.heap.size) (some ⟨g, 0, none⟩) [aV]) := fun X f => kEj (css := [[.int .i64 1, .int .u64 5]]) (BV.o.fr f NG.o) (Css.one (kKU (a := aV) rfl rfl)) dc
 have HC := kFK K2.o kOt 0 [aV] (some ⟨g, 0, none⟩) 1 dc (· < W1.heap.size) i2 (EV.o W1 (Fr.refl _ _)) dc kND
 rw [a_c1] at HC
 refine HC.mono ?_
 rintro e w2 ⟨V2, R2, A2, c2, rfl, k2, g2, -, -⟩
 have K3 := hid k2
 have G3 := hid g2
 clear HC k2 g2
 go_wp2_with fail
 have HC := kFK K3.o kOs 0 [aV] (some ⟨g, 0, none⟩) 1 dc (· < w2.heap.size) i2 (EV.o w2 G3.o.fr) dc kND
 rw [a_c2, G3.o.P] at HC
 refine HC.mono ?_
 rintro e w3 ⟨V3, R3, A3, c3, rfl, k2, g2, -, -⟩
 have K4 := hid k2
 have G4 := hid (G3.o.trans g2)
 clear HC k2 g2
 go_wp2_with fail
 have HC := kEB K4.o ⟨1, 0, false⟩ dc
 rw [a_m1, G4.o.P] at HC
 refine HC.mono ?_
 rintro e w4 ⟨V4, R4, rfl, k2, g2⟩
 have K5 := hid k2
 have G5 := hid (G4.o.trans g2)
 clear HC k2 g2
 go_wp2_with fail
 have HC := kEB K5.o ⟨-1, 0, false⟩ dc
 rw [a_m2, G5.o.P] at HC
 refine HC.mono ?_
 rintro e w5 ⟨V5, R5, rfl, k2, g2⟩
 have K6 := hid k2
 have G6 := hid (G5.o.trans g2)
 clear HC k2 g2
 go_wp2_with fail
 have HC := kEL K6.o ⟨1, false⟩ ⟨2, 0⟩ rfl rfl rfl dc
 rw [a_g, G6.o.P] at HC
 refine HC.mono ?_
 rintro e w6 ⟨V6, R6, rfl, k2, g2⟩
 have K7 := hid k2
 have G7 := hid (G6.o.trans g2)
 clear HC k2 g2
 go_wp2_with fail
 have HC := kHH K7.o a_sh
 rw [a_s, G7.o.P] at HC
 refine HC.mono ?_
 rintro e w7 ⟨cs, rfl, hr, f7⟩
 have F7 := hid f7
 obtain ⟨Am, cm, At, ct, Ag, cg, Ae, ce, Ad, cd, Ac_, cc, rfl, -, -, -, -, -, -, -, -, -, -, -, -, -, -, -, -, -, ec⟩ := kFL hr
 obtain ⟨b, o, Aa, ca, rfl, hb, -, y1, -, l1, l2, ea⟩ := kKa ec 1 dc
 have y1 : w7.cell? ⟨b, o + 2 + 1, none⟩ = some (.slice Aa 1 ca) := y1
 have EA := hid ea
 have hb7 : b < w7.heap.size := hb.2
 clear HC hr f7 ec l1 l2 ea
 have HCM := hid (fun X (f : Fr No w7 X) => kCU Aa (some ⟨g, 0, none⟩) [aV] [aV] ca 1 w7.heap.size X.heap.size X ((EA.o.fr f (fun k hk => ⟨hk.2, fun x => x⟩)).more (fun k hk => hk.2)) (EV.o X ((G7.o.fr.trans (F7.o.trans f i3) (fun _ _ h => h.elim)))) dc dc)
 go_wp2_with (go_at_call 33; refine (HCM.o _ ((Fr.refl No w7).alloc _)).mono ?_; rintro e w8 ⟨rfl, nn, rfl⟩)
 go_ret
 exact ⟨rfl, (((G7.o.no (F1.o.trans FV.o i3) LO.o).trans F7.o i3).alloc _).drewN nn⟩
section
variable {w : World} {R : Nat → Prop} {V : Pl} {x : Rx}
def GlTo (g : Rg) (ok : Bool) (w : World) (e : Ending) (w' : World) : Prop :=
 e = .returned (.tuple #[.agg #[.int .i64 g.t.val, .bool g.t.mut_], .agg #[.int .i64 g.v.t, .int .u64 g.v.n], .bool ok]) ∧ Fr No w w'
theorem kFi (h : StIn w R V x) (i : Int) (hn : x.globs.length ≤ 1000000) :
    Calls prog 49 #[.pointer (some ⟨V.P, 0, none⟩), .int .i64 i] w (GlTo (atD zRg x.globs i).1 (atD zRg x.globs i).2 w) := by
 have F0 := hid (((Fr.refl No w).alloc (.cells #[.int .i64 0, .bool false] 54)).alloc (.cells #[.int .i64 0, .int .u64 0] 57))
 have G0 := hid ((Blk.new w 54 #[.int .i64 0, .bool false]).alloc (.cells #[.int .i64 0, .int .u64 0] 57))
 have G1 := hid (Blk.new1 w (.cells #[.int .i64 0, .bool false] 54) 57 #[.int .i64 0, .int .u64 0])
 obtain ⟨A, c, hv, _, hel⟩ := h.sl_gl
 have hcell : w.cell? ⟨V.P, 6, none⟩ = some (.slice A x.globs.length c) := by rw [← hv]; exact h.blk.cell 6
 have hPl : V.P < w.heap.size := h.lt V.oP
 have HA := hid (fun (X : World) (f : Fr No w X) => kMe V.P 6 A c x.globs i (· < w.heap.size) X ((f.cell (p := ⟨V.P, 6, none⟩) hPl id).trans hcell) (hel.fr f (fun k hk => ⟨hk, fun x => x⟩)) (fun k hk => ltl hk f.size) hn)
 clear hel hcell hv h hPl
 obtain ⟨ok, hok⟩ : ∃ ok, ok = (atD zRg x.globs i).2 := ⟨_, rfl⟩
 rw [← hok]
 have HOK := hid hok.symm
 clear hok
 go_enter func49, ntmps49
 go_wp2_with fail
 refine (HA.o _ F0.o).mono ?_
 rintro e w1 ⟨cs, rfl, hr, f1⟩
 obtain ⟨rfl, _⟩ := kEE hr
 have F1 := ftr F0 f1
 replace G0 := hid (G0.o.fr f1 id)
 replace G1 := hid (G1.o.fr f1 id)
 clear HA hr f1 F0
 generalize (atD zRg x.globs i).1 = g at *
 obtain ⟨p, hp⟩ : ∃ p, p = w.heap.size := ⟨_, rfl⟩
 rw [← hp] at G0 G1
 simp only [← hp]
 have HPW := hid hp
 clear hp
 have F2 := hid (F1.o.alloc (.cells #[.int .i64 g.t.val, .bool g.t.mut_, .int .i64 g.v.t, .int .u64 g.v.n] 180))
 replace G0 := hid (G0.o.alloc (.cells #[.int .i64 g.t.val, .bool g.t.mut_, .int .i64 g.v.t, .int .u64 g.v.n] 180))
 replace G1 := hid (G1.o.alloc (.cells #[.int .i64 g.t.val, .bool g.t.mut_, .int .i64 g.v.t, .int .u64 g.v.n] 180))
 have G2 := hid (Blk.new w1 180 #[.int .i64 g.t.val, .bool g.t.mut_, .int .i64 g.v.t, .int .u64 g.v.n])
 go_upto_region 4 with fail
 generalize w1.alloc (.cells #[.int .i64 g.t.val, .bool g.t.mut_, .int .i64 g.v.t, .int .u64 g.v.n] 180) = W at *
 generalize w1.heap.size = q at *
 have n1 : q ≠ p := Blk.ne_ G2.o G0.o dc
 have n2 : q ≠ p + 1 := Blk.ne_ G2.o G1.o dc
 have z0 := G0.o.frozen 0
 have z1 := G0.o.frozen 1
 have z2 := G1.o.frozen 0
 have z3 := G1.o.frozen 1
 have HX : Hid (∀ X, Blk X q 180 #[.int .i64 g.t.val, .bool g.t.mut_, .int .i64 g.v.t, .int .u64 g.v.n] → Ce X q 0 (.int .i64 g.t.val) ∧ Ce X q 1 (.bool g.t.mut_) ∧ Ce X q 2 (.int .i64 g.v.t) ∧ Ce X q 3 (.int .u64 g.v.n)) := fun X b => ⟨b.cell 0, b.cell 1, b.cell 2, b.cell 3⟩
 refine rwO (fun X => Ce X q 0 (.int .i64 g.t.val) ∧ Ce X q 1 (.bool g.t.mut_) ∧ Ce X q 2 (.int .i64 g.v.t) ∧ Ce X q 3 (.int .u64 g.v.n)) [] (List.range 8) [5, 6] (HX.o _ G2.o.drew) ?_
 refine rC ?_
 clear z0 z1 z2 z3
 refine wpO_eff rfl rfl (fun K hK => ?_)
 simp only [zA]
 refine wp_store_mid 54 _ _ (by rfl) p 0 #[.int .i64 g.t.val, .bool g.t.mut_] (by rfl) (by rfl) (there_blk G0.o.drew rfl) kr (by simp [Value.oneCell']) ?_
 have F3 := hid (Fr.setCells' (M := fun k => k = p) (fun _ => rfl) [.int .i64 g.t.val, .bool g.t.mut_] 0 _ (Fr.refl _ W).drew)
 have N0 : Blk (W.drew.setCells p 0 [.int .i64 g.t.val, .bool g.t.mut_]) p 54 #[.int .i64 g.t.val, .bool g.t.mut_] := (G0.o.drew.set_ 0 _).set_ 1 _
 have N1 := G1.o.fr F3.o (fun e => by omega)
 have N2 := G2.o.fr F3.o n1
 have F4 := hid (Fr.setCells' (a := w) (b := p) (M := No) (fun h => absurd h (by have := HPW.o; omega)) [.int .i64 g.t.val, .bool g.t.mut_] 0 W.drew F2.o.drew)
 generalize W.drew.setCells p 0 [.int .i64 g.t.val, .bool g.t.mut_] = X1 at *
 refine hK _ _ (fun _ => HX.o _ N2) ?_
 clear hK K
 refine wpO_eff rfl rfl (fun K hK => ?_)
 simp only [zA]
 refine wp_store_mid 57 _ _ (by rfl) (p + 1) 0 #[.int .i64 g.v.t, .int .u64 g.v.n] (by rfl) (by rfl) (there_blk N1 rfl) kr (by simp [Value.oneCell']) ?_
 have F5 := hid (Fr.setCells' (M := fun k => k = p + 1) (fun _ => rfl) [.int .i64 g.v.t, .int .u64 g.v.n] 0 _ (Fr.refl _ X1))
 have M1 : Blk (X1.setCells (p + 1) 0 [.int .i64 g.v.t, .int .u64 g.v.n]) (p + 1) 57 #[.int .i64 g.v.t, .int .u64 g.v.n] := (N1.set_ 0 _).set_ 1 _
 have M0 := N0.fr F5.o (fun e => by omega)
 have M2 := N2.fr F5.o n2
 have F6 := hid (Fr.setCells' (a := w) (b := p + 1) (M := No) (fun h => absurd h (by have := HPW.o; omega)) [.int .i64 g.v.t, .int .u64 g.v.n] 0 X1 F4.o)
 generalize X1.setCells (p + 1) 0 [.int .i64 g.v.t, .int .u64 g.v.n] = X2 at *
 refine hK _ _ (fun _ => HX.o _ M2) ?_
 clear hK K
 refine rC ?_
 refine wpO_nil ?_
 have y0 := M0.cell 0
 have y1 := M0.cell 1
 have y2 := M1.cell 0
 have y3 := M1.cell 1
 clear M0 M1 M2 N0 N1 N2 F5 F3 G0 G1 G2 HX
 go_wp2
 exact bodyPost_ret (v := .tuple #[.agg #[.int .i64 g.t.val, .bool g.t.mut_], .agg #[.int .i64 g.v.t, .int .u64 g.v.n], .bool ok]) (by simp [results, Tryz.results49, go_sem, y0, y1, y2, y3, HOK.o]) rfl ⟨rfl, F6.o⟩
end
theorem u_at {w : World} {S : Nat → Prop} {A : OA} {l : List Int} (h : tU.els w S A l) (i : Nat) (hi : i < l.length) : ∃ (b o : Nat), A = some ⟨b, o, none⟩ ∧ S b ∧ w.cell? ⟨b, o + i, none⟩ = some (.int .u64 l[i]) ∧ (Lit.int .u64 l[i]).wf = true := by
 obtain ⟨b, o, ds, rfl, hb, hc, hr⟩ := h.at_ i hi
 obtain ⟨rfl, hw⟩ := hr
 have := hc 0 _ rfl
 have e : tU.size = 1 := rfl
 exact yy70
theorem bl_at {w : World} {S : Nat → Prop} {A : OA} {l : List Bool} (h : Ty.bool.els w S A l) (i : Nat) (hi : i < l.length) : ∃ (b o : Nat), A = some ⟨b, o, none⟩ ∧ S b ∧ w.cell? ⟨b, o + i, none⟩ = some (.bool l[i]) := by
 obtain ⟨b, o, ds, rfl, hb, hc, hr⟩ := h.at_ i hi
 have hr : ds = [.bool l[i]] := hr
 subst hr
 have := hc 0 _ rfl
 have e : Ty.bool.size = 1 := rfl
 rw [e, Nat.mul_one, Nat.add_zero] at this
 exact ⟨b, o, rfl, hb, this⟩
theorem kHQ (A B : OA) (xs ys : List Int) (c d : Nat) (S T : Nat → Prop) (w : World) (ha : tU.els w S A xs) (hb : tU.els w T B ys) (h1 : xs.length ≤ 140737488351232) (h2 : ys.length ≤ 140737488351232) :
    Calls prog 55 #[.slice A xs.length c, .slice B ys.length d] w fun e w' => e = .returned (.bool (decide (xs = ys))) ∧ ∃ n, w' = w.drewN n := by
 by_cases hl : xs.length = ys.length
 · have e1 : (((xs.length : Nat) : Int) != ((ys.length : Nat) : Int)) = false := by simp [hl]
   have hL := hid hl
   have hl1 : xs.length ≤ ys.length := om
   clear hl
   go_enter func55, ntmps55
   go_wp2
   go_loopw [5] (fun i wr => ∃ k m : Nat, k ≤ xs.length ∧ i = .int .i64 k ∧ wr = w.drewN m ∧ xs.take k = ys.take k) (fun i _ => xs.length - (intOf i).toNat)
   case atStart => exact ⟨0, 0, by omega, rfl, rfl, by simp⟩
   obtain ⟨k, m, hk, rfl, rfl, hq⟩ := hrel
   have HQ := hid hq
   clear hq e1
   by_cases hlt : k < xs.length
   · obtain ⟨b, o, rfl, _, c1, _⟩ := u_at ha k hlt
     obtain ⟨b', o', rfl, _, c2, _⟩ := u_at hb k om
     exact yy6
   go_wp2
   go_ret
   refine ⟨ret_bool ?_, _, rfl⟩
   exact yy21
 have e1 : (((xs.length : Nat) : Int) != ((ys.length : Nat) : Int)) = true := by simp; omega
 have hL := hid hl
 clear hl
 go_enter func55, ntmps55
 exact yy39
theorem kGV (A B : OA) (xs ys : List Bool) (c d : Nat) (S T : Nat → Prop) (w : World) (ha : Ty.bool.els w S A xs) (hb : Ty.bool.els w T B ys) (h1 : xs.length ≤ 140737488351232) (h2 : ys.length ≤ 140737488351232) :
    Calls prog 66 #[.slice A xs.length c, .slice B ys.length d] w fun e w' => e = .returned (.bool (decide (xs = ys))) ∧ ∃ n, w' = w.drewN n := by
 by_cases hl : xs.length = ys.length
 · have e1 : (((xs.length : Nat) : Int) != ((ys.length : Nat) : Int)) = false := by simp [hl]
   have hL := hid hl
   have hl1 : xs.length ≤ ys.length := om
   clear hl
   go_enter func66, ntmps66
   go_wp2
   go_loopw [5] (fun i wr => ∃ k m : Nat, k ≤ xs.length ∧ i = .int .i64 k ∧ wr = w.drewN m ∧ xs.take k = ys.take k) (fun i _ => xs.length - (intOf i).toNat)
   case atStart => exact ⟨0, 0, by omega, rfl, rfl, by simp⟩
   obtain ⟨k, m, hk, rfl, rfl, hq⟩ := hrel
   have HQ := hid hq
   clear hq e1
   by_cases hlt : k < xs.length
   · exact yy12
   go_wp2
   go_ret
   refine ⟨ret_bool ?_, _, rfl⟩
   exact yy21
 have e1 : (((xs.length : Nat) : Int) != ((ys.length : Nat) : Int)) = true := by simp; omega
 have hL := hid hl
 clear hl
 go_enter func66, ntmps66
 exact yy39
def toU8 (l : List Int) : List UInt8 := l.map fun n => UInt8.ofNat n.toNat
def strU (l : List Int) : ByteArray := ⟨(toU8 l).toArray⟩
theorem kGH {l : List Int} (h : ∀ b ∈ l, 0 ≤ b ∧ b ≤ 255) : Bs (toU8 l) = l := by
 induction l with
 | nil => rfl
 | cons b l ih =>
  have hb := h b sm
  have := ih (fun c hc => h c (by simp [hc]))
  simp only [toU8, List.map_cons, Bs] at this ⊢
  rw [this]
  congr 1
  simp only [UInt8.toNat_ofNat']
  omega
theorem kLs {l m : List Int} (h : ∀ b ∈ l, 0 ≤ b ∧ b ≤ 255) (k : ∀ b ∈ m, 0 ≤ b ∧ b ≤ 255) (e : strU l = strU m) : l = m := by
 have e : (toU8 l).toArray = (toU8 m).toArray := congrArg ByteArray.data e
 have e : toU8 l = toU8 m := by simpa using e
 rw [← kGH h, ← kGH k, e]
theorem kLQ {w : World} {S : Nat → Prop} : ∀ {css : List (LV)} {bs : List Int}, Css tB w S css bs → css.flatten = Ks .u8 bs ∧ ∀ b ∈ bs, 0 ≤ b ∧ b ≤ 255
 | [], [], _ => ⟨rfl, fun _ h => nomatch h⟩
 | [], _ :: _, h => nomatch h.1
 | _ :: _, [], h => nomatch h.1
 | c :: css, b :: bs, h => by
  obtain ⟨h1, h2⟩ := kLQ (css := css) (bs := bs) ⟨by simpa using h.1, fun i c x e1 e2 => h.2 (i + 1) c x (by simpa using e1) (by simpa using e2)⟩
  obtain ⟨rfl, hw⟩ := h.2 0 c b rfl rfl
  refine ⟨by rw [List.flatten_cons, h1]; rfl, fun x hx => ?_⟩
  rcases List.mem_cons.1 hx with rfl | hx
  · exact kGm hw
  · exact h2 x hx
theorem kBI {w : World} {S : Nat → Prop} {A : OA} {bs : List Int} (c : Nat) (h : tB.els w S A bs) : (convert 59 9 (.slice A bs.length c)).run prog w = .ok (.string (strU bs)) w ∧ ∀ b ∈ bs, 0 ≤ b ∧ b ≤ 255 := by
 have h' : tB.els w (fun k => S k ∧ k < k + 1) A bs := h.more (fun k hk => ⟨hk, by omega⟩)
 rcases h with rfl | ⟨b, o, rfl, hb, hc⟩
 · refine ⟨?_, fun _ h => nomatch h⟩
   have := kFo (P := prog) (w := w) (B := 0) (A := A) (l := []) 59 9 5 c underlying59 underlying5 underlying9 (.inl rfl)
   exact this
 have h2 : tB.els w (fun k => k < b + 1) (some ⟨b, o, none⟩) bs := .inr ⟨b, o, rfl, by omega, fun i x hx => by obtain ⟨ds, h1, h2⟩ := hc i x hx; exact ⟨ds, h1, h2⟩⟩
 obtain ⟨css, k1, k2⟩ := kAY (B := b + 1) h2 (fun k hk => hk)
 obtain ⟨e1, e2⟩ := kLQ k1
 refine ⟨?_, e2⟩
 rw [e1] at k2
 have e3 := kGH e2
 have := kFo (P := prog) (w := w) (B := b + 1) (A := some ⟨b, o, none⟩) (l := toU8 bs) 59 9 5 c underlying59 underlying5 underlying9 (by rw [e3]; exact k2)
 rw [show (toU8 bs).length = bs.length by simp [toU8]] at this
 exact this
end Go.Proofs.YtdckghiipijobaaGreat
