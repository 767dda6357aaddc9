/- Part 10 of the proof: lemmas and contracts of functions. No condition. -/
import Derived.Test.YthggdemiddjlgaaGreatS9
import Derived.Test.YthggdemiddjlgaaGreatS1
set_option maxRecDepth 100000
set_option maxHeartbeats 12800000
set_option linter.unusedVariables false
set_option linter.unusedSimpArgs false
set_option linter.unusedSectionVars false
namespace Go.Proofs.YthggdemiddjlgaaGreat
open Go.RowKit Go.Proofs.Tryz
theorem FnNew.fr {w w' : World} {base : Nat} {A1 A2 : OA} {c1 c2 : Nat} {f : Fn} (h : FnNew w base A1 c1 A2 c2 f) (g : Fr No w w') : FnNew w' base A1 c1 A2 c2 f :=
 ⟨h.p.fr g (fun _ h => h.elim) (fun _ _ hn => hn), h.r.fr g (fun _ h => h.elim) (fun _ _ hn => hn), h.ne⟩
structure MdIn (w : World) (m : Md) (At Ai Af Ata Am Ag Ae Ael : OA) : Prop where
 types : tFn.els w (· < w.heap.size) At m.types
 imports : tIm.els w (· < w.heap.size) Ai m.imports
 funcs : tCd.els w (· < w.heap.size) Af m.funcs
 tables : tTb.els w (· < w.heap.size) Ata m.tables
 mems : tLim.els w (· < w.heap.size) Am m.mems
 globals : tGd.els w (· < w.heap.size) Ag m.globals
 exports : tEx.els w (· < w.heap.size) Ae m.exports
 elems : tEl.els w (· < w.heap.size) Ael m.elems
 lt : m.types.length ≤ 100
 li : m.imports.length ≤ 101
 lf : m.funcs.length ≤ 100
 lta : m.tables.length ≤ 100
 lm : m.mems.length ≤ 100
 lg : m.globals.length ≤ 100
 le : m.exports.length ≤ 200
 lel : m.elems.length ≤ 100
 lit : ∀ e ∈ m.elems, e.items.length ≤ 300
 lp : ∀ f ∈ m.types, f.params.length * 8 ≤ 140737488351232 ∧ f.results.length * 8 ≤ 140737488351232
 lgi : ∀ g ∈ m.globals, g.init.length ≤ 140737488351232
 lii : ∀ e ∈ m.elems, ∀ l ∈ e.items, l.length ≤ 140737488351232
def OfTo (m : Md) (w : World) (e : Ending) (w' : World) : Prop :=
 ∃ (p gx gs bi bd nI nD : Nat) (ST : Nat → Prop) (v0 v1 v2 v3 v4 v5 : Value), e = .returned (.pointer (some ⟨p, 0, none⟩)) ∧ Blk w' p 269 #[.pointer (some ⟨gs, 0, none⟩)] ∧ SpSt w.heap.size w' gx gs bi bd ST nI nD v0 v1 v2 v3 v4 v5 (SpV.of m) ∧ Fr No w w'
abbrev kJJ (a0 : Nat) (a1 : World) : Array Value := #[.slice none 0 0, .slice none 0 0, .slice none 0 0, .slice none 0 0, .slice none 0 0, .slice none 0 0, .int .i64 a0, .map (some a1.heap.size), .map (some (a1.heap.size + 1))]
theorem kJc (W : World) (s nd : Nat) (hs : W.heap.size = s) : SpSt s ((((W.alloc (.map #[] 0)).alloc (.map #[] 0)).alloc (.cells #[.slice none 0 0, .slice none 0 0, .slice none 0 0, .slice none 0 0, .slice none 0 0, .slice none 0 0, .int .i64 nd, .map (some s), .map (some (s + 1))] 265)).alloc (.cells #[.pointer (some ⟨s + 1 + 1, 0, none⟩)] 260)) (s + 1 + 1 + 1) (s + 1 + 1) s (s + 1) Emp 0 0 (.slice none 0 0) (.slice none 0 0) (.slice none 0 0) (.slice none 0 0) (.slice none 0 0) (.slice none 0 0) (SpV.zero nd) := by
 subst hs
 have e1 : (W.alloc (.map #[] 0)).heap.size = W.heap.size + 1 := by simp
 have e2 : ((W.alloc (.map #[] 0)).alloc (.map #[] 0)).heap.size = W.heap.size + 1 + 1 := by simp
 have e3 : (((W.alloc (.map #[] 0)).alloc (.map #[] 0)).alloc (.cells (kJJ nd W) 265)).heap.size = W.heap.size + 1 + 1 + 1 := by simp
 refine ⟨?_, ?_, ?_, ?_, ?_, by omega, by omega, by omega, by omega, by omega, fun _ h => h.elim⟩
 · have := Blk.new (((W.alloc (.map #[] 0)).alloc (.map #[] 0)).alloc (.cells (kJJ nd W) 265)) 260 #[.pointer (some ⟨W.heap.size + 1 + 1, 0, none⟩)]
   rw [e3] at this
   exact this
 · have := (Blk.new ((W.alloc (.map #[] 0)).alloc (.map #[] 0)) 265 (kJJ nd W)).alloc (.cells #[.pointer (some ⟨W.heap.size + 1 + 1, 0, none⟩)] 260)
   rw [e2] at this
   exact this
 · intro j v hv
   have hj : j < 6 := by have := (List.getElem?_eq_some_iff.1 hv).1; simpa using this
   match j, hj with
   | 0, _ => injection hv with hv; subst hv; exact Ty.row.nil _ _ _ _
   | 1, _ => injection hv with hv; subst hv; exact Ty.row.nil _ _ _ _
   | 2, _ => injection hv with hv; subst hv; exact Ty.row.nil _ _ _ _
   | 3, _ => injection hv with hv; subst hv; exact Ty.row.nil _ _ _ _
   | 4, _ => injection hv with hv; subst hv; exact Ty.row.nil _ _ _ _
   | 5, _ => injection hv with hv; subst hv; exact Ty.row.nil _ _ _ _
 · exact (MapI.made W).fr ((((Fr.refl No _).alloc _).alloc _).alloc _) id
 have := MapB.made (P := prog) (k := 3) (e := 4) (W.alloc (.map #[] 0))
 rw [e1] at this
 exact this.fr (((Fr.refl No _).alloc _).alloc _) id
abbrev kJE (a0 a1 a2 a3 a4 a5 a6 a7 a8 a9 : Option Addr) (a10 a11 a12 a13 a14 a15 a16 a17 a18 a19 a20 a21 a22 a23 a24 a25 a26 a27 a28 a29 : Nat) (a30 : Md) : Array Value := #[.slice a0 a10 a11, .slice a1 a12 a13, .slice a2 a14 a15, .slice a3 a16 a17, .slice a4 a18 a19, .slice a5 a20 a21, .slice a6 a22 a23, .bool a30.hasStart, .int .i64 a30.start, .slice a7 a24 a25, .slice a8 a26 a27, .slice a9 a28 a29]
theorem kJw (w : World) (m : Md) (nt ni nf nta nm ng ne nel nd nc : Nat) (At Ai Af Ata Am Ag Ae Ael Ad Ac : OA) (ct ci cf cta cm cg ce cel cd cc : Nat) (hi : Hid (MdIn w m At Ai Af Ata Am Ag Ae Ael))
    (et : Hid (m.types.length = nt)) (ei : Hid (m.imports.length = ni)) (ef : Hid (m.funcs.length = nf)) (eta_ : Hid (m.tables.length = nta)) (em : Hid (m.mems.length = nm)) (eg : Hid (m.globals.length = ng)) (ee : Hid (m.exports.length = ne)) (eel : Hid (m.elems.length = nel)) (ed : Hid (m.datas.length = nd))
    (lt : nt ≤ 100) (li : ni ≤ 101) (lf : nf ≤ 100) (lta : nta ≤ 100) (lm : nm ≤ 100) (lg : ng ≤ 100) (le : ne ≤ 200) (lel : nel ≤ 100) (ld : nd ≤ 100) :
    Calls prog 71 #[.agg (kJE At Ai Af Ata Am Ag Ae Ael Ad Ac nt ct ni ci nf cf nta cta nm cm ng cg ne ce nel cel nd cd nc cc m)] w (OfTo m w) := by
 have hmm := @run_makeMap prog
 have GM := hid (Blk.new w 55 (kJE At Ai Af Ata Am Ag Ae Ael Ad Ac nt ct ni ci nf cf nta cta nm cm ng cg ne ce nel cel nd cd nc cc m))
 have FM := hid ((Fr.refl No w).alloc (.cells (kJE At Ai Af Ata Am Ag Ae Ael Ad Ac nt ct ni ci nf cf nta cta nm cm ng cg ne ce nel cel nd cd nc cc m) 55))
 have HSP := hid (kJc (w.alloc (.cells (kJE At Ai Af Ata Am Ag Ae Ael Ad Ac nt ct ni ci nf cf nta cta nm cm ng cg ne ce nel cel nd cd nc cc m) 55)) (w.heap.size + 1) nd sm)
 have HFX := hid (((((Fr.refl No (w.alloc (.cells (kJE At Ai Af Ata Am Ag Ae Ael Ad Ac nt ct ni ci nf cf nta cta nm cm ng cg ne ce nel cel nd cd nc cc m) 55))).alloc (.map #[] 0)).alloc (.map #[] 0)).alloc (.cells #[.slice none 0 0, .slice none 0 0, .slice none 0 0, .slice none 0 0, .slice none 0 0, .slice none 0 0, .int .i64 nd, .map (some (w.heap.size + 1)), .map (some (w.heap.size + 1 + 1))] 265)).alloc (.cells #[.pointer (some ⟨w.heap.size + 1 + 1 + 1, 0, none⟩)] 260))
 go_enter func71, ntmps71
 go_wp2
 clear hmm
 generalize ((((w.alloc (.cells (kJE At Ai Af Ata Am Ag Ae Ael Ad Ac nt ct ni ci nf cf nta cta nm cm ng cg ne ce nel cel nd cd nc cc m) 55)).alloc (.map #[] 0)).alloc (.map #[] 0)).alloc (.cells #[.slice none 0 0, .slice none 0 0, .slice none 0 0, .slice none 0 0, .slice none 0 0, .slice none 0 0, .int .i64 nd, .map (some (w.heap.size + 1)), .map (some (w.heap.size + 1 + 1))] 265)).alloc (.cells #[.pointer (some ⟨w.heap.size + 1 + 1 + 1, 0, none⟩)] 260) = X0 at *
 generalize w.alloc (.cells (kJE At Ai Af Ata Am Ag Ae Ael Ad Ac nt ct ni ci nf cf nta cta nm cm ng cg ne ce nel cel nd cd nc cc m) 55) = W at *
 have hlo : w.heap.size < w.heap.size + 1 := om
 have hWs : w.heap.size + 1 ≤ W.heap.size := GM.o.lt
 generalize w.heap.size + 1 + 1 + 1 + 1 = gx at *
 generalize w.heap.size + 1 + 1 + 1 = gs at *
 generalize w.heap.size + 1 + 1 = bd at *
 generalize w.heap.size + 1 = bi at *
 have HM : Hid (∀ Y, Fr (fun k => bi ≤ k) W Y → Y.cell? ⟨w.heap.size, 0, none⟩ = some (.slice At nt ct) ∧ Y.cell? ⟨w.heap.size, 1, none⟩ = some (.slice Ai ni ci) ∧ Y.cell? ⟨w.heap.size, 2, none⟩ = some (.slice Af nf cf) ∧ Y.cell? ⟨w.heap.size, 3, none⟩ = some (.slice Ata nta cta) ∧ Y.cell? ⟨w.heap.size, 4, none⟩ = some (.slice Am nm cm) ∧ Y.cell? ⟨w.heap.size, 5, none⟩ = some (.slice Ag ng cg) ∧ Y.cell? ⟨w.heap.size, 6, none⟩ = some (.slice Ae ne ce) ∧ Y.cell? ⟨w.heap.size, 7, none⟩ = some (.bool m.hasStart) ∧ Y.cell? ⟨w.heap.size, 8, none⟩ = some (.int .i64 m.start) ∧ Y.cell? ⟨w.heap.size, 9, none⟩ = some (.slice Ael nel cel) ∧ Y.cell? ⟨w.heap.size, 10, none⟩ = some (.slice Ad nd cd) ∧ Y.cell? ⟨w.heap.size, 11, none⟩ = some (.slice Ac nc cc)) := fun Y f => by
  have h := GM.o.fr f om
  exact yy30
 have HLow : Hid (∀ Y, Fr (fun k => bi ≤ k) W Y → Fr No w Y) := fun Y f => FM.o.trans f (fun i hi h => by omega)
 have HO : Hid (OfSt W bi gx gs bi bd 0 0 (SpV.zero nd) X0) := ⟨HFX.o.mono (fun _ _ h => h.elim), _, _, _, _, _, _, _, HSP.o⟩
 clear HSP HFX
 go_loopw [30] (fun i wr => ∃ k : Nat, i = .int .i64 k ∧ k ≤ nt ∧ Hid (OfSt W bi gx gs bi bd 0 0 ({ SpV.zero nd with types := m.types.take k }) wr)) (fun i _ => nt - (intOf i).toNat)
 case atStart => as_aux_lemma => exact ⟨0, rfl, by omega, HO.o⟩
 as_aux_lemma =>
 obtain ⟨k, rfl, hk, HOk⟩ := hrel
 clear HO
 rcases Nat.lt_or_ge k nt with hlt | hge
 · obtain ⟨hFr, ST, v0, v1, v2, v3, v4, v5, hS⟩ := HOk.o
   have hlt' : k < m.types.length := by rw [et.o]; exact hlt
   obtain ⟨b, o, Ap, cp, Ar, cr, rfl, hb, y0, y1, _, _, ep, _, _, er⟩ := kIq (hi.o.types.fr (HLow.o _ hFr) (fun k hk => ⟨hk, fun x => x⟩)) k hlt'
   have HFr := hid hFr
   have HS := hid hS
   have HLP := hid (hi.o.lp _ (List.getElem_mem hlt'))
   have HTK := hid (List.take_succ_eq_append_getElem hlt')
   have HEP := hid ep
   have HER := hid er
   have hbw : b < wr.heap.size := ltl hb (HLow.o _ hFr).size
   have i0 := nki k
   have i1 : (k : Int) < nt := om
   have hbs := HS.o.size
   clear hFr hS ep er
   generalize m.types[k] = f at *
   have HSG : Hid (∀ k, kDU gx gs bi bd ST [v0, v1, v2, v3, v4, v5] k → k < wr.heap.size) := fun k hk => (HS.o.lt hk).2
   have F1 := hid ((Fr.refl No wr).alloc (.cells #[.slice Ap f.params.length cp, .slice Ar f.results.length cr] 78))
   have G1 := hid (Blk.new wr 78 #[.slice Ap f.params.length cp, .slice Ar f.results.length cr])
   go_wp2
   generalize wr.alloc (.cells #[.slice Ap f.params.length cp, .slice Ar f.results.length cr] 78) = W1 at *
   have hgW : wr.heap.size < W1.heap.size := G1.o.lt
   generalize wr.heap.size = g at *
   have HS1 := hid (HS.o.frNo F1.o)
   have HX : Hid (∀ Y, Fr (fun k => some k = v0.ownBlock) W1 Y → Y.cell? ⟨gx, 0, none⟩ = some (.pointer (some ⟨gs, 0, none⟩)) ∧ Y.cell? ⟨gs, 0, none⟩ = some v0 ∧ Y.cell? ⟨g, 0, none⟩ = some (.slice Ap f.params.length cp) ∧ Y.cell? ⟨g, 1, none⟩ = some (.slice Ar f.results.length cr)) := fun Y q => by
    have hown : ∀ k, some k = v0.ownBlock → k ≠ g ∧ ∃ cs, Blk W1 k (kCz 0) cs := fun k hk => by
     obtain ⟨_, h2, cs, hb⟩ := HS.o.ownTag (j := 0) (v := v0) rfl hk
     exact ⟨by have := HSG.o k (.inr (.inr (.inr (.inr (.inr ⟨v0, by simp, hk.symm⟩))))); omega, cs, hb.fr F1.o id⟩
    have b1 := HS1.o.hx.fr q (fun e => by obtain ⟨_, cs, hb⟩ := hown _ e; exact Blk.ne_ hb HS1.o.hx (kDj 0) rfl)
    have b2 := HS1.o.hs.fr q (fun e => by obtain ⟨_, cs, hb⟩ := hown _ e; exact Blk.ne_ hb HS1.o.hs (kCM 0) rfl)
    have b3 := G1.o.fr q (fun e => (hown _ e).1 rfl)
    exact ⟨b1.cell 0, b2.cell 0, b3.cell 0, b3.cell 1⟩
   refine rwO (fun Y => Y.cell? ⟨gx, 0, none⟩ = some (.pointer (some ⟨gs, 0, none⟩)) ∧ Y.cell? ⟨gs, 0, none⟩ = some v0 ∧ Y.cell? ⟨g, 0, none⟩ = some (.slice Ap f.params.length cp) ∧ Y.cell? ⟨g, 1, none⟩ = some (.slice Ar f.results.length cr)) [11] (List.range 12) [6, 7, 8, 11] (HX.o _ (Fr.refl _ _).drew) ?_
   refine rC ?_
   refine wpO_eff rfl rfl fun K hK => sz ?_
   have FT := hid ((HLow.o _ HFr.o).trans F1.o.drew i3)
   refine (kGt f Ap Ar cp cr (· < w.heap.size) W1.drew (fun k hk => ltl hk FT.o.size) (HEP.o.fr F1.o.drew (fun k hk => ⟨ltl hk (HLow.o _ HFr.o).size, fun x => x⟩)) (HER.o.fr F1.o.drew (fun k hk => ⟨ltl hk (HLow.o _ HFr.o).size, fun x => x⟩)) (by have := HLP.o; omega) (by have := HLP.o; omega) (by have := HLP.o; omega) (by have := HLP.o; omega)).mono ?_
   rintro e w2 ⟨B1, d1, B2, d2, rfl, hnew, f2⟩
   have F2 := hid ((Fr.refl No W1).drew.trans f2 i3)
   have HN := hid hnew
   refine hK _ _ (fun _ => HX.o _ (F2.o.mono (fun _ _ h => h.elim))) ?_
   clear hK K
   clear hnew f2
   refine wpO_eff rfl rfl fun K hK => sz ?_
   refine hK _ _ (fun _ => HX.o _ ((F2.o.mono (fun _ _ h => h.elim)).alloc _)) ?_
   clear hK K
   have HN3 := hid (HN.o.fr ((Fr.refl No w2).alloc (.cells #[.slice B1 f.params.length d1, .slice B2 f.results.length d2] 78)))
   have HA0 := hid (HS1.o.frNo (F2.o.alloc (.cells #[.slice B1 f.params.length d1, .slice B2 f.results.length d2] 78)))
   have hrd := kEQ w2 [.slice B1 f.params.length d1, .slice B2 f.results.length d2] 78
   have FT3 := hid ((HFr.o.trans (F1.o.mono (M := fun k => bi ≤ k) (fun _ _ h => h.elim)) i3).trans ((F2.o.alloc (.cells #[.slice B1 f.params.length d1, .slice B2 f.results.length d2] 78)).mono (M := fun k => bi ≤ k) (fun _ _ h => h.elim)) i3)
   have FX3 := hid (((F2.o.mono (M := fun k => some k = v0.ownBlock) (fun _ _ h => h.elim)).alloc (.cells #[.slice B1 f.params.length d1, .slice B2 f.results.length d2] 78)))
   have hb2 : w2.heap.size < (w2.alloc (.cells #[.slice B1 f.params.length d1, .slice B2 f.results.length d2] 78)).heap.size := by simp
   have hb1 : W1.heap.size ≤ w2.heap.size := F2.o.size
   have HST : Hid (∀ q, (Value.slice B1 f.params.length d1).ownBlock = some q ∨ (Value.slice B2 f.results.length d2).ownBlock = some q → W1.heap.size ≤ q ∧ ∃ cs, Blk (w2.alloc (.cells #[.slice B1 f.params.length d1, .slice B2 f.results.length d2] 78)) q 35 cs) := fun q hq => by
    rcases hq with hq | hq
    · obtain ⟨h1, cs, h2⟩ := HN.o.p.own hq
      exact ⟨h1, cs, h2.alloc _⟩
    obtain ⟨h1, cs, h2⟩ := HN.o.r.own hq
    exact ⟨h1, cs, h2.alloc _⟩
   generalize w2.alloc (.cells #[.slice B1 f.params.length d1, .slice B2 f.results.length d2] 78) = w3 at *
   have HA := hid (HA0.o.stMore (ST' := fun q => ST q ∨ ((Value.slice B1 f.params.length d1).ownBlock = some q ∨ (Value.slice B2 f.results.length d2).ownBlock = some q)) (fun _ h => .inl h) (fun q hq hn => by
    rcases hq with hq | hq
    · exact absurd hq hn
    · obtain ⟨h1, h2⟩ := HST.o q hq
      refine ⟨by omega, h2, fun e => ?_⟩
      have := (HS1.o.lt (.inr (.inr (.inr (.inr (.inr ⟨v5, by simp, e⟩)))))).2
      omega))
   refine wpO_eff rfl rfl (fun K hK => ?_)
   simp only [List.getElem_toArray, List.getElem_cons_succ, List.getElem_cons_zero]
   refine kBV (t := tFn) (P := prog) (base := bi) (S := fun q => ST q ∨ ((Value.slice B1 f.params.length d1).ownBlock = some q ∨ (Value.slice B2 f.results.length d2).ownBlock = some q)) (v := v0) (xs := m.types.take k) (ys := [f]) (dss := [[.slice B1 f.params.length d1, .slice B2 f.results.length d2]]) kJy rfl rfl rfl (HA.o.row 0 v0 rfl) (Css.one (kJg HN3.o (fun q h => .inr (.inl h)) (fun q h => .inr (.inr h)))) hrd rfl so so (fun q hq => ?hS) (Nat.le_trans HA.o.lx (Nat.le_of_lt HA.o.hx.lt)) ?_
   case hS =>
    obtain ⟨_, ⟨cs, hb⟩, _⟩ := HA.o.st q hq
    refine ⟨hb.lt, fun e => ?_⟩
    obtain ⟨_, _, cs', hb'⟩ := HA.o.ownTag (j := 0) (v := v0) rfl e
    exact Blk.ne_ hb' hb dc rfl
   intro v' w4 hr4 fr4 ho4
   have HR4 := hid hr4
   have HF4 := hid fr4
   have HO4 := hid ho4
   obtain ⟨A4, c4, rfl, _, _, _⟩ := hr4.els (S' := fun _ => True) tvv tvv
   refine hK _ _ (fun _ => HX.o _ (FX3.o.trans HF4.o i3)) ?_
   clear hK K hr4 fr4 ho4 hrd
   simp only [Act.put, List.setIfInBounds_toArray, List.set_cons_zero, List.set_cons_succ]
   refine rC ?_
   have HB4 := hid (HA.o.hs.fr HF4.o (fun e => by obtain ⟨_, _, cs, hb⟩ := HA.o.ownTag (j := 0) (v := v0) rfl e; exact Blk.ne_ hb HA.o.hs (kCM 0) rfl))
   have z0 : w4.cell? ⟨gs, 0, none⟩ = some v0 := HB4.o.cell 0
   have z1 : w4.frozen? ⟨gs, 0, none⟩ = false := HB4.o.frozen 0
   refine wpO_eff rfl rfl fun K hK => sz ?_
   refine hK _ _ (fun h => by cases h) ?_
   clear hK K z0 z1
   refine wpO_nil ?_
   have HZ := hid (HA.o.app (j := 0) (v := v0) (x' := { SpV.zero nd with types := m.types.take k ++ [f] }) (u0 := .slice A4 (m.types.take k ++ [f]).length c4) (u1 := v1) (u2 := v2) (u3 := v3) (u4 := v4) (u5 := v5) om rfl HF4.o HR4.o HO4.o (fun i hi hne Y u h => by
    match i, hi with
    | 0, _ => exact absurd rfl hne
    | 1, _ => exact h
    | 2, _ => exact h
    | 3, _ => exact h
    | 4, _ => exact h
    | 5, _ => exact h) rfl rfl rfl rfl)
   have FZ := hid ((FT3.o.trans HF4.o (fun i hi h => by have := (HA.o.ownTag (j := 0) (v := v0) rfl h).1; exact this)).setCell ⟨gs, 0, none⟩ (.slice A4 (m.types.take k ++ [f]).length c4) (fun _ => HA.o.ls))
   simp only [List.length_append, List.length_take, List.length_cons, List.length_nil, Nat.zero_add] at HZ FZ
   go_wp2
   go_roundw
   case rel => exact ⟨k + 1, by go_num, by omega, by rw [Hid, HTK.o]; exact ⟨FZ.o, _, _, _, _, _, _, _, HZ.o⟩⟩
   simp [intOf]; omega
 obtain rfl : nt = k := om
 have HO : Hid (OfSt W bi gx gs bi bd 0 0 (SpV.s1 m) wr) := by
  have := HOk.o
  rw [show m.types.take nt = m.types from List.take_of_length_le (by rw [et.o]; exact nr)] at this
  rw [Hid, SpV.s1, ed.o]; exact this
 clear HOk
 obtain ⟨x0, x1, x2, x3, x4, x5, x6, x7, x8, x9, x10, x11⟩ := HM.o _ HO.o.1
 go_wp2
 clear x0 x1 x2 x3 x4 x5 x6 x7 x8 x9 x10 x11
 go_loopw [50] (fun i wr => ∃ k : Nat, i = .int .i64 k ∧ k ≤ ni ∧ Hid (OfSt W bi gx gs bi bd k 0 ((m.imports.take k).foldl SpV.bring (SpV.s1 m)) wr)) (fun i _ => ni - (intOf i).toNat)
 case atStart => as_aux_lemma => exact ⟨0, rfl, by omega, HO.o⟩
 as_aux_lemma =>
 obtain ⟨k, rfl, hk, HOk⟩ := hrel
 clear HO
 rcases Nat.lt_or_ge k ni with hlt | hge
 · obtain ⟨hFr, ST, v0, v1, v2, v3, v4, v5, hS⟩ := HOk.o
   have hlt' : k < m.imports.length := by rw [ei.o]; exact hlt
   have hels := hi.o.imports.fr (HLow.o _ hFr) (fun k hk => ⟨hk, fun x => x⟩)
   obtain ⟨b, o, rfl, hb, y0, y1, y2, y3, y4, y5, y6, y7, y8, y9, y10, y11, y12, _, _, q0, q1, q2, q3, q4, q5, q6, q7⟩ := kHM hels k hlt'
   have HFr := hid hFr
   have HS := hid hS
   have HTK := hid (kER (f := SpV.bring) (a := SpV.s1 m) hlt')
   have HLE := hid ((kHO m).fold (m.imports.take k))
   have HIM : Hid (ImOk m.imports[k]) := ⟨q0, q1, fun _ _ => kJz q2 q3 q4, fun _ _ => kJx q5 q6, fun _ _ => kJn q7⟩
   have hbw : b < wr.heap.size := ltl hb (HLow.o _ hFr).size
   have i0 := nki k
   have i1 : (k : Int) < ni := om
   clear hFr hS q0 q1 q2 q3 q4 q5 q6 q7 hels
   generalize m.imports[k] = im at *
   go_wp2_with fail
   have F1 := hid ((Fr.refl No wr).alloc (.cells #[.string im.mod, .string im.name, .int .i64 im.kind, .int .i64 im.func, .int .i64 im.table.elem, .int .i64 im.table.lim.min, .int .i64 im.table.lim.max, .bool im.table.lim.has, .int .i64 im.mem.min, .int .i64 im.mem.max, .bool im.mem.has, .int .i64 im.glob.val, .bool im.glob.mut_] 43))
   have HS1 := hid (HS.o.frNo F1.o)
   clear y0 y1 y2 y3 y4 y5 y6 y7 y8 y9 y10 y11 y12
   generalize wr.alloc (.cells #[.string im.mod, .string im.name, .int .i64 im.kind, .int .i64 im.func, .int .i64 im.table.elem, .int .i64 im.table.lim.min, .int .i64 im.table.lim.max, .bool im.table.lim.has, .int .i64 im.mem.min, .int .i64 im.mem.max, .bool im.mem.has, .int .i64 im.glob.val, .bool im.glob.mut_] 43) = W1 at *
   have htl : (m.imports.take k).length = k := by simp; omega
   have HB := hid (kJX bi W1 gx gs bi bd ST k 0 v0 v1 v2 v3 v4 v5 _ im HS1.o HIM.o (by have := HLE.o.i0 im.kind; omega) (by have := HLE.o.i1 im.kind; omega) om (by have := HLE.o.f; omega) (by have := HLE.o.t; omega) (by have := HLE.o.m; omega) (by have := HLE.o.g; omega))
   clear htl
   refine HB.o.mono ?_
   clear HB
   rintro e w2 ⟨rfl, u0, u1, u2, u3, u4, u5, hS2, hF2⟩
   have HS2 := hid hS2
   have HF2 := hid (HS1.o.rests hF2)
   clear hS2 hF2
   go_wp2
   go_roundw
   case rel => exact ⟨k + 1, by go_num, by omega, by rw [Hid, HTK.o]; exact ⟨(HFr.o.trans (F1.o.mono (M := fun k => bi ≤ k) (fun _ _ h => h.elim)) i3).trans HF2.o i3, _, _, _, _, _, _, _, HS2.o⟩⟩
   simp [intOf]; omega
 obtain rfl : ni = k := om
 have HO : Hid (OfSt W bi gx gs bi bd ni 0 (SpV.s2 m) wr) := by
  have := HOk.o
  rw [show m.imports.take ni = m.imports from List.take_of_length_le (by rw [ei.o]; exact nr)] at this
  exact this
 clear HOk
 obtain ⟨x0, x1, x2, x3, x4, x5, x6, x7, x8, x9, x10, x11⟩ := HM.o _ HO.o.1
 go_wp2
 clear x0 x1 x2 x3 x4 x5 x6 x7 x8 x9 x10 x11
 go_loopw [61] (fun i wr => ∃ k : Nat, i = .int .i64 k ∧ k ≤ nf ∧ Hid (OfSt W bi gx gs bi bd ni 0 ({ SpV.s2 m with funcs := (SpV.s2 m).funcs ++ (m.funcs.take k).map (·.type) }) wr)) (fun i _ => nf - (intOf i).toNat)
 case atStart => as_aux_lemma => exact ⟨0, rfl, by omega, by have := HO.o; rw [Hid]; simpa using this⟩
 as_aux_lemma =>
 obtain ⟨k, rfl, hk, HOk⟩ := hrel
 clear HO
 rcases Nat.lt_or_ge k nf with hlt | hge
 · obtain ⟨hFr, ST, v0, v1, v2, v3, v4, v5, hS⟩ := HOk.o
   have hlt' : k < m.funcs.length := by rw [ef.o]; exact hlt
   have hels := hi.o.funcs.fr (HLow.o _ hFr) (fun k hk => ⟨hk, fun x => x⟩)
   obtain ⟨b, o, Al, cl, Ab, cb, rfl, hb, y0, y1, y2, q0, _, _, _, _⟩ := kIy hels k hlt'
   have HFr := hid hFr
   have HS := hid hS
   have HTK := hid (List.take_succ_eq_append_getElem hlt')
   have HQ := hid q0
   have HLE := hid ((kHO m).fold m.imports)
   have hbw : b < wr.heap.size := ltl hb (HLow.o _ hFr).size
   have i0 := nki k
   have i1 : (k : Int) < nf := om
   have HSG : Hid (∀ k, kDU gx gs bi bd ST [v0, v1, v2, v3, v4, v5] k → k < wr.heap.size) := fun k hk => (HS.o.lt hk).2
   clear hFr hS q0 hels
   generalize m.funcs[k] = fn at *
   go_wp2
   have F1 := hid ((Fr.refl No wr).alloc (.cells #[.int .i64 fn.type, .slice Al fn.locals.length cl, .slice Ab fn.body.length cb] 106))
   have G1 := hid (Blk.new wr 106 #[.int .i64 fn.type, .slice Al fn.locals.length cl, .slice Ab fn.body.length cb])
   have HS1 := hid (HS.o.frNo F1.o)
   have FT1 := hid (HFr.o.trans (F1.o.mono (M := fun k => bi ≤ k) (fun _ _ h => h.elim)) i3)
   clear y0 y1 y2
   generalize wr.alloc (.cells #[.int .i64 fn.type, .slice Al fn.locals.length cl, .slice Ab fn.body.length cb] 106) = W1 at *
   have hgW : wr.heap.size < W1.heap.size := G1.o.lt
   generalize wr.heap.size = g at *
   have hlen : ((SpV.s2 m).funcs ++ (m.funcs.take k).map (·.type)).length ≤ 1000 := by
    have := HLE.o.f
    have h2 : (SpV.s2 m).funcs.length ≤ 0 + m.imports.length := this
    have := ei.o
    simp only [List.length_append, List.length_map, List.length_take]; omega
   have HLN := hid hlen
   clear hlen
   have HX : Hid (∀ Y, Fr (fun k => some k = v1.ownBlock) W1 Y → Y.cell? ⟨gx, 0, none⟩ = some (.pointer (some ⟨gs, 0, none⟩)) ∧ Y.cell? ⟨gs, 1, none⟩ = some v1 ∧ Y.cell? ⟨g, 0, none⟩ = some (.int .i64 fn.type)) := fun Y q => by
    have hown : ∀ k, some k = v1.ownBlock → k ≠ g ∧ ∃ cs, Blk W1 k (kCz 1) cs := fun k hk => by
     obtain ⟨_, h2, cs, hb⟩ := HS1.o.ownTag (j := 1) (v := v1) rfl hk
     exact ⟨by have := HSG.o k (.inr (.inr (.inr (.inr (.inr ⟨v1, by simp, hk.symm⟩))))); omega, cs, hb⟩
    have b1 := HS1.o.hx.fr q (fun e => by obtain ⟨_, cs, hb⟩ := hown _ e; exact Blk.ne_ hb HS1.o.hx (kDj 1) rfl)
    have b2 := HS1.o.hs.fr q (fun e => by obtain ⟨_, cs, hb⟩ := hown _ e; exact Blk.ne_ hb HS1.o.hs (kCM 1) rfl)
    have b3 := G1.o.fr q (fun e => (hown _ e).1 rfl)
    exact ⟨b1.cell 0, b2.cell 1, b3.cell 0⟩
   refine rwO (fun Y => Y.cell? ⟨gx, 0, none⟩ = some (.pointer (some ⟨gs, 0, none⟩)) ∧ Y.cell? ⟨gs, 1, none⟩ = some v1 ∧ Y.cell? ⟨g, 0, none⟩ = some (.int .i64 fn.type)) [11] (List.range 12) [7, 8, 11] (HX.o _ (Fr.refl _ _).drew) ?_
   refine rC ?_
   refine wpO_eff rfl rfl fun K hK => sz ?_
   refine hK _ _ (fun _ => HX.o _ ((Fr.refl _ _).drew.alloc _)) ?_
   clear hK K
   have HA := hid (HS1.o.frNo ((Fr.refl No W1).drew.alloc (.cells #[.int .i64 fn.type] 3)))
   have FA := hid ((Fr.refl No W1).drew.alloc (.cells #[.int .i64 fn.type] 3))
   have FX3 := hid ((Fr.refl (fun k => some k = v1.ownBlock) W1).drew.alloc (.cells #[.int .i64 fn.type] 3))
   have hrd := kEQ W1.drew [.int .i64 fn.type] 3
   refine wpO_eff rfl rfl (fun K hK => ?_)
   simp only [List.getElem_toArray, List.getElem_cons_succ, List.getElem_cons_zero]
   refine kBV (t := tI) (P := prog) (base := bi) (S := Emp) (v := v1) (xs := ((SpV.s2 m).funcs ++ (m.funcs.take k).map (·.type))) (ys := [fn.type]) (dss := [[.int .i64 fn.type]]) kFx rfl rfl rfl (HA.o.row 1 v1 rfl) (Css.one (kIJ HQ.o)) hrd rfl (by have := HLN.o; omega) (by have := HLN.o; omega) (fun _ h => h.elim) HA.o.size ?_
   intro v' w4 hr4 fr4 ho4
   have HR4 := hid hr4
   have HF4 := hid fr4
   have HO4 := hid ho4
   obtain ⟨A4, c4, rfl, _, _, _⟩ := hr4.els (S' := fun _ => True) tvv tvv
   refine hK _ _ (fun _ => HX.o _ (FX3.o.trans HF4.o i3)) ?_
   clear hK K hr4 fr4 ho4 hrd
   simp only [Act.put, List.setIfInBounds_toArray, List.set_cons_zero, List.set_cons_succ]
   refine rC ?_
   have HB4 := hid (HA.o.hs.fr HF4.o (fun e => by obtain ⟨_, _, cs, hb⟩ := HA.o.ownTag (j := 1) (v := v1) rfl e; exact Blk.ne_ hb HA.o.hs (kCM 1) rfl))
   have z0 : w4.cell? ⟨gs, 1, none⟩ = some v1 := HB4.o.cell 1
   have z1 : w4.frozen? ⟨gs, 1, none⟩ = false := HB4.o.frozen 1
   refine wpO_eff rfl rfl fun K hK => sz ?_
   refine hK _ _ (fun h => by cases h) ?_
   clear hK K z0 z1
   refine wpO_nil ?_
   have HZ := hid (HA.o.app (j := 1) (v := v1) (x' := { SpV.s2 m with funcs := ((SpV.s2 m).funcs ++ (m.funcs.take k).map (·.type)) ++ [fn.type] }) (u0 := v0) (u1 := .slice A4 (((SpV.s2 m).funcs ++ (m.funcs.take k).map (·.type)) ++ [fn.type]).length c4) (u2 := v2) (u3 := v3) (u4 := v4) (u5 := v5) om rfl HF4.o HR4.o HO4.o (fun i hi hne Y u h => by
    match i, hi with
    | 0, _ => exact h
    | 1, _ => exact absurd rfl hne
    | 2, _ => exact h
    | 3, _ => exact h
    | 4, _ => exact h
    | 5, _ => exact h) rfl rfl rfl rfl)
   have FZ := hid (((FT1.o.trans (FA.o.mono (M := fun k => bi ≤ k) (fun _ _ h => h.elim)) i3).trans HF4.o (fun i hi h => by have := (HA.o.ownTag (j := 1) (v := v1) rfl h).1; exact this)).setCell ⟨gs, 1, none⟩ (.slice A4 (((SpV.s2 m).funcs ++ (m.funcs.take k).map (·.type)) ++ [fn.type]).length c4) (fun _ => HA.o.ls))
   have GZ := hid (((G1.o.fr FA.o id).fr HF4.o (fun e => by
    obtain ⟨_, h2, cs, hb⟩ := HS1.o.ownTag (j := 1) (v := v1) rfl e
    have := HSG.o g (.inr (.inr (.inr (.inr (.inr ⟨v1, by simp, e.symm⟩)))))
    omega)).far (p := ⟨gs, 1, none⟩) (fun e => by have := HSG.o gs (.inr (.inl rfl)); simp only at e; omega) (.slice A4 (((SpV.s2 m).funcs ++ (m.funcs.take k).map (·.type)) ++ [fn.type]).length c4))
   simp only [List.length_append, List.length_map, List.length_take, List.length_cons, List.length_nil, Nat.zero_add, Nat.add_assoc] at HZ FZ
   go_wp2
   go_roundw
   case rel => exact ⟨k + 1, by go_num, by omega, by rw [Hid, HTK.o, List.map_append, ← List.append_assoc]; exact ⟨FZ.o, _, _, _, _, _, _, _, HZ.o⟩⟩
   simp [intOf]; omega
 obtain rfl : nf = k := om
 have HO : Hid (OfSt W bi gx gs bi bd ni 0 (SpV.s3 m) wr) := by
  have := HOk.o
  rw [show m.funcs.take nf = m.funcs from List.take_of_length_le (by rw [ef.o]; exact nr)] at this
  exact this
 clear HOk
 have HLF : Hid (SpLe (SpV.s2 m) 101) := by
  have h := (kHO m).fold m.imports
  have := ei.o
  exact ⟨Nat.le_trans h.f om, Nat.le_trans h.t om, Nat.le_trans h.m om, Nat.le_trans h.g om, h.i0, fun j => Int.le_trans (h.i1 j) om⟩
 obtain ⟨x0, x1, x2, x3, x4, x5, x6, x7, x8, x9, x10, x11⟩ := HM.o _ HO.o.1
 go_wp2
 clear x0 x1 x2 x3 x4 x5 x6 x7 x8 x9 x10 x11
 obtain ⟨hFr, ST, v0, v1, v2, v3, v4, v5, hS⟩ := HO.o
 have HFra := hid hFr
 have HS := hid hS
 have HEL := hid (kEu (hi.o.tables.fr (HLow.o _ hFr).drew (fun k hk => ⟨hk, fun x => x⟩)) i2)
 clear hFr hS HO
 have HX : Hid (∀ Y, Fr (fun k => some k = v2.ownBlock) wr Y → Y.cell? ⟨gx, 0, none⟩ = some (.pointer (some ⟨gs, 0, none⟩)) ∧ Y.cell? ⟨gs, 2, none⟩ = some v2 ∧ Y.cell? ⟨w.heap.size, 3, none⟩ = some (.slice Ata nta cta)) := fun Y q => by
  have hown : ∀ k, some k = v2.ownBlock → bi ≤ k ∧ ∃ cs, Blk wr k (kCz 2) cs := fun k hk => by
   obtain ⟨h1, h2, cs, hb⟩ := HS.o.ownTag (j := 2) (v := v2) rfl hk
   exact ⟨h1, cs, hb⟩
  have b1 := HS.o.hx.fr q (fun e => by obtain ⟨_, cs, hb⟩ := hown _ e; exact Blk.ne_ hb HS.o.hx (kDj 2) rfl)
  have b2 := HS.o.hs.fr q (fun e => by obtain ⟨_, cs, hb⟩ := hown _ e; exact Blk.ne_ hb HS.o.hs (kCM 2) rfl)
  obtain ⟨x0, x1, x2, x3, x4, x5, x6, x7, x8, x9, x10, x11⟩ := HM.o Y (HFra.o.trans q (fun i _ h => (hown i h).1))
  exact ⟨b1.cell 0, b2.cell 2, x3⟩
 refine rwO (fun Y => Y.cell? ⟨gx, 0, none⟩ = some (.pointer (some ⟨gs, 0, none⟩)) ∧ Y.cell? ⟨gs, 2, none⟩ = some v2 ∧ Y.cell? ⟨w.heap.size, 3, none⟩ = some (.slice Ata nta cta)) [10] (List.range 11) [7, 10] (HX.o _ (Fr.refl _ _).drew) ?_
 refine rC ?_
 obtain ⟨css, hcss, hrd⟩ := HEL.o
 have HA := hid (HS.o.frNo (Fr.refl No wr).drew)
 refine wpO_eff rfl rfl (fun K hK => ?_)
 simp only [List.getElem_toArray, List.getElem_cons_succ, List.getElem_cons_zero]
 refine kBV (t := tTb) (P := prog) (base := bi) (S := Emp) (v := v2) (xs := (SpV.s3 m).tables) (ys := m.tables) (dss := css) kJl rfl rfl rfl (HA.o.row 2 v2 rfl) (hcss _ _) hrd eta_.o (by have := (show (SpV.s3 m).tables.length ≤ 101 from HLF.o.t); omega) (by have := (show (SpV.s3 m).tables.length ≤ 101 from HLF.o.t); omega) (fun _ h => h.elim) HA.o.size ?_
 intro v' w4 hr4 fr4 ho4
 have HR4 := hid hr4
 have HF4 := hid fr4
 have HO4 := hid ho4
 obtain ⟨A4, c4, rfl, _, _, _⟩ := hr4.els (S' := fun _ => True) tvv tvv
 refine hK _ _ (fun _ => HX.o _ (((Fr.refl (fun k => some k = v2.ownBlock) wr).drew).trans HF4.o i3)) ?_
 clear hK K hr4 fr4 ho4 hrd hcss HEL
 simp only [Act.put, List.setIfInBounds_toArray, List.set_cons_zero, List.set_cons_succ]
 refine rC ?_
 have HB4 := hid (HA.o.hs.fr HF4.o (fun e => by obtain ⟨_, _, cs, hb⟩ := HA.o.ownTag (j := 2) (v := v2) rfl e; exact Blk.ne_ hb HA.o.hs (kCM 2) rfl))
 have z0 : w4.cell? ⟨gs, 2, none⟩ = some v2 := HB4.o.cell 2
 have z1 : w4.frozen? ⟨gs, 2, none⟩ = false := HB4.o.frozen 2
 refine wpO_eff rfl rfl fun K hK => sz ?_
 refine hK _ _ (fun h => by cases h) ?_
 clear hK K z0 z1
 refine wpO_nil ?_
 have HZ := hid (HA.o.app (j := 2) (v := v2) (x' := SpV.s4 m) (u0 := v0) (u1 := v1) (u2 := .slice A4 ((SpV.s3 m).tables ++ m.tables).length c4) (u3 := v3) (u4 := v4) (u5 := v5) om rfl HF4.o HR4.o HO4.o (fun i hi hne Y u h => by
  match i, hi with
  | 0, _ => exact h
  | 1, _ => exact h
  | 2, _ => exact absurd rfl hne
  | 3, _ => exact h
  | 4, _ => exact h
  | 5, _ => exact h) rfl rfl rfl rfl)
 have FZ := hid ((HFra.o.drew.trans HF4.o (fun i hi h => by have := (HA.o.ownTag (j := 2) (v := v2) rfl h).1; exact this)).setCell ⟨gs, 2, none⟩ (.slice A4 ((SpV.s3 m).tables ++ m.tables).length c4) (fun _ => HA.o.ls))
 have hlq : ((SpV.s3 m).tables ++ m.tables).length = ((SpV.s3 m).tables).length + (m.tables).length := by rw [List.length_append]
 rw [hlq] at HZ FZ
 clear hlq HS HX HA HF4 HR4 HO4 HB4 HFra
 have HO : Hid (OfSt W bi gx gs bi bd ni 0 (SpV.s4 m) (w4.setCell ⟨gs, 2, none⟩ (.slice A4 (((SpV.s3 m).tables).length + (m.tables).length) c4))) := ⟨FZ.o, _, _, _, _, _, _, _, HZ.o⟩
 clear HZ FZ
 generalize w4.setCell ⟨gs, 2, none⟩ (.slice A4 (((SpV.s3 m).tables).length + (m.tables).length) c4) = wr at *
 obtain ⟨x0, x1, x2, x3, x4, x5, x6, x7, x8, x9, x10, x11⟩ := HM.o _ HO.o.1
 go_wp2
 clear x0 x1 x2 x3 x4 x5 x6 x7 x8 x9 x10 x11
 obtain ⟨hFr, ST, v0, v1, v2, v3, v4, v5, hS⟩ := HO.o
 have HFrb := hid hFr
 have HS := hid hS
 have HEL := hid (kEu (hi.o.mems.fr (HLow.o _ hFr).drew (fun k hk => ⟨hk, fun x => x⟩)) i2)
 clear hFr hS HO
 have HX : Hid (∀ Y, Fr (fun k => some k = v3.ownBlock) wr Y → Y.cell? ⟨gx, 0, none⟩ = some (.pointer (some ⟨gs, 0, none⟩)) ∧ Y.cell? ⟨gs, 3, none⟩ = some v3 ∧ Y.cell? ⟨w.heap.size, 4, none⟩ = some (.slice Am nm cm)) := fun Y q => by
  have hown : ∀ k, some k = v3.ownBlock → bi ≤ k ∧ ∃ cs, Blk wr k (kCz 3) cs := fun k hk => by
   obtain ⟨h1, h2, cs, hb⟩ := HS.o.ownTag (j := 3) (v := v3) rfl hk
   exact ⟨h1, cs, hb⟩
  have b1 := HS.o.hx.fr q (fun e => by obtain ⟨_, cs, hb⟩ := hown _ e; exact Blk.ne_ hb HS.o.hx (kDj 3) rfl)
  have b2 := HS.o.hs.fr q (fun e => by obtain ⟨_, cs, hb⟩ := hown _ e; exact Blk.ne_ hb HS.o.hs (kCM 3) rfl)
  obtain ⟨x0, x1, x2, x3, x4, x5, x6, x7, x8, x9, x10, x11⟩ := HM.o Y (HFrb.o.trans q (fun i _ h => (hown i h).1))
  exact ⟨b1.cell 0, b2.cell 3, x4⟩
 refine rwO (fun Y => Y.cell? ⟨gx, 0, none⟩ = some (.pointer (some ⟨gs, 0, none⟩)) ∧ Y.cell? ⟨gs, 3, none⟩ = some v3 ∧ Y.cell? ⟨w.heap.size, 4, none⟩ = some (.slice Am nm cm)) [10] (List.range 11) [7, 10] (HX.o _ (Fr.refl _ _).drew) ?_
 refine rC ?_
 obtain ⟨css, hcss, hrd⟩ := HEL.o
 have HA := hid (HS.o.frNo (Fr.refl No wr).drew)
 refine wpO_eff rfl rfl (fun K hK => ?_)
 simp only [List.getElem_toArray, List.getElem_cons_succ, List.getElem_cons_zero]
 refine kBV (t := tLim) (P := prog) (base := bi) (S := Emp) (v := v3) (xs := (SpV.s4 m).mems) (ys := m.mems) (dss := css) kJT rfl rfl rfl (HA.o.row 3 v3 rfl) (hcss _ _) hrd em.o (by have := (show (SpV.s4 m).mems.length ≤ 101 from HLF.o.m); omega) (by have := (show (SpV.s4 m).mems.length ≤ 101 from HLF.o.m); omega) (fun _ h => h.elim) HA.o.size ?_
 intro v' w4 hr4 fr4 ho4
 have HR4 := hid hr4
 have HF4 := hid fr4
 have HO4 := hid ho4
 obtain ⟨A4, c4, rfl, _, _, _⟩ := hr4.els (S' := fun _ => True) tvv tvv
 refine hK _ _ (fun _ => HX.o _ (((Fr.refl (fun k => some k = v3.ownBlock) wr).drew).trans HF4.o i3)) ?_
 clear hK K hr4 fr4 ho4 hrd hcss HEL
 simp only [Act.put, List.setIfInBounds_toArray, List.set_cons_zero, List.set_cons_succ]
 refine rC ?_
 have HB4 := hid (HA.o.hs.fr HF4.o (fun e => by obtain ⟨_, _, cs, hb⟩ := HA.o.ownTag (j := 3) (v := v3) rfl e; exact Blk.ne_ hb HA.o.hs (kCM 3) rfl))
 have z0 : w4.cell? ⟨gs, 3, none⟩ = some v3 := HB4.o.cell 3
 have z1 : w4.frozen? ⟨gs, 3, none⟩ = false := HB4.o.frozen 3
 refine wpO_eff rfl rfl fun K hK => sz ?_
 refine hK _ _ (fun h => by cases h) ?_
 clear hK K z0 z1
 refine wpO_nil ?_
 have HZ := hid (HA.o.app (j := 3) (v := v3) (x' := SpV.s5 m) (u0 := v0) (u1 := v1) (u2 := v2) (u3 := .slice A4 ((SpV.s4 m).mems ++ m.mems).length c4) (u4 := v4) (u5 := v5) om rfl HF4.o HR4.o HO4.o (fun i hi hne Y u h => by
  match i, hi with
  | 0, _ => exact h
  | 1, _ => exact h
  | 2, _ => exact h
  | 3, _ => exact absurd rfl hne
  | 4, _ => exact h
  | 5, _ => exact h) rfl rfl rfl rfl)
 have FZ := hid ((HFrb.o.drew.trans HF4.o (fun i hi h => by have := (HA.o.ownTag (j := 3) (v := v3) rfl h).1; exact this)).setCell ⟨gs, 3, none⟩ (.slice A4 ((SpV.s4 m).mems ++ m.mems).length c4) (fun _ => HA.o.ls))
 have hlq : ((SpV.s4 m).mems ++ m.mems).length = ((SpV.s4 m).mems).length + (m.mems).length := by rw [List.length_append]
 rw [hlq] at HZ FZ
 clear hlq HS HX HA HF4 HR4 HO4 HB4 HFrb
 have HO : Hid (OfSt W bi gx gs bi bd ni 0 (SpV.s5 m) (w4.setCell ⟨gs, 3, none⟩ (.slice A4 (((SpV.s4 m).mems).length + (m.mems).length) c4))) := ⟨FZ.o, _, _, _, _, _, _, _, HZ.o⟩
 clear HZ FZ
 generalize w4.setCell ⟨gs, 3, none⟩ (.slice A4 (((SpV.s4 m).mems).length + (m.mems).length) c4) = wr at *
 obtain ⟨x0, x1, x2, x3, x4, x5, x6, x7, x8, x9, x10, x11⟩ := HM.o _ HO.o.1
 go_wp2
 clear x0 x1 x2 x3 x4 x5 x6 x7 x8 x9 x10 x11
 go_loopw [101] (fun i wr => ∃ k : Nat, i = .int .i64 k ∧ k ≤ ng ∧ Hid (OfSt W bi gx gs bi bd ni (k * 140737488351232) ((m.globals.take k).foldl SpV.glob (SpV.s5 m)) wr)) (fun i _ => ng - (intOf i).toNat)
 case atStart => as_aux_lemma => exact ⟨0, rfl, by omega, by have := HO.o; simpa [Hid] using this⟩
 as_aux_lemma =>
 obtain ⟨k, rfl, hk, HOk⟩ := hrel
 clear HO
 rcases Nat.lt_or_ge k ng with hlt | hge
 · obtain ⟨hFr, ST, v0, v1, v2, v3, v4, v5, hS⟩ := HOk.o
   have hlt' : k < m.globals.length := by rw [eg.o]; exact hlt
   have hels := hi.o.globals.fr (HLow.o _ hFr) (fun k hk => ⟨hk, fun x => x⟩)
   obtain ⟨b, o, An, cn, rfl, hb, y0, y1, y2, q0, _, _, q3⟩ := kIp hels k hlt'
   have HFr := hid hFr
   have HS := hid hS
   have HTK := hid (kER (f := SpV.glob) (a := SpV.s5 m) hlt')
   have HQ := hid q0
   have HIN := hid q3
   have HIL := hid (hi.o.lgi _ (List.getElem_mem hlt'))
   have HGL : Hid (((m.globals.take k).foldl SpV.glob (SpV.s5 m)).globals.length ≤ 101 + k) := by
    have := kJf (SpV.s5 m) (m.globals.take k)
    have h2 : (SpV.s5 m).globals.length ≤ 101 := HLF.o.g
    rw [Hid]; simp only [List.length_take] at this; omega
   have hbw : b < wr.heap.size := ltl hb (HLow.o _ hFr).size
   have i0 := nki k
   have i1 : (k : Int) < ng := om
   have HSG : Hid (∀ k, kDU gx gs bi bd ST [v0, v1, v2, v3, v4, v5] k → k < wr.heap.size) := fun k hk => (HS.o.lt hk).2
   clear hFr hS q0 q3 hels
   generalize m.globals[k] = gd at *
   go_wp2
   have F1 := hid ((Fr.refl No wr).alloc (.cells #[.int .i64 gd.type.val, .bool gd.type.mut_, .slice An gd.init.length cn] 108))
   have G1 := hid (Blk.new wr 108 #[.int .i64 gd.type.val, .bool gd.type.mut_, .slice An gd.init.length cn])
   have HS1 := hid (HS.o.frNo F1.o)
   have FT1 := hid (HFr.o.trans (F1.o.mono (M := fun k => bi ≤ k) (fun _ _ h => h.elim)) i3)
   clear y0 y1 y2
   have HINw := hid (HIN.o.fr F1.o (fun k hk => ⟨ltl hk (HLow.o _ HFr.o).size, fun x => x⟩))
   generalize wr.alloc (.cells #[.int .i64 gd.type.val, .bool gd.type.mut_, .slice An gd.init.length cn] 108) = W1 at *
   have hgW : wr.heap.size < W1.heap.size := G1.o.lt
   have hwW : w.heap.size ≤ W1.heap.size := (HLow.o _ FT1.o).size
   generalize wr.heap.size = g at *
   have HX : Hid (∀ Y, Fr (fun k => some k = v4.ownBlock) W1 Y → Y.cell? ⟨gx, 0, none⟩ = some (.pointer (some ⟨gs, 0, none⟩)) ∧ Y.cell? ⟨gs, 4, none⟩ = some v4 ∧ Y.cell? ⟨g, 0, none⟩ = some (.int .i64 gd.type.val) ∧ Y.cell? ⟨g, 1, none⟩ = some (.bool gd.type.mut_)) := fun Y q => by
    have hown : ∀ k, some k = v4.ownBlock → k ≠ g ∧ ∃ cs, Blk W1 k (kCz 4) cs := fun k hk => by
     obtain ⟨_, h2, cs, hb⟩ := HS1.o.ownTag (j := 4) (v := v4) rfl hk
     exact ⟨by have := HSG.o k (.inr (.inr (.inr (.inr (.inr ⟨v4, by simp, hk.symm⟩))))); omega, cs, hb⟩
    have b1 := HS1.o.hx.fr q (fun e => by obtain ⟨_, cs, hb⟩ := hown _ e; exact Blk.ne_ hb HS1.o.hx (kDj 4) rfl)
    have b2 := HS1.o.hs.fr q (fun e => by obtain ⟨_, cs, hb⟩ := hown _ e; exact Blk.ne_ hb HS1.o.hs (kCM 4) rfl)
    have b3 := G1.o.fr q (fun e => (hown _ e).1 rfl)
    exact ⟨b1.cell 0, b2.cell 4, b3.cell 0, b3.cell 1⟩
   refine rwO (fun Y => Y.cell? ⟨gx, 0, none⟩ = some (.pointer (some ⟨gs, 0, none⟩)) ∧ Y.cell? ⟨gs, 4, none⟩ = some v4 ∧ Y.cell? ⟨g, 0, none⟩ = some (.int .i64 gd.type.val) ∧ Y.cell? ⟨g, 1, none⟩ = some (.bool gd.type.mut_)) [11] (List.range 12) [7, 8, 11] (HX.o _ (Fr.refl _ _).drew) ?_
   refine rC ?_
   refine wpO_eff rfl rfl fun K hK => sz ?_
   refine hK _ _ (fun _ => HX.o _ ((Fr.refl _ _).drew.alloc _)) ?_
   clear hK K
   have HA := hid (HS1.o.frNo ((Fr.refl No W1).drew.alloc (.cells #[.int .i64 gd.type.val, .bool gd.type.mut_] 41)))
   have FA := hid ((Fr.refl No W1).drew.alloc (.cells #[.int .i64 gd.type.val, .bool gd.type.mut_] 41))
   have FX3 := hid ((Fr.refl (fun k => some k = v4.ownBlock) W1).drew.alloc (.cells #[.int .i64 gd.type.val, .bool gd.type.mut_] 41))
   have hrd := kEQ W1.drew [.int .i64 gd.type.val, .bool gd.type.mut_] 41
   refine wpO_eff rfl rfl (fun K hK => ?_)
   simp only [List.getElem_toArray, List.getElem_cons_succ, List.getElem_cons_zero]
   refine kBV (t := tGl) (P := prog) (base := bi) (S := Emp) (v := v4) (xs := ((m.globals.take k).foldl SpV.glob (SpV.s5 m)).globals) (ys := [gd.type]) (dss := [[.int .i64 gd.type.val, .bool gd.type.mut_]]) kJm rfl rfl rfl (HA.o.row 4 v4 rfl) (Css.one (kJn HQ.o)) hrd rfl (by have := HGL.o; omega) (by have := HGL.o; omega) (fun _ h => h.elim) HA.o.size ?_
   intro v' w4 hr4 fr4 ho4
   have HR4 := hid hr4
   have HF4 := hid fr4
   have HO4 := hid ho4
   obtain ⟨A4, c4, rfl, _, _, _⟩ := hr4.els (S' := fun _ => True) tvv tvv
   refine hK _ _ (fun _ => HX.o _ (FX3.o.trans HF4.o i3)) ?_
   clear hK K hr4 fr4 ho4 hrd
   simp only [Act.put, List.setIfInBounds_toArray, List.set_cons_zero, List.set_cons_succ]
   refine rC ?_
   have HB4 := hid (HA.o.hs.fr HF4.o (fun e => by obtain ⟨_, _, cs, hb⟩ := HA.o.ownTag (j := 4) (v := v4) rfl e; exact Blk.ne_ hb HA.o.hs (kCM 4) rfl))
   have z0 : w4.cell? ⟨gs, 4, none⟩ = some v4 := HB4.o.cell 4
   have z1 : w4.frozen? ⟨gs, 4, none⟩ = false := HB4.o.frozen 4
   refine wpO_eff rfl rfl fun K hK => sz ?_
   refine hK _ _ (fun h => by cases h) ?_
   clear hK K z0 z1
   refine wpO_nil ?_
   have HZ := hid (HA.o.app (j := 4) (v := v4) (x' := { (m.globals.take k).foldl SpV.glob (SpV.s5 m) with globals := ((m.globals.take k).foldl SpV.glob (SpV.s5 m)).globals ++ [gd.type] }) (u0 := v0) (u1 := v1) (u2 := v2) (u3 := v3) (u4 := .slice A4 (((m.globals.take k).foldl SpV.glob (SpV.s5 m)).globals ++ [gd.type]).length c4) (u5 := v5) om rfl HF4.o HR4.o HO4.o (fun i hi hne Y u h => by
    match i, hi with
    | 0, _ => exact h
    | 1, _ => exact h
    | 2, _ => exact h
    | 3, _ => exact h
    | 4, _ => exact absurd rfl hne
    | 5, _ => exact h) rfl rfl rfl rfl)
   have FZ := hid (((FT1.o.trans (FA.o.mono (M := fun k => bi ≤ k) (fun _ _ h => h.elim)) i3).trans HF4.o (fun i hi h => by have := (HA.o.ownTag (j := 4) (v := v4) rfl h).1; exact this)).setCell ⟨gs, 4, none⟩ (.slice A4 (((m.globals.take k).foldl SpV.glob (SpV.s5 m)).globals ++ [gd.type]).length c4) (fun _ => HA.o.ls))
   have GZ := hid (((G1.o.fr FA.o id).fr HF4.o (fun e => by
    obtain ⟨_, h2, cs, hb⟩ := HS1.o.ownTag (j := 4) (v := v4) rfl e
    have := HSG.o g (.inr (.inr (.inr (.inr (.inr ⟨v4, by simp, e.symm⟩)))))
    omega)).far (p := ⟨gs, 4, none⟩) (fun e => by have := HSG.o gs (.inr (.inl rfl)); simp only at e; omega) (.slice A4 (((m.globals.take k).foldl SpV.glob (SpV.s5 m)).globals ++ [gd.type]).length c4))
   simp only [List.length_append, List.length_map, List.length_take, List.length_cons, List.length_nil, Nat.zero_add, Nat.add_assoc] at HZ FZ GZ
   clear HX HS1 HA FA FX3 HR4 HF4 HO4 HB4 HS
   generalize w4.setCell ⟨gs, 4, none⟩ (.slice A4 (((m.globals.take k).foldl SpV.glob (SpV.s5 m)).globals.length + 1) c4) = w5 at *
   have y2 : w5.cell? ⟨g, 2, none⟩ = some (.slice An gd.init.length cn) := GZ.o.cell 2
   have HI5 : Hid (tIns.els w5 (· < w.heap.size) An gd.init) := HIN.o.keep (fun p hp => by
    have h1 := (HLow.o _ FZ.o).cell (p := p) hp id
    have h2 := (HLow.o _ HFr.o).cell (p := p) hp id
    rw [h1, h2])
   go_wp2_with fail
   have HB := hid (kGC bi w5 gx gs bi bd _ (· < w.heap.size) ni _ _ _ _ _ _ _ _ gd.init gd.init.length cn An HZ.o HI5.o (fun k hk => by omega) rfl HIL.o om)
   refine HB.o.mono ?_
   clear HB
   rintro e w6 ⟨rfl, hS6, hF6⟩
   have HS6 := hid (hS6.monoD (n' := (k + 1) * 140737488351232) (by have := HIL.o; omega))
   have HF6 := hid (FZ.o.trans hF6 (fun i hi h => by simp only [One] at h; have := HZ.o.ld; omega))
   clear hS6 hF6
   go_wp2
   go_roundw
   case rel => exact ⟨k + 1, by go_num, by omega, by rw [Hid, HTK.o]; exact ⟨HF6.o, _, _, _, _, _, _, _, HS6.o⟩⟩
   simp [intOf]; omega
 obtain rfl : ng = k := om
 have HO : Hid (OfSt W bi gx gs bi bd ni (100 * 140737488351232) (SpV.s6 m) wr) := by
  obtain ⟨h1, ST, v0, v1, v2, v3, v4, v5, h2⟩ := HOk.o
  rw [show m.globals.take ng = m.globals from List.take_of_length_le (by rw [eg.o]; exact nr)] at h2
  exact ⟨h1, _, _, _, _, _, _, _, h2.monoD om⟩
 clear HOk
 obtain ⟨x0, x1, x2, x3, x4, x5, x6, x7, x8, x9, x10, x11⟩ := HM.o _ HO.o.1
 go_wp2
 clear x0 x1 x2 x3 x4 x5 x6 x7 x8 x9 x10 x11
 go_loopw [124] (fun i wr => ∃ k : Nat, i = .int .i64 k ∧ k ≤ nel ∧ Hid (OfSt W bi gx gs bi bd ni (100 * 140737488351232 + k * (300 * 140737488351232)) ((m.elems.take k).foldl SpV.elem (SpV.s6 m)) wr)) (fun i _ => nel - (intOf i).toNat)
 case atStart => as_aux_lemma => exact ⟨0, rfl, by omega, by have := HO.o; simpa [Hid] using this⟩
 as_aux_lemma =>
 obtain ⟨k, rfl, hk, HOk⟩ := hrel
 clear HO
 rcases Nat.lt_or_ge k nel with hlt | hge
 · obtain ⟨hFr, ST, v0, v1, v2, v3, v4, v5, hS⟩ := HOk.o
   have hlt' : k < m.elems.length := by rw [eel.o]; exact hlt
   have hels := hi.o.elems.fr (HLow.o _ hFr) (fun k hk => ⟨hk, fun x => x⟩)
   obtain ⟨b, o, Ao, co, Aq, cq, rfl, hb, y0, y1, y2, y3, y4, _, _, _, _, _, q0, _, _, q3⟩ := kIs hels k hlt'
   have HFr := hid hFr
   have HS := hid hS
   have HTK := hid (kER (f := SpV.elem) (a := SpV.s6 m) hlt')
   have HQ := hid q0
   have HIN := hid q3
   have HIL := hid (hi.o.lit _ (List.getElem_mem hlt'))
   have HII := hid (hi.o.lii _ (List.getElem_mem hlt'))
   have HGL : Hid (((m.elems.take k).foldl SpV.elem (SpV.s6 m)).elems.length ≤ 1000 + k) := by
    have := kJi (SpV.s6 m) (m.elems.take k)
    have h2 : (SpV.s6 m).elems.length = 0 := kJa m
    rw [Hid]; simp only [List.length_take] at this; omega
   have hbw : b < wr.heap.size := ltl hb (HLow.o _ hFr).size
   have i0 := nki k
   have i1 : (k : Int) < nel := om
   have HSG : Hid (∀ k, kDU gx gs bi bd ST [v0, v1, v2, v3, v4, v5] k → k < wr.heap.size) := fun k hk => (HS.o.lt hk).2
   clear hFr hS q0 q3 hels
   generalize m.elems[k] = el at *
   go_wp2
   have F1 := hid ((Fr.refl No wr).alloc (.cells #[.int .i64 el.mode, .int .i64 el.table, .slice Ao el.off.length co, .int .i64 el.type, .slice Aq el.items.length cq] 112))
   have G1 := hid (Blk.new wr 112 #[.int .i64 el.mode, .int .i64 el.table, .slice Ao el.off.length co, .int .i64 el.type, .slice Aq el.items.length cq])
   have HS1 := hid (HS.o.frNo F1.o)
   have FT1 := hid (HFr.o.trans (F1.o.mono (M := fun k => bi ≤ k) (fun _ _ h => h.elim)) i3)
   clear y0 y1 y2 y3 y4
   generalize wr.alloc (.cells #[.int .i64 el.mode, .int .i64 el.table, .slice Ao el.off.length co, .int .i64 el.type, .slice Aq el.items.length cq] 112) = W1 at *
   have hgW : wr.heap.size < W1.heap.size := G1.o.lt
   have hwW : w.heap.size ≤ W1.heap.size := (HLow.o _ FT1.o).size
   generalize wr.heap.size = g at *
   have HX : Hid (∀ Y, Fr (fun k => some k = v5.ownBlock) W1 Y → Y.cell? ⟨gx, 0, none⟩ = some (.pointer (some ⟨gs, 0, none⟩)) ∧ Y.cell? ⟨gs, 5, none⟩ = some v5 ∧ Y.cell? ⟨g, 3, none⟩ = some (.int .i64 el.type)) := fun Y q => by
    have hown : ∀ k, some k = v5.ownBlock → k ≠ g ∧ ∃ cs, Blk W1 k (kCz 5) cs := fun k hk => by
     obtain ⟨_, h2, cs, hb⟩ := HS1.o.ownTag (j := 5) (v := v5) rfl hk
     exact ⟨by have := HSG.o k (.inr (.inr (.inr (.inr (.inr ⟨v5, by simp, hk.symm⟩))))); omega, cs, hb⟩
    have b1 := HS1.o.hx.fr q (fun e => by obtain ⟨_, cs, hb⟩ := hown _ e; exact Blk.ne_ hb HS1.o.hx (kDj 5) rfl)
    have b2 := HS1.o.hs.fr q (fun e => by obtain ⟨_, cs, hb⟩ := hown _ e; exact Blk.ne_ hb HS1.o.hs (kCM 5) rfl)
    have b3 := G1.o.fr q (fun e => (hown _ e).1 rfl)
    exact ⟨b1.cell 0, b2.cell 5, b3.cell 3⟩
   refine rwO (fun Y => Y.cell? ⟨gx, 0, none⟩ = some (.pointer (some ⟨gs, 0, none⟩)) ∧ Y.cell? ⟨gs, 5, none⟩ = some v5 ∧ Y.cell? ⟨g, 3, none⟩ = some (.int .i64 el.type)) [11] (List.range 12) [7, 8, 11] (HX.o _ (Fr.refl _ _).drew) ?_
   refine rC ?_
   refine wpO_eff rfl rfl fun K hK => sz ?_
   refine hK _ _ (fun _ => HX.o _ ((Fr.refl _ _).drew.alloc _)) ?_
   clear hK K
   have HA := hid (HS1.o.frNo ((Fr.refl No W1).drew.alloc (.cells #[.int .i64 el.type] 35)))
   have FA := hid ((Fr.refl No W1).drew.alloc (.cells #[.int .i64 el.type] 35))
   have FX3 := hid ((Fr.refl (fun k => some k = v5.ownBlock) W1).drew.alloc (.cells #[.int .i64 el.type] 35))
   have hrd := kEQ W1.drew [.int .i64 el.type] 35
   refine wpO_eff rfl rfl (fun K hK => ?_)
   simp only [List.getElem_toArray, List.getElem_cons_succ, List.getElem_cons_zero]
   refine kBV (t := tI) (P := prog) (base := bi) (S := Emp) (v := v5) (xs := ((m.elems.take k).foldl SpV.elem (SpV.s6 m)).elems) (ys := [el.type]) (dss := [[.int .i64 el.type]]) kIO rfl rfl rfl (HA.o.row 5 v5 rfl) (Css.one (kIJ HQ.o)) hrd rfl (by have := HGL.o; omega) (by have := HGL.o; omega) (fun _ h => h.elim) HA.o.size ?_
   intro v' w4 hr4 fr4 ho4
   have HR4 := hid hr4
   have HF4 := hid fr4
   have HO4 := hid ho4
   obtain ⟨A4, c4, rfl, _, _, _⟩ := hr4.els (S' := fun _ => True) tvv tvv
   refine hK _ _ (fun _ => HX.o _ (FX3.o.trans HF4.o i3)) ?_
   clear hK K hr4 fr4 ho4 hrd
   simp only [Act.put, List.setIfInBounds_toArray, List.set_cons_zero, List.set_cons_succ]
   refine rC ?_
   have HB4 := hid (HA.o.hs.fr HF4.o (fun e => by obtain ⟨_, _, cs, hb⟩ := HA.o.ownTag (j := 5) (v := v5) rfl e; exact Blk.ne_ hb HA.o.hs (kCM 5) rfl))
   have z0 : w4.cell? ⟨gs, 5, none⟩ = some v5 := HB4.o.cell 5
   have z1 : w4.frozen? ⟨gs, 5, none⟩ = false := HB4.o.frozen 5
   refine wpO_eff rfl rfl fun K hK => sz ?_
   refine hK _ _ (fun h => by cases h) ?_
   clear hK K z0 z1
   refine wpO_nil ?_
   have HZ := hid (HA.o.app (j := 5) (v := v5) (x' := { (m.elems.take k).foldl SpV.elem (SpV.s6 m) with elems := ((m.elems.take k).foldl SpV.elem (SpV.s6 m)).elems ++ [el.type] }) (u0 := v0) (u1 := v1) (u2 := v2) (u3 := v3) (u4 := v4) (u5 := .slice A4 (((m.elems.take k).foldl SpV.elem (SpV.s6 m)).elems ++ [el.type]).length c4) om rfl HF4.o HR4.o HO4.o (fun i hi hne Y u h => by
    match i, hi with
    | 0, _ => exact h
    | 1, _ => exact h
    | 2, _ => exact h
    | 3, _ => exact h
    | 4, _ => exact h
    | 5, _ => exact absurd rfl hne) rfl rfl rfl rfl)
   have FZ := hid (((FT1.o.trans (FA.o.mono (M := fun k => bi ≤ k) (fun _ _ h => h.elim)) i3).trans HF4.o (fun i hi h => by have := (HA.o.ownTag (j := 5) (v := v5) rfl h).1; exact this)).setCell ⟨gs, 5, none⟩ (.slice A4 (((m.elems.take k).foldl SpV.elem (SpV.s6 m)).elems ++ [el.type]).length c4) (fun _ => HA.o.ls))
   have GZ := hid (((G1.o.fr FA.o id).fr HF4.o (fun e => by
    obtain ⟨_, h2, cs, hb⟩ := HS1.o.ownTag (j := 5) (v := v5) rfl e
    have := HSG.o g (.inr (.inr (.inr (.inr (.inr ⟨v5, by simp, e.symm⟩)))))
    omega)).far (p := ⟨gs, 5, none⟩) (fun e => by have := HSG.o gs (.inr (.inl rfl)); simp only at e; omega) (.slice A4 (((m.elems.take k).foldl SpV.elem (SpV.s6 m)).elems ++ [el.type]).length c4))
   simp only [List.length_append, List.length_map, List.length_take, List.length_cons, List.length_nil, Nat.zero_add, Nat.add_assoc] at HZ FZ GZ
   clear HX HS1 HA FA FX3 HR4 HF4 HO4 HB4 HS
   have hinit : ∀ Y, Fr (fun k => bi ≤ k) W Y → tIns.slice.els Y (· < w.heap.size) Aq el.items := fun Y q => HIN.o.keep (fun p hp => by
    have h1 := (HLow.o _ q).cell (p := p) hp id
    have h2 := (HLow.o _ HFr.o).cell (p := p) hp id
    rw [h1, h2])
   have HIT := hid hinit
   clear hinit
   generalize w4.setCell ⟨gs, 5, none⟩ (.slice A4 (((m.elems.take k).foldl SpV.elem (SpV.s6 m)).elems.length + 1) c4) = w5 at *
   have y4 : w5.cell? ⟨g, 4, none⟩ = some (.slice Aq el.items.length cq) := GZ.o.cell 4
   have HO5 : Hid (OfSt W bi gx gs bi bd ni (100 * 140737488351232 + k * (300 * 140737488351232)) { (m.elems.take k).foldl SpV.elem (SpV.s6 m) with elems := ((m.elems.take k).foldl SpV.elem (SpV.s6 m)).elems ++ [el.type] } w5) := ⟨FZ.o, _, _, _, _, _, _, _, HZ.o⟩
   have hil : el.items.length ≤ 300 := HIL.o
   clear HZ FZ GZ HFr HIN
   go_wp2
   clear y4
   obtain ⟨wo, hwo⟩ : ∃ wo : World, wo = wr := ⟨_, rfl⟩
   clear hwo
   have hnI : Hid (∃ nI : Nat, el.items.length = nI) := ⟨_, rfl⟩
   generalize hII : el.items.length = nI at *
   have HEI := hid hII
   clear hII hnI
   go_loopw [142] (fun i wq => ∃ q : Nat, i = .int .i64 q ∧ q ≤ nI ∧ Hid (OfSt W bi gx gs bi bd ni ((100 * 140737488351232 + k * (300 * 140737488351232)) + q * 140737488351232) { (m.elems.take k).foldl SpV.elem (SpV.s6 m) with elems := ((m.elems.take k).foldl SpV.elem (SpV.s6 m)).elems ++ [el.type], dec := (el.items.take q).foldl kDi ((m.elems.take k).foldl SpV.elem (SpV.s6 m)).dec } wq)) (fun i _ => nI - (intOf i).toNat)
   case atStart => as_aux_lemma => exact ⟨0, rfl, by omega, by rw [Hid, Nat.zero_mul, Nat.add_zero, List.take_zero, List.foldl_nil]; exact HO5.o⟩
   as_aux_lemma =>
   obtain ⟨q, rfl, hq, HQk⟩ := hrel
   clear HO5
   rcases Nat.lt_or_ge q nI with hql | hqe
   · obtain ⟨hFr, ST, v0, v1, v2, v3, v4, v5, hS⟩ := HQk.o
     have hql' : q < el.items.length := by rw [HEI.o]; exact hql
     obtain ⟨bq, oq, Ax, cx, hAq, hbq, y0, hex⟩ := kJd (HIT.o _ hFr) q hql'
     subst hAq
     have HFr := hid hFr
     have HS := hid hS
     have HEX := hid hex
     have HTQ := hid (kER (f := kDi) (a := ((m.elems.take k).foldl SpV.elem (SpV.s6 m)).dec) hql')
     have HXL := hid (HII.o _ (List.getElem_mem hql'))
     have j0 := nki q
     have j1 : (q : Int) < nI := om
     clear hFr hS hex
     generalize el.items[q] = ix at *
     go_wp2_with fail
     have HB := hid (kGC bi _ gx gs bi bd _ (· < w.heap.size) ni _ _ _ _ _ _ _ _ ix ix.length cx Ax HS.o HEX.o (fun k hk => by omega) rfl HXL.o om)
     refine HB.o.mono ?_
     clear HB
     rintro e w6 ⟨rfl, hS6, hF6⟩
     have HS6 := hid (hS6.monoD (n' := (100 * 140737488351232 + k * (300 * 140737488351232)) + (q + 1) * 140737488351232) (by have := HXL.o; omega))
     have HF6 := hid (HFr.o.trans hF6 (fun i hi h => by simp only [One] at h; have := HS.o.ld; omega))
     clear hS6 hF6
     go_wp2
     go_roundw
     case rel => exact ⟨q + 1, by go_num, by omega, by rw [Hid, HTQ.o]; exact ⟨HF6.o, _, _, _, _, _, _, _, HS6.o⟩⟩
     simp [intOf]; omega
   have HOe : Hid (OfSt W bi gx gs bi bd ni (100 * 140737488351232 + (k + 1) * (300 * 140737488351232)) (((m.elems.take k).foldl SpV.elem (SpV.s6 m)).elem el) wr) := by as_aux_lemma =>
    obtain ⟨h1, ST, v0, v1, v2, v3, v4, v5, h2⟩ := HQk.o
    rw [show el.items.take q = el.items from List.take_of_length_le (by rw [HEI.o]; exact hqe)] at h2
    exact ⟨h1, _, _, _, _, _, _, _, h2.monoD om⟩
   go_wp2
   go_roundw
   case rel => exact ⟨k + 1, by go_num, by omega, by rw [Hid, HTK.o]; exact HOe.o⟩
   simp [intOf]; omega
 obtain rfl : nel = k := om
 have HO : Hid (OfSt W bi gx gs bi bd ni (4300000000000000000) (SpV.s7 m) wr) := by
  obtain ⟨h1, ST, v0, v1, v2, v3, v4, v5, h2⟩ := HOk.o
  rw [show m.elems.take nel = m.elems from List.take_of_length_le (by rw [eel.o]; exact nr)] at h2
  exact ⟨h1, _, _, _, _, _, _, _, h2.monoD om⟩
 clear HOk
 obtain ⟨x0, x1, x2, x3, x4, x5, x6, x7, x8, x9, x10, x11⟩ := HM.o _ HO.o.1
 go_wp2
 clear x0 x1 x2 x3 x4 x5 x6 x7 x8 x9 x10 x11
 go_loopw [154] (fun i wr => ∃ k : Nat, i = .int .i64 k ∧ k ≤ ne ∧ Hid (OfSt W bi gx gs bi bd ni (4300000000000000000 + k) ((m.exports.take k).foldl SpV.exp (SpV.s7 m)) wr)) (fun i _ => ne - (intOf i).toNat)
 case atStart => as_aux_lemma => exact ⟨0, rfl, by omega, by have := HO.o; simpa [Hid] using this⟩
 as_aux_lemma =>
 obtain ⟨k, rfl, hk, HOk⟩ := hrel
 clear HO
 rcases Nat.lt_or_ge k ne with hlt | hge
 · obtain ⟨hFr, ST, v0, v1, v2, v3, v4, v5, hS⟩ := HOk.o
   have hlt' : k < m.exports.length := by rw [ee.o]; exact hlt
   have hels := hi.o.exports.fr (HLow.o _ hFr) (fun k hk => ⟨hk, fun x => x⟩)
   obtain ⟨b, o, rfl, hb, y0, y1, y2, _, _, q2⟩ := kFX hels k hlt'
   have HFr := hid hFr
   have HS := hid hS
   have HTK := hid (kER (f := SpV.exp) (a := SpV.s7 m) hlt')
   have HWA := hid q2
   have hbw : b < wr.heap.size := ltl hb (HLow.o _ hFr).size
   have i0 := nki k
   have i1 : (k : Int) < ne := om
   clear hFr hS q2 hels
   generalize m.exports[k] = ex at *
   have F1 := hid ((Fr.refl No wr).alloc (.cells #[.string ex.name, .int .i64 ex.kind, .int .i64 ex.index] 110))
   have G1 := hid (Blk.new wr 110 #[.string ex.name, .int .i64 ex.kind, .int .i64 ex.index])
   cases hkd : (ex.kind == 0) with
   | false =>
    have HKD := hid hkd
    go_wp2
    go_roundw
    case rel => exact ⟨k + 1, by go_num, by omega, by
     have h0 : ¬ ex.kind = 0 := by have := HKD.o; simpa using this
     rw [Hid, HTK.o, SpV.exp, if_neg h0]
     exact ⟨HFr.o.trans (F1.o.mono (M := fun k => bi ≤ k) (fun _ _ h => h.elim)) i3, _, _, _, _, _, _, _, (HS.o.frNo F1.o).monoD om⟩⟩
    case measure => simp [intOf]; omega
   | true =>
    have HKD := hid hkd
    go_wp2
    have HA := hid (HS.o.frNo F1.o.drew)
    generalize wr.alloc (.cells #[.string ex.name, .int .i64 ex.kind, .int .i64 ex.index] 110) = W1 at *
    generalize wr.heap.size = g at *
    obtain ⟨w1, hrun, hm1, hf1⟩ := HA.o.md.put (v := true) underlying262 underlying3 underlying4 (by simp only [maxLen]; omega) HWA.o
    have HRUN := hid hrun
    have HP := hid (HA.o.putB hm1 hf1)
    have HF1 := hid hf1
    clear hrun hm1 hf1
    refine rwO (fun Y => Y.cell? ⟨gx, 0, none⟩ = some (.pointer (some ⟨gs, 0, none⟩)) ∧ Y.cell? ⟨gs, 8, none⟩ = some (.map (some bd)) ∧ Y.cell? ⟨g, 2, none⟩ = some (.int .i64 ex.index)) [6] (List.range 7) [6] ⟨HA.o.hx.cell 0, HA.o.hs.cell 8, G1.o.drew.cell 2⟩ ?_
    refine rC ?_
    refine wpO_eff rfl rfl (fun K hK => ?_)
    simp only [List.getElem_toArray, List.getElem_cons_succ, List.getElem_cons_zero]
    go_simp
    rw [HRUN.o]
    go_simp
    refine hK _ _ (fun h => by cases h) ?_
    clear hK K
    refine wpO_nil ?_
    go_wp2
    go_roundw
    case rel => exact ⟨k + 1, by go_num, by omega, by
     have h0 : ex.kind = 0 := by have := HKD.o; simpa using this
     rw [Hid, HTK.o, SpV.exp, if_pos h0]
     exact ⟨(HFr.o.trans (F1.o.drew.mono (M := fun k => bi ≤ k) (fun _ _ h => h.elim)) i3).trans HF1.o (fun i hi h => by simp only [One] at h; have := HA.o.ld; omega), _, _, _, _, _, _, _, HP.o⟩⟩
    case measure => simp [intOf]; omega
 obtain rfl : ne = k := om
 obtain ⟨hFr, ST, v0, v1, v2, v3, v4, v5, hS⟩ := HOk.o
 rw [show m.exports.take ne = m.exports from List.take_of_length_le (by rw [ee.o]; exact nr)] at hS
 have HFr := hid hFr
 have HS := hid hS
 have z0 : wr.cell? ⟨gx, 0, none⟩ = some (.pointer (some ⟨gs, 0, none⟩)) := HS.o.hx.cell 0
 clear hFr hS HOk
 go_wp2
 go_ret
 exact ⟨wr.heap.size, gx, gs, bi, bd, ni, _, ST, v0, v1, v2, v3, v4, v5, rfl, Blk.new wr 269 #[.pointer (some ⟨gs, 0, none⟩)], (HS.o.frNo ((Fr.refl No wr).alloc _)).base om, (HLow.o _ HFr.o).alloc _⟩
structure SpP (base : Nat) (X : World) (p gx gs bi bd : Nat) (ST : Nat → Prop) (nI nD : Nat) (v0 v1 v2 v3 v4 v5 : Value) (x : SpV) : Prop where
 hp : Blk X p 269 #[.pointer (some ⟨gs, 0, none⟩)]
 st : SpSt base X gx gs bi bd ST nI nD v0 v1 v2 v3 v4 v5 x
theorem SpP.frNo {base : Nat} {X X' : World} {p gx gs bi bd : Nat} {ST : Nat → Prop} {nI nD : Nat} {v0 v1 v2 v3 v4 v5 : Value} {x : SpV} (h : SpP base X p gx gs bi bd ST nI nD v0 v1 v2 v3 v4 v5 x) (f : Fr No X X') : SpP base X' p gx gs bi bd ST nI nD v0 v1 v2 v3 v4 v5 x := ⟨h.hp.fr f id, h.st.frNo f⟩
theorem kJN (p gs : Nat) (X : World) (h : Ce X p 0 (.pointer (some ⟨gs, 0, none⟩))) :
    Calls prog 116 #[.pointer (some ⟨p, 0, none⟩)] X fun e w' => e = .returned (.pointer (some ⟨gs, 0, none⟩)) ∧ X = w' := by
 go_enter func116, ntmps116
 go_wp2
 go_ret
 exact ⟨rfl, rfl⟩
section
variable {base : Nat} {X : World} {p gx gs bi bd : Nat} {ST : Nat → Prop} {nI nD : Nat} {v0 v1 v2 v3 v4 v5 : Value} {x : SpV}
theorem SpSt.form (h : SpSt base X gx gs bi bd ST nI nD v0 v1 v2 v3 v4 v5 x) : ∃ (A0 A1 A2 A3 A4 A5 : OA) (c0 c1 c2 c3 c4 c5 : Nat),
    v0 = .slice A0 x.types.length c0 ∧ v1 = .slice A1 x.funcs.length c1 ∧ v2 = .slice A2 x.tables.length c2 ∧ v3 = .slice A3 x.mems.length c3 ∧ v4 = .slice A4 x.globals.length c4 ∧ v5 = .slice A5 x.elems.length c5 ∧
    tFn.els X (· < X.heap.size) A0 x.types ∧ tI.els X (· < X.heap.size) A1 x.funcs ∧ tTb.els X (· < X.heap.size) A2 x.tables ∧ tLim.els X (· < X.heap.size) A3 x.mems ∧ tGl.els X (· < X.heap.size) A4 x.globals ∧ tI.els X (· < X.heap.size) A5 x.elems := by
 have hl : ∀ {j : Nat} {v : Value}, [v0, v1, v2, v3, v4, v5][j]? = some v → ∀ g, v.ownBlock = some g → g < X.heap.size := fun hv g hg => by
  obtain ⟨_, cs, hb⟩ := (h.row _ _ hv).own hg
  exact hb.lt
 obtain ⟨A0, c0, e0, _, _, k0⟩ := (h.row 0 v0 rfl : tFn.row X base ST _ v0 x.types).els (S' := (· < X.heap.size)) (fun k hk => by obtain ⟨_, ⟨cs, hb⟩, _⟩ := h.st k hk; exact hb.lt) (hl (j := 0) rfl)
 obtain ⟨A1, c1, e1, _, _, k1⟩ := (h.row 1 v1 rfl : tI.row X base Emp _ v1 x.funcs).els (S' := (· < X.heap.size)) (fun k hk => hk.elim) (hl (j := 1) rfl)
 obtain ⟨A2, c2, e2, _, _, k2⟩ := (h.row 2 v2 rfl : tTb.row X base Emp _ v2 x.tables).els (S' := (· < X.heap.size)) (fun k hk => hk.elim) (hl (j := 2) rfl)
 obtain ⟨A3, c3, e3, _, _, k3⟩ := (h.row 3 v3 rfl : tLim.row X base Emp _ v3 x.mems).els (S' := (· < X.heap.size)) (fun k hk => hk.elim) (hl (j := 3) rfl)
 obtain ⟨A4, c4, e4, _, _, k4⟩ := (h.row 4 v4 rfl : tGl.row X base Emp _ v4 x.globals).els (S' := (· < X.heap.size)) (fun k hk => hk.elim) (hl (j := 4) rfl)
 obtain ⟨A5, c5, e5, _, _, k5⟩ := (h.row 5 v5 rfl : tI.row X base Emp _ v5 x.elems).els (S' := (· < X.heap.size)) (fun k hk => hk.elim) (hl (j := 5) rfl)
 exact ⟨A0, A1, A2, A3, A4, A5, c0, c1, c2, c3, c4, c5, e0, e1, e2, e3, e4, e5, k0, k1, k2, k3, k4, k5⟩
end
def zFn : Fn := ⟨[], []⟩
def AtFn (f : Fn) (ok : Bool) (S : Nat → Prop) (X : World) (e : Ending) (w' : World) : Prop :=
 ∃ (A1 : OA) (c1 : Nat) (A2 : OA) (c2 : Nat), e = .returned (.tuple #[.agg #[.slice A1 f.params.length c1, .slice A2 f.results.length c2], .bool ok]) ∧ tI.els w' S A1 f.params ∧ tI.els w' S A2 f.results ∧ Fr No X w'
theorem kJk (A : OA) (l : List Fn) (c : Nat) (i : Int) (S : Nat → Prop) (X : World) (hS : Lt S X) (h : tFn.els X S A l) (hl : l.length ≤ 1000000) :
    Calls prog 115 #[.slice A l.length c, .int .i64 i] X (AtFn (atD zFn l i).1 (atD zFn l i).2 S X) := by
 rcases kBC l i with ⟨k, hk, rfl⟩ | hi | ⟨hi0, hi⟩
 · obtain ⟨b, o, A1, c1, A2, c2, rfl, hb, y0, y1, _, _, e1, _, _, e2⟩ := kIq h k hk
   have hbx := hS b hb
   rw [kCQ hk]
   have i0 := nki k
   have i1 : (k : Int) < l.length := om
   have HS := hid hS
   have E1 := hid e1
   have E2 := hid e2
   generalize l[k] = y at *
   clear h hS e1 e2
   go_enter func115, ntmps115
   go_wp2
   refine bodyPost_ret (v := .tuple #[.agg #[.slice A1 y.params.length c1, .slice A2 y.results.length c2], .bool true]) (by simp [results, Tryz.results115, go_sem]) rfl ⟨A1, c1, A2, c2, rfl, ?_, ?_, (Fr.refl No X).alloc _⟩
   · exact E1.o.fr ((Fr.refl No X).alloc _) (fun k hk => ⟨HS.o k hk, fun x => x⟩)
   exact E2.o.fr ((Fr.refl No X).alloc _) (fun k hk => ⟨HS.o k hk, fun x => x⟩)
 · rw [kBI (.inl hi)]
   clear h hS
   exact yy29
 rw [kBI (.inr hi)]
 clear h hS
 exact yy29
def TyTo (f : Fn) (ok : Bool) (X : World) (e : Ending) (w' : World) : Prop :=
 ∃ (A1 : OA) (c1 : Nat) (A2 : OA) (c2 : Nat), e = .returned (.tuple #[.agg #[.slice A1 f.params.length c1, .slice A2 f.results.length c2], .bool ok]) ∧ FnNew w' X.heap.size A1 c1 A2 c2 f ∧ Fr No X w'
theorem FnNew.base {w : World} {b b' : Nat} {A1 A2 : OA} {c1 c2 : Nat} {f : Fn} (h : FnNew w b A1 c1 A2 c2 f) (hb : b' ≤ b) : FnNew w b' A1 c1 A2 c2 f := ⟨h.p.more hb i2, h.r.more hb i2, h.ne⟩
theorem FnNew.fr' {w w' : World} {M : Nat → Prop} {base : Nat} {A1 A2 : OA} {c1 c2 : Nat} {f : Fn} (h : FnNew w base A1 c1 A2 c2 f) (g : Fr M w w') (hM : ∀ k, base ≤ k → ¬ M k) : FnNew w' base A1 c1 A2 c2 f :=
 ⟨h.p.fr g (fun _ h => h.elim) (fun k hk => hM k (h.p.own hk).1), h.r.fr g (fun _ h => h.elim) (fun k hk => hM k (h.r.own hk).1), h.ne⟩
theorem kJR (base : Nat) (X : World) (p gx gs bi bd : Nat) (ST : Nat → Prop) (nI nD : Nat) (v0 v1 v2 v3 v4 v5 : Value) (x : SpV) (i : Int) (hl : x.types.length ≤ 1000000) (hlp : ∀ f ∈ x.types, f.params.length * 8 ≤ 140737488351232 ∧ f.results.length * 8 ≤ 140737488351232) (h : SpP base X p gx gs bi bd ST nI nD v0 v1 v2 v3 v4 v5 x) :
    Calls prog 72 #[.pointer (some ⟨p, 0, none⟩), .int .i64 i] X (TyTo (atD zFn x.types i).1 (atD zFn x.types i).2 X) := by
 have F0 := hid ((Fr.refl No X).alloc (.cells #[.slice none 0 0, .slice none 0 0] 78))
 have H1 := h.frNo F0.o
 have HW := hid (kJN p gs _ (H1.hp.cell 0))
 have hj := H1.st.hs.cell 0
 obtain ⟨A0, A1, A2, A3, A4, A5, c0, c1, c2, c3, c4, c5, rfl, rfl, rfl, rfl, rfl, rfl, k0, k1, k2, k3, k4, k5⟩ := H1.st.form
 have HA := hid (kJk A0 x.types c0 i _ _ i2 k0 hl)
 have G0 := hid (Blk.new X 78 #[.slice none 0 0, .slice none 0 0])
 have HLP : Hid ((atD zFn x.types i).1.params.length * 8 ≤ 140737488351232 ∧ (atD zFn x.types i).1.results.length * 8 ≤ 140737488351232) := by
  rcases kBC x.types i with ⟨k, hk, rfl⟩ | hi | ⟨_, hi⟩
  · rw [kCQ hk]; exact hlp _ (List.getElem_mem hk)
  · rw [kBI (.inl hi)]; exact ⟨by decide, by decide⟩
  rw [kBI (.inr hi)]; exact ⟨by decide, by decide⟩
 clear h H1 k0 k1 k2 k3 k4 k5 hlp
 generalize atD zFn x.types i = q at *
 obtain ⟨y, ok⟩ := q
 go_enter func72, ntmps72
 go_wp2_with fail
 generalize X.alloc (.cells #[.slice none 0 0, .slice none 0 0] 78) = X1 at *
 have hX1 : X.heap.size < X1.heap.size := G0.o.lt
 refine HW.o.mono ?_
 rintro e w' ⟨rfl, rfl⟩
 go_wp2_with fail
 refine HA.o.mono ?_
 rintro e w2 ⟨B1, d1, B2, d2, rfl, e1, e2, f2⟩
 have hs2 : X.heap.size < w2.heap.size := ltl hX1 f2.size
 have F2 := hid (f2.alloc (.cells #[.slice B1 y.params.length d1, .slice B2 y.results.length d2] 78))
 have HC := hid (kGt y B1 B2 d1 d2 (· < X1.heap.size) (w2.alloc (.cells #[.slice B1 y.params.length d1, .slice B2 y.results.length d2] 78)) (fun k hk => ltl hk F2.o.size)
  (e1.fr ((Fr.refl No w2).alloc _) (fun k hk => ⟨ltl hk f2.size, fun x => x⟩)) (e2.fr ((Fr.refl No w2).alloc _) (fun k hk => ⟨ltl hk f2.size, fun x => x⟩)) (by have := HLP.o; omega) (by have := HLP.o; omega) (by have := HLP.o; omega) (by have := HLP.o; omega))
 clear e1 e2 f2 HW HA
 go_wp2_with fail
 refine HC.o.mono ?_
 clear HC
 rintro e w3 ⟨D1, g1, D2, g2, rfl, hnew, f3⟩
 have F3 := ftr F2 f3
 have G3 := hid (G0.o.fr F3.o id)
 have hb3 : X1.heap.size ≤ (w2.alloc (.cells #[.slice B1 y.params.length d1, .slice B2 y.results.length d2] 78)).heap.size := F2.o.size
 have HN := hid (hnew.base hb3)
 have z0 : w3.cell? ⟨X.heap.size, 0, none⟩ = some (.slice none 0 0) := G3.o.cell 0
 have z1 : w3.cell? ⟨X.heap.size, 1, none⟩ = some (.slice none 0 0) := G3.o.cell 1
 have q0 : w3.frozen? ⟨X.heap.size, 0, none⟩ = false := G3.o.frozen 0
 have q1 : w3.frozen? ⟨X.heap.size, 1, none⟩ = false := G3.o.frozen 1
 clear hnew f3 hb3
 go_wp2
 have FZ := ((Fr.refl (One X.heap.size) w3).setCell ⟨X.heap.size, 0, none⟩ (.slice D1 y.params.length g1) (fun _ => rfl)).setCell ⟨X.heap.size, 1, none⟩ (.slice D2 y.results.length g2) (fun _ => rfl)
 refine bodyPost_ret (v := .tuple #[.agg #[.slice D1 y.params.length g1, .slice D2 y.results.length g2], .bool ok]) (by simp [results, Tryz.results72, go_sem, z0, z1]) rfl ⟨D1, g1, D2, g2, rfl, ?_, ?_⟩
 · exact (HN.o.fr' FZ (fun k hk h => by simp only [One] at h; omega)).base om
 exact (F0.o.trans F3.o i3).trans FZ (fun i hi h => by simp only [One] at h; omega)
end Go.Proofs.YthggdemiddjlgaaGreat
