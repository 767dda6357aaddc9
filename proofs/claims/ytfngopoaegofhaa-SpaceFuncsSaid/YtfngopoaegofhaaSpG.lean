/- The walk of Of. -/
import Derived.Test.YtfngopoaegofhaaSpF
namespace Go.Proofs.Ytfngopoaegofhaa
open Go.RowKit

theorem FnNew.fr {w w' : World} {base : Nat} {A1 A2 : Option Addr} {c1 c2 : Nat} {f : Fn} (h : FnNew w base A1 c1 A2 c2 f) (g : Fr No w w') : FnNew w' base A1 c1 A2 c2 f :=
  ⟨h.p.fr g (fun _ h => h.elim) (fun _ _ h => h), h.r.fr g (fun _ h => h.elim) (fun _ _ h => h), h.ne⟩
structure MdIn (w : World) (m : Md) (At Ai Af Ata Am Ag Ae Ael : Option Addr) : Prop where
  types : tFn.els w (· < w.heap.size) At m.types
  imports : tIm.els w (· < w.heap.size) Ai m.imports
  funcs : tCd.els w (· < w.heap.size) Af m.funcs
  tables : tTb.els w (· < w.heap.size) Ata m.tables
  mems : tLim.els w (· < w.heap.size) Am m.mems
  globals : tGd.els w (· < w.heap.size) Ag m.globals
  exports : tEx.els w (· < w.heap.size) Ae m.exports
  elems : tEl.els w (· < w.heap.size) Ael m.elems
  lt : m.types.length ≤ 100
  li : m.imports.length ≤ 101
  lf : m.funcs.length ≤ 100
  lta : m.tables.length ≤ 50
  lm : m.mems.length ≤ 50
  lg : m.globals.length ≤ 100
  le : m.exports.length ≤ 200
  lel : m.elems.length ≤ 50
  lit : ∀ e ∈ m.elems, e.items.length ≤ 500
  lp : ∀ f ∈ m.types, f.params.length * 8 ≤ 140737488351232 ∧ f.results.length * 8 ≤ 140737488351232
  lgi : ∀ g ∈ m.globals, g.init.length ≤ 140737488351232
  lii : ∀ e ∈ m.elems, ∀ l ∈ e.items, l.length ≤ 140737488351232

def OfTo (m : Md) (w : World) (e : Ending) (w' : World) : Prop :=
  ∃ (p gx gs bi bd nI nD : Nat) (ST : Nat → Prop) (v0 v1 v2 v3 v4 v5 : Value), e = .returned (.pointer (some ⟨p, 0, none⟩)) ∧ Blk w' p 71 #[.pointer (some ⟨gs, 0, none⟩)] ∧ SpSt w.heap.size w' gx gs bi bd ST nI nD v0 v1 v2 v3 v4 v5 (SpV.of m) ∧ Fr No w w'

theorem of_start (W : World) (s nd : Nat) (hs : W.heap.size = s) : SpSt s ((((W.alloc (.map #[] 0)).alloc (.map #[] 0)).alloc (.cells #[.slice none 0 0, .slice none 0 0, .slice none 0 0, .slice none 0 0, .slice none 0 0, .slice none 0 0, .int .i64 nd, .map (some s), .map (some (s + 1))] 95)).alloc (.cells #[.pointer (some ⟨s + 1 + 1, 0, none⟩)] 69)) (s + 1 + 1 + 1) (s + 1 + 1) s (s + 1) Emp 0 0 (.slice none 0 0) (.slice none 0 0) (.slice none 0 0) (.slice none 0 0) (.slice none 0 0) (.slice none 0 0) (SpV.zero nd) := by
  subst hs
  have e1 : (W.alloc (.map #[] 0)).heap.size = W.heap.size + 1 := by simp
  have e2 : ((W.alloc (.map #[] 0)).alloc (.map #[] 0)).heap.size = W.heap.size + 1 + 1 := by simp
  have e3 : (((W.alloc (.map #[] 0)).alloc (.map #[] 0)).alloc (.cells #[.slice none 0 0, .slice none 0 0, .slice none 0 0, .slice none 0 0, .slice none 0 0, .slice none 0 0, .int .i64 nd, .map (some W.heap.size), .map (some (W.heap.size + 1))] 95)).heap.size = W.heap.size + 1 + 1 + 1 := by simp
  refine ⟨?_, ?_, ?_, ?_, ?_, by omega, by omega, by omega, by omega, by omega, fun _ h => h.elim⟩
  · have := Blk.new (((W.alloc (.map #[] 0)).alloc (.map #[] 0)).alloc (.cells #[.slice none 0 0, .slice none 0 0, .slice none 0 0, .slice none 0 0, .slice none 0 0, .slice none 0 0, .int .i64 nd, .map (some W.heap.size), .map (some (W.heap.size + 1))] 95)) 69 #[.pointer (some ⟨W.heap.size + 1 + 1, 0, none⟩)]
    rw [e3] at this
    exact this
  · have := (Blk.new ((W.alloc (.map #[] 0)).alloc (.map #[] 0)) 95 #[.slice none 0 0, .slice none 0 0, .slice none 0 0, .slice none 0 0, .slice none 0 0, .slice none 0 0, .int .i64 nd, .map (some W.heap.size), .map (some (W.heap.size + 1))]).alloc (.cells #[.pointer (some ⟨W.heap.size + 1 + 1, 0, none⟩)] 69)
    rw [e2] at this
    exact this
  · intro j v hv
    have hj : j < 6 := by have := (List.getElem?_eq_some_iff.1 hv).1; simpa using this
    match j, hj with
    | 0, _ => injection hv with hv; subst hv; exact Ty.row.nil _ _ _ _
    | 1, _ => injection hv with hv; subst hv; exact Ty.row.nil _ _ _ _
    | 2, _ => injection hv with hv; subst hv; exact Ty.row.nil _ _ _ _
    | 3, _ => injection hv with hv; subst hv; exact Ty.row.nil _ _ _ _
    | 4, _ => injection hv with hv; subst hv; exact Ty.row.nil _ _ _ _
    | 5, _ => injection hv with hv; subst hv; exact Ty.row.nil _ _ _ _
  · exact (MapI.made W).fr ((((Fr.refl No _).alloc _).alloc _).alloc _) (fun x => x)
  · have := MapB.made (P := Try.prog) (k := 3) (e := 4) (W.alloc (.map #[] 0))
    rw [e1] at this
    exact this.fr (((Fr.refl No _).alloc _).alloc _) (fun x => x)

set_option maxHeartbeats 12800000 in
set_option maxRecDepth 100000 in
theorem of_any (w : World) (m : Md) (nt ni nf nta nm ng ne nel nd nc : Nat) (At Ai Af Ata Am Ag Ae Ael Ad Ac : Option Addr) (ct ci cf cta cm cg ce cel cd cc : Nat) (hi : Hid (MdIn w m At Ai Af Ata Am Ag Ae Ael))
    (et : Hid (m.types.length = nt)) (ei : Hid (m.imports.length = ni)) (ef : Hid (m.funcs.length = nf)) (eta_ : Hid (m.tables.length = nta)) (em : Hid (m.mems.length = nm)) (eg : Hid (m.globals.length = ng)) (ee : Hid (m.exports.length = ne)) (eel : Hid (m.elems.length = nel)) (ed : Hid (m.datas = nd))
    (lt : nt ≤ 100) (li : ni ≤ 101) (lf : nf ≤ 100) (lta : nta ≤ 50) (lm : nm ≤ 50) (lg : ng ≤ 100) (le : ne ≤ 200) (lel : nel ≤ 50) (ld : nd ≤ 50) :
    Calls Try.prog 11 #[.agg #[.slice At nt ct, .slice Ai ni ci, .slice Af nf cf, .slice Ata nta cta, .slice Am nm cm, .slice Ag ng cg, .slice Ae ne ce, .bool m.hasStart, .int .i64 m.start, .slice Ael nel cel, .slice Ad nd cd, .slice Ac nc cc]] w (OfTo m w) := by
  have hmm := @run_makeMap Try.prog
  have GM := hid (Blk.new w 33 #[.slice At nt ct, .slice Ai ni ci, .slice Af nf cf, .slice Ata nta cta, .slice Am nm cm, .slice Ag ng cg, .slice Ae ne ce, .bool m.hasStart, .int .i64 m.start, .slice Ael nel cel, .slice Ad nd cd, .slice Ac nc cc])
  have FM := hid ((Fr.refl No w).alloc (.cells #[.slice At nt ct, .slice Ai ni ci, .slice Af nf cf, .slice Ata nta cta, .slice Am nm cm, .slice Ag ng cg, .slice Ae ne ce, .bool m.hasStart, .int .i64 m.start, .slice Ael nel cel, .slice Ad nd cd, .slice Ac nc cc] 33))
  have HSP := hid (of_start (w.alloc (.cells #[.slice At nt ct, .slice Ai ni ci, .slice Af nf cf, .slice Ata nta cta, .slice Am nm cm, .slice Ag ng cg, .slice Ae ne ce, .bool m.hasStart, .int .i64 m.start, .slice Ael nel cel, .slice Ad nd cd, .slice Ac nc cc] 33)) (w.heap.size + 1) nd (by simp))
  have HFX := hid (((((Fr.refl No (w.alloc (.cells #[.slice At nt ct, .slice Ai ni ci, .slice Af nf cf, .slice Ata nta cta, .slice Am nm cm, .slice Ag ng cg, .slice Ae ne ce, .bool m.hasStart, .int .i64 m.start, .slice Ael nel cel, .slice Ad nd cd, .slice Ac nc cc] 33))).alloc (.map #[] 0)).alloc (.map #[] 0)).alloc (.cells #[.slice none 0 0, .slice none 0 0, .slice none 0 0, .slice none 0 0, .slice none 0 0, .slice none 0 0, .int .i64 nd, .map (some (w.heap.size + 1)), .map (some (w.heap.size + 1 + 1))] 95)).alloc (.cells #[.pointer (some ⟨w.heap.size + 1 + 1 + 1, 0, none⟩)] 69))
  go_enter Try.func11, Try.ntmps11
  go_wp2
  clear hmm
  generalize ((((w.alloc (.cells #[.slice At nt ct, .slice Ai ni ci, .slice Af nf cf, .slice Ata nta cta, .slice Am nm cm, .slice Ag ng cg, .slice Ae ne ce, .bool m.hasStart, .int .i64 m.start, .slice Ael nel cel, .slice Ad nd cd, .slice Ac nc cc] 33)).alloc (.map #[] 0)).alloc (.map #[] 0)).alloc (.cells #[.slice none 0 0, .slice none 0 0, .slice none 0 0, .slice none 0 0, .slice none 0 0, .slice none 0 0, .int .i64 nd, .map (some (w.heap.size + 1)), .map (some (w.heap.size + 1 + 1))] 95)).alloc (.cells #[.pointer (some ⟨w.heap.size + 1 + 1 + 1, 0, none⟩)] 69) = X0 at *
  generalize w.alloc (.cells #[.slice At nt ct, .slice Ai ni ci, .slice Af nf cf, .slice Ata nta cta, .slice Am nm cm, .slice Ag ng cg, .slice Ae ne ce, .bool m.hasStart, .int .i64 m.start, .slice Ael nel cel, .slice Ad nd cd, .slice Ac nc cc] 33) = W at *
  have hlo : w.heap.size < w.heap.size + 1 := by omega
  have hWs : w.heap.size + 1 ≤ W.heap.size := GM.out.lt
  generalize w.heap.size + 1 + 1 + 1 + 1 = gx at *
  generalize w.heap.size + 1 + 1 + 1 = gs at *
  generalize w.heap.size + 1 + 1 = bd at *
  generalize w.heap.size + 1 = bi at *
  have HM : Hid (∀ Y, Fr (fun k => bi ≤ k) W Y → Y.cell? ⟨w.heap.size, 0, none⟩ = some (.slice At nt ct) ∧ Y.cell? ⟨w.heap.size, 1, none⟩ = some (.slice Ai ni ci) ∧ Y.cell? ⟨w.heap.size, 2, none⟩ = some (.slice Af nf cf) ∧ Y.cell? ⟨w.heap.size, 3, none⟩ = some (.slice Ata nta cta) ∧ Y.cell? ⟨w.heap.size, 4, none⟩ = some (.slice Am nm cm) ∧ Y.cell? ⟨w.heap.size, 5, none⟩ = some (.slice Ag ng cg) ∧ Y.cell? ⟨w.heap.size, 6, none⟩ = some (.slice Ae ne ce) ∧ Y.cell? ⟨w.heap.size, 7, none⟩ = some (.bool m.hasStart) ∧ Y.cell? ⟨w.heap.size, 8, none⟩ = some (.int .i64 m.start) ∧ Y.cell? ⟨w.heap.size, 9, none⟩ = some (.slice Ael nel cel) ∧ Y.cell? ⟨w.heap.size, 10, none⟩ = some (.slice Ad nd cd) ∧ Y.cell? ⟨w.heap.size, 11, none⟩ = some (.slice Ac nc cc)) := fun Y f => by
    have h := GM.out.fr f (by omega)
    exact ⟨h.cell 0, h.cell 1, h.cell 2, h.cell 3, h.cell 4, h.cell 5, h.cell 6, h.cell 7, h.cell 8, h.cell 9, h.cell 10, h.cell 11⟩
  have HLow : Hid (∀ Y, Fr (fun k => bi ≤ k) W Y → Fr No w Y) := fun Y f => FM.out.trans f (fun i hi h => by omega)
  have HO : Hid (OfSt W bi gx gs bi bd 0 0 (SpV.zero nd) X0) := ⟨HFX.out.mono (fun _ _ h => h.elim), _, _, _, _, _, _, _, HSP.out⟩
  clear HSP HFX
  go_loopw [30] (fun i wr => ∃ k : Nat, i = .int .i64 k ∧ k ≤ nt ∧ Hid (OfSt W bi gx gs bi bd 0 0 ({ SpV.zero nd with types := m.types.take k }) wr)) (fun i _ => nt - (intOf i).toNat)
  case atStart => as_aux_lemma => exact ⟨0, rfl, by omega, HO.out⟩
  case round => as_aux_lemma =>
    obtain ⟨k, rfl, hk, HOk⟩ := hrel
    clear HO
    rcases Nat.lt_or_ge k nt with hlt | hge
    · obtain ⟨hFr, ST, v0, v1, v2, v3, v4, v5, hS⟩ := HOk.out
      have hlt' : k < m.types.length := by rw [et.out]; exact hlt
      obtain ⟨b, o, Ap, cp, Ar, cr, rfl, hb, y0, y1, _, _, ep, _, _, er⟩ := Fn_at (hi.out.types.fr (HLow.out _ hFr) (fun k hk => ⟨hk, fun x => x⟩)) k hlt'
      have HFr := hid hFr
      have HS := hid hS
      have HLP := hid (hi.out.lp _ (List.getElem_mem hlt'))
      have HTK := hid (List.take_succ_eq_append_getElem hlt')
      have HEP := hid ep
      have HER := hid er
      have hbw : b < wr.heap.size := Nat.lt_of_lt_of_le hb (HLow.out _ hFr).size
      have i0 : (0 : Int) ≤ k := by omega
      have i1 : (k : Int) < nt := by omega
      have hbs := HS.out.size
      clear hFr hS ep er
      generalize m.types[k] = f at *
      have HSG : Hid (∀ k, Rests gx gs bi bd ST [v0, v1, v2, v3, v4, v5] k → k < wr.heap.size) := fun k hk => (HS.out.lt hk).2
      have F1 := hid ((Fr.refl No wr).alloc (.cells #[.slice Ap f.params.length cp, .slice Ar f.results.length cr] 38))
      have G1 := hid (Blk.new wr 38 #[.slice Ap f.params.length cp, .slice Ar f.results.length cr])
      go_wp2
      generalize wr.alloc (.cells #[.slice Ap f.params.length cp, .slice Ar f.results.length cr] 38) = W1 at *
      have hgW : wr.heap.size < W1.heap.size := G1.out.lt
      generalize wr.heap.size = g at *
      have HS1 := hid (HS.out.frNo F1.out)
      have HX : Hid (∀ Y, Fr (fun k => some k = v0.ownBlock) W1 Y → Y.cell? ⟨gx, 0, none⟩ = some (.pointer (some ⟨gs, 0, none⟩)) ∧ Y.cell? ⟨gs, 0, none⟩ = some v0 ∧ Y.cell? ⟨g, 0, none⟩ = some (.slice Ap f.params.length cp) ∧ Y.cell? ⟨g, 1, none⟩ = some (.slice Ar f.results.length cr)) := fun Y q => by
        have hown : ∀ k, some k = v0.ownBlock → k ≠ g ∧ ∃ cs, Blk W1 k (tagAt 0) cs := fun k hk => by
          obtain ⟨_, h2, cs, hb⟩ := HS.out.ownTag (j := 0) (v := v0) rfl hk
          exact ⟨by have := HSG.out k (.inr (.inr (.inr (.inr (.inr ⟨v0, by simp, hk.symm⟩))))); omega, cs, hb.fr F1.out (fun x => x)⟩
        have b1 := HS1.out.hx.fr q (fun e => by obtain ⟨_, cs, hb⟩ := hown _ e; exact Blk.ne_ hb HS1.out.hx (tag_gx 0) rfl)
        have b2 := HS1.out.hs.fr q (fun e => by obtain ⟨_, cs, hb⟩ := hown _ e; exact Blk.ne_ hb HS1.out.hs (tag_gs 0) rfl)
        have b3 := G1.out.fr q (fun e => (hown _ e).1 rfl)
        exact ⟨b1.cell 0, b2.cell 0, b3.cell 0, b3.cell 1⟩
      refine wp_region_ord (fun Y => Y.cell? ⟨gx, 0, none⟩ = some (.pointer (some ⟨gs, 0, none⟩)) ∧ Y.cell? ⟨gs, 0, none⟩ = some v0 ∧ Y.cell? ⟨g, 0, none⟩ = some (.slice Ap f.params.length cp) ∧ Y.cell? ⟨g, 1, none⟩ = some (.slice Ar f.results.length cr)) [11] [(0, true), (1, true), (2, true), (3, true), (4, true), (5, true), (6, false), (7, false), (8, false), (9, true), (10, true), (11, false)] (by kernel_rfl) (by kernel_rfl) (by kernel_rfl) rfl (HX.out _ (Fr.refl _ _).drew) ?_
      repeat (first
        | (refine wpO_skip rfl rfl ?_; simp only [List.getElem_toArray, List.getElem_cons_succ, List.getElem_cons_zero, Act.put, List.setIfInBounds_toArray, List.set_cons_zero, List.set_cons_succ])
        | (refine wpO_call rfl rfl ?_; simp only [List.getElem_toArray, List.getElem_cons_succ, List.getElem_cons_zero]; apply Exists.intro; refine ⟨fun X hX => ?_, ?_⟩
           · (have s0 := hX.1; have s1 := hX.2.1; have s2 := hX.2.2.1; have s3 := hX.2.2.2; go_simp; exact stillUpon_value)
           simp only [Act.put, List.setIfInBounds_toArray, List.set_cons_zero, List.set_cons_succ]))
      refine wpO_eff rfl rfl (fun K hK => ?_)
      simp only [List.getElem_toArray, List.getElem_cons_succ, List.getElem_cons_zero]
      go_simp
      have FT := hid ((HLow.out _ HFr.out).trans F1.out.drew (fun _ _ h => h))
      refine (copied_any f Ap Ar cp cr (· < w.heap.size) W1.drew (fun k hk => Nat.lt_of_lt_of_le hk FT.out.size) (HEP.out.fr F1.out.drew (fun k hk => ⟨Nat.lt_of_lt_of_le hk (HLow.out _ HFr.out).size, fun x => x⟩)) (HER.out.fr F1.out.drew (fun k hk => ⟨Nat.lt_of_lt_of_le hk (HLow.out _ HFr.out).size, fun x => x⟩)) (by have := HLP.out; omega) (by have := HLP.out; omega) (by have := HLP.out; omega) (by have := HLP.out; omega)).mono ?_
      rintro e w2 ⟨B1, d1, B2, d2, rfl, hnew, f2⟩
      have F2 := hid ((Fr.refl No W1).drew.trans f2 (fun _ _ h => h))
      have HN := hid hnew
      refine hK _ _ (fun _ => HX.out _ (F2.out.mono (fun _ _ h => h.elim))) ?_
      clear hK K
      clear hnew f2
      refine wpO_eff rfl rfl (fun K hK => ?_)
      simp only [List.getElem_toArray, List.getElem_cons_succ, List.getElem_cons_zero]
      go_simp
      refine hK _ _ (fun _ => HX.out _ ((F2.out.mono (fun _ _ h => h.elim)).alloc _)) ?_
      clear hK K
      have HN3 := hid (HN.out.fr ((Fr.refl No w2).alloc (.cells #[.slice B1 f.params.length d1, .slice B2 f.results.length d2] 38)))
      have HA0 := hid (HS1.out.frNo (F2.out.alloc (.cells #[.slice B1 f.params.length d1, .slice B2 f.results.length d2] 38)))
      have hrd := rd_lit w2 [.slice B1 f.params.length d1, .slice B2 f.results.length d2] 38
      have FT3 := hid ((HFr.out.trans (F1.out.mono (M := fun k => bi ≤ k) (fun _ _ h => h.elim)) (fun _ _ h => h)).trans ((F2.out.alloc (.cells #[.slice B1 f.params.length d1, .slice B2 f.results.length d2] 38)).mono (M := fun k => bi ≤ k) (fun _ _ h => h.elim)) (fun _ _ h => h))
      have FX3 := hid (((F2.out.mono (M := fun k => some k = v0.ownBlock) (fun _ _ h => h.elim)).alloc (.cells #[.slice B1 f.params.length d1, .slice B2 f.results.length d2] 38)))
      have hb2 : w2.heap.size < (w2.alloc (.cells #[.slice B1 f.params.length d1, .slice B2 f.results.length d2] 38)).heap.size := by simp
      have hb1 : W1.heap.size ≤ w2.heap.size := F2.out.size
      have HST : Hid (∀ q, (Value.slice B1 f.params.length d1).ownBlock = some q ∨ (Value.slice B2 f.results.length d2).ownBlock = some q → W1.heap.size ≤ q ∧ ∃ cs, Blk (w2.alloc (.cells #[.slice B1 f.params.length d1, .slice B2 f.results.length d2] 38)) q 50 cs) := fun q hq => by
        rcases hq with hq | hq
        · obtain ⟨h1, cs, h2⟩ := HN.out.p.own hq
          exact ⟨h1, cs, h2.alloc _⟩
        · obtain ⟨h1, cs, h2⟩ := HN.out.r.own hq
          exact ⟨h1, cs, h2.alloc _⟩
      generalize w2.alloc (.cells #[.slice B1 f.params.length d1, .slice B2 f.results.length d2] 38) = w3 at *
      have HA := hid (HA0.out.stMore (ST' := fun q => ST q ∨ ((Value.slice B1 f.params.length d1).ownBlock = some q ∨ (Value.slice B2 f.results.length d2).ownBlock = some q)) (fun _ h => .inl h) (fun q hq hn => by
        rcases hq with hq | hq
        · exact absurd hq hn
        · obtain ⟨h1, h2⟩ := HST.out q hq
          refine ⟨by omega, h2, fun e => ?_⟩
          have := (HS1.out.lt (.inr (.inr (.inr (.inr (.inr ⟨v5, by simp, e⟩)))))).2
          omega))
      refine wpO_eff rfl rfl (fun K hK => ?_)
      simp only [List.getElem_toArray, List.getElem_cons_succ, List.getElem_cons_zero]
      refine opwp_appC (t := tFn) (P := Try.prog) (base := bi) (S := fun q => ST q ∨ ((Value.slice B1 f.params.length d1).ownBlock = some q ∨ (Value.slice B2 f.results.length d2).ownBlock = some q)) (v := v0) (xs := m.types.take k) (ys := [f]) (dss := [[.slice B1 f.params.length d1, .slice B2 f.results.length d2]]) elFns rfl rfl rfl (HA.out.row 0 v0 rfl) (Css.one (fnNew_rd HN3.out (fun q h => .inr (.inl h)) (fun q h => .inr (.inr h)))) hrd rfl (by simp; omega) (by simp; omega) (fun q hq => ?hS) (Nat.le_trans HA.out.lx (Nat.le_of_lt HA.out.hx.lt)) ?_
      case hS =>
        obtain ⟨_, ⟨cs, hb⟩, _⟩ := HA.out.st q hq
        refine ⟨hb.lt, fun e => ?_⟩
        obtain ⟨_, _, cs', hb'⟩ := HA.out.ownTag (j := 0) (v := v0) rfl e
        exact Blk.ne_ hb' hb (by decide) rfl
      intro v' w4 hr4 fr4 ho4
      have HR4 := hid hr4
      have HF4 := hid fr4
      have HO4 := hid ho4
      obtain ⟨A4, c4, rfl, _, _, _⟩ := hr4.els (S' := fun _ => True) (fun _ _ => trivial) (fun _ _ => trivial)
      refine hK _ _ (fun _ => HX.out _ (FX3.out.trans HF4.out (fun _ _ h => h))) ?_
      clear hK K hr4 fr4 ho4 hrd
      simp only [Act.put, List.setIfInBounds_toArray, List.set_cons_zero, List.set_cons_succ]
      repeat (first
        | (refine wpO_skip rfl rfl ?_; simp only [List.getElem_toArray, List.getElem_cons_succ, List.getElem_cons_zero, Act.put, List.setIfInBounds_toArray, List.set_cons_zero, List.set_cons_succ])
        | (refine wpO_call rfl rfl ?_; simp only [List.getElem_toArray, List.getElem_cons_succ, List.getElem_cons_zero]; apply Exists.intro; refine ⟨fun X hX => ?_, ?_⟩
           · (have s0 := hX.1; have s1 := hX.2.1; have s2 := hX.2.2.1; have s3 := hX.2.2.2; go_simp; exact stillUpon_value)
           simp only [Act.put, List.setIfInBounds_toArray, List.set_cons_zero, List.set_cons_succ]))
      have HB4 := hid (HA.out.hs.fr HF4.out (fun e => by obtain ⟨_, _, cs, hb⟩ := HA.out.ownTag (j := 0) (v := v0) rfl e; exact Blk.ne_ hb HA.out.hs (tag_gs 0) rfl))
      have z0 : w4.cell? ⟨gs, 0, none⟩ = some v0 := HB4.out.cell 0
      have z1 : w4.frozen? ⟨gs, 0, none⟩ = false := HB4.out.frozen 0
      refine wpO_eff rfl rfl (fun K hK => ?_)
      simp only [List.getElem_toArray, List.getElem_cons_succ, List.getElem_cons_zero]
      go_simp
      refine hK _ _ (fun h => by cases h) ?_
      clear hK K z0 z1
      refine wpO_nil ?_
      have HZ := hid (HA.out.app (j := 0) (v := v0) (x' := { SpV.zero nd with types := m.types.take k ++ [f] }) (u0 := .slice A4 (m.types.take k ++ [f]).length c4) (u1 := v1) (u2 := v2) (u3 := v3) (u4 := v4) (u5 := v5) (by omega) rfl HF4.out HR4.out HO4.out (fun i hi hne Y u h => by
        match i, hi with
        | 0, _ => exact absurd rfl hne
        | 1, _ => exact h
        | 2, _ => exact h
        | 3, _ => exact h
        | 4, _ => exact h
        | 5, _ => exact h) rfl rfl rfl rfl)
      have FZ := hid ((FT3.out.trans HF4.out (fun i hi h => by have := (HA.out.ownTag (j := 0) (v := v0) rfl h).1; exact this)).setCell ⟨gs, 0, none⟩ (.slice A4 (m.types.take k ++ [f]).length c4) (fun _ => HA.out.ls))
      simp only [List.length_append, List.length_take, List.length_cons, List.length_nil, Nat.zero_add] at HZ FZ
      go_wp2
      go_roundw
      case rel => exact ⟨k + 1, by go_num, by omega, by rw [Hid, HTK.out]; exact ⟨FZ.out, _, _, _, _, _, _, _, HZ.out⟩⟩
      case measure => simp [intOf]; omega
    obtain rfl : nt = k := by omega
    have HO : Hid (OfSt W bi gx gs bi bd 0 0 (SpV.s1 m) wr) := by
      have := HOk.out
      rw [show m.types.take nt = m.types from List.take_of_length_le (by rw [et.out]; exact Nat.le_refl _)] at this
      rw [Hid, SpV.s1, ed.out]; exact this
    clear HOk
    obtain ⟨x0, x1, x2, x3, x4, x5, x6, x7, x8, x9, x10, x11⟩ := HM.out _ HO.out.1
    go_wp2
    clear x0 x1 x2 x3 x4 x5 x6 x7 x8 x9 x10 x11
    go_loopw [50] (fun i wr => ∃ k : Nat, i = .int .i64 k ∧ k ≤ ni ∧ Hid (OfSt W bi gx gs bi bd k 0 ((m.imports.take k).foldl SpV.bring (SpV.s1 m)) wr)) (fun i _ => ni - (intOf i).toNat)
    case atStart => as_aux_lemma => exact ⟨0, rfl, by omega, HO.out⟩
    case round => as_aux_lemma =>
      obtain ⟨k, rfl, hk, HOk⟩ := hrel
      clear HO
      rcases Nat.lt_or_ge k ni with hlt | hge
      · obtain ⟨hFr, ST, v0, v1, v2, v3, v4, v5, hS⟩ := HOk.out
        have hlt' : k < m.imports.length := by rw [ei.out]; exact hlt
        have hels := hi.out.imports.fr (HLow.out _ hFr) (fun k hk => ⟨hk, fun x => x⟩)
        obtain ⟨b, o, rfl, hb, y0, y1, y2, y3, y4, y5, y6, y7, y8, y9, y10, y11, y12, _, _, q0, q1, q2, q3, q4, q5, q6, q7⟩ := Im_at hels k hlt'
        have HFr := hid hFr
        have HS := hid hS
        have HTK := hid (foldl_take (f := SpV.bring) (a := SpV.s1 m) hlt')
        have HLE := hid ((spLe_s1 m).fold (m.imports.take k))
        have HIM : Hid (ImOk m.imports[k]) := ⟨q0, q1, fun _ _ => Tb_mk q2 q3 q4, fun _ _ => Lim_mk q5 q6, fun _ _ => Gl_mk q7⟩
        have hbw : b < wr.heap.size := Nat.lt_of_lt_of_le hb (HLow.out _ hFr).size
        have i0 : (0 : Int) ≤ k := by omega
        have i1 : (k : Int) < ni := by omega
        clear hFr hS q0 q1 q2 q3 q4 q5 q6 q7 hels
        generalize m.imports[k] = im at *
        go_wp2_with fail
        have F1 := hid ((Fr.refl No wr).alloc (.cells #[.string im.mod, .string im.name, .int .i64 im.kind, .int .i64 im.func, .int .i64 im.table.elem, .int .i64 im.table.lim.min, .int .i64 im.table.lim.max, .bool im.table.lim.has, .int .i64 im.mem.min, .int .i64 im.mem.max, .bool im.mem.has, .int .i64 im.glob.val, .bool im.glob.mut_] 64))
        have HS1 := hid (HS.out.frNo F1.out)
        clear y0 y1 y2 y3 y4 y5 y6 y7 y8 y9 y10 y11 y12
        generalize wr.alloc (.cells #[.string im.mod, .string im.name, .int .i64 im.kind, .int .i64 im.func, .int .i64 im.table.elem, .int .i64 im.table.lim.min, .int .i64 im.table.lim.max, .bool im.table.lim.has, .int .i64 im.mem.min, .int .i64 im.mem.max, .bool im.mem.has, .int .i64 im.glob.val, .bool im.glob.mut_] 64) = W1 at *
        have htl : (m.imports.take k).length = k := by simp; omega
        have HB := hid (bring_any bi W1 gx gs bi bd ST k 0 v0 v1 v2 v3 v4 v5 _ im HS1.out HIM.out (by have := HLE.out.i0 im.kind; omega) (by have := HLE.out.i1 im.kind; omega) (by omega) (by have := HLE.out.f; omega) (by have := HLE.out.t; omega) (by have := HLE.out.m; omega) (by have := HLE.out.g; omega))
        clear htl
        refine HB.out.mono ?_
        clear HB
        rintro e w2 ⟨rfl, u0, u1, u2, u3, u4, u5, hS2, hF2⟩
        have HS2 := hid hS2
        have HF2 := hid (HS1.out.rests hF2)
        clear hS2 hF2
        go_wp2
        go_roundw
        case rel => exact ⟨k + 1, by go_num, by omega, by rw [Hid, HTK.out]; exact ⟨(HFr.out.trans (F1.out.mono (M := fun k => bi ≤ k) (fun _ _ h => h.elim)) (fun _ _ h => h)).trans HF2.out (fun _ _ h => h), _, _, _, _, _, _, _, HS2.out⟩⟩
        case measure => simp [intOf]; omega
      obtain rfl : ni = k := by omega
      have HO : Hid (OfSt W bi gx gs bi bd ni 0 (SpV.s2 m) wr) := by
        have := HOk.out
        rw [show m.imports.take ni = m.imports from List.take_of_length_le (by rw [ei.out]; exact Nat.le_refl _)] at this
        exact this
      clear HOk
      obtain ⟨x0, x1, x2, x3, x4, x5, x6, x7, x8, x9, x10, x11⟩ := HM.out _ HO.out.1
      go_wp2
      clear x0 x1 x2 x3 x4 x5 x6 x7 x8 x9 x10 x11
      go_loopw [61] (fun i wr => ∃ k : Nat, i = .int .i64 k ∧ k ≤ nf ∧ Hid (OfSt W bi gx gs bi bd ni 0 ({ SpV.s2 m with funcs := (SpV.s2 m).funcs ++ (m.funcs.take k).map (·.type) }) wr)) (fun i _ => nf - (intOf i).toNat)
      case atStart => as_aux_lemma => exact ⟨0, rfl, by omega, by have := HO.out; rw [Hid]; simpa using this⟩
      case round => as_aux_lemma =>
        obtain ⟨k, rfl, hk, HOk⟩ := hrel
        clear HO
        rcases Nat.lt_or_ge k nf with hlt | hge
        · obtain ⟨hFr, ST, v0, v1, v2, v3, v4, v5, hS⟩ := HOk.out
          have hlt' : k < m.funcs.length := by rw [ef.out]; exact hlt
          have hels := hi.out.funcs.fr (HLow.out _ hFr) (fun k hk => ⟨hk, fun x => x⟩)
          obtain ⟨b, o, Al, cl, Ab, cb, rfl, hb, y0, y1, y2, q0, _, _, _, _⟩ := Cd_at hels k hlt'
          have HFr := hid hFr
          have HS := hid hS
          have HTK := hid (List.take_succ_eq_append_getElem hlt')
          have HQ := hid q0
          have HLE := hid ((spLe_s1 m).fold m.imports)
          have hbw : b < wr.heap.size := Nat.lt_of_lt_of_le hb (HLow.out _ hFr).size
          have i0 : (0 : Int) ≤ k := by omega
          have i1 : (k : Int) < nf := by omega
          have HSG : Hid (∀ k, Rests gx gs bi bd ST [v0, v1, v2, v3, v4, v5] k → k < wr.heap.size) := fun k hk => (HS.out.lt hk).2
          clear hFr hS q0 hels
          generalize m.funcs[k] = fn at *
          go_wp2
          have F1 := hid ((Fr.refl No wr).alloc (.cells #[.int .i64 fn.type, .slice Al fn.locals cl, .slice Ab fn.body cb] 99))
          have G1 := hid (Blk.new wr 99 #[.int .i64 fn.type, .slice Al fn.locals cl, .slice Ab fn.body cb])
          have HS1 := hid (HS.out.frNo F1.out)
          have FT1 := hid (HFr.out.trans (F1.out.mono (M := fun k => bi ≤ k) (fun _ _ h => h.elim)) (fun _ _ h => h))
          clear y0 y1 y2
          generalize wr.alloc (.cells #[.int .i64 fn.type, .slice Al fn.locals cl, .slice Ab fn.body cb] 99) = W1 at *
          have hgW : wr.heap.size < W1.heap.size := G1.out.lt
          generalize wr.heap.size = g at *
          have hlen : ((SpV.s2 m).funcs ++ (m.funcs.take k).map (·.type)).length ≤ 1000 := by
            have := HLE.out.f
            have h2 : (SpV.s2 m).funcs.length ≤ 0 + m.imports.length := this
            have := ei.out
            simp only [List.length_append, List.length_map, List.length_take]; omega
          have HLN := hid hlen
          clear hlen
          have HX : Hid (∀ Y, Fr (fun k => some k = v1.ownBlock) W1 Y → Y.cell? ⟨gx, 0, none⟩ = some (.pointer (some ⟨gs, 0, none⟩)) ∧ Y.cell? ⟨gs, 1, none⟩ = some v1 ∧ Y.cell? ⟨g, 0, none⟩ = some (.int .i64 fn.type)) := fun Y q => by
            have hown : ∀ k, some k = v1.ownBlock → k ≠ g ∧ ∃ cs, Blk W1 k (tagAt 1) cs := fun k hk => by
              obtain ⟨_, h2, cs, hb⟩ := HS1.out.ownTag (j := 1) (v := v1) rfl hk
              exact ⟨by have := HSG.out k (.inr (.inr (.inr (.inr (.inr ⟨v1, by simp, hk.symm⟩))))); omega, cs, hb⟩
            have b1 := HS1.out.hx.fr q (fun e => by obtain ⟨_, cs, hb⟩ := hown _ e; exact Blk.ne_ hb HS1.out.hx (tag_gx 1) rfl)
            have b2 := HS1.out.hs.fr q (fun e => by obtain ⟨_, cs, hb⟩ := hown _ e; exact Blk.ne_ hb HS1.out.hs (tag_gs 1) rfl)
            have b3 := G1.out.fr q (fun e => (hown _ e).1 rfl)
            exact ⟨b1.cell 0, b2.cell 1, b3.cell 0⟩
          refine wp_region_ord (fun Y => Y.cell? ⟨gx, 0, none⟩ = some (.pointer (some ⟨gs, 0, none⟩)) ∧ Y.cell? ⟨gs, 1, none⟩ = some v1 ∧ Y.cell? ⟨g, 0, none⟩ = some (.int .i64 fn.type)) [11] [(0, true), (1, true), (2, true), (3, true), (4, true), (5, true), (6, true), (7, false), (8, false), (9, true), (10, true), (11, false)] (by kernel_rfl) (by kernel_rfl) (by kernel_rfl) rfl (HX.out _ (Fr.refl _ _).drew) ?_
          repeat (first
            | (refine wpO_skip rfl rfl ?_; simp only [List.getElem_toArray, List.getElem_cons_succ, List.getElem_cons_zero, Act.put, List.setIfInBounds_toArray, List.set_cons_zero, List.set_cons_succ])
            | (refine wpO_call rfl rfl ?_; simp only [List.getElem_toArray, List.getElem_cons_succ, List.getElem_cons_zero]; apply Exists.intro; refine ⟨fun X hX => ?_, ?_⟩
               · (have s0 := hX.1; have s1 := hX.2.1; have s2 := hX.2.2; go_simp; exact stillUpon_value)
               simp only [Act.put, List.setIfInBounds_toArray, List.set_cons_zero, List.set_cons_succ]))
          refine wpO_eff rfl rfl (fun K hK => ?_)
          simp only [List.getElem_toArray, List.getElem_cons_succ, List.getElem_cons_zero]
          go_simp
          refine hK _ _ (fun _ => HX.out _ ((Fr.refl _ _).drew.alloc _)) ?_
          clear hK K
          have HA := hid (HS1.out.frNo ((Fr.refl No W1).drew.alloc (.cells #[.int .i64 fn.type] 3)))
          have FA := hid ((Fr.refl No W1).drew.alloc (.cells #[.int .i64 fn.type] 3))
          have FX3 := hid ((Fr.refl (fun k => some k = v1.ownBlock) W1).drew.alloc (.cells #[.int .i64 fn.type] 3))
          have hrd := rd_lit W1.drew [.int .i64 fn.type] 3
          refine wpO_eff rfl rfl (fun K hK => ?_)
          simp only [List.getElem_toArray, List.getElem_cons_succ, List.getElem_cons_zero]
          refine opwp_appC (t := tI) (P := Try.prog) (base := bi) (S := Emp) (v := v1) (xs := ((SpV.s2 m).funcs ++ (m.funcs.take k).map (·.type))) (ys := [fn.type]) (dss := [[.int .i64 fn.type]]) elInts rfl rfl rfl (HA.out.row 1 v1 rfl) (Css.one (int_mk HQ.out)) hrd rfl (by have := HLN.out; omega) (by have := HLN.out; omega) (fun _ h => h.elim) HA.out.size ?_
          intro v' w4 hr4 fr4 ho4
          have HR4 := hid hr4
          have HF4 := hid fr4
          have HO4 := hid ho4
          obtain ⟨A4, c4, rfl, _, _, _⟩ := hr4.els (S' := fun _ => True) (fun _ _ => trivial) (fun _ _ => trivial)
          refine hK _ _ (fun _ => HX.out _ (FX3.out.trans HF4.out (fun _ _ h => h))) ?_
          clear hK K hr4 fr4 ho4 hrd
          simp only [Act.put, List.setIfInBounds_toArray, List.set_cons_zero, List.set_cons_succ]
          repeat (first
            | (refine wpO_skip rfl rfl ?_; simp only [List.getElem_toArray, List.getElem_cons_succ, List.getElem_cons_zero, Act.put, List.setIfInBounds_toArray, List.set_cons_zero, List.set_cons_succ])
            | (refine wpO_call rfl rfl ?_; simp only [List.getElem_toArray, List.getElem_cons_succ, List.getElem_cons_zero]; apply Exists.intro; refine ⟨fun X hX => ?_, ?_⟩
               · (have s0 := hX.1; have s1 := hX.2.1; have s2 := hX.2.2; go_simp; exact stillUpon_value)
               simp only [Act.put, List.setIfInBounds_toArray, List.set_cons_zero, List.set_cons_succ]))
          have HB4 := hid (HA.out.hs.fr HF4.out (fun e => by obtain ⟨_, _, cs, hb⟩ := HA.out.ownTag (j := 1) (v := v1) rfl e; exact Blk.ne_ hb HA.out.hs (tag_gs 1) rfl))
          have z0 : w4.cell? ⟨gs, 1, none⟩ = some v1 := HB4.out.cell 1
          have z1 : w4.frozen? ⟨gs, 1, none⟩ = false := HB4.out.frozen 1
          refine wpO_eff rfl rfl (fun K hK => ?_)
          simp only [List.getElem_toArray, List.getElem_cons_succ, List.getElem_cons_zero]
          go_simp
          refine hK _ _ (fun h => by cases h) ?_
          clear hK K z0 z1
          refine wpO_nil ?_
          have HZ := hid (HA.out.app (j := 1) (v := v1) (x' := { SpV.s2 m with funcs := ((SpV.s2 m).funcs ++ (m.funcs.take k).map (·.type)) ++ [fn.type] }) (u0 := v0) (u1 := .slice A4 (((SpV.s2 m).funcs ++ (m.funcs.take k).map (·.type)) ++ [fn.type]).length c4) (u2 := v2) (u3 := v3) (u4 := v4) (u5 := v5) (by omega) rfl HF4.out HR4.out HO4.out (fun i hi hne Y u h => by
            match i, hi with
            | 0, _ => exact h
            | 1, _ => exact absurd rfl hne
            | 2, _ => exact h
            | 3, _ => exact h
            | 4, _ => exact h
            | 5, _ => exact h) rfl rfl rfl rfl)
          have FZ := hid (((FT1.out.trans (FA.out.mono (M := fun k => bi ≤ k) (fun _ _ h => h.elim)) (fun _ _ h => h)).trans HF4.out (fun i hi h => by have := (HA.out.ownTag (j := 1) (v := v1) rfl h).1; exact this)).setCell ⟨gs, 1, none⟩ (.slice A4 (((SpV.s2 m).funcs ++ (m.funcs.take k).map (·.type)) ++ [fn.type]).length c4) (fun _ => HA.out.ls))
          have GZ := hid (((G1.out.fr FA.out (fun x => x)).fr HF4.out (fun e => by
            obtain ⟨_, h2, cs, hb⟩ := HS1.out.ownTag (j := 1) (v := v1) rfl e
            have := HSG.out g (.inr (.inr (.inr (.inr (.inr ⟨v1, by simp, e.symm⟩)))))
            omega)).far (p := ⟨gs, 1, none⟩) (fun e => by have := HSG.out gs (.inr (.inl rfl)); simp only at e; omega) (.slice A4 (((SpV.s2 m).funcs ++ (m.funcs.take k).map (·.type)) ++ [fn.type]).length c4))
          simp only [List.length_append, List.length_map, List.length_take, List.length_cons, List.length_nil, Nat.zero_add, Nat.add_assoc] at HZ FZ
          go_wp2
          go_roundw
          case rel => exact ⟨k + 1, by go_num, by omega, by rw [Hid, HTK.out, List.map_append, ← List.append_assoc]; exact ⟨FZ.out, _, _, _, _, _, _, _, HZ.out⟩⟩
          case measure => simp [intOf]; omega
        obtain rfl : nf = k := by omega
        have HO : Hid (OfSt W bi gx gs bi bd ni 0 (SpV.s3 m) wr) := by
          have := HOk.out
          rw [show m.funcs.take nf = m.funcs from List.take_of_length_le (by rw [ef.out]; exact Nat.le_refl _)] at this
          exact this
        clear HOk
        have HLF : Hid (SpLe (SpV.s2 m) 101) := by
          have h := (spLe_s1 m).fold m.imports
          have := ei.out
          exact ⟨Nat.le_trans h.f (by omega), Nat.le_trans h.t (by omega), Nat.le_trans h.m (by omega), Nat.le_trans h.g (by omega), h.i0, fun j => Int.le_trans (h.i1 j) (by omega)⟩
        obtain ⟨x0, x1, x2, x3, x4, x5, x6, x7, x8, x9, x10, x11⟩ := HM.out _ HO.out.1
        go_wp2
        clear x0 x1 x2 x3 x4 x5 x6 x7 x8 x9 x10 x11
        obtain ⟨hFr, ST, v0, v1, v2, v3, v4, v5, hS⟩ := HO.out
        have HFra := hid hFr
        have HS := hid hS
        have HEL := hid (els_flat (hi.out.tables.fr (HLow.out _ hFr).drew (fun k hk => ⟨hk, fun x => x⟩)) (fun _ h => h))
        clear hFr hS HO
        have HX : Hid (∀ Y, Fr (fun k => some k = v2.ownBlock) wr Y → Y.cell? ⟨gx, 0, none⟩ = some (.pointer (some ⟨gs, 0, none⟩)) ∧ Y.cell? ⟨gs, 2, none⟩ = some v2 ∧ Y.cell? ⟨w.heap.size, 3, none⟩ = some (.slice Ata nta cta)) := fun Y q => by
          have hown : ∀ k, some k = v2.ownBlock → bi ≤ k ∧ ∃ cs, Blk wr k (tagAt 2) cs := fun k hk => by
            obtain ⟨h1, h2, cs, hb⟩ := HS.out.ownTag (j := 2) (v := v2) rfl hk
            exact ⟨h1, cs, hb⟩
          have b1 := HS.out.hx.fr q (fun e => by obtain ⟨_, cs, hb⟩ := hown _ e; exact Blk.ne_ hb HS.out.hx (tag_gx 2) rfl)
          have b2 := HS.out.hs.fr q (fun e => by obtain ⟨_, cs, hb⟩ := hown _ e; exact Blk.ne_ hb HS.out.hs (tag_gs 2) rfl)
          obtain ⟨x0, x1, x2, x3, x4, x5, x6, x7, x8, x9, x10, x11⟩ := HM.out Y (HFra.out.trans q (fun i _ h => (hown i h).1))
          exact ⟨b1.cell 0, b2.cell 2, x3⟩
        refine wp_region_ord (fun Y => Y.cell? ⟨gx, 0, none⟩ = some (.pointer (some ⟨gs, 0, none⟩)) ∧ Y.cell? ⟨gs, 2, none⟩ = some v2 ∧ Y.cell? ⟨w.heap.size, 3, none⟩ = some (.slice Ata nta cta)) [10] [(0, true), (1, true), (2, true), (3, true), (4, true), (5, true), (6, true), (7, false), (8, true), (9, true), (10, false)] (by kernel_rfl) (by kernel_rfl) (by kernel_rfl) rfl (HX.out _ (Fr.refl _ _).drew) ?_
        repeat (first
          | (refine wpO_skip rfl rfl ?_; simp only [List.getElem_toArray, List.getElem_cons_succ, List.getElem_cons_zero, Act.put, List.setIfInBounds_toArray, List.set_cons_zero, List.set_cons_succ])
          | (refine wpO_call rfl rfl ?_; simp only [List.getElem_toArray, List.getElem_cons_succ, List.getElem_cons_zero]; apply Exists.intro; refine ⟨fun X hX => ?_, ?_⟩
             · (have s0 := hX.1; have s1 := hX.2.1; have s2 := hX.2.2; go_simp; exact stillUpon_value)
             simp only [Act.put, List.setIfInBounds_toArray, List.set_cons_zero, List.set_cons_succ]))
        obtain ⟨css, hcss, hrd⟩ := HEL.out
        have HA := hid (HS.out.frNo (Fr.refl No wr).drew)
        refine wpO_eff rfl rfl (fun K hK => ?_)
        simp only [List.getElem_toArray, List.getElem_cons_succ, List.getElem_cons_zero]
        refine opwp_appC (t := tTb) (P := Try.prog) (base := bi) (S := Emp) (v := v2) (xs := (SpV.s3 m).tables) (ys := m.tables) (dss := css) elTbs rfl rfl rfl (HA.out.row 2 v2 rfl) (hcss _ _) hrd eta_.out (by have := (show (SpV.s3 m).tables.length ≤ 101 from HLF.out.t); omega) (by have := (show (SpV.s3 m).tables.length ≤ 101 from HLF.out.t); omega) (fun _ h => h.elim) HA.out.size ?_
        intro v' w4 hr4 fr4 ho4
        have HR4 := hid hr4
        have HF4 := hid fr4
        have HO4 := hid ho4
        obtain ⟨A4, c4, rfl, _, _, _⟩ := hr4.els (S' := fun _ => True) (fun _ _ => trivial) (fun _ _ => trivial)
        refine hK _ _ (fun _ => HX.out _ (((Fr.refl (fun k => some k = v2.ownBlock) wr).drew).trans HF4.out (fun _ _ h => h))) ?_
        clear hK K hr4 fr4 ho4 hrd hcss HEL
        simp only [Act.put, List.setIfInBounds_toArray, List.set_cons_zero, List.set_cons_succ]
        repeat (first
          | (refine wpO_skip rfl rfl ?_; simp only [List.getElem_toArray, List.getElem_cons_succ, List.getElem_cons_zero, Act.put, List.setIfInBounds_toArray, List.set_cons_zero, List.set_cons_succ])
          | (refine wpO_call rfl rfl ?_; simp only [List.getElem_toArray, List.getElem_cons_succ, List.getElem_cons_zero]; apply Exists.intro; refine ⟨fun X hX => ?_, ?_⟩
             · (have s0 := hX.1; have s1 := hX.2.1; have s2 := hX.2.2; go_simp; exact stillUpon_value)
             simp only [Act.put, List.setIfInBounds_toArray, List.set_cons_zero, List.set_cons_succ]))
        have HB4 := hid (HA.out.hs.fr HF4.out (fun e => by obtain ⟨_, _, cs, hb⟩ := HA.out.ownTag (j := 2) (v := v2) rfl e; exact Blk.ne_ hb HA.out.hs (tag_gs 2) rfl))
        have z0 : w4.cell? ⟨gs, 2, none⟩ = some v2 := HB4.out.cell 2
        have z1 : w4.frozen? ⟨gs, 2, none⟩ = false := HB4.out.frozen 2
        refine wpO_eff rfl rfl (fun K hK => ?_)
        simp only [List.getElem_toArray, List.getElem_cons_succ, List.getElem_cons_zero]
        go_simp
        refine hK _ _ (fun h => by cases h) ?_
        clear hK K z0 z1
        refine wpO_nil ?_
        have HZ := hid (HA.out.app (j := 2) (v := v2) (x' := SpV.s4 m) (u0 := v0) (u1 := v1) (u2 := .slice A4 ((SpV.s3 m).tables ++ m.tables).length c4) (u3 := v3) (u4 := v4) (u5 := v5) (by omega) rfl HF4.out HR4.out HO4.out (fun i hi hne Y u h => by
          match i, hi with
          | 0, _ => exact h
          | 1, _ => exact h
          | 2, _ => exact absurd rfl hne
          | 3, _ => exact h
          | 4, _ => exact h
          | 5, _ => exact h) rfl rfl rfl rfl)
        have FZ := hid ((HFra.out.drew.trans HF4.out (fun i hi h => by have := (HA.out.ownTag (j := 2) (v := v2) rfl h).1; exact this)).setCell ⟨gs, 2, none⟩ (.slice A4 ((SpV.s3 m).tables ++ m.tables).length c4) (fun _ => HA.out.ls))
        have hlq : ((SpV.s3 m).tables ++ m.tables).length = ((SpV.s3 m).tables).length + (m.tables).length := by rw [List.length_append]
        rw [hlq] at HZ FZ
        clear hlq HS HX HA HF4 HR4 HO4 HB4 HFra
        have HO : Hid (OfSt W bi gx gs bi bd ni 0 (SpV.s4 m) (w4.setCell ⟨gs, 2, none⟩ (.slice A4 (((SpV.s3 m).tables).length + (m.tables).length) c4))) := ⟨FZ.out, _, _, _, _, _, _, _, HZ.out⟩
        clear HZ FZ
        generalize w4.setCell ⟨gs, 2, none⟩ (.slice A4 (((SpV.s3 m).tables).length + (m.tables).length) c4) = wr at *
        obtain ⟨x0, x1, x2, x3, x4, x5, x6, x7, x8, x9, x10, x11⟩ := HM.out _ HO.out.1
        go_wp2
        clear x0 x1 x2 x3 x4 x5 x6 x7 x8 x9 x10 x11
        obtain ⟨hFr, ST, v0, v1, v2, v3, v4, v5, hS⟩ := HO.out
        have HFrb := hid hFr
        have HS := hid hS
        have HEL := hid (els_flat (hi.out.mems.fr (HLow.out _ hFr).drew (fun k hk => ⟨hk, fun x => x⟩)) (fun _ h => h))
        clear hFr hS HO
        have HX : Hid (∀ Y, Fr (fun k => some k = v3.ownBlock) wr Y → Y.cell? ⟨gx, 0, none⟩ = some (.pointer (some ⟨gs, 0, none⟩)) ∧ Y.cell? ⟨gs, 3, none⟩ = some v3 ∧ Y.cell? ⟨w.heap.size, 4, none⟩ = some (.slice Am nm cm)) := fun Y q => by
          have hown : ∀ k, some k = v3.ownBlock → bi ≤ k ∧ ∃ cs, Blk wr k (tagAt 3) cs := fun k hk => by
            obtain ⟨h1, h2, cs, hb⟩ := HS.out.ownTag (j := 3) (v := v3) rfl hk
            exact ⟨h1, cs, hb⟩
          have b1 := HS.out.hx.fr q (fun e => by obtain ⟨_, cs, hb⟩ := hown _ e; exact Blk.ne_ hb HS.out.hx (tag_gx 3) rfl)
          have b2 := HS.out.hs.fr q (fun e => by obtain ⟨_, cs, hb⟩ := hown _ e; exact Blk.ne_ hb HS.out.hs (tag_gs 3) rfl)
          obtain ⟨x0, x1, x2, x3, x4, x5, x6, x7, x8, x9, x10, x11⟩ := HM.out Y (HFrb.out.trans q (fun i _ h => (hown i h).1))
          exact ⟨b1.cell 0, b2.cell 3, x4⟩
        refine wp_region_ord (fun Y => Y.cell? ⟨gx, 0, none⟩ = some (.pointer (some ⟨gs, 0, none⟩)) ∧ Y.cell? ⟨gs, 3, none⟩ = some v3 ∧ Y.cell? ⟨w.heap.size, 4, none⟩ = some (.slice Am nm cm)) [10] [(0, true), (1, true), (2, true), (3, true), (4, true), (5, true), (6, true), (7, false), (8, true), (9, true), (10, false)] (by kernel_rfl) (by kernel_rfl) (by kernel_rfl) rfl (HX.out _ (Fr.refl _ _).drew) ?_
        repeat (first
          | (refine wpO_skip rfl rfl ?_; simp only [List.getElem_toArray, List.getElem_cons_succ, List.getElem_cons_zero, Act.put, List.setIfInBounds_toArray, List.set_cons_zero, List.set_cons_succ])
          | (refine wpO_call rfl rfl ?_; simp only [List.getElem_toArray, List.getElem_cons_succ, List.getElem_cons_zero]; apply Exists.intro; refine ⟨fun X hX => ?_, ?_⟩
             · (have s0 := hX.1; have s1 := hX.2.1; have s2 := hX.2.2; go_simp; exact stillUpon_value)
             simp only [Act.put, List.setIfInBounds_toArray, List.set_cons_zero, List.set_cons_succ]))
        obtain ⟨css, hcss, hrd⟩ := HEL.out
        have HA := hid (HS.out.frNo (Fr.refl No wr).drew)
        refine wpO_eff rfl rfl (fun K hK => ?_)
        simp only [List.getElem_toArray, List.getElem_cons_succ, List.getElem_cons_zero]
        refine opwp_appC (t := tLim) (P := Try.prog) (base := bi) (S := Emp) (v := v3) (xs := (SpV.s4 m).mems) (ys := m.mems) (dss := css) elLims rfl rfl rfl (HA.out.row 3 v3 rfl) (hcss _ _) hrd em.out (by have := (show (SpV.s4 m).mems.length ≤ 101 from HLF.out.m); omega) (by have := (show (SpV.s4 m).mems.length ≤ 101 from HLF.out.m); omega) (fun _ h => h.elim) HA.out.size ?_
        intro v' w4 hr4 fr4 ho4
        have HR4 := hid hr4
        have HF4 := hid fr4
        have HO4 := hid ho4
        obtain ⟨A4, c4, rfl, _, _, _⟩ := hr4.els (S' := fun _ => True) (fun _ _ => trivial) (fun _ _ => trivial)
        refine hK _ _ (fun _ => HX.out _ (((Fr.refl (fun k => some k = v3.ownBlock) wr).drew).trans HF4.out (fun _ _ h => h))) ?_
        clear hK K hr4 fr4 ho4 hrd hcss HEL
        simp only [Act.put, List.setIfInBounds_toArray, List.set_cons_zero, List.set_cons_succ]
        repeat (first
          | (refine wpO_skip rfl rfl ?_; simp only [List.getElem_toArray, List.getElem_cons_succ, List.getElem_cons_zero, Act.put, List.setIfInBounds_toArray, List.set_cons_zero, List.set_cons_succ])
          | (refine wpO_call rfl rfl ?_; simp only [List.getElem_toArray, List.getElem_cons_succ, List.getElem_cons_zero]; apply Exists.intro; refine ⟨fun X hX => ?_, ?_⟩
             · (have s0 := hX.1; have s1 := hX.2.1; have s2 := hX.2.2; go_simp; exact stillUpon_value)
             simp only [Act.put, List.setIfInBounds_toArray, List.set_cons_zero, List.set_cons_succ]))
        have HB4 := hid (HA.out.hs.fr HF4.out (fun e => by obtain ⟨_, _, cs, hb⟩ := HA.out.ownTag (j := 3) (v := v3) rfl e; exact Blk.ne_ hb HA.out.hs (tag_gs 3) rfl))
        have z0 : w4.cell? ⟨gs, 3, none⟩ = some v3 := HB4.out.cell 3
        have z1 : w4.frozen? ⟨gs, 3, none⟩ = false := HB4.out.frozen 3
        refine wpO_eff rfl rfl (fun K hK => ?_)
        simp only [List.getElem_toArray, List.getElem_cons_succ, List.getElem_cons_zero]
        go_simp
        refine hK _ _ (fun h => by cases h) ?_
        clear hK K z0 z1
        refine wpO_nil ?_
        have HZ := hid (HA.out.app (j := 3) (v := v3) (x' := SpV.s5 m) (u0 := v0) (u1 := v1) (u2 := v2) (u3 := .slice A4 ((SpV.s4 m).mems ++ m.mems).length c4) (u4 := v4) (u5 := v5) (by omega) rfl HF4.out HR4.out HO4.out (fun i hi hne Y u h => by
          match i, hi with
          | 0, _ => exact h
          | 1, _ => exact h
          | 2, _ => exact h
          | 3, _ => exact absurd rfl hne
          | 4, _ => exact h
          | 5, _ => exact h) rfl rfl rfl rfl)
        have FZ := hid ((HFrb.out.drew.trans HF4.out (fun i hi h => by have := (HA.out.ownTag (j := 3) (v := v3) rfl h).1; exact this)).setCell ⟨gs, 3, none⟩ (.slice A4 ((SpV.s4 m).mems ++ m.mems).length c4) (fun _ => HA.out.ls))
        have hlq : ((SpV.s4 m).mems ++ m.mems).length = ((SpV.s4 m).mems).length + (m.mems).length := by rw [List.length_append]
        rw [hlq] at HZ FZ
        clear hlq HS HX HA HF4 HR4 HO4 HB4 HFrb
        have HO : Hid (OfSt W bi gx gs bi bd ni 0 (SpV.s5 m) (w4.setCell ⟨gs, 3, none⟩ (.slice A4 (((SpV.s4 m).mems).length + (m.mems).length) c4))) := ⟨FZ.out, _, _, _, _, _, _, _, HZ.out⟩
        clear HZ FZ
        generalize w4.setCell ⟨gs, 3, none⟩ (.slice A4 (((SpV.s4 m).mems).length + (m.mems).length) c4) = wr at *
        obtain ⟨x0, x1, x2, x3, x4, x5, x6, x7, x8, x9, x10, x11⟩ := HM.out _ HO.out.1
        go_wp2
        clear x0 x1 x2 x3 x4 x5 x6 x7 x8 x9 x10 x11
        go_loopw [101] (fun i wr => ∃ k : Nat, i = .int .i64 k ∧ k ≤ ng ∧ Hid (OfSt W bi gx gs bi bd ni (k * 140737488351232) ((m.globals.take k).foldl SpV.glob (SpV.s5 m)) wr)) (fun i _ => ng - (intOf i).toNat)
        case atStart => as_aux_lemma => exact ⟨0, rfl, by omega, by have := HO.out; simpa [Hid] using this⟩
        case round => as_aux_lemma =>
          obtain ⟨k, rfl, hk, HOk⟩ := hrel
          clear HO
          rcases Nat.lt_or_ge k ng with hlt | hge
          · obtain ⟨hFr, ST, v0, v1, v2, v3, v4, v5, hS⟩ := HOk.out
            have hlt' : k < m.globals.length := by rw [eg.out]; exact hlt
            have hels := hi.out.globals.fr (HLow.out _ hFr) (fun k hk => ⟨hk, fun x => x⟩)
            obtain ⟨b, o, An, cn, rfl, hb, y0, y1, y2, q0, _, _, q3⟩ := Gd_at hels k hlt'
            have HFr := hid hFr
            have HS := hid hS
            have HTK := hid (foldl_take (f := SpV.glob) (a := SpV.s5 m) hlt')
            have HQ := hid q0
            have HIN := hid q3
            have HIL := hid (hi.out.lgi _ (List.getElem_mem hlt'))
            have HGL : Hid (((m.globals.take k).foldl SpV.glob (SpV.s5 m)).globals.length ≤ 101 + k) := by
              have := glob_len (SpV.s5 m) (m.globals.take k)
              have h2 : (SpV.s5 m).globals.length ≤ 101 := HLF.out.g
              rw [Hid]; simp only [List.length_take] at this; omega
            have hbw : b < wr.heap.size := Nat.lt_of_lt_of_le hb (HLow.out _ hFr).size
            have i0 : (0 : Int) ≤ k := by omega
            have i1 : (k : Int) < ng := by omega
            have HSG : Hid (∀ k, Rests gx gs bi bd ST [v0, v1, v2, v3, v4, v5] k → k < wr.heap.size) := fun k hk => (HS.out.lt hk).2
            clear hFr hS q0 q3 hels
            generalize m.globals[k] = gd at *
            go_wp2
            have F1 := hid ((Fr.refl No wr).alloc (.cells #[.int .i64 gd.type.val, .bool gd.type.mut_, .slice An gd.init.length cn] 106))
            have G1 := hid (Blk.new wr 106 #[.int .i64 gd.type.val, .bool gd.type.mut_, .slice An gd.init.length cn])
            have HS1 := hid (HS.out.frNo F1.out)
            have FT1 := hid (HFr.out.trans (F1.out.mono (M := fun k => bi ≤ k) (fun _ _ h => h.elim)) (fun _ _ h => h))
            clear y0 y1 y2
            have HINw := hid (HIN.out.fr F1.out (fun k hk => ⟨Nat.lt_of_lt_of_le hk (HLow.out _ HFr.out).size, fun x => x⟩))
            generalize wr.alloc (.cells #[.int .i64 gd.type.val, .bool gd.type.mut_, .slice An gd.init.length cn] 106) = W1 at *
            have hgW : wr.heap.size < W1.heap.size := G1.out.lt
            have hwW : w.heap.size ≤ W1.heap.size := (HLow.out _ FT1.out).size
            generalize wr.heap.size = g at *
            have HX : Hid (∀ Y, Fr (fun k => some k = v4.ownBlock) W1 Y → Y.cell? ⟨gx, 0, none⟩ = some (.pointer (some ⟨gs, 0, none⟩)) ∧ Y.cell? ⟨gs, 4, none⟩ = some v4 ∧ Y.cell? ⟨g, 0, none⟩ = some (.int .i64 gd.type.val) ∧ Y.cell? ⟨g, 1, none⟩ = some (.bool gd.type.mut_)) := fun Y q => by
              have hown : ∀ k, some k = v4.ownBlock → k ≠ g ∧ ∃ cs, Blk W1 k (tagAt 4) cs := fun k hk => by
                obtain ⟨_, h2, cs, hb⟩ := HS1.out.ownTag (j := 4) (v := v4) rfl hk
                exact ⟨by have := HSG.out k (.inr (.inr (.inr (.inr (.inr ⟨v4, by simp, hk.symm⟩))))); omega, cs, hb⟩
              have b1 := HS1.out.hx.fr q (fun e => by obtain ⟨_, cs, hb⟩ := hown _ e; exact Blk.ne_ hb HS1.out.hx (tag_gx 4) rfl)
              have b2 := HS1.out.hs.fr q (fun e => by obtain ⟨_, cs, hb⟩ := hown _ e; exact Blk.ne_ hb HS1.out.hs (tag_gs 4) rfl)
              have b3 := G1.out.fr q (fun e => (hown _ e).1 rfl)
              exact ⟨b1.cell 0, b2.cell 4, b3.cell 0, b3.cell 1⟩
            refine wp_region_ord (fun Y => Y.cell? ⟨gx, 0, none⟩ = some (.pointer (some ⟨gs, 0, none⟩)) ∧ Y.cell? ⟨gs, 4, none⟩ = some v4 ∧ Y.cell? ⟨g, 0, none⟩ = some (.int .i64 gd.type.val) ∧ Y.cell? ⟨g, 1, none⟩ = some (.bool gd.type.mut_)) [11] [(0, true), (1, true), (2, true), (3, true), (4, true), (5, true), (6, true), (7, false), (8, false), (9, true), (10, true), (11, false)] (by kernel_rfl) (by kernel_rfl) (by kernel_rfl) rfl (HX.out _ (Fr.refl _ _).drew) ?_
            repeat (first
              | (refine wpO_skip rfl rfl ?_; simp only [List.getElem_toArray, List.getElem_cons_succ, List.getElem_cons_zero, Act.put, List.setIfInBounds_toArray, List.set_cons_zero, List.set_cons_succ])
              | (refine wpO_call rfl rfl ?_; simp only [List.getElem_toArray, List.getElem_cons_succ, List.getElem_cons_zero]; apply Exists.intro; refine ⟨fun X hX => ?_, ?_⟩
                 · (have s0 := hX.1; have s1 := hX.2.1; have s2 := hX.2.2.1; have s3 := hX.2.2.2; go_simp; exact stillUpon_value)
                 simp only [Act.put, List.setIfInBounds_toArray, List.set_cons_zero, List.set_cons_succ]))
            refine wpO_eff rfl rfl (fun K hK => ?_)
            simp only [List.getElem_toArray, List.getElem_cons_succ, List.getElem_cons_zero]
            go_simp
            refine hK _ _ (fun _ => HX.out _ ((Fr.refl _ _).drew.alloc _)) ?_
            clear hK K
            have HA := hid (HS1.out.frNo ((Fr.refl No W1).drew.alloc (.cells #[.int .i64 gd.type.val, .bool gd.type.mut_] 62)))
            have FA := hid ((Fr.refl No W1).drew.alloc (.cells #[.int .i64 gd.type.val, .bool gd.type.mut_] 62))
            have FX3 := hid ((Fr.refl (fun k => some k = v4.ownBlock) W1).drew.alloc (.cells #[.int .i64 gd.type.val, .bool gd.type.mut_] 62))
            have hrd := rd_lit W1.drew [.int .i64 gd.type.val, .bool gd.type.mut_] 62
            refine wpO_eff rfl rfl (fun K hK => ?_)
            simp only [List.getElem_toArray, List.getElem_cons_succ, List.getElem_cons_zero]
            refine opwp_appC (t := tGl) (P := Try.prog) (base := bi) (S := Emp) (v := v4) (xs := ((m.globals.take k).foldl SpV.glob (SpV.s5 m)).globals) (ys := [gd.type]) (dss := [[.int .i64 gd.type.val, .bool gd.type.mut_]]) elGls rfl rfl rfl (HA.out.row 4 v4 rfl) (Css.one (Gl_mk HQ.out)) hrd rfl (by have := HGL.out; omega) (by have := HGL.out; omega) (fun _ h => h.elim) HA.out.size ?_
            intro v' w4 hr4 fr4 ho4
            have HR4 := hid hr4
            have HF4 := hid fr4
            have HO4 := hid ho4
            obtain ⟨A4, c4, rfl, _, _, _⟩ := hr4.els (S' := fun _ => True) (fun _ _ => trivial) (fun _ _ => trivial)
            refine hK _ _ (fun _ => HX.out _ (FX3.out.trans HF4.out (fun _ _ h => h))) ?_
            clear hK K hr4 fr4 ho4 hrd
            simp only [Act.put, List.setIfInBounds_toArray, List.set_cons_zero, List.set_cons_succ]
            repeat (first
              | (refine wpO_skip rfl rfl ?_; simp only [List.getElem_toArray, List.getElem_cons_succ, List.getElem_cons_zero, Act.put, List.setIfInBounds_toArray, List.set_cons_zero, List.set_cons_succ])
              | (refine wpO_call rfl rfl ?_; simp only [List.getElem_toArray, List.getElem_cons_succ, List.getElem_cons_zero]; apply Exists.intro; refine ⟨fun X hX => ?_, ?_⟩
                 · (have s0 := hX.1; have s1 := hX.2.1; have s2 := hX.2.2.1; have s3 := hX.2.2.2; go_simp; exact stillUpon_value)
                 simp only [Act.put, List.setIfInBounds_toArray, List.set_cons_zero, List.set_cons_succ]))
            have HB4 := hid (HA.out.hs.fr HF4.out (fun e => by obtain ⟨_, _, cs, hb⟩ := HA.out.ownTag (j := 4) (v := v4) rfl e; exact Blk.ne_ hb HA.out.hs (tag_gs 4) rfl))
            have z0 : w4.cell? ⟨gs, 4, none⟩ = some v4 := HB4.out.cell 4
            have z1 : w4.frozen? ⟨gs, 4, none⟩ = false := HB4.out.frozen 4
            refine wpO_eff rfl rfl (fun K hK => ?_)
            simp only [List.getElem_toArray, List.getElem_cons_succ, List.getElem_cons_zero]
            go_simp
            refine hK _ _ (fun h => by cases h) ?_
            clear hK K z0 z1
            refine wpO_nil ?_
            have HZ := hid (HA.out.app (j := 4) (v := v4) (x' := { (m.globals.take k).foldl SpV.glob (SpV.s5 m) with globals := ((m.globals.take k).foldl SpV.glob (SpV.s5 m)).globals ++ [gd.type] }) (u0 := v0) (u1 := v1) (u2 := v2) (u3 := v3) (u4 := .slice A4 (((m.globals.take k).foldl SpV.glob (SpV.s5 m)).globals ++ [gd.type]).length c4) (u5 := v5) (by omega) rfl HF4.out HR4.out HO4.out (fun i hi hne Y u h => by
              match i, hi with
              | 0, _ => exact h
              | 1, _ => exact h
              | 2, _ => exact h
              | 3, _ => exact h
              | 4, _ => exact absurd rfl hne
              | 5, _ => exact h) rfl rfl rfl rfl)
            have FZ := hid (((FT1.out.trans (FA.out.mono (M := fun k => bi ≤ k) (fun _ _ h => h.elim)) (fun _ _ h => h)).trans HF4.out (fun i hi h => by have := (HA.out.ownTag (j := 4) (v := v4) rfl h).1; exact this)).setCell ⟨gs, 4, none⟩ (.slice A4 (((m.globals.take k).foldl SpV.glob (SpV.s5 m)).globals ++ [gd.type]).length c4) (fun _ => HA.out.ls))
            have GZ := hid (((G1.out.fr FA.out (fun x => x)).fr HF4.out (fun e => by
              obtain ⟨_, h2, cs, hb⟩ := HS1.out.ownTag (j := 4) (v := v4) rfl e
              have := HSG.out g (.inr (.inr (.inr (.inr (.inr ⟨v4, by simp, e.symm⟩)))))
              omega)).far (p := ⟨gs, 4, none⟩) (fun e => by have := HSG.out gs (.inr (.inl rfl)); simp only at e; omega) (.slice A4 (((m.globals.take k).foldl SpV.glob (SpV.s5 m)).globals ++ [gd.type]).length c4))
            simp only [List.length_append, List.length_map, List.length_take, List.length_cons, List.length_nil, Nat.zero_add, Nat.add_assoc] at HZ FZ GZ
            clear HX HS1 HA FA FX3 HR4 HF4 HO4 HB4 HS
            generalize w4.setCell ⟨gs, 4, none⟩ (.slice A4 (((m.globals.take k).foldl SpV.glob (SpV.s5 m)).globals.length + 1) c4) = w5 at *
            have y2 : w5.cell? ⟨g, 2, none⟩ = some (.slice An gd.init.length cn) := GZ.out.cell 2
            have HI5 : Hid (tIns.els w5 (· < w.heap.size) An gd.init) := HIN.out.keep (fun p hp => by
              have h1 := (HLow.out _ FZ.out).cell (p := p) hp (fun x => x)
              have h2 := (HLow.out _ HFr.out).cell (p := p) hp (fun x => x)
              rw [h1, h2])
            go_wp2_with fail
            have HB := hid (name_any bi w5 gx gs bi bd _ (· < w.heap.size) ni _ _ _ _ _ _ _ _ gd.init gd.init.length cn An HZ.out HI5.out (fun k hk => by omega) rfl HIL.out (by omega))
            refine HB.out.mono ?_
            clear HB
            rintro e w6 ⟨rfl, hS6, hF6⟩
            have HS6 := hid (hS6.monoD (n' := (k + 1) * 140737488351232) (by have := HIL.out; omega))
            have HF6 := hid (FZ.out.trans hF6 (fun i hi h => by simp only [One] at h; have := HZ.out.ld; omega))
            clear hS6 hF6
            go_wp2
            go_roundw
            case rel => exact ⟨k + 1, by go_num, by omega, by rw [Hid, HTK.out]; exact ⟨HF6.out, _, _, _, _, _, _, _, HS6.out⟩⟩
            case measure => simp [intOf]; omega
          obtain rfl : ng = k := by omega
          have HO : Hid (OfSt W bi gx gs bi bd ni (100 * 140737488351232) (SpV.s6 m) wr) := by
            obtain ⟨h1, ST, v0, v1, v2, v3, v4, v5, h2⟩ := HOk.out
            rw [show m.globals.take ng = m.globals from List.take_of_length_le (by rw [eg.out]; exact Nat.le_refl _)] at h2
            exact ⟨h1, _, _, _, _, _, _, _, h2.monoD (by omega)⟩
          clear HOk
          obtain ⟨x0, x1, x2, x3, x4, x5, x6, x7, x8, x9, x10, x11⟩ := HM.out _ HO.out.1
          go_wp2
          clear x0 x1 x2 x3 x4 x5 x6 x7 x8 x9 x10 x11
          go_loopw [124] (fun i wr => ∃ k : Nat, i = .int .i64 k ∧ k ≤ nel ∧ Hid (OfSt W bi gx gs bi bd ni (100 * 140737488351232 + k * (500 * 140737488351232)) ((m.elems.take k).foldl SpV.elem (SpV.s6 m)) wr)) (fun i _ => nel - (intOf i).toNat)
          case atStart => as_aux_lemma => exact ⟨0, rfl, by omega, by have := HO.out; simpa [Hid] using this⟩
          case round => as_aux_lemma =>
            obtain ⟨k, rfl, hk, HOk⟩ := hrel
            clear HO
            rcases Nat.lt_or_ge k nel with hlt | hge
            · obtain ⟨hFr, ST, v0, v1, v2, v3, v4, v5, hS⟩ := HOk.out
              have hlt' : k < m.elems.length := by rw [eel.out]; exact hlt
              have hels := hi.out.elems.fr (HLow.out _ hFr) (fun k hk => ⟨hk, fun x => x⟩)
              obtain ⟨b, o, Ao, co, Aq, cq, rfl, hb, y0, y1, y2, y3, y4, _, _, _, _, q0, _, _, q3⟩ := El_at hels k hlt'
              have HFr := hid hFr
              have HS := hid hS
              have HTK := hid (foldl_take (f := SpV.elem) (a := SpV.s6 m) hlt')
              have HQ := hid q0
              have HIN := hid q3
              have HIL := hid (hi.out.lit _ (List.getElem_mem hlt'))
              have HII := hid (hi.out.lii _ (List.getElem_mem hlt'))
              have HGL : Hid (((m.elems.take k).foldl SpV.elem (SpV.s6 m)).elems.length ≤ 1000 + k) := by
                have := elem_len (SpV.s6 m) (m.elems.take k)
                have h2 : (SpV.s6 m).elems.length = 0 := s6_elems m
                rw [Hid]; simp only [List.length_take] at this; omega
              have hbw : b < wr.heap.size := Nat.lt_of_lt_of_le hb (HLow.out _ hFr).size
              have i0 : (0 : Int) ≤ k := by omega
              have i1 : (k : Int) < nel := by omega
              have HSG : Hid (∀ k, Rests gx gs bi bd ST [v0, v1, v2, v3, v4, v5] k → k < wr.heap.size) := fun k hk => (HS.out.lt hk).2
              clear hFr hS q0 q3 hels
              generalize m.elems[k] = el at *
              go_wp2
              have F1 := hid ((Fr.refl No wr).alloc (.cells #[.int .i64 el.mode, .int .i64 el.table, .slice Ao el.off co, .int .i64 el.type, .slice Aq el.items.length cq] 88))
              have G1 := hid (Blk.new wr 88 #[.int .i64 el.mode, .int .i64 el.table, .slice Ao el.off co, .int .i64 el.type, .slice Aq el.items.length cq])
              have HS1 := hid (HS.out.frNo F1.out)
              have FT1 := hid (HFr.out.trans (F1.out.mono (M := fun k => bi ≤ k) (fun _ _ h => h.elim)) (fun _ _ h => h))
              clear y0 y1 y2 y3 y4
              generalize wr.alloc (.cells #[.int .i64 el.mode, .int .i64 el.table, .slice Ao el.off co, .int .i64 el.type, .slice Aq el.items.length cq] 88) = W1 at *
              have hgW : wr.heap.size < W1.heap.size := G1.out.lt
              have hwW : w.heap.size ≤ W1.heap.size := (HLow.out _ FT1.out).size
              generalize wr.heap.size = g at *
              have HX : Hid (∀ Y, Fr (fun k => some k = v5.ownBlock) W1 Y → Y.cell? ⟨gx, 0, none⟩ = some (.pointer (some ⟨gs, 0, none⟩)) ∧ Y.cell? ⟨gs, 5, none⟩ = some v5 ∧ Y.cell? ⟨g, 3, none⟩ = some (.int .i64 el.type)) := fun Y q => by
                have hown : ∀ k, some k = v5.ownBlock → k ≠ g ∧ ∃ cs, Blk W1 k (tagAt 5) cs := fun k hk => by
                  obtain ⟨_, h2, cs, hb⟩ := HS1.out.ownTag (j := 5) (v := v5) rfl hk
                  exact ⟨by have := HSG.out k (.inr (.inr (.inr (.inr (.inr ⟨v5, by simp, hk.symm⟩))))); omega, cs, hb⟩
                have b1 := HS1.out.hx.fr q (fun e => by obtain ⟨_, cs, hb⟩ := hown _ e; exact Blk.ne_ hb HS1.out.hx (tag_gx 5) rfl)
                have b2 := HS1.out.hs.fr q (fun e => by obtain ⟨_, cs, hb⟩ := hown _ e; exact Blk.ne_ hb HS1.out.hs (tag_gs 5) rfl)
                have b3 := G1.out.fr q (fun e => (hown _ e).1 rfl)
                exact ⟨b1.cell 0, b2.cell 5, b3.cell 3⟩
              refine wp_region_ord (fun Y => Y.cell? ⟨gx, 0, none⟩ = some (.pointer (some ⟨gs, 0, none⟩)) ∧ Y.cell? ⟨gs, 5, none⟩ = some v5 ∧ Y.cell? ⟨g, 3, none⟩ = some (.int .i64 el.type)) [11] [(0, true), (1, true), (2, true), (3, true), (4, true), (5, true), (6, true), (7, false), (8, false), (9, true), (10, true), (11, false)] (by kernel_rfl) (by kernel_rfl) (by kernel_rfl) rfl (HX.out _ (Fr.refl _ _).drew) ?_
              repeat (first
                | (refine wpO_skip rfl rfl ?_; simp only [List.getElem_toArray, List.getElem_cons_succ, List.getElem_cons_zero, Act.put, List.setIfInBounds_toArray, List.set_cons_zero, List.set_cons_succ])
                | (refine wpO_call rfl rfl ?_; simp only [List.getElem_toArray, List.getElem_cons_succ, List.getElem_cons_zero]; apply Exists.intro; refine ⟨fun X hX => ?_, ?_⟩
                   · (have s0 := hX.1; have s1 := hX.2.1; have s2 := hX.2.2; go_simp; exact stillUpon_value)
                   simp only [Act.put, List.setIfInBounds_toArray, List.set_cons_zero, List.set_cons_succ]))
              refine wpO_eff rfl rfl (fun K hK => ?_)
              simp only [List.getElem_toArray, List.getElem_cons_succ, List.getElem_cons_zero]
              go_simp
              refine hK _ _ (fun _ => HX.out _ ((Fr.refl _ _).drew.alloc _)) ?_
              clear hK K
              have HA := hid (HS1.out.frNo ((Fr.refl No W1).drew.alloc (.cells #[.int .i64 el.type] 50)))
              have FA := hid ((Fr.refl No W1).drew.alloc (.cells #[.int .i64 el.type] 50))
              have FX3 := hid ((Fr.refl (fun k => some k = v5.ownBlock) W1).drew.alloc (.cells #[.int .i64 el.type] 50))
              have hrd := rd_lit W1.drew [.int .i64 el.type] 50
              refine wpO_eff rfl rfl (fun K hK => ?_)
              simp only [List.getElem_toArray, List.getElem_cons_succ, List.getElem_cons_zero]
              refine opwp_appC (t := tI) (P := Try.prog) (base := bi) (S := Emp) (v := v5) (xs := ((m.elems.take k).foldl SpV.elem (SpV.s6 m)).elems) (ys := [el.type]) (dss := [[.int .i64 el.type]]) elVals rfl rfl rfl (HA.out.row 5 v5 rfl) (Css.one (int_mk HQ.out)) hrd rfl (by have := HGL.out; omega) (by have := HGL.out; omega) (fun _ h => h.elim) HA.out.size ?_
              intro v' w4 hr4 fr4 ho4
              have HR4 := hid hr4
              have HF4 := hid fr4
              have HO4 := hid ho4
              obtain ⟨A4, c4, rfl, _, _, _⟩ := hr4.els (S' := fun _ => True) (fun _ _ => trivial) (fun _ _ => trivial)
              refine hK _ _ (fun _ => HX.out _ (FX3.out.trans HF4.out (fun _ _ h => h))) ?_
              clear hK K hr4 fr4 ho4 hrd
              simp only [Act.put, List.setIfInBounds_toArray, List.set_cons_zero, List.set_cons_succ]
              repeat (first
                | (refine wpO_skip rfl rfl ?_; simp only [List.getElem_toArray, List.getElem_cons_succ, List.getElem_cons_zero, Act.put, List.setIfInBounds_toArray, List.set_cons_zero, List.set_cons_succ])
                | (refine wpO_call rfl rfl ?_; simp only [List.getElem_toArray, List.getElem_cons_succ, List.getElem_cons_zero]; apply Exists.intro; refine ⟨fun X hX => ?_, ?_⟩
                   · (have s0 := hX.1; have s1 := hX.2.1; have s2 := hX.2.2; go_simp; exact stillUpon_value)
                   simp only [Act.put, List.setIfInBounds_toArray, List.set_cons_zero, List.set_cons_succ]))
              have HB4 := hid (HA.out.hs.fr HF4.out (fun e => by obtain ⟨_, _, cs, hb⟩ := HA.out.ownTag (j := 5) (v := v5) rfl e; exact Blk.ne_ hb HA.out.hs (tag_gs 5) rfl))
              have z0 : w4.cell? ⟨gs, 5, none⟩ = some v5 := HB4.out.cell 5
              have z1 : w4.frozen? ⟨gs, 5, none⟩ = false := HB4.out.frozen 5
              refine wpO_eff rfl rfl (fun K hK => ?_)
              simp only [List.getElem_toArray, List.getElem_cons_succ, List.getElem_cons_zero]
              go_simp
              refine hK _ _ (fun h => by cases h) ?_
              clear hK K z0 z1
              refine wpO_nil ?_
              have HZ := hid (HA.out.app (j := 5) (v := v5) (x' := { (m.elems.take k).foldl SpV.elem (SpV.s6 m) with elems := ((m.elems.take k).foldl SpV.elem (SpV.s6 m)).elems ++ [el.type] }) (u0 := v0) (u1 := v1) (u2 := v2) (u3 := v3) (u4 := v4) (u5 := .slice A4 (((m.elems.take k).foldl SpV.elem (SpV.s6 m)).elems ++ [el.type]).length c4) (by omega) rfl HF4.out HR4.out HO4.out (fun i hi hne Y u h => by
                match i, hi with
                | 0, _ => exact h
                | 1, _ => exact h
                | 2, _ => exact h
                | 3, _ => exact h
                | 4, _ => exact h
                | 5, _ => exact absurd rfl hne) rfl rfl rfl rfl)
              have FZ := hid (((FT1.out.trans (FA.out.mono (M := fun k => bi ≤ k) (fun _ _ h => h.elim)) (fun _ _ h => h)).trans HF4.out (fun i hi h => by have := (HA.out.ownTag (j := 5) (v := v5) rfl h).1; exact this)).setCell ⟨gs, 5, none⟩ (.slice A4 (((m.elems.take k).foldl SpV.elem (SpV.s6 m)).elems ++ [el.type]).length c4) (fun _ => HA.out.ls))
              have GZ := hid (((G1.out.fr FA.out (fun x => x)).fr HF4.out (fun e => by
                obtain ⟨_, h2, cs, hb⟩ := HS1.out.ownTag (j := 5) (v := v5) rfl e
                have := HSG.out g (.inr (.inr (.inr (.inr (.inr ⟨v5, by simp, e.symm⟩)))))
                omega)).far (p := ⟨gs, 5, none⟩) (fun e => by have := HSG.out gs (.inr (.inl rfl)); simp only at e; omega) (.slice A4 (((m.elems.take k).foldl SpV.elem (SpV.s6 m)).elems ++ [el.type]).length c4))
              simp only [List.length_append, List.length_map, List.length_take, List.length_cons, List.length_nil, Nat.zero_add, Nat.add_assoc] at HZ FZ GZ
              clear HX HS1 HA FA FX3 HR4 HF4 HO4 HB4 HS
              have hinit : ∀ Y, Fr (fun k => bi ≤ k) W Y → tIns.slice.els Y (· < w.heap.size) Aq el.items := fun Y q => HIN.out.keep (fun p hp => by
                have h1 := (HLow.out _ q).cell (p := p) hp (fun x => x)
                have h2 := (HLow.out _ HFr.out).cell (p := p) hp (fun x => x)
                rw [h1, h2])
              have HIT := hid hinit
              clear hinit
              generalize w4.setCell ⟨gs, 5, none⟩ (.slice A4 (((m.elems.take k).foldl SpV.elem (SpV.s6 m)).elems.length + 1) c4) = w5 at *
              have y4 : w5.cell? ⟨g, 4, none⟩ = some (.slice Aq el.items.length cq) := GZ.out.cell 4
              have HO5 : Hid (OfSt W bi gx gs bi bd ni (100 * 140737488351232 + k * (500 * 140737488351232)) { (m.elems.take k).foldl SpV.elem (SpV.s6 m) with elems := ((m.elems.take k).foldl SpV.elem (SpV.s6 m)).elems ++ [el.type] } w5) := ⟨FZ.out, _, _, _, _, _, _, _, HZ.out⟩
              have hil : el.items.length ≤ 500 := HIL.out
              clear HZ FZ GZ HFr HIN
              go_wp2
              clear y4
              obtain ⟨wo, hwo⟩ : ∃ wo : World, wo = wr := ⟨_, rfl⟩
              clear hwo
              have hnI : Hid (∃ nI : Nat, el.items.length = nI) := ⟨_, rfl⟩
              generalize hII : el.items.length = nI at *
              have HEI := hid hII
              clear hII hnI
              go_loopw [142] (fun i wq => ∃ q : Nat, i = .int .i64 q ∧ q ≤ nI ∧ Hid (OfSt W bi gx gs bi bd ni ((100 * 140737488351232 + k * (500 * 140737488351232)) + q * 140737488351232) { (m.elems.take k).foldl SpV.elem (SpV.s6 m) with elems := ((m.elems.take k).foldl SpV.elem (SpV.s6 m)).elems ++ [el.type], dec := (el.items.take q).foldl decUp ((m.elems.take k).foldl SpV.elem (SpV.s6 m)).dec } wq)) (fun i _ => nI - (intOf i).toNat)
              case atStart => as_aux_lemma => exact ⟨0, rfl, by omega, by rw [Hid, Nat.zero_mul, Nat.add_zero, List.take_zero, List.foldl_nil]; exact HO5.out⟩
              case round => as_aux_lemma =>
                obtain ⟨q, rfl, hq, HQk⟩ := hrel
                clear HO5
                rcases Nat.lt_or_ge q nI with hql | hqe
                · obtain ⟨hFr, ST, v0, v1, v2, v3, v4, v5, hS⟩ := HQk.out
                  have hql' : q < el.items.length := by rw [HEI.out]; exact hql
                  obtain ⟨bq, oq, Ax, cx, hAq, hbq, y0, hex⟩ := lists_at (HIT.out _ hFr) q hql'
                  subst hAq
                  have HFr := hid hFr
                  have HS := hid hS
                  have HEX := hid hex
                  have HTQ := hid (foldl_take (f := decUp) (a := ((m.elems.take k).foldl SpV.elem (SpV.s6 m)).dec) hql')
                  have HXL := hid (HII.out _ (List.getElem_mem hql'))
                  have j0 : (0 : Int) ≤ q := by omega
                  have j1 : (q : Int) < nI := by omega
                  clear hFr hS hex
                  generalize el.items[q] = ix at *
                  go_wp2_with fail
                  have HB := hid (name_any bi _ gx gs bi bd _ (· < w.heap.size) ni _ _ _ _ _ _ _ _ ix ix.length cx Ax HS.out HEX.out (fun k hk => by omega) rfl HXL.out (by omega))
                  refine HB.out.mono ?_
                  clear HB
                  rintro e w6 ⟨rfl, hS6, hF6⟩
                  have HS6 := hid (hS6.monoD (n' := (100 * 140737488351232 + k * (500 * 140737488351232)) + (q + 1) * 140737488351232) (by have := HXL.out; omega))
                  have HF6 := hid (HFr.out.trans hF6 (fun i hi h => by simp only [One] at h; have := HS.out.ld; omega))
                  clear hS6 hF6
                  go_wp2
                  go_roundw
                  case rel => exact ⟨q + 1, by go_num, by omega, by rw [Hid, HTQ.out]; exact ⟨HF6.out, _, _, _, _, _, _, _, HS6.out⟩⟩
                  case measure => simp [intOf]; omega
                have HOe : Hid (OfSt W bi gx gs bi bd ni (100 * 140737488351232 + (k + 1) * (500 * 140737488351232)) (((m.elems.take k).foldl SpV.elem (SpV.s6 m)).elem el) wr) := by as_aux_lemma =>
                  obtain ⟨h1, ST, v0, v1, v2, v3, v4, v5, h2⟩ := HQk.out
                  rw [show el.items.take q = el.items from List.take_of_length_le (by rw [HEI.out]; exact hqe)] at h2
                  exact ⟨h1, _, _, _, _, _, _, _, h2.monoD (by omega)⟩
                go_wp2
                go_roundw
                case rel => exact ⟨k + 1, by go_num, by omega, by rw [Hid, HTK.out]; exact HOe.out⟩
                case measure => simp [intOf]; omega
            obtain rfl : nel = k := by omega
            have HO : Hid (OfSt W bi gx gs bi bd ni (4000000000000000000) (SpV.s7 m) wr) := by
              obtain ⟨h1, ST, v0, v1, v2, v3, v4, v5, h2⟩ := HOk.out
              rw [show m.elems.take nel = m.elems from List.take_of_length_le (by rw [eel.out]; exact Nat.le_refl _)] at h2
              exact ⟨h1, _, _, _, _, _, _, _, h2.monoD (by omega)⟩
            clear HOk
            obtain ⟨x0, x1, x2, x3, x4, x5, x6, x7, x8, x9, x10, x11⟩ := HM.out _ HO.out.1
            go_wp2
            clear x0 x1 x2 x3 x4 x5 x6 x7 x8 x9 x10 x11
            go_loopw [154] (fun i wr => ∃ k : Nat, i = .int .i64 k ∧ k ≤ ne ∧ Hid (OfSt W bi gx gs bi bd ni (4000000000000000000 + k) ((m.exports.take k).foldl SpV.exp (SpV.s7 m)) wr)) (fun i _ => ne - (intOf i).toNat)
            case atStart => as_aux_lemma => exact ⟨0, rfl, by omega, by have := HO.out; simpa [Hid] using this⟩
            case round => as_aux_lemma =>
              obtain ⟨k, rfl, hk, HOk⟩ := hrel
              clear HO
              rcases Nat.lt_or_ge k ne with hlt | hge
              · obtain ⟨hFr, ST, v0, v1, v2, v3, v4, v5, hS⟩ := HOk.out
                have hlt' : k < m.exports.length := by rw [ee.out]; exact hlt
                have hels := hi.out.exports.fr (HLow.out _ hFr) (fun k hk => ⟨hk, fun x => x⟩)
                obtain ⟨b, o, rfl, hb, y0, y1, y2, _, _, q2⟩ := Ex_at hels k hlt'
                have HFr := hid hFr
                have HS := hid hS
                have HTK := hid (foldl_take (f := SpV.exp) (a := SpV.s7 m) hlt')
                have HWA := hid q2
                have hbw : b < wr.heap.size := Nat.lt_of_lt_of_le hb (HLow.out _ hFr).size
                have i0 : (0 : Int) ≤ k := by omega
                have i1 : (k : Int) < ne := by omega
                clear hFr hS q2 hels
                generalize m.exports[k] = ex at *
                have F1 := hid ((Fr.refl No wr).alloc (.cells #[.string ex.name, .int .i64 ex.kind, .int .i64 ex.index] 108))
                have G1 := hid (Blk.new wr 108 #[.string ex.name, .int .i64 ex.kind, .int .i64 ex.index])
                cases hkd : (ex.kind == 0) with
                | false =>
                  have HKD := hid hkd
                  go_wp2
                  go_roundw
                  case rel => exact ⟨k + 1, by go_num, by omega, by
                    have h0 : ¬ ex.kind = 0 := by have := HKD.out; simpa using this
                    rw [Hid, HTK.out, SpV.exp, if_neg h0]
                    exact ⟨HFr.out.trans (F1.out.mono (M := fun k => bi ≤ k) (fun _ _ h => h.elim)) (fun _ _ h => h), _, _, _, _, _, _, _, (HS.out.frNo F1.out).monoD (by omega)⟩⟩
                  case measure => simp [intOf]; omega
                | true =>
                  have HKD := hid hkd
                  go_wp2
                  have HA := hid (HS.out.frNo F1.out.drew)
                  generalize wr.alloc (.cells #[.string ex.name, .int .i64 ex.kind, .int .i64 ex.index] 108) = W1 at *
                  generalize wr.heap.size = g at *
                  obtain ⟨w1, hrun, hm1, hf1⟩ := HA.out.md.put (v := true) Try.underlying91 Try.underlying3 Try.underlying4 (by simp only [maxLen]; omega) HWA.out
                  have HRUN := hid hrun
                  have HP := hid (HA.out.putB hm1 hf1)
                  have HF1 := hid hf1
                  clear hrun hm1 hf1
                  refine wp_region_ord (fun Y => Y.cell? ⟨gx, 0, none⟩ = some (.pointer (some ⟨gs, 0, none⟩)) ∧ Y.cell? ⟨gs, 8, none⟩ = some (.map (some bd)) ∧ Y.cell? ⟨g, 2, none⟩ = some (.int .i64 ex.index)) [6] [(0, true), (1, true), (2, true), (3, true), (4, true), (5, true), (6, false)] (by kernel_rfl) (by kernel_rfl) (by kernel_rfl) rfl ⟨HA.out.hx.cell 0, HA.out.hs.cell 8, G1.out.drew.cell 2⟩ ?_
                  repeat (first
                    | (refine wpO_skip rfl rfl ?_; simp only [List.getElem_toArray, List.getElem_cons_succ, List.getElem_cons_zero, Act.put, List.setIfInBounds_toArray, List.set_cons_zero, List.set_cons_succ])
                    | (refine wpO_call rfl rfl ?_; simp only [List.getElem_toArray, List.getElem_cons_succ, List.getElem_cons_zero]; apply Exists.intro; refine ⟨fun X hX => ?_, ?_⟩
                       · (have s0 := hX.1; have s1 := hX.2.1; have s2 := hX.2.2; go_simp; exact stillUpon_value)
                       simp only [Act.put, List.setIfInBounds_toArray, List.set_cons_zero, List.set_cons_succ]))
                  refine wpO_eff rfl rfl (fun K hK => ?_)
                  simp only [List.getElem_toArray, List.getElem_cons_succ, List.getElem_cons_zero]
                  go_simp
                  rw [HRUN.out]
                  go_simp
                  refine hK _ _ (fun h => by cases h) ?_
                  clear hK K
                  refine wpO_nil ?_
                  go_wp2
                  go_roundw
                  case rel => exact ⟨k + 1, by go_num, by omega, by
                    have h0 : ex.kind = 0 := by have := HKD.out; simpa using this
                    rw [Hid, HTK.out, SpV.exp, if_pos h0]
                    exact ⟨(HFr.out.trans (F1.out.drew.mono (M := fun k => bi ≤ k) (fun _ _ h => h.elim)) (fun _ _ h => h)).trans HF1.out (fun i hi h => by simp only [One] at h; have := HA.out.ld; omega), _, _, _, _, _, _, _, HP.out⟩⟩
                  case measure => simp [intOf]; omega
              obtain rfl : ne = k := by omega
              obtain ⟨hFr, ST, v0, v1, v2, v3, v4, v5, hS⟩ := HOk.out
              rw [show m.exports.take ne = m.exports from List.take_of_length_le (by rw [ee.out]; exact Nat.le_refl _)] at hS
              have HFr := hid hFr
              have HS := hid hS
              have z0 : wr.cell? ⟨gx, 0, none⟩ = some (.pointer (some ⟨gs, 0, none⟩)) := HS.out.hx.cell 0
              clear hFr hS HOk
              go_wp2
              go_ret
              exact ⟨wr.heap.size, gx, gs, bi, bd, ni, _, ST, v0, v1, v2, v3, v4, v5, rfl, Blk.new wr 71 #[.pointer (some ⟨gs, 0, none⟩)], (HS.out.frNo ((Fr.refl No wr).alloc _)).base (by omega), (HLow.out _ HFr.out).alloc _⟩
end Go.Proofs.Ytfngopoaegofhaa
