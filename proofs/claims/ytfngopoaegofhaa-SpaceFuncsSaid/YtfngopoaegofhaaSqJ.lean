/- The law SpaceFuncs: the loop that copies the types. -/
import Derived.Test.YtfngopoaegofhaaSqI
import Derived.Test.YtfngopoaegofhaaOrf
import Derived.Test.YtfngopoaegofhaaSpZ
import Derived.Deep.DeepCutAuto
namespace Go.Proofs.Ytfngopoaegofhaa
open Go.RowKit

/-- Two fresh lists in different blocks. -/
structure TwoR (base : Nat) (Y : World) (u1 : Value) (l1 : List Int) (u2 : Value) (l2 : List Int) : Prop where
  r1 : tI.row Y base Emp 50 u1 l1
  r2 : tI.row Y base Emp 50 u2 l2
  ne : ∀ g, u1.ownBlock = some g → u2.ownBlock ≠ some g
theorem TwoR.fr {base : Nat} {Y Y' : World} {u1 u2 : Value} {l1 l2 : List Int} (h : TwoR base Y u1 l1 u2 l2) (f : Fr No Y Y') : TwoR base Y' u1 l1 u2 l2 :=
  ⟨h.r1.fr f (fun _ h => h.elim) (fun _ _ h => h), h.r2.fr f (fun _ h => h.elim) (fun _ _ h => h), h.ne⟩
theorem TwoR.nil (base : Nat) (Y : World) : TwoR base Y (.slice none 0 0) [] (.slice none 0 0) [] := ⟨Ty.row.nil _ _ _ _, Ty.row.nil _ _ _ _, fun g h => by cases h⟩
theorem TwoR.base {base base' : Nat} {Y : World} {u1 u2 : Value} {l1 l2 : List Int} (h : TwoR base Y u1 l1 u2 l2) (hb : base' ≤ base) : TwoR base' Y u1 l1 u2 l2 := ⟨h.r1.more hb (fun _ h => h), h.r2.more hb (fun _ h => h), h.ne⟩
theorem own_lt {base : Nat} {Y : World} {u : Value} {l : List Int} (h : tI.row Y base Emp 50 u l) {g : Nat} (hg : u.ownBlock = some g) : g < Y.heap.size := by
  obtain ⟨_, _, hb⟩ := h.own hg
  exact hb.lt
theorem TwoR.lit1 {base : Nat} {Y : World} {u1 u2 : Value} {l1 l2 : List Int} (h : TwoR base Y u1 l1 u2 l2) (hb : base ≤ Y.heap.size) : TwoR base (Y.alloc (.cells #[] 50)) (.slice (some ⟨Y.heap.size, 0, none⟩) 0 0) [] u2 l2 :=
  ⟨Ty.row.lit (t := tI) (css := []) (xs := []) (Blk.new Y 50 #[]) hb Css.nil (by decide), (h.fr ((Fr.refl No Y).alloc _)).r2, fun g hg e => by
    have := own_lt h.r2 e
    have hq : Y.heap.size = g := by simpa [Value.ownBlock] using hg
    omega⟩
theorem TwoR.lit2 {base : Nat} {Y : World} {u1 u2 : Value} {l1 l2 : List Int} (h : TwoR base Y u1 l1 u2 l2) (hb : base ≤ Y.heap.size) : TwoR base (Y.alloc (.cells #[] 50)) u1 l1 (.slice (some ⟨Y.heap.size, 0, none⟩) 0 0) [] :=
  ⟨(h.fr ((Fr.refl No Y).alloc _)).r1, Ty.row.lit (t := tI) (css := []) (xs := []) (Blk.new Y 50 #[]) hb Css.nil (by decide), fun g hg e => by
    have := own_lt h.r1 hg
    have hq : Y.heap.size = g := by simpa [Value.ownBlock] using e
    omega⟩
theorem TwoR.app1 {base : Nat} {Y Y' : World} {u1 u2 v : Value} {l1 l2 l : List Int} (h : TwoR base Y u1 l1 u2 l2) (hr : tI.row Y' base Emp 50 v l) (f : Fr (fun k => some k = u1.ownBlock) Y Y') (hv : v.ownBlock = u1.ownBlock ∨ v.ownBlock = some Y.heap.size) : TwoR base Y' v l u2 l2 :=
  ⟨hr, h.r2.fr f (fun _ h => h.elim) (fun k hk e => h.ne k e.symm hk), fun g hg e => by
    rcases hv with hv | hv
    · rw [hv] at hg; exact h.ne g hg e
    · rw [hv] at hg; injection hg with hg; have := own_lt h.r2 e; omega⟩
theorem TwoR.app2 {base : Nat} {Y Y' : World} {u1 u2 v : Value} {l1 l2 l : List Int} (h : TwoR base Y u1 l1 u2 l2) (hr : tI.row Y' base Emp 50 v l) (f : Fr (fun k => some k = u2.ownBlock) Y Y') (hv : v.ownBlock = u2.ownBlock ∨ v.ownBlock = some Y.heap.size) : TwoR base Y' u1 l1 v l :=
  ⟨h.r1.fr f (fun _ h => h.elim) (fun k hk e => h.ne k hk e.symm), hr, fun g hg e => by
    rcases hv with hv | hv
    · rw [hv] at e; exact h.ne g hg e
    · rw [hv] at e; injection e with e; have := own_lt h.r1 hg; omega⟩
/-- The copied types so far: the row of the copies, what they rest on, the module's own copy in the block nb. -/
structure CT (m : Md) (W : World) (nb : Nat) (rest : List Value) (k : Nat) (v : Value) (S : Nat → Prop) (wr : World) : Prop where
  row : tFn.row wr (nb + 1) S 38 v (m.types.take k)
  sok : ∀ j, S j → nb + 1 ≤ j ∧ v.ownBlock ≠ some j ∧ ∃ cs, Blk wr j 50 cs
  nbk : Blk wr nb 33 (v :: rest).toArray
  fr : Fr No W wr
def S3 (S : Nat → Prop) (u1 u2 : Value) : Nat → Prop := fun j => S j ∨ u1.ownBlock = some j ∨ u2.ownBlock = some j
theorem CT.pre {m : Md} {W wr Z : World} {nb k n1 n2 c1 c2 : Nat} {rest : List Value} {v : Value} {S : Nat → Prop} {A1 A2 : Option Addr} {fk : Fn} (H : CT m W nb rest k v S wr) (f : Fr No wr Z) (R : TwoR (nb + 1) Z (.slice A1 n1 c1) fk.params (.slice A2 n2 c2) fk.results) (h1 : fk.params.length = n1) (h2 : fk.results.length = n2) :
    tFn.row Z (nb + 1) (S3 S (.slice A1 n1 c1) (.slice A2 n2 c2)) 38 v (m.types.take k) ∧ Css tFn Z (S3 S (.slice A1 n1 c1) (.slice A2 n2 c2)) [[.slice A1 n1 c1, .slice A2 n2 c2]] [fk] ∧ ∀ j, S3 S (.slice A1 n1 c1) (.slice A2 n2 c2) j → j < Z.heap.size ∧ ¬ some j = v.ownBlock := by
  refine ⟨(H.row.fr f (fun j hj => ?_) (fun _ _ h => h)).more (Nat.le_refl _) (fun _ h => .inl h), Css.one ?_, fun j hj => ?_⟩
  · obtain ⟨_, _, cs, hb⟩ := H.sok j hj
    exact ⟨hb.lt, fun x => x⟩
  · obtain ⟨A1', c1', e1, l1, b1, k1⟩ := R.r1.els (S' := S3 S (.slice A1 n1 c1) (.slice A2 n2 c2)) (fun _ h => h.elim) (fun g hg => .inr (.inl hg))
    obtain ⟨A2', c2', e2, l2, b2, k2⟩ := R.r2.els (S' := S3 S (.slice A1 n1 c1) (.slice A2 n2 c2)) (fun _ h => h.elim) (fun g hg => .inr (.inr hg))
    injection e1 with e1 _ e3
    injection e2 with e2 _ e4
    subst e1 e2 e3 e4 h1 h2
    exact Fn_mk l1 b1 k1 l2 b2 k2
  · have hown : ∀ g, v.ownBlock = some g → ∃ cs, Blk Z g 38 cs := fun g hg => by
      obtain ⟨_, cs, hb⟩ := H.row.own hg
      exact ⟨cs, hb.fr f (fun x => x)⟩
    rcases hj with hj | hj | hj
    · obtain ⟨_, hn, cs, hb⟩ := H.sok j hj
      exact ⟨Nat.lt_of_lt_of_le hb.lt f.size, fun e => hn e.symm⟩
    · obtain ⟨_, cs, hb⟩ := R.r1.own hj
      exact ⟨hb.lt, fun e => by obtain ⟨cs', hb'⟩ := hown j e.symm; exact Blk.ne_ hb hb' (by decide) rfl⟩
    · obtain ⟨_, cs, hb⟩ := R.r2.own hj
      exact ⟨hb.lt, fun e => by obtain ⟨cs', hb'⟩ := hown j e.symm; exact Blk.ne_ hb hb' (by decide) rfl⟩
theorem CT.next {m : Md} {W wr Z Z2 : World} {nb k n1 n2 c1 c2 : Nat} {rest : List Value} {v v' : Value} {S : Nat → Prop} {A1 A2 : Option Addr} {fk : Fn} (H : CT m W nb rest k v S wr) (hW : W.heap.size ≤ nb) (f : Fr No wr Z) (R : TwoR (nb + 1) Z (.slice A1 n1 c1) fk.params (.slice A2 n2 c2) fk.results)
    (hr : tFn.row Z2 (nb + 1) (S3 S (.slice A1 n1 c1) (.slice A2 n2 c2)) 38 v' (m.types.take k ++ [fk])) (fr : Fr (fun j => some j = v.ownBlock) Z Z2) (hv : v'.ownBlock = v.ownBlock ∨ v'.ownBlock = some Z.heap.size) (hfk : m.types[k]? = some fk) :
    ∃ (A : Option Addr) (c : Nat), v' = .slice A (k + 1) c ∧ Blk Z2 nb 33 (v :: rest).toArray ∧ CT m W nb rest (k + 1) v' (S3 S (.slice A1 n1 c1) (.slice A2 n2 c2)) (Z2.setCell ⟨nb, 0, none⟩ v') := by
  have hk : k < m.types.length := (List.getElem?_eq_some_iff.1 hfk).1
  have hfk' : m.types[k] = fk := by rw [List.getElem?_eq_getElem hk] at hfk; injection hfk
  have htk : m.types.take k ++ [fk] = m.types.take (k + 1) := by rw [List.take_succ_eq_append_getElem hk, hfk']
  rw [htk] at hr
  have hvnb : ∀ g, v.ownBlock = some g → nb + 1 ≤ g := fun g hg => (H.row.own hg).1
  have hb2 : Blk Z2 nb 33 (v :: rest).toArray := (H.nbk.fr f (fun x => x)).fr fr (fun e => by have := hvnb nb e.symm; omega)
  have hS : ∀ j, S3 S (.slice A1 n1 c1) (.slice A2 n2 c2) j → nb + 1 ≤ j ∧ v.ownBlock ≠ some j ∧ ∃ cs, Blk Z j 50 cs := fun j hj => by
    have hown : ∀ g, v.ownBlock = some g → ∃ cs, Blk Z g 38 cs := fun g hg => by
      obtain ⟨_, cs, hb⟩ := H.row.own hg
      exact ⟨cs, hb.fr f (fun x => x)⟩
    rcases hj with hj | hj | hj
    · obtain ⟨h1, hn, cs, hb⟩ := H.sok j hj
      exact ⟨h1, hn, cs, hb.fr f (fun x => x)⟩
    · obtain ⟨h1, cs, hb⟩ := R.r1.own hj
      exact ⟨h1, fun e => by obtain ⟨cs', hb'⟩ := hown j e; exact Blk.ne_ hb hb' (by decide) rfl, cs, hb⟩
    · obtain ⟨h1, cs, hb⟩ := R.r2.own hj
      exact ⟨h1, fun e => by obtain ⟨cs', hb'⟩ := hown j e; exact Blk.ne_ hb hb' (by decide) rfl, cs, hb⟩
  have hS2 : ∀ j, S3 S (.slice A1 n1 c1) (.slice A2 n2 c2) j → nb + 1 ≤ j ∧ v'.ownBlock ≠ some j ∧ ∃ cs, Blk Z2 j 50 cs := fun j hj => by
    obtain ⟨h1, h2, cs, hb⟩ := hS j hj
    refine ⟨h1, fun e => ?_, cs, hb.fr fr (fun e => h2 e.symm)⟩
    rcases hv with hv | hv
    · rw [hv] at e; exact h2 e
    · rw [hv] at e; injection e with e; have := hb.lt; omega
  obtain ⟨A, c, e, -⟩ := hr.els (S' := fun _ => True) (fun _ _ => trivial) (fun _ _ => trivial)
  have hl : (m.types.take (k + 1)).length = k + 1 := by rw [List.length_take]; omega
  rw [hl] at e
  have FS := (Fr.refl (One nb) Z2).setCell ⟨nb, 0, none⟩ v' (fun _ => rfl)
  have hv'nb : ∀ g, v'.ownBlock = some g → nb + 1 ≤ g := fun g hg => (hr.own hg).1
  refine ⟨A, c, e, hb2, hr.fr FS (fun j hj => ?_) (fun j hj h => by have := hv'nb j hj; unfold One at h; omega), fun j hj => ?_, ?_, ?_⟩
  · obtain ⟨h1, _, cs, hb⟩ := hS2 j hj
    exact ⟨hb.lt, fun h => by unfold One at h; omega⟩
  · obtain ⟨h1, h2, cs, hb⟩ := hS2 j hj
    exact ⟨h1, h2, cs, hb.fr FS (fun h => by unfold One at h; omega)⟩
  · have := hb2.set_ 0 v'
    simpa using this
  · exact ((H.fr.trans f (fun _ _ h => h)).trans fr (fun i hi e => by have := hvnb i e.symm; exact absurd hi (by omega))).trans FS (fun i hi h => by unfold One at h; exact absurd hi (by omega))
theorem atFn_small {l : List Fn} (h : ∀ f ∈ l, f.params.length * 8 ≤ 140737488351232 ∧ f.results.length * 8 ≤ 140737488351232) (i : Int) : (atD zFn l i).1.params.length ≤ 140737488351232 ∧ (atD zFn l i).1.results.length ≤ 140737488351232 := by
  unfold atD
  split
  · rename_i hi
    have := h _ (List.getElem_mem (n := i.toNat) (by omega))
    simp only
    omega
  · exact ⟨by decide, by decide⟩
theorem funcD_small {x : SpV} (h : ∀ f ∈ x.types, f.params.length * 8 ≤ 140737488351232 ∧ f.results.length * 8 ≤ 140737488351232) (i : Int) : (funcD x i).1.params.length ≤ 140737488351232 ∧ (funcD x i).1.results.length ≤ 140737488351232 := by
  unfold funcD
  split
  · exact atFn_small h _
  · exact ⟨by decide, by decide⟩
/-- An element of a row of function types. -/
theorem fnRow_at {w : World} {base c : Nat} {S : Nat → Prop} {e : TypeId} {A : Option Addr} {l : List Fn} (h : tFn.row w base S e (.slice A l.length c) l) (j : Nat) (hj : j < l.length) :
    ∃ (b o : Nat) (A1 : Option Addr) (c1 : Nat) (A2 : Option Addr) (c2 : Nat), A = some ⟨b, o, none⟩ ∧ w.cell? ⟨b, o + j * 2, none⟩ = some (.slice A1 l[j].params.length c1) ∧ w.cell? ⟨b, o + j * 2 + 1, none⟩ = some (.slice A2 l[j].results.length c2) ∧ tI.els w S A1 l[j].params ∧ tI.els w S A2 l[j].results := by
  obtain ⟨css, h1, h2⟩ := h.rd
  have hjc : j < css.length := by rw [h1.1]; exact hj
  have hr := h1.2 j _ _ (List.getElem?_eq_getElem hjc) (List.getElem?_eq_getElem hj)
  have hg := fun (i : Nat) (u : Value) (hu : css[j][i]? = some u) => flat_get h1.lens (List.getElem?_eq_getElem hjc) hu
  obtain ⟨A1, c1, A2, c2, hc, _, _, e1, _, _, e2⟩ := Fn_cells hr
  rw [hc] at hg
  have g0 := hg 0 _ rfl
  have g1 := hg 1 _ rfl
  rw [show tFn.size = 2 from rfl] at g0 g1
  rcases h2 with h2 | ⟨b, o, e, _, h2⟩
  · rw [h2] at g0; cases g0
  · exact ⟨b, o, A1, c1, A2, c2, e, h2 _ _ g0, h2 _ _ g1, e1, e2⟩
theorem intRow_els {w : World} {S : Nat → Prop} {A : Option Addr} {l : List Int} (h : tI.els w S A l) (hb : ∀ j, S j → ∃ cs, Blk w j 50 cs) : IntRow w A l.length ∧ InM S A l.length := by
  rcases Nat.eq_zero_or_pos l.length with h0 | h0
  · exact ⟨.inl h0, fun hne => absurd h0 hne⟩
  · obtain ⟨b, o, e, hS, _⟩ := ints_at h 0 h0
    obtain ⟨cs, hB⟩ := hb b hS
    refine ⟨.inr ⟨b, o, e, hB.lt, fun i hi => ⟨?_, hB.frozen _⟩⟩, fun _ b' o' e' => ?_⟩
    · obtain ⟨b', o', e', _, hc, _⟩ := ints_at h i hi
      rw [e] at e'
      injection e' with e'
      injection e' with e1 e2 _
      subst e1 e2
      exact ⟨_, hc⟩
    · rw [e] at e'
      injection e' with e'
      injection e' with e1 _ _
      rw [← e1]; exact hS
theorem SpP.frS {base : Nat} {X X' : World} {p gx gs bi bd : Nat} {ST M : Nat → Prop} {nI nD : Nat} {v0 v1 v2 v3 v4 v5 : Value} {x : SpV} (h : SpP base X p gx gs bi bd ST nI nD v0 v1 v2 v3 v4 v5 x) (f : Fr M X X') (hM : ∀ k, M k → k < base ∧ ∃ cs, Blk X k 50 cs) : SpP base X' p gx gs bi bd ST nI nD v0 v1 v2 v3 v4 v5 x :=
  ⟨h.hp.fr f (fun hp => by obtain ⟨_, cs, hb⟩ := hM _ hp; exact Blk.ne_ h.hp hb (by decide) rfl), h.st.fr f (fun k hk hm => by have := (h.st.lt hk).1; have := (hM _ hm).1; omega)⟩
set_option maxRecDepth 100000 in
set_option maxHeartbeats 12800000 in
theorem sfuncs_t (nt ni nf nta nm ng ne nel nd nc ct ci cf cta cm cg ce cel cd cc : Nat) (At Ai Af Ata Am Ag Ae Ael Ad Ac : Option Addr) (bst : Bool) (vst : Int) (w : World) (m : Md) (i : Int) (hw : -9223372036854775808 ≤ i ∧ i ≤ 9223372036854775807) (hbst : m.hasStart = bst) (hvst : m.start = vst)
    (hIN : FewOk m.elems nt ni nf nta nm ng ne nel nd → MdIn w m At Ai Af Ata Am Ag Ae Ael) (hel : tEl.els w (· < w.heap.size) Ael m.elems) (hit : ∀ e ∈ m.elems, e.items.length ≤ 140737488351232)
    (et : Hid (m.types.length = nt)) (ei : Hid (m.imports.length = ni)) (ef : Hid (m.funcs.length = nf)) (eta_ : Hid (m.tables.length = nta)) (em : Hid (m.mems.length = nm)) (eg : Hid (m.globals.length = ng)) (ee : Hid (m.exports.length = ne)) (eel : Hid (m.elems.length = nel)) (ed : Hid (m.datas = nd)) :
    Calls Try.prog 3 #[.agg #[.slice At nt ct, .slice Ai ni ci, .slice Af nf cf, .slice Ata nta cta, .slice Am nm cm, .slice Ag ng cg, .slice Ae ne ce, .bool bst, .int .i64 vst, .slice Ael nel cel, .slice Ad nd cd, .slice Ac nc cc], .int .i64 i] w fun e w' => e = .returned (.bool true) ∧ Fr No w w' := by
  have F0 := hid ((Fr.refl No w).alloc (.cells #[.slice At nt ct, .slice Ai ni ci, .slice Af nf cf, .slice Ata nta cta, .slice Am nm cm, .slice Ag ng cg, .slice Ae ne ce, .bool bst, .int .i64 vst, .slice Ael nel cel, .slice Ad nd cd, .slice Ac nc cc] 33))
  have G0 := hid (Blk.new w 33 #[.slice At nt ct, .slice Ai ni ci, .slice Af nf cf, .slice Ata nta cta, .slice Am nm cm, .slice Ag ng cg, .slice Ae ne ce, .bool bst, .int .i64 vst, .slice Ael nel cel, .slice Ad nd cd, .slice Ac nc cc])
  have HIN := hid hIN
  have HFW := hid (few_any nt ni nf nta nm ng ne nel nd nc ct ci cf cta cm cg ce cel cd cc At Ai Af Ata Am Ag Ae Ael Ad Ac bst vst (w.alloc (.cells #[.slice At nt ct, .slice Ai ni ci, .slice Af nf cf, .slice Ata nta cta, .slice Am nm cm, .slice Ag ng cg, .slice Ae ne ce, .bool bst, .int .i64 vst, .slice Ael nel cel, .slice Ad nd cd, .slice Ac nc cc] 33)) m.elems (· < w.heap.size) (hel.fr F0.out (fun k hk => ⟨hk, fun x => x⟩)) (fun k hk => Nat.lt_of_lt_of_le hk F0.out.size) eel hit)
  have HB := hid hbst
  have HV := hid hvst
  have HW := hid hw
  clear hIN hel hit hbst hvst hw
  go_enter Try.func3, Try.ntmps3
  go_wp2_with fail
  refine HFW.out.mono ?_
  rintro e w1 ⟨⟨r, rfl, hr⟩, f1⟩
  have F1 := hid (F0.out.trans f1 (fun _ _ h => h))
  have G1 := hid (G0.out.fr f1 (fun x => x))
  have HR := hid hr
  clear hr f1 HFW G0 F0
  cases r with
  | false =>
    go_wp2_with fail
    refine (alive_any _).mono ?_
    rintro e w2 ⟨rfl, f2⟩
    have F2 := hid (F1.out.trans f2 (fun _ _ h => h))
    clear f2
    go_wp2
    go_ret
    exact ⟨rfl, F2.out⟩
  | true =>
    have HF := hid (HR.out rfl)
    have HM := hid (HIN.out HF.out)
    have HX : Hid (∀ X, Fr No w1 X → X.cell? ⟨w.heap.size, 0, none⟩ = some (.slice At nt ct) ∧ X.cell? ⟨w.heap.size, 1, none⟩ = some (.slice Ai ni ci) ∧ X.cell? ⟨w.heap.size, 2, none⟩ = some (.slice Af nf cf) ∧ X.cell? ⟨w.heap.size, 3, none⟩ = some (.slice Ata nta cta) ∧ X.cell? ⟨w.heap.size, 4, none⟩ = some (.slice Am nm cm) ∧ X.cell? ⟨w.heap.size, 5, none⟩ = some (.slice Ag ng cg) ∧ X.cell? ⟨w.heap.size, 6, none⟩ = some (.slice Ae ne ce) ∧ X.cell? ⟨w.heap.size, 7, none⟩ = some (.bool bst) ∧ X.cell? ⟨w.heap.size, 8, none⟩ = some (.int .i64 vst) ∧ X.cell? ⟨w.heap.size, 9, none⟩ = some (.slice Ael nel cel) ∧ X.cell? ⟨w.heap.size, 10, none⟩ = some (.slice Ad nd cd) ∧ X.cell? ⟨w.heap.size, 11, none⟩ = some (.slice Ac nc cc)) := fun X f => by
      have h := G1.out.fr f (fun x => x)
      exact ⟨h.cell 0, h.cell 1, h.cell 2, h.cell 3, h.cell 4, h.cell 5, h.cell 6, h.cell 7, h.cell 8, h.cell 9, h.cell 10, h.cell 11⟩
    have hsz1 := G1.out.lt
    clear HR HIN G1
    obtain ⟨x0, x1, x2, x3, x4, x5, x6, x7, x8, x9, x10, x11⟩ := HX.out _ (Fr.refl No w1)
    have hmw := HF.out.lt
    have F1a := hid ((Fr.refl No w1).alloc (.cells #[.slice At nt ct, .slice Ai ni ci, .slice Af nf cf, .slice Ata nta cta, .slice Am nm cm, .slice Ag ng cg, .slice Ae ne ce, .bool bst, .int .i64 vst, .slice Ael nel cel, .slice Ad nd cd, .slice Ac nc cc] 33))
    have GN := hid (Blk.new w1 33 #[.slice At nt ct, .slice Ai ni ci, .slice Af nf cf, .slice Ata nta cta, .slice Am nm cm, .slice Ag ng cg, .slice Ae ne ce, .bool bst, .int .i64 vst, .slice Ael nel cel, .slice Ad nd cd, .slice Ac nc cc])
    have zc := GN.out.cell 0
    have zf := GN.out.frozen 0
    have hnw1 := GN.out.lt
    go_upto_region 5 with fail
    have HCT0 : Hid (CT m w1 w1.heap.size [.slice Ai ni ci, .slice Af nf cf, .slice Ata nta cta, .slice Am nm cm, .slice Ag ng cg, .slice Ae ne ce, .bool bst, .int .i64 vst, .slice Ael nel cel, .slice Ad nd cd, .slice Ac nc cc] 0 (.slice none 0 0) (fun _ => False) (w1.alloc (.cells #[.slice none 0 0, .slice Ai ni ci, .slice Af nf cf, .slice Ata nta cta, .slice Am nm cm, .slice Ag ng cg, .slice Ae ne ce, .bool bst, .int .i64 vst, .slice Ael nel cel, .slice Ad nd cd, .slice Ac nc cc] 33))) := by
      refine ⟨?_, fun _ h => h.elim, Blk.new w1 _ _, (Fr.refl No w1).alloc _⟩
      rw [List.take_zero]
      exact Ty.row.nil _ _ _ _
    clear F1a GN zc zf hnw1 x0 x1 x2 x3 x4 x5 x6 x7 x8 x9 x10 x11
    obtain ⟨nb, hnb⟩ : ∃ nb, w1.heap.size = nb := ⟨_, rfl⟩
    generalize w1.alloc (.cells #[.slice none 0 0, .slice Ai ni ci, .slice Af nf cf, .slice Ata nta cta, .slice Am nm cm, .slice Ag ng cg, .slice Ae ne ce, .bool bst, .int .i64 vst, .slice Ael nel cel, .slice Ad nd cd, .slice Ac nc cc] 33) = W2 at *
    rw [hnb] at HCT0 hsz1 ⊢
    have hnw1 := hid hnb
    clear hnb
    go_wp2_with fail
    go_loopw [6] (fun i6 wr => ∃ (k : Nat) (AT : Option Addr) (cT : Nat) (S : Nat → Prop), k ≤ nt ∧ i6 = .int .i64 k ∧ Hid (CT m w1 nb [.slice Ai ni ci, .slice Af nf cf, .slice Ata nta cta, .slice Am nm cm, .slice Ag ng cg, .slice Ae ne ce, .bool bst, .int .i64 vst, .slice Ael nel cel, .slice Ad nd cd, .slice Ac nc cc] k (.slice AT k cT) S wr)) (fun i6 _ => nt - (intOf i6).toNat)
    case atStart => exact ⟨0, none, 0, _, by omega, rfl, HCT0⟩
    case round =>
      clear HCT0
      obtain ⟨k, AT, cT, S, hk, rfl, HCT⟩ := hrel
      have x0 := (HX.out wr HCT.out.fr).1
      by_cases hgo : k < nt
      · have hkt : k < m.types.length := by rw [et.out]; exact hgo
        obtain ⟨b, o, AP, cp, AR, cr, rfl, hb, y0, y1, _, _, e1, _, _, e2⟩ := Fn_at HM.out.types k hkt
        obtain ⟨css1, hc1, hr1⟩ := els_flat e1 (fun _ h => h)
        obtain ⟨css2, hc2, hr2⟩ := els_flat e2 (fun _ h => h)
        have hlp := HM.out.lp _ (List.getElem_mem hkt)
        have hfk0 : m.types[k]? = some m.types[k] := List.getElem?_eq_getElem hkt
        generalize m.types[k] = fk at *
        have hfk := hid hfk0
        have HLP := hid hlp
        obtain ⟨n1, hn1⟩ : ∃ n, fk.params.length = n := ⟨_, rfl⟩
        obtain ⟨n2, hn2⟩ : ∃ n, fk.results.length = n := ⟨_, rfl⟩
        rw [hn1, hn2] at HLP
        have HN1 := hid hn1
        have HN2 := hid hn2
        rw [hn1] at y0
        rw [hn2] at y1
        have HFW := hid (F1.out.trans HCT.out.fr (fun _ _ h => h))
        have HD1 : Hid ((∀ X S', Css tI X S' css1 fk.params) ∧ ∀ Z, Fr No wr Z → Rd Z w.heap.size AP css1.flatten) := hid ⟨hc1, fun Z f => hr1.fr (HFW.out.trans f (fun _ _ h => h)) (fun _ _ x => x)⟩
        have HD2 : Hid ((∀ X S', Css tI X S' css2 fk.results) ∧ ∀ Z, Fr No wr Z → Rd Z w.heap.size AR css2.flatten) := hid ⟨hc2, fun Z f => hr2.fr (HFW.out.trans f (fun _ _ h => h)) (fun _ _ x => x)⟩
        have hnw : Hid (nb + 1 ≤ wr.heap.size) := hid (Nat.succ_le_of_lt HCT.out.nbk.lt)
        have hto := hid (fun g (hg : (Value.slice AT k cT).ownBlock = some g) => (HCT.out.row.own hg).1)
        have HXW : Hid (∀ X, Fr (fun j => some j = (Value.slice AT k cT).ownBlock) wr X → X.cell? ⟨w.heap.size, 0, none⟩ = some (.slice (some ⟨b, o, none⟩) nt ct) ∧ X.cell? ⟨nb, 0, none⟩ = some (.slice AT k cT) ∧ X.cell? ⟨b, o + k * 2, none⟩ = some (.slice AP n1 cp) ∧ X.cell? ⟨b, o + k * 2 + 1, none⟩ = some (.slice AR n2 cr)) := fun X f => by
          have hw1 := hnw1.out
          have f1 : Fr No w1 X := HCT.out.fr.trans f (fun j hj e => by have := hto.out j e.symm; omega)
          have f2 : Fr No w X := F1.out.trans f1 (fun _ _ h => h)
          refine ⟨(HX.out X f1).1, (HCT.out.nbk.fr f (fun e => by have := hto.out nb e.symm; omega)).cell 0, (f2.cell (p := ⟨b, o + k * 2, none⟩) hb (fun x => x)).trans y0, (f2.cell (p := ⟨b, o + k * 2 + 1, none⟩) hb (fun x => x)).trans y1⟩
        have i0 : (0 : Int) ≤ k := by omega
        have i1 : (k : Int) < nt := by omega
        clear hc1 hc2 hr1 hr2 e1 e2 hlp hfk0 hn1 hn2 y0 y1 HFW
        go_upto_region 8 with fail
        clear x0
        have F4 := hid (Fr.refl No wr).drew
        obtain ⟨ba, hba0⟩ : ∃ ba, ba = wr.heap.size := ⟨_, rfl⟩
        have hba := hid hba0
        clear hba0
        have R2 := hid (TwoR.nil ba wr.drew)
        refine wp_region_orf (Fr (fun j => some j = (Value.slice AT k cT).ownBlock) wr) [22] (.rd 0 (.rd 1 (.rd 3 (.rd 4 (.rd 5 (.rd 6 (.rd 7 (.rd 8 (.rd 11 (.rd 12 (.rd 13 (.rd 14 (.rd 15 (.rd 16 (.alt 2 (.alt 9 (.eff 10 (.eff 17 (.rd 18 (.eff 19 (.eff 20 (.rd 21 (.eff 22 .nil))))))) 10 (.eff 9 (.eff 17 (.rd 18 (.eff 19 (.eff 20 (.rd 21 (.eff 22 .nil)))))))) 10 (.eff 2 (.eff 9 (.eff 17 (.rd 18 (.eff 19 (.eff 20 (.rd 21 (.eff 22 .nil))))))))))))))))))))))) (by kernel_rfl) (by kernel_rfl) (by kernel_rfl) rfl (Fr.refl _ wr).drew ?_
        repeat (first
          | (refine wpF_skip rfl rfl ?_; simp only [List.getElem_toArray, List.getElem_cons_succ, List.getElem_cons_zero, Act.put, List.setIfInBounds_toArray, List.set_cons_zero, List.set_cons_succ])
          | (refine wpF_call rfl rfl ?_; simp only [List.getElem_toArray, List.getElem_cons_succ, List.getElem_cons_zero]; apply Exists.intro; refine ⟨fun X hX => ?_, ?_⟩
             · (obtain ⟨s0, s1, s2, s3⟩ := HXW.out X hX; go_simp; exact stillUpon_value)
             simp only [Act.put, List.setIfInBounds_toArray, List.set_cons_zero, List.set_cons_succ]))
        refine wpF_alt ?_ ?_
        · skip
          refine wpF_eff rfl rfl (fun K hK => ?_)
          simp only [List.getElem_toArray, List.getElem_cons_succ, List.getElem_cons_zero]
          go_simp
          have F4n := hid (((Fr.refl No wr).alloc (.cells #[] 50)).drew)
          have R2n := hid (((TwoR.nil ba wr).lit1 (Nat.le_of_eq hba.out)).fr (Fr.refl No _).drew)
          obtain ⟨q1, hq1⟩ : ∃ q, wr.heap.size = q := ⟨_, rfl⟩
          rw [hq1] at R2n ⊢
          clear hq1
          generalize (wr.alloc (.cells #[] 50)).drew = Y1 at *
          clear F4 R2
          have F4 := F4n
          have R2 := R2n
          clear F4n R2n
          refine hK _ _ (fun _ => F4.out.mono (fun _ _ h => h.elim)) ?_
          clear hK K
          repeat (first
            | (refine wpF_skip rfl rfl ?_; simp only [List.getElem_toArray, List.getElem_cons_succ, List.getElem_cons_zero, Act.put, List.setIfInBounds_toArray, List.set_cons_zero, List.set_cons_succ])
            | (refine wpF_call rfl rfl ?_; simp only [List.getElem_toArray, List.getElem_cons_succ, List.getElem_cons_zero]; apply Exists.intro; refine ⟨fun X hX => ?_, ?_⟩
               · (obtain ⟨s0, s1, s2, s3⟩ := HXW.out X hX; go_simp; exact stillUpon_value)
               simp only [Act.put, List.setIfInBounds_toArray, List.set_cons_zero, List.set_cons_succ]))
          refine wpF_alt ?_ ?_
          · skip
            refine wpF_eff rfl rfl (fun K hK => ?_)
            simp only [List.getElem_toArray, List.getElem_cons_succ, List.getElem_cons_zero]
            refine opwp_appC (t := tI) (P := Try.prog) (base := ba) (S := Emp) (v := .slice (some ⟨q1, 0, none⟩) 0 0) (xs := []) (ys := fk.params) (B2 := w.heap.size) (m := n1) elVals rfl rfl rfl R2.out.r1 (HD1.out.1 _ _) (HD1.out.2 _ F4.out) HN1.out (by have := HLP.out; simp; omega) (by have := HLP.out; simp; omega) (fun _ h => h.elim) (Nat.le_trans (Nat.le_of_eq hba.out) F4.out.size) ?_
            intro v1 Y2 hr fr1 hv
            have F4n := hid (F4.out.trans fr1 (fun i hi h => by have := (R2.out.r1.own h.symm).1; have := hba.out; omega))
            have R2n := hid (R2.out.app1 (by simpa using hr) fr1 hv)
            refine hK _ _ (fun _ => F4n.out.mono (fun _ _ h => h.elim)) ?_
            clear hK K hr fr1 hv F4 R2
            have F4 := F4n
            have R2 := R2n
            clear F4n R2n
            simp only [Act.put, List.setIfInBounds_toArray, List.set_cons_zero, List.set_cons_succ]
            repeat (first
              | (refine wpF_skip rfl rfl ?_; simp only [List.getElem_toArray, List.getElem_cons_succ, List.getElem_cons_zero, Act.put, List.setIfInBounds_toArray, List.set_cons_zero, List.set_cons_succ])
              | (refine wpF_call rfl rfl ?_; simp only [List.getElem_toArray, List.getElem_cons_succ, List.getElem_cons_zero]; apply Exists.intro; refine ⟨fun X hX => ?_, ?_⟩
                 · (obtain ⟨s0, s1, s2, s3⟩ := HXW.out X hX; go_simp; exact stillUpon_value)
                 simp only [Act.put, List.setIfInBounds_toArray, List.set_cons_zero, List.set_cons_succ]))
            refine wpF_eff rfl rfl (fun K hK => ?_)
            simp only [List.getElem_toArray, List.getElem_cons_succ, List.getElem_cons_zero]
            go_simp
            have F4n := hid (F4.out.alloc (.cells #[] 50))
            have R2n := hid (R2.out.lit2 (Nat.le_trans (Nat.le_of_eq hba.out) F4.out.size))
            obtain ⟨q2, hq2⟩ : ∃ q, Y2.heap.size = q := ⟨_, rfl⟩
            rw [hq2] at R2n ⊢
            clear hq2
            generalize Y2.alloc (.cells #[] 50) = Y3 at *
            clear F4 R2
            have F4 := F4n
            have R2 := R2n
            clear F4n R2n
            refine hK _ _ (fun _ => F4.out.mono (fun _ _ h => h.elim)) ?_
            clear hK K
            repeat (first
              | (refine wpF_skip rfl rfl ?_; simp only [List.getElem_toArray, List.getElem_cons_succ, List.getElem_cons_zero, Act.put, List.setIfInBounds_toArray, List.set_cons_zero, List.set_cons_succ])
              | (refine wpF_call rfl rfl ?_; simp only [List.getElem_toArray, List.getElem_cons_succ, List.getElem_cons_zero]; apply Exists.intro; refine ⟨fun X hX => ?_, ?_⟩
                 · (obtain ⟨s0, s1, s2, s3⟩ := HXW.out X hX; go_simp; exact stillUpon_value)
                 simp only [Act.put, List.setIfInBounds_toArray, List.set_cons_zero, List.set_cons_succ]))
            refine wpF_eff rfl rfl (fun K hK => ?_)
            simp only [List.getElem_toArray, List.getElem_cons_succ, List.getElem_cons_zero]
            refine opwp_appC (t := tI) (P := Try.prog) (base := ba) (S := Emp) (v := .slice (some ⟨q2, 0, none⟩) 0 0) (xs := []) (ys := fk.results) (B2 := w.heap.size) (m := n2) elVals rfl rfl rfl R2.out.r2 (HD2.out.1 _ _) (HD2.out.2 _ F4.out) HN2.out (by have := HLP.out; simp; omega) (by have := HLP.out; simp; omega) (fun _ h => h.elim) (Nat.le_trans (Nat.le_of_eq hba.out) F4.out.size) ?_
            intro v2 Y4 hr fr1 hv
            have F4n := hid (F4.out.trans fr1 (fun i hi h => by have := (R2.out.r2.own h.symm).1; have := hba.out; omega))
            have R2n := hid (R2.out.app2 (by simpa using hr) fr1 hv)
            refine hK _ _ (fun _ => F4n.out.mono (fun _ _ h => h.elim)) ?_
            clear hK K hr fr1 hv F4 R2
            have F4 := F4n
            have R2 := R2n
            clear F4n R2n
            simp only [Act.put, List.setIfInBounds_toArray, List.set_cons_zero, List.set_cons_succ]
            obtain ⟨A1, c1, e1, -⟩ := R2.out.r1.els (S' := fun _ => True) (fun _ h => h.elim) (fun _ _ => trivial)
            obtain ⟨A2, c2, e2, -⟩ := R2.out.r2.els (S' := fun _ => True) (fun _ h => h.elim) (fun _ _ => trivial)
            rw [HN1.out] at e1
            rw [HN2.out] at e2
            subst e1 e2
            repeat (first
              | (refine wpF_skip rfl rfl ?_; simp only [List.getElem_toArray, List.getElem_cons_succ, List.getElem_cons_zero, Act.put, List.setIfInBounds_toArray, List.set_cons_zero, List.set_cons_succ])
              | (refine wpF_call rfl rfl ?_; simp only [List.getElem_toArray, List.getElem_cons_succ, List.getElem_cons_zero]; apply Exists.intro; refine ⟨fun X hX => ?_, ?_⟩
                 · (obtain ⟨s0, s1, s2, s3⟩ := HXW.out X hX; go_simp; exact stillUpon_value)
                 simp only [Act.put, List.setIfInBounds_toArray, List.set_cons_zero, List.set_cons_succ]))
            refine wpF_eff rfl rfl (fun K hK => ?_)
            simp only [List.getElem_toArray, List.getElem_cons_succ, List.getElem_cons_zero]
            go_simp
            have F4n := hid (F4.out.alloc (.cells #[.slice A1 n1 c1, .slice A2 n2 c2] 38))
            have B19 := hid (Blk.new Y4 38 #[.slice A1 n1 c1, .slice A2 n2 c2])
            have R2n := hid (R2.out.fr ((Fr.refl No Y4).alloc (.cells #[.slice A1 n1 c1, .slice A2 n2 c2] 38)))
            obtain ⟨qT, hqT⟩ : ∃ q, Y4.heap.size = q := ⟨_, rfl⟩
            rw [hqT] at B19 ⊢
            clear hqT
            generalize Y4.alloc (.cells #[.slice A1 n1 c1, .slice A2 n2 c2] 38) = Z1 at *
            clear F4 R2
            have F4 := F4n
            have R2 := R2n
            clear F4n R2n
            refine hK _ _ (fun _ => F4.out.mono (fun _ _ h => h.elim)) ?_
            clear hK K
            repeat (first
              | (refine wpF_skip rfl rfl ?_; simp only [List.getElem_toArray, List.getElem_cons_succ, List.getElem_cons_zero, Act.put, List.setIfInBounds_toArray, List.set_cons_zero, List.set_cons_succ])
              | (refine wpF_call rfl rfl ?_; simp only [List.getElem_toArray, List.getElem_cons_succ, List.getElem_cons_zero]; apply Exists.intro; refine ⟨fun X hX => ?_, ?_⟩
                 · (obtain ⟨s0, s1, s2, s3⟩ := HXW.out X hX; go_simp; exact stillUpon_value)
                 simp only [Act.put, List.setIfInBounds_toArray, List.set_cons_zero, List.set_cons_succ]))
            have HRW := hid (HCT.out.pre F4.out (R2.out.base (by have := hnw.out; have := hba.out; omega)) HN1.out HN2.out)
            refine wpF_eff rfl rfl (fun K hK => ?_)
            simp only [List.getElem_toArray, List.getElem_cons_succ, List.getElem_cons_zero]
            refine opwp_appC (t := tFn) (P := Try.prog) (base := nb + 1) (S := S3 S (.slice A1 n1 c1) (.slice A2 n2 c2)) (v := .slice AT k cT) (xs := m.types.take k) (ys := [fk]) (B2 := Z1.heap.size) (m := 1) (dss := [[.slice A1 n1 c1, .slice A2 n2 c2]]) elFns rfl rfl rfl HRW.out.1 HRW.out.2.1 (by simpa using Rd.blk B19.out B19.out.lt 0 (xs := [.slice A1 n1 c1, .slice A2 n2 c2]) (fun k u h => by rw [Nat.zero_add]; simpa using h)) rfl (by rw [List.length_take]; omega) (by rw [List.length_take]; omega) HRW.out.2.2 (by have := F4.out.size; have := hnw.out; omega) ?_
            intro v3 Z2 hr fr1 hv
            have HCN := hid (HCT.out.next (fk := fk) (Nat.le_of_eq hnw1.out) F4.out (R2.out.base (by have := hnw.out; have := hba.out; omega)) hr fr1 hv hfk.out)
            have HSV := hid ((F4.out.mono (M := fun j => some j = (Value.slice AT k cT).ownBlock) (fun _ _ h => h.elim)).trans fr1 (fun _ _ h => h))
            refine hK _ _ (fun _ => HSV.out) ?_
            clear hK K hr fr1 hv HSV B19 HRW
            simp only [Act.put, List.setIfInBounds_toArray, List.set_cons_zero, List.set_cons_succ]
            repeat (first
              | (refine wpF_skip rfl rfl ?_; simp only [List.getElem_toArray, List.getElem_cons_succ, List.getElem_cons_zero, Act.put, List.setIfInBounds_toArray, List.set_cons_zero, List.set_cons_succ])
              | (refine wpF_call rfl rfl ?_; simp only [List.getElem_toArray, List.getElem_cons_succ, List.getElem_cons_zero]; apply Exists.intro; refine ⟨fun X hX => ?_, ?_⟩
                 · (obtain ⟨s0, s1, s2, s3⟩ := HXW.out X hX; go_simp; exact stillUpon_value)
                 simp only [Act.put, List.setIfInBounds_toArray, List.set_cons_zero, List.set_cons_succ]))
            obtain ⟨AT3, cT3, e3, hb3, hc3⟩ := HCN.out
            subst e3
            have HC3 := hid hc3
            have zc := hb3.cell 0
            have zf := hb3.frozen 0
            clear hc3
            refine wpF_eff rfl rfl (fun K hK => ?_)
            simp only [List.getElem_toArray, List.getElem_cons_succ, List.getElem_cons_zero]
            go_simp
            clear zc zf hb3
            refine hK _ _ (fun h => by cases h) ?_
            clear hK K
            refine wpF_nil ?_
            clear HXW HD1 HD2 HLP hfk HCT
            go_wp2
            go_round
            case rel => exact ⟨k + 1, AT3, cT3, _, by omega, by go_num, HC3⟩
            case measure => simp [intOf]; omega
          · skip
            refine wpF_eff rfl rfl (fun K hK => ?_)
            simp only [List.getElem_toArray, List.getElem_cons_succ, List.getElem_cons_zero]
            go_simp
            have F4n := hid (F4.out.alloc (.cells #[] 50))
            have R2n := hid (R2.out.lit2 (Nat.le_trans (Nat.le_of_eq hba.out) F4.out.size))
            obtain ⟨q2, hq2⟩ : ∃ q, Y1.heap.size = q := ⟨_, rfl⟩
            rw [hq2] at R2n ⊢
            clear hq2
            generalize Y1.alloc (.cells #[] 50) = Y2 at *
            clear F4 R2
            have F4 := F4n
            have R2 := R2n
            clear F4n R2n
            refine hK _ _ (fun _ => F4.out.mono (fun _ _ h => h.elim)) ?_
            clear hK K
            repeat (first
              | (refine wpF_skip rfl rfl ?_; simp only [List.getElem_toArray, List.getElem_cons_succ, List.getElem_cons_zero, Act.put, List.setIfInBounds_toArray, List.set_cons_zero, List.set_cons_succ])
              | (refine wpF_call rfl rfl ?_; simp only [List.getElem_toArray, List.getElem_cons_succ, List.getElem_cons_zero]; apply Exists.intro; refine ⟨fun X hX => ?_, ?_⟩
                 · (obtain ⟨s0, s1, s2, s3⟩ := HXW.out X hX; go_simp; exact stillUpon_value)
                 simp only [Act.put, List.setIfInBounds_toArray, List.set_cons_zero, List.set_cons_succ]))
            refine wpF_eff rfl rfl (fun K hK => ?_)
            simp only [List.getElem_toArray, List.getElem_cons_succ, List.getElem_cons_zero]
            refine opwp_appC (t := tI) (P := Try.prog) (base := ba) (S := Emp) (v := .slice (some ⟨q1, 0, none⟩) 0 0) (xs := []) (ys := fk.params) (B2 := w.heap.size) (m := n1) elVals rfl rfl rfl R2.out.r1 (HD1.out.1 _ _) (HD1.out.2 _ F4.out) HN1.out (by have := HLP.out; simp; omega) (by have := HLP.out; simp; omega) (fun _ h => h.elim) (Nat.le_trans (Nat.le_of_eq hba.out) F4.out.size) ?_
            intro v1 Y3 hr fr1 hv
            have F4n := hid (F4.out.trans fr1 (fun i hi h => by have := (R2.out.r1.own h.symm).1; have := hba.out; omega))
            have R2n := hid (R2.out.app1 (by simpa using hr) fr1 hv)
            refine hK _ _ (fun _ => F4n.out.mono (fun _ _ h => h.elim)) ?_
            clear hK K hr fr1 hv F4 R2
            have F4 := F4n
            have R2 := R2n
            clear F4n R2n
            simp only [Act.put, List.setIfInBounds_toArray, List.set_cons_zero, List.set_cons_succ]
            repeat (first
              | (refine wpF_skip rfl rfl ?_; simp only [List.getElem_toArray, List.getElem_cons_succ, List.getElem_cons_zero, Act.put, List.setIfInBounds_toArray, List.set_cons_zero, List.set_cons_succ])
              | (refine wpF_call rfl rfl ?_; simp only [List.getElem_toArray, List.getElem_cons_succ, List.getElem_cons_zero]; apply Exists.intro; refine ⟨fun X hX => ?_, ?_⟩
                 · (obtain ⟨s0, s1, s2, s3⟩ := HXW.out X hX; go_simp; exact stillUpon_value)
                 simp only [Act.put, List.setIfInBounds_toArray, List.set_cons_zero, List.set_cons_succ]))
            refine wpF_eff rfl rfl (fun K hK => ?_)
            simp only [List.getElem_toArray, List.getElem_cons_succ, List.getElem_cons_zero]
            refine opwp_appC (t := tI) (P := Try.prog) (base := ba) (S := Emp) (v := .slice (some ⟨q2, 0, none⟩) 0 0) (xs := []) (ys := fk.results) (B2 := w.heap.size) (m := n2) elVals rfl rfl rfl R2.out.r2 (HD2.out.1 _ _) (HD2.out.2 _ F4.out) HN2.out (by have := HLP.out; simp; omega) (by have := HLP.out; simp; omega) (fun _ h => h.elim) (Nat.le_trans (Nat.le_of_eq hba.out) F4.out.size) ?_
            intro v2 Y4 hr fr1 hv
            have F4n := hid (F4.out.trans fr1 (fun i hi h => by have := (R2.out.r2.own h.symm).1; have := hba.out; omega))
            have R2n := hid (R2.out.app2 (by simpa using hr) fr1 hv)
            refine hK _ _ (fun _ => F4n.out.mono (fun _ _ h => h.elim)) ?_
            clear hK K hr fr1 hv F4 R2
            have F4 := F4n
            have R2 := R2n
            clear F4n R2n
            simp only [Act.put, List.setIfInBounds_toArray, List.set_cons_zero, List.set_cons_succ]
            obtain ⟨A1, c1, e1, -⟩ := R2.out.r1.els (S' := fun _ => True) (fun _ h => h.elim) (fun _ _ => trivial)
            obtain ⟨A2, c2, e2, -⟩ := R2.out.r2.els (S' := fun _ => True) (fun _ h => h.elim) (fun _ _ => trivial)
            rw [HN1.out] at e1
            rw [HN2.out] at e2
            subst e1 e2
            repeat (first
              | (refine wpF_skip rfl rfl ?_; simp only [List.getElem_toArray, List.getElem_cons_succ, List.getElem_cons_zero, Act.put, List.setIfInBounds_toArray, List.set_cons_zero, List.set_cons_succ])
              | (refine wpF_call rfl rfl ?_; simp only [List.getElem_toArray, List.getElem_cons_succ, List.getElem_cons_zero]; apply Exists.intro; refine ⟨fun X hX => ?_, ?_⟩
                 · (obtain ⟨s0, s1, s2, s3⟩ := HXW.out X hX; go_simp; exact stillUpon_value)
                 simp only [Act.put, List.setIfInBounds_toArray, List.set_cons_zero, List.set_cons_succ]))
            refine wpF_eff rfl rfl (fun K hK => ?_)
            simp only [List.getElem_toArray, List.getElem_cons_succ, List.getElem_cons_zero]
            go_simp
            have F4n := hid (F4.out.alloc (.cells #[.slice A1 n1 c1, .slice A2 n2 c2] 38))
            have B19 := hid (Blk.new Y4 38 #[.slice A1 n1 c1, .slice A2 n2 c2])
            have R2n := hid (R2.out.fr ((Fr.refl No Y4).alloc (.cells #[.slice A1 n1 c1, .slice A2 n2 c2] 38)))
            obtain ⟨qT, hqT⟩ : ∃ q, Y4.heap.size = q := ⟨_, rfl⟩
            rw [hqT] at B19 ⊢
            clear hqT
            generalize Y4.alloc (.cells #[.slice A1 n1 c1, .slice A2 n2 c2] 38) = Z1 at *
            clear F4 R2
            have F4 := F4n
            have R2 := R2n
            clear F4n R2n
            refine hK _ _ (fun _ => F4.out.mono (fun _ _ h => h.elim)) ?_
            clear hK K
            repeat (first
              | (refine wpF_skip rfl rfl ?_; simp only [List.getElem_toArray, List.getElem_cons_succ, List.getElem_cons_zero, Act.put, List.setIfInBounds_toArray, List.set_cons_zero, List.set_cons_succ])
              | (refine wpF_call rfl rfl ?_; simp only [List.getElem_toArray, List.getElem_cons_succ, List.getElem_cons_zero]; apply Exists.intro; refine ⟨fun X hX => ?_, ?_⟩
                 · (obtain ⟨s0, s1, s2, s3⟩ := HXW.out X hX; go_simp; exact stillUpon_value)
                 simp only [Act.put, List.setIfInBounds_toArray, List.set_cons_zero, List.set_cons_succ]))
            have HRW := hid (HCT.out.pre F4.out (R2.out.base (by have := hnw.out; have := hba.out; omega)) HN1.out HN2.out)
            refine wpF_eff rfl rfl (fun K hK => ?_)
            simp only [List.getElem_toArray, List.getElem_cons_succ, List.getElem_cons_zero]
            refine opwp_appC (t := tFn) (P := Try.prog) (base := nb + 1) (S := S3 S (.slice A1 n1 c1) (.slice A2 n2 c2)) (v := .slice AT k cT) (xs := m.types.take k) (ys := [fk]) (B2 := Z1.heap.size) (m := 1) (dss := [[.slice A1 n1 c1, .slice A2 n2 c2]]) elFns rfl rfl rfl HRW.out.1 HRW.out.2.1 (by simpa using Rd.blk B19.out B19.out.lt 0 (xs := [.slice A1 n1 c1, .slice A2 n2 c2]) (fun k u h => by rw [Nat.zero_add]; simpa using h)) rfl (by rw [List.length_take]; omega) (by rw [List.length_take]; omega) HRW.out.2.2 (by have := F4.out.size; have := hnw.out; omega) ?_
            intro v3 Z2 hr fr1 hv
            have HCN := hid (HCT.out.next (fk := fk) (Nat.le_of_eq hnw1.out) F4.out (R2.out.base (by have := hnw.out; have := hba.out; omega)) hr fr1 hv hfk.out)
            have HSV := hid ((F4.out.mono (M := fun j => some j = (Value.slice AT k cT).ownBlock) (fun _ _ h => h.elim)).trans fr1 (fun _ _ h => h))
            refine hK _ _ (fun _ => HSV.out) ?_
            clear hK K hr fr1 hv HSV B19 HRW
            simp only [Act.put, List.setIfInBounds_toArray, List.set_cons_zero, List.set_cons_succ]
            repeat (first
              | (refine wpF_skip rfl rfl ?_; simp only [List.getElem_toArray, List.getElem_cons_succ, List.getElem_cons_zero, Act.put, List.setIfInBounds_toArray, List.set_cons_zero, List.set_cons_succ])
              | (refine wpF_call rfl rfl ?_; simp only [List.getElem_toArray, List.getElem_cons_succ, List.getElem_cons_zero]; apply Exists.intro; refine ⟨fun X hX => ?_, ?_⟩
                 · (obtain ⟨s0, s1, s2, s3⟩ := HXW.out X hX; go_simp; exact stillUpon_value)
                 simp only [Act.put, List.setIfInBounds_toArray, List.set_cons_zero, List.set_cons_succ]))
            obtain ⟨AT3, cT3, e3, hb3, hc3⟩ := HCN.out
            subst e3
            have HC3 := hid hc3
            have zc := hb3.cell 0
            have zf := hb3.frozen 0
            clear hc3
            refine wpF_eff rfl rfl (fun K hK => ?_)
            simp only [List.getElem_toArray, List.getElem_cons_succ, List.getElem_cons_zero]
            go_simp
            clear zc zf hb3
            refine hK _ _ (fun h => by cases h) ?_
            clear hK K
            refine wpF_nil ?_
            clear HXW HD1 HD2 HLP hfk HCT
            go_wp2
            go_round
            case rel => exact ⟨k + 1, AT3, cT3, _, by omega, by go_num, HC3⟩
            case measure => simp [intOf]; omega
        · skip
          refine wpF_eff rfl rfl (fun K hK => ?_)
          simp only [List.getElem_toArray, List.getElem_cons_succ, List.getElem_cons_zero]
          go_simp
          have F4n := hid (((Fr.refl No wr).alloc (.cells #[] 50)).drew)
          have R2n := hid (((TwoR.nil ba wr).lit2 (Nat.le_of_eq hba.out)).fr (Fr.refl No _).drew)
          obtain ⟨q2, hq2⟩ : ∃ q, wr.heap.size = q := ⟨_, rfl⟩
          rw [hq2] at R2n ⊢
          clear hq2
          generalize (wr.alloc (.cells #[] 50)).drew = Y1 at *
          clear F4 R2
          have F4 := F4n
          have R2 := R2n
          clear F4n R2n
          refine hK _ _ (fun _ => F4.out.mono (fun _ _ h => h.elim)) ?_
          clear hK K
          repeat (first
            | (refine wpF_skip rfl rfl ?_; simp only [List.getElem_toArray, List.getElem_cons_succ, List.getElem_cons_zero, Act.put, List.setIfInBounds_toArray, List.set_cons_zero, List.set_cons_succ])
            | (refine wpF_call rfl rfl ?_; simp only [List.getElem_toArray, List.getElem_cons_succ, List.getElem_cons_zero]; apply Exists.intro; refine ⟨fun X hX => ?_, ?_⟩
               · (obtain ⟨s0, s1, s2, s3⟩ := HXW.out X hX; go_simp; exact stillUpon_value)
               simp only [Act.put, List.setIfInBounds_toArray, List.set_cons_zero, List.set_cons_succ]))
          refine wpF_eff rfl rfl (fun K hK => ?_)
          simp only [List.getElem_toArray, List.getElem_cons_succ, List.getElem_cons_zero]
          go_simp
          have F4n := hid (F4.out.alloc (.cells #[] 50))
          have R2n := hid (R2.out.lit1 (Nat.le_trans (Nat.le_of_eq hba.out) F4.out.size))
          obtain ⟨q1, hq1⟩ : ∃ q, Y1.heap.size = q := ⟨_, rfl⟩
          rw [hq1] at R2n ⊢
          clear hq1
          generalize Y1.alloc (.cells #[] 50) = Y2 at *
          clear F4 R2
          have F4 := F4n
          have R2 := R2n
          clear F4n R2n
          refine hK _ _ (fun _ => F4.out.mono (fun _ _ h => h.elim)) ?_
          clear hK K
          repeat (first
            | (refine wpF_skip rfl rfl ?_; simp only [List.getElem_toArray, List.getElem_cons_succ, List.getElem_cons_zero, Act.put, List.setIfInBounds_toArray, List.set_cons_zero, List.set_cons_succ])
            | (refine wpF_call rfl rfl ?_; simp only [List.getElem_toArray, List.getElem_cons_succ, List.getElem_cons_zero]; apply Exists.intro; refine ⟨fun X hX => ?_, ?_⟩
               · (obtain ⟨s0, s1, s2, s3⟩ := HXW.out X hX; go_simp; exact stillUpon_value)
               simp only [Act.put, List.setIfInBounds_toArray, List.set_cons_zero, List.set_cons_succ]))
          refine wpF_eff rfl rfl (fun K hK => ?_)
          simp only [List.getElem_toArray, List.getElem_cons_succ, List.getElem_cons_zero]
          refine opwp_appC (t := tI) (P := Try.prog) (base := ba) (S := Emp) (v := .slice (some ⟨q1, 0, none⟩) 0 0) (xs := []) (ys := fk.params) (B2 := w.heap.size) (m := n1) elVals rfl rfl rfl R2.out.r1 (HD1.out.1 _ _) (HD1.out.2 _ F4.out) HN1.out (by have := HLP.out; simp; omega) (by have := HLP.out; simp; omega) (fun _ h => h.elim) (Nat.le_trans (Nat.le_of_eq hba.out) F4.out.size) ?_
          intro v1 Y3 hr fr1 hv
          have F4n := hid (F4.out.trans fr1 (fun i hi h => by have := (R2.out.r1.own h.symm).1; have := hba.out; omega))
          have R2n := hid (R2.out.app1 (by simpa using hr) fr1 hv)
          refine hK _ _ (fun _ => F4n.out.mono (fun _ _ h => h.elim)) ?_
          clear hK K hr fr1 hv F4 R2
          have F4 := F4n
          have R2 := R2n
          clear F4n R2n
          simp only [Act.put, List.setIfInBounds_toArray, List.set_cons_zero, List.set_cons_succ]
          repeat (first
            | (refine wpF_skip rfl rfl ?_; simp only [List.getElem_toArray, List.getElem_cons_succ, List.getElem_cons_zero, Act.put, List.setIfInBounds_toArray, List.set_cons_zero, List.set_cons_succ])
            | (refine wpF_call rfl rfl ?_; simp only [List.getElem_toArray, List.getElem_cons_succ, List.getElem_cons_zero]; apply Exists.intro; refine ⟨fun X hX => ?_, ?_⟩
               · (obtain ⟨s0, s1, s2, s3⟩ := HXW.out X hX; go_simp; exact stillUpon_value)
               simp only [Act.put, List.setIfInBounds_toArray, List.set_cons_zero, List.set_cons_succ]))
          refine wpF_eff rfl rfl (fun K hK => ?_)
          simp only [List.getElem_toArray, List.getElem_cons_succ, List.getElem_cons_zero]
          refine opwp_appC (t := tI) (P := Try.prog) (base := ba) (S := Emp) (v := .slice (some ⟨q2, 0, none⟩) 0 0) (xs := []) (ys := fk.results) (B2 := w.heap.size) (m := n2) elVals rfl rfl rfl R2.out.r2 (HD2.out.1 _ _) (HD2.out.2 _ F4.out) HN2.out (by have := HLP.out; simp; omega) (by have := HLP.out; simp; omega) (fun _ h => h.elim) (Nat.le_trans (Nat.le_of_eq hba.out) F4.out.size) ?_
          intro v2 Y4 hr fr1 hv
          have F4n := hid (F4.out.trans fr1 (fun i hi h => by have := (R2.out.r2.own h.symm).1; have := hba.out; omega))
          have R2n := hid (R2.out.app2 (by simpa using hr) fr1 hv)
          refine hK _ _ (fun _ => F4n.out.mono (fun _ _ h => h.elim)) ?_
          clear hK K hr fr1 hv F4 R2
          have F4 := F4n
          have R2 := R2n
          clear F4n R2n
          simp only [Act.put, List.setIfInBounds_toArray, List.set_cons_zero, List.set_cons_succ]
          obtain ⟨A1, c1, e1, -⟩ := R2.out.r1.els (S' := fun _ => True) (fun _ h => h.elim) (fun _ _ => trivial)
          obtain ⟨A2, c2, e2, -⟩ := R2.out.r2.els (S' := fun _ => True) (fun _ h => h.elim) (fun _ _ => trivial)
          rw [HN1.out] at e1
          rw [HN2.out] at e2
          subst e1 e2
          repeat (first
            | (refine wpF_skip rfl rfl ?_; simp only [List.getElem_toArray, List.getElem_cons_succ, List.getElem_cons_zero, Act.put, List.setIfInBounds_toArray, List.set_cons_zero, List.set_cons_succ])
            | (refine wpF_call rfl rfl ?_; simp only [List.getElem_toArray, List.getElem_cons_succ, List.getElem_cons_zero]; apply Exists.intro; refine ⟨fun X hX => ?_, ?_⟩
               · (obtain ⟨s0, s1, s2, s3⟩ := HXW.out X hX; go_simp; exact stillUpon_value)
               simp only [Act.put, List.setIfInBounds_toArray, List.set_cons_zero, List.set_cons_succ]))
          refine wpF_eff rfl rfl (fun K hK => ?_)
          simp only [List.getElem_toArray, List.getElem_cons_succ, List.getElem_cons_zero]
          go_simp
          have F4n := hid (F4.out.alloc (.cells #[.slice A1 n1 c1, .slice A2 n2 c2] 38))
          have B19 := hid (Blk.new Y4 38 #[.slice A1 n1 c1, .slice A2 n2 c2])
          have R2n := hid (R2.out.fr ((Fr.refl No Y4).alloc (.cells #[.slice A1 n1 c1, .slice A2 n2 c2] 38)))
          obtain ⟨qT, hqT⟩ : ∃ q, Y4.heap.size = q := ⟨_, rfl⟩
          rw [hqT] at B19 ⊢
          clear hqT
          generalize Y4.alloc (.cells #[.slice A1 n1 c1, .slice A2 n2 c2] 38) = Z1 at *
          clear F4 R2
          have F4 := F4n
          have R2 := R2n
          clear F4n R2n
          refine hK _ _ (fun _ => F4.out.mono (fun _ _ h => h.elim)) ?_
          clear hK K
          repeat (first
            | (refine wpF_skip rfl rfl ?_; simp only [List.getElem_toArray, List.getElem_cons_succ, List.getElem_cons_zero, Act.put, List.setIfInBounds_toArray, List.set_cons_zero, List.set_cons_succ])
            | (refine wpF_call rfl rfl ?_; simp only [List.getElem_toArray, List.getElem_cons_succ, List.getElem_cons_zero]; apply Exists.intro; refine ⟨fun X hX => ?_, ?_⟩
               · (obtain ⟨s0, s1, s2, s3⟩ := HXW.out X hX; go_simp; exact stillUpon_value)
               simp only [Act.put, List.setIfInBounds_toArray, List.set_cons_zero, List.set_cons_succ]))
          have HRW := hid (HCT.out.pre F4.out (R2.out.base (by have := hnw.out; have := hba.out; omega)) HN1.out HN2.out)
          refine wpF_eff rfl rfl (fun K hK => ?_)
          simp only [List.getElem_toArray, List.getElem_cons_succ, List.getElem_cons_zero]
          refine opwp_appC (t := tFn) (P := Try.prog) (base := nb + 1) (S := S3 S (.slice A1 n1 c1) (.slice A2 n2 c2)) (v := .slice AT k cT) (xs := m.types.take k) (ys := [fk]) (B2 := Z1.heap.size) (m := 1) (dss := [[.slice A1 n1 c1, .slice A2 n2 c2]]) elFns rfl rfl rfl HRW.out.1 HRW.out.2.1 (by simpa using Rd.blk B19.out B19.out.lt 0 (xs := [.slice A1 n1 c1, .slice A2 n2 c2]) (fun k u h => by rw [Nat.zero_add]; simpa using h)) rfl (by rw [List.length_take]; omega) (by rw [List.length_take]; omega) HRW.out.2.2 (by have := F4.out.size; have := hnw.out; omega) ?_
          intro v3 Z2 hr fr1 hv
          have HCN := hid (HCT.out.next (fk := fk) (Nat.le_of_eq hnw1.out) F4.out (R2.out.base (by have := hnw.out; have := hba.out; omega)) hr fr1 hv hfk.out)
          have HSV := hid ((F4.out.mono (M := fun j => some j = (Value.slice AT k cT).ownBlock) (fun _ _ h => h.elim)).trans fr1 (fun _ _ h => h))
          refine hK _ _ (fun _ => HSV.out) ?_
          clear hK K hr fr1 hv HSV B19 HRW
          simp only [Act.put, List.setIfInBounds_toArray, List.set_cons_zero, List.set_cons_succ]
          repeat (first
            | (refine wpF_skip rfl rfl ?_; simp only [List.getElem_toArray, List.getElem_cons_succ, List.getElem_cons_zero, Act.put, List.setIfInBounds_toArray, List.set_cons_zero, List.set_cons_succ])
            | (refine wpF_call rfl rfl ?_; simp only [List.getElem_toArray, List.getElem_cons_succ, List.getElem_cons_zero]; apply Exists.intro; refine ⟨fun X hX => ?_, ?_⟩
               · (obtain ⟨s0, s1, s2, s3⟩ := HXW.out X hX; go_simp; exact stillUpon_value)
               simp only [Act.put, List.setIfInBounds_toArray, List.set_cons_zero, List.set_cons_succ]))
          obtain ⟨AT3, cT3, e3, hb3, hc3⟩ := HCN.out
          subst e3
          have HC3 := hid hc3
          have zc := hb3.cell 0
          have zf := hb3.frozen 0
          clear hc3
          refine wpF_eff rfl rfl (fun K hK => ?_)
          simp only [List.getElem_toArray, List.getElem_cons_succ, List.getElem_cons_zero]
          go_simp
          clear zc zf hb3
          refine hK _ _ (fun h => by cases h) ?_
          clear hK K
          refine wpF_nil ?_
          clear HXW HD1 HD2 HLP hfk HCT
          go_wp2
          go_round
          case rel => exact ⟨k + 1, AT3, cT3, _, by omega, by go_num, HC3⟩
          case measure => simp [intOf]; omega
      · have hkn : nt = k := by omega
        subst hkn
        clear hgo
        have htk : m.types.take nt = m.types := List.take_of_length_le (by rw [et.out]; exact Nat.le_refl _)
        have HFW := hid (F1.out.trans HCT.out.fr (fun _ _ h => h))
        have HROW := hid HCT.out.row
        rw [htk] at HROW
        have HMc : Hid (MdIn wr m AT Ai Af Ata Am Ag Ae Ael) := by
          have h := HM.out.fr HFW.out
          refine ⟨?_, h.imports, h.funcs, h.tables, h.mems, h.globals, h.exports, h.elems, h.lt, h.li, h.lf, h.lta, h.lm, h.lg, h.le, h.lel, h.lit, h.lp, h.lgi, h.lii⟩
          refine Ty.row.els' (n := nt) (c := cT) (by have h2 := HROW.out; exact h2) (fun j hj => ?_) (fun g hg => ?_)
          · obtain ⟨_, _, cs, hb⟩ := HCT.out.sok j hj; exact hb.lt
          · obtain ⟨_, cs, hb⟩ := HROW.out.own hg; exact hb.lt
        have HOF := of_any wr m nt ni nf nta nm ng ne nel nd nc AT Ai Af Ata Am Ag Ae Ael Ad Ac cT ci cf cta cm cg ce cel cd cc HMc et ei ef eta_ em eg ee eel ed HF.out.lt (Nat.le_succ_of_le HF.out.li) HF.out.lf HF.out.lta HF.out.lm HF.out.lg HF.out.le HF.out.lel HF.out.ld
        rw [HB.out, HV.out] at HOF
        have HOF := hid HOF
        have z := HCT.out.nbk.cell
        have z0 := z 0
        have z1 := z 1
        have z2 := z 2
        have z3 := z 3
        have z4 := z 4
        have z5 := z 5
        have z6 := z 6
        have z7 := z 7
        have z8 := z 8
        have z9 := z 9
        have z10 := z 10
        have z11 := z 11
        clear z HMc
        go_wp2_with fail
        refine HOF.out.mono ?_
        clear HOF x0 z0 z1 z2 z3 z4 z5 z6 z7 z8 z9 z10 z11
        rintro e w3 ⟨p, gx, gs, bi, bd, nI, nD, ST, v0, v1, v2, v3, v4, v5, rfl, hpb, hps, f3⟩
        have F3 := hid f3
        have HPs := hid (SpP.mk hpb hps)
        clear hpb hps f3
        have HSB : Hid (∀ j, S j → j < wr.heap.size ∧ nb + 1 ≤ j ∧ (Value.slice AT nt cT).ownBlock ≠ some j ∧ ∃ cs, Blk w3 j 50 cs) := hid fun j hj => by
          obtain ⟨h1, h2, cs, hb⟩ := HCT.out.sok j hj
          exact ⟨hb.lt, h1, h2, cs, hb.fr F3.out (fun x => x)⟩
        have HR3 := hid (HROW.out.fr F3.out (fun j hj => ⟨by obtain ⟨_, _, cs, hb⟩ := HCT.out.sok j hj; exact hb.lt, fun x => x⟩) (fun _ _ h => h))
        have HNB := hid (HCT.out.nbk.fr F3.out (fun x => x))
        have HW13 := hid (HCT.out.fr.trans F3.out (fun _ _ h => h))
        clear HROW HCT
        go_wp2_with fail
        go_loopw [8] (fun i8 wq => ∃ (j : Nat), j ≤ nt ∧ i8 = .int .i64 j ∧ Hid (Fr S w3 wq) ∧ Hid (Tw w3 wq)) (fun i8 _ => nt - (intOf i8).toNat)
        case atStart => exact ⟨0, by omega, rfl, hid (Fr.refl S w3), hid (Tw.refl w3)⟩
        case round =>
          obtain ⟨j, hj, rfl, FS, TS⟩ := hrel
          have hnbS : ¬ S nb := fun h => by have := (HSB.out nb h).2.1; omega
          have z0 := (HNB.out.fr FS.out hnbS).cell 0
          by_cases hgo : j < nt
          · have hjt : j < m.types.length := by rw [et.out]; exact hgo
            obtain ⟨b, o, A1, c1, A2, c2, eA, y0, y1, e1, e2⟩ := fnRow_at (c := cT) (by have h := HR3.out; rw [← et.out] at h; exact h) j hjt
            subst eA
            have hbS : ¬ S b := fun h => (HSB.out b h).2.2.1 rfl
            have hb3 : b < w3.heap.size := by
              obtain ⟨_, cs, hb⟩ := HR3.out.own (g := b) rfl
              exact hb.lt
            have y0' := (FS.out.cell (p := ⟨b, o + j * 2, none⟩) hb3 hbS).trans y0
            have y1' := (FS.out.cell (p := ⟨b, o + j * 2 + 1, none⟩) hb3 hbS).trans y1
            obtain ⟨r1, m1⟩ := intRow_els e1 (fun j hj => (HSB.out j hj).2.2.2)
            obtain ⟨r2, m2⟩ := intRow_els e2 (fun j hj => (HSB.out j hj).2.2.2)
            have hlp := HM.out.lp _ (List.getElem_mem hjt)
            generalize m.types[j] = fk at *
            obtain ⟨n1, hn1⟩ : ∃ n, fk.params.length = n := ⟨_, rfl⟩
            obtain ⟨n2, hn2⟩ : ∃ n, fk.results.length = n := ⟨_, rfl⟩
            rw [hn1] at y0' r1 m1
            rw [hn2] at y1' r2 m2
            rw [hn1, hn2] at hlp
            have HT := hid (turn_any A1 A2 n1 n2 c1 c2 S wr (r1.tw TS.out) (r2.tw TS.out) m1 m2 (by omega) (by omega))
            have i0 : (0 : Int) ≤ j := by omega
            have i1 : (j : Int) < nt := by omega
            clear y0 y1 e1 e2 r1 m1 r2 m2 hlp hn1 hn2
            go_wp2_with fail
            refine HT.out.mono ?_
            clear HT y0' y1' z0
            rintro e w5 ⟨rfl, f, t⟩
            have FS5 := hid (FS.out.trans f (fun _ _ h => h))
            have TS5 := hid (TS.out.trans t)
            clear f t
            go_wp2
            go_round
            case rel => exact ⟨j + 1, by omega, by go_num, FS5, TS5⟩
            case measure => simp [intOf]; omega
          · have hjk : nt = j := by omega
            subst hjk
            clear hgo
            have FA1 := hid (HW13.out.trans FS.out (fun i hi h => by have := (HSB.out i h).2.1; have := hnw1.out; omega))
            have FWA := hid (F1.out.trans FA1.out (fun _ _ h => h))
            have HPA := hid (HPs.out.frS FS.out (fun k hk => ⟨(HSB.out k hk).1, (HSB.out k hk).2.2.2⟩))
            have HMA := hid (HM.out.fr FWA.out)
            have HXA : Hid (∀ X, Fr No wr X → X.cell? ⟨w.heap.size, 0, none⟩ = some (.slice At nt ct) ∧ X.cell? ⟨w.heap.size, 1, none⟩ = some (.slice Ai ni ci) ∧ X.cell? ⟨w.heap.size, 2, none⟩ = some (.slice Af nf cf) ∧ X.cell? ⟨w.heap.size, 3, none⟩ = some (.slice Ata nta cta) ∧ X.cell? ⟨w.heap.size, 4, none⟩ = some (.slice Am nm cm) ∧ X.cell? ⟨w.heap.size, 5, none⟩ = some (.slice Ag ng cg) ∧ X.cell? ⟨w.heap.size, 6, none⟩ = some (.slice Ae ne ce) ∧ X.cell? ⟨w.heap.size, 7, none⟩ = some (.bool bst) ∧ X.cell? ⟨w.heap.size, 8, none⟩ = some (.int .i64 vst) ∧ X.cell? ⟨w.heap.size, 9, none⟩ = some (.slice Ael nel cel) ∧ X.cell? ⟨w.heap.size, 10, none⟩ = some (.slice Ad nd cd) ∧ X.cell? ⟨w.heap.size, 11, none⟩ = some (.slice Ac nc cc)) := fun X f => HX.out X (FA1.out.trans f (fun _ _ h => h))
            clear HPs HSB HR3 HNB HW13 FS TS hnbS FA1 HFW
            obtain ⟨f1, f2, -⟩ := of_fields m
            have L1 : ni ≤ 101 := Nat.le_succ_of_le HF.out.li
            have hlt := HF.out.lt
            have hlf := HF.out.lf
            have hlp := HM.out.lp
            have hI0 := impN_le m.imports 0
            have hei := ei.out
            have het := et.out
            have hef := ef.out
            have HT1 := hid (fun X (f : Fr No wr X) => mType_any _ X p gx gs bi bd ST nI nD v0 v1 v2 v3 v4 v5 (SpV.of m) i (by rw [f1, het]; omega) (by rw [f1]; exact hlp) (HPA.out.frNo f))
            have HT2 := hid (fun X (f : Fr No wr X) => rType_any nt ni nf nta nm ng ne nel nd nc ct ci cf cta cm cg ce cel cd cc At Ai Af Ata Am Ag Ae Ael Ad Ac bst vst X m.types i (· < X.heap.size) (HMA.out.fr f).types (fun _ h => h) et HF.out.lt)
            have HT3 := hid (fun X (f : Fr No wr X) => mFunc_any _ X p gx gs bi bd ST nI nD v0 v1 v2 v3 v4 v5 (SpV.of m) i (by rw [f1, het]; omega) (by rw [f2, numLen, List.length_map, hef]; omega) (by rw [f1]; exact hlp) (HPA.out.frNo f))
            have HT4 := hid (fun X (f : Fr No wr X) => rFunc_any nt ni nf nta nm ng ne nel nd nc ct ci cf cta cm cg ce cel cd cc At Ai Af Ata Am Ag Ae Ael Ad Ac bst vst X m i (· < X.heap.size) (HMA.out.fr f).imports (HMA.out.fr f).funcs (HMA.out.fr f).types (fun _ h => h) ei ef et L1 HF.out.lf HF.out.lt HW.out)
            have HN1 := hid (fun X (f : Fr No wr X) => nTypes_any _ X p gx gs bi bd ST nI nD v0 v1 v2 v3 v4 v5 (SpV.of m) (HPA.out.frNo f))
            have HN2 := hid (fun X (_ : Fr No wr X) => rTypes_any nt ni nf nta nm ng ne nel nd nc ct ci cf cta cm cg ce cel cd cc At Ai Af Ata Am Ag Ae Ael Ad Ac bst vst X)
            have HN3 := hid (fun X (f : Fr No wr X) => nFuncs_any _ X p gx gs bi bd ST nI nD v0 v1 v2 v3 v4 v5 (SpV.of m) (HPA.out.frNo f))
            have HN4 := hid (fun X (f : Fr No wr X) => rFuncs_any nt ni nf nta nm ng ne nel nd nc ct ci cf cta cm cg ce cel cd cc At Ai Af Ata Am Ag Ae Ael Ad Ac bst vst X m.imports (· < X.heap.size) (HMA.out.fr f).imports (fun _ h => h) ei L1 HF.out.lf)
            rw [f1] at HT1 HN1
            rw [f2, numLen, List.length_map, hef] at HN3
            rw [het] at HN1
            simp only [Int.natCast_add] at HN3 HN4
            unfold TyTo at HT1 HT3
            unfold AtFn at HT2
            unfold RfTo at HT4
            have hst := atFn_small hlp i
            have hsf := funcD_small (x := SpV.of m) (by rw [f1]; exact hlp) i
            generalize atD zFn m.types i = qT at *
            generalize funcD (SpV.of m) i = qF at *
            obtain ⟨tf, tb⟩ := qT
            obtain ⟨ff, fb⟩ := qF
            generalize impN m.imports 0 = i0 at *
            clear f1 f2 hlp hei het hef HPA HMA HX
            generalize wr = wA at *
            go_wp2_with fail
            clear z0
            go_loopw [9] (fun i9 wr => ∃ k9 : Nat, k9 ≤ 2 ∧ i9 = .int .i64 k9 ∧ Hid (Fr No wA wr)) (fun i9 _ => 2 - (intOf i9).toNat)
            case atStart => exact ⟨0, by omega, rfl, hid (Fr.refl No wA)⟩
            case round =>
              obtain ⟨k9, hk9, rfl, FQ⟩ := hrel
              by_cases hgo : k9 < 2
              · have hbase : wA.heap.size ≤ wr.heap.size := FQ.out.size
                go_wp2_with fail
                refine (HT1.out _ FQ.out).mono ?_
                rintro e wa ⟨B1, b1, B2, b2, rfl, hnew, f⟩
                have Q1 := hid ((FQ.out.trans f (fun _ _ h => h)).alloc (.cells #[.slice B1 tf.params.length b1, .slice B2 tf.results.length b2] 38))
                have N1 := hid ((hnew.base hbase).fr' ((Fr.refl No wa).alloc (.cells #[.slice B1 tf.params.length b1, .slice B2 tf.results.length b2] 38)) (fun _ _ h => h))
                have V1 := hid (Blk.new wa 38 #[.slice B1 tf.params.length b1, .slice B2 tf.results.length b2])
                clear f hnew
                go_upto_region 18 with fail
                generalize wa.alloc (.cells #[.slice B1 tf.params.length b1, .slice B2 tf.results.length b2] 38) = X1 at *
                generalize wa.heap.size = q1 at *
                obtain ⟨x0, x1, x2, x3, x4, x5, x6, x7, x8, x9, x10, x11⟩ := HXA.out _ Q1.out
                go_wp2_with fail
                clear x0 x1 x2 x3 x4 x5 x6 x7 x8 x9 x10 x11
                refine (HT2.out _ Q1.out).mono ?_
                rintro e wb ⟨C1, c1, C2, c2, rfl, h1, h2, f⟩
                have FN := (Fr.refl No wb).alloc (.cells #[.slice C1 tf.params.length c1, .slice C2 tf.results.length c2] 38)
                have E2 := hid (And.intro ((h1.fr FN (fun k hk => ⟨Nat.lt_of_lt_of_le hk f.size, fun x => x⟩)).more (fun k (hk : k < X1.heap.size) => Nat.lt_of_lt_of_le hk (Nat.le_trans f.size FN.size))) ((h2.fr FN (fun k hk => ⟨Nat.lt_of_lt_of_le hk f.size, fun x => x⟩)).more (fun k (hk : k < X1.heap.size) => Nat.lt_of_lt_of_le hk (Nat.le_trans f.size FN.size))))
                have FF := (f.alloc (.cells #[.slice C1 tf.params.length c1, .slice C2 tf.results.length c2] 38))
                replace N1 := hid (N1.out.fr' FF (fun _ _ h => h))
                replace V1 := hid (V1.out.fr FF (fun x => x))
                have Q2 := hid (Q1.out.trans FF (fun _ _ h => h))
                have V2 := hid (Blk.new wb 38 #[.slice C1 tf.params.length c1, .slice C2 tf.results.length c2])
                clear f FF FN h1 h2
                go_upto_region 19 with fail
                generalize wb.alloc (.cells #[.slice C1 tf.params.length c1, .slice C2 tf.results.length c2] 38) = X2 at *
                generalize wb.heap.size = q2 at *
                go_wp2_with fail
                refine (HT3.out _ Q2.out).mono ?_
                rintro e wc ⟨D1, d1, D2, d2, rfl, hnew, f⟩
                have FN := (Fr.refl No wc).alloc (.cells #[.slice D1 ff.params.length d1, .slice D2 ff.results.length d2] 38)
                have N3 := hid ((hnew.base Q2.out.size).fr' FN (fun _ _ h => h))
                have FF := (f.alloc (.cells #[.slice D1 ff.params.length d1, .slice D2 ff.results.length d2] 38))
                replace N1 := hid (N1.out.fr' FF (fun _ _ h => h))
                replace E2 := hid (And.intro ((E2.out.1.fr FF (fun _ hk => ⟨hk, fun x => x⟩)).more (fun _ hk => Nat.lt_of_lt_of_le hk FF.size)) ((E2.out.2.fr FF (fun _ hk => ⟨hk, fun x => x⟩)).more (fun _ hk => Nat.lt_of_lt_of_le hk FF.size)))
                replace V1 := hid (V1.out.fr FF (fun x => x))
                replace V2 := hid (V2.out.fr FF (fun x => x))
                have Q3 := hid (Q2.out.trans FF (fun _ _ h => h))
                have V3 := hid (Blk.new wc 38 #[.slice D1 ff.params.length d1, .slice D2 ff.results.length d2])
                clear f FF FN hnew
                go_upto_region 20 with fail
                generalize wc.alloc (.cells #[.slice D1 ff.params.length d1, .slice D2 ff.results.length d2] 38) = X3 at *
                generalize wc.heap.size = q3 at *
                obtain ⟨x0, x1, x2, x3, x4, x5, x6, x7, x8, x9, x10, x11⟩ := HXA.out _ Q3.out
                go_wp2_with fail
                clear x0 x1 x2 x3 x4 x5 x6 x7 x8 x9 x10 x11
                refine (HT4.out _ Q3.out).mono ?_
                rintro e wd ⟨G1, y1, G2, y2, rfl, h1, h2, f⟩
                have FN := (Fr.refl No wd).alloc (.cells #[.slice G1 ff.params.length y1, .slice G2 ff.results.length y2] 38)
                have E4 := hid (And.intro ((h1.fr FN (fun k hk => ⟨hk, fun x => x⟩)).more (fun k hk => Nat.lt_of_lt_of_le hk FN.size)) ((h2.fr FN (fun k hk => ⟨hk, fun x => x⟩)).more (fun k hk => Nat.lt_of_lt_of_le hk FN.size)))
                have FF := (f.alloc (.cells #[.slice G1 ff.params.length y1, .slice G2 ff.results.length y2] 38))
                replace N1 := hid (N1.out.fr' FF (fun _ _ h => h))
                replace N3 := hid (N3.out.fr' FF (fun _ _ h => h))
                replace E2 := hid (And.intro ((E2.out.1.fr FF (fun _ hk => ⟨hk, fun x => x⟩)).more (fun _ hk => Nat.lt_of_lt_of_le hk FF.size)) ((E2.out.2.fr FF (fun _ hk => ⟨hk, fun x => x⟩)).more (fun _ hk => Nat.lt_of_lt_of_le hk FF.size)))
                replace V1 := hid (V1.out.fr FF (fun x => x))
                replace V2 := hid (V2.out.fr FF (fun x => x))
                replace V3 := hid (V3.out.fr FF (fun x => x))
                have Q4 := hid (Q3.out.trans FF (fun _ _ h => h))
                have V4 := hid (Blk.new wd 38 #[.slice G1 ff.params.length y1, .slice G2 ff.results.length y2])
                clear f FF FN h1 h2
                go_upto_region 21 with fail
                generalize wd.alloc (.cells #[.slice G1 ff.params.length y1, .slice G2 ff.results.length y2] 38) = X4 at *
                generalize wd.heap.size = q4 at *
                have HXV : Hid (∀ X, Fr No X4 X → X.cell? ⟨w.heap.size, 0, none⟩ = some (.slice At nt ct) ∧ X.cell? ⟨w.heap.size, 1, none⟩ = some (.slice Ai ni ci) ∧ X.cell? ⟨w.heap.size, 2, none⟩ = some (.slice Af nf cf) ∧ X.cell? ⟨w.heap.size, 3, none⟩ = some (.slice Ata nta cta) ∧ X.cell? ⟨w.heap.size, 4, none⟩ = some (.slice Am nm cm) ∧ X.cell? ⟨w.heap.size, 5, none⟩ = some (.slice Ag ng cg) ∧ X.cell? ⟨w.heap.size, 6, none⟩ = some (.slice Ae ne ce) ∧ X.cell? ⟨w.heap.size, 7, none⟩ = some (.bool bst) ∧ X.cell? ⟨w.heap.size, 8, none⟩ = some (.int .i64 vst) ∧ X.cell? ⟨w.heap.size, 9, none⟩ = some (.slice Ael nel cel) ∧ X.cell? ⟨w.heap.size, 10, none⟩ = some (.slice Ad nd cd) ∧ X.cell? ⟨w.heap.size, 11, none⟩ = some (.slice Ac nc cc) ∧ X.cell? ⟨q1, 0, none⟩ = some (.slice B1 tf.params.length b1) ∧ X.cell? ⟨q1, 1, none⟩ = some (.slice B2 tf.results.length b2) ∧ X.cell? ⟨q2, 0, none⟩ = some (.slice C1 tf.params.length c1) ∧ X.cell? ⟨q2, 1, none⟩ = some (.slice C2 tf.results.length c2) ∧ X.cell? ⟨q3, 0, none⟩ = some (.slice D1 ff.params.length d1) ∧ X.cell? ⟨q3, 1, none⟩ = some (.slice D2 ff.results.length d2) ∧ X.cell? ⟨q4, 0, none⟩ = some (.slice G1 ff.params.length y1) ∧ X.cell? ⟨q4, 1, none⟩ = some (.slice G2 ff.results.length y2)) := fun X f => by
                  obtain ⟨x0, x1, x2, x3, x4, x5, x6, x7, x8, x9, x10, x11⟩ := HXA.out _ (Q4.out.trans f (fun _ _ h => h))
                  exact ⟨x0, x1, x2, x3, x4, x5, x6, x7, x8, x9, x10, x11, (V1.out.fr f (fun x => x)).cell 0, (V1.out.fr f (fun x => x)).cell 1, (V2.out.fr f (fun x => x)).cell 0, (V2.out.fr f (fun x => x)).cell 1, (V3.out.fr f (fun x => x)).cell 0, (V3.out.fr f (fun x => x)).cell 1, (V4.out.fr f (fun x => x)).cell 0, (V4.out.fr f (fun x => x)).cell 1⟩
                have hsa := hid (show sameB tf tf = true by simp [sameB])
                have hsb := hid (show sameB ff ff = true by simp [sameB])
                have g1 : tf.params.length ≤ 140737488355328 := Nat.le_trans hst.1 (by decide)
                have g2 : tf.results.length ≤ 140737488355328 := Nat.le_trans hst.2 (by decide)
                have g3 : ff.params.length ≤ 140737488355328 := Nat.le_trans hsf.1 (by decide)
                have g4 : ff.results.length ≤ 140737488355328 := Nat.le_trans hsf.2 (by decide)
                have HS1 := hid (fun X (f : Fr No X4 X) => rSame_any B1 B2 C1 C2 tf tf b1 b2 c1 c2 (· < X.heap.size) (· < X.heap.size) X (fun _ h => h) (fun _ h => h) ((N1.out.fr' f (fun _ _ h => h)).els).1 ((N1.out.fr' f (fun _ _ h => h)).els).2 ((E2.out.1.fr f (fun _ hk => ⟨hk, fun x => x⟩)).more (fun _ hk => Nat.lt_of_lt_of_le hk f.size)) ((E2.out.2.fr f (fun _ hk => ⟨hk, fun x => x⟩)).more (fun _ hk => Nat.lt_of_lt_of_le hk f.size)) g1 g2 g1 g2)
                have HS2 := hid (fun X (f : Fr No X4 X) => rSame_any D1 D2 G1 G2 ff ff d1 d2 y1 y2 (· < X.heap.size) (· < X.heap.size) X (fun _ h => h) (fun _ h => h) ((N3.out.fr' f (fun _ _ h => h)).els).1 ((N3.out.fr' f (fun _ _ h => h)).els).2 ((E4.out.1.fr f (fun _ hk => ⟨hk, fun x => x⟩)).more (fun _ hk => Nat.lt_of_lt_of_le hk f.size)) ((E4.out.2.fr f (fun _ hk => ⟨hk, fun x => x⟩)).more (fun _ hk => Nat.lt_of_lt_of_le hk f.size)) g3 g4 g3 g4)
                rw [hsa.out] at HS1
                rw [hsb.out] at HS2
                clear hsa hsb
                refine wp_region_ord (Fr No X4) [] [(0, true), (2, true), (1, false), (3, false), (4, true), (5, true), (6, true), (8, true), (7, false), (9, false), (10, true), (11, true), (12, true), (13, true), (14, true), (15, false), (16, true), (17, true), (18, true), (19, true), (20, true), (21, true), (22, true), (23, true), (24, true), (25, true), (26, false), (27, true), (28, true), (29, true), (30, true), (31, true), (32, true), (33, true)] (by kernel_rfl) (by kernel_rfl) (by kernel_rfl) rfl (Fr.refl _ X4).drew ?_
                repeat (first
                  | (refine wpO_skip rfl rfl ?_; simp only [List.getElem_toArray, List.getElem_cons_succ, List.getElem_cons_zero, Act.put, List.setIfInBounds_toArray, List.set_cons_zero, List.set_cons_succ])
                  | (refine wpO_call rfl rfl ?_; simp only [List.getElem_toArray, List.getElem_cons_succ, List.getElem_cons_zero]; apply Exists.intro; refine ⟨fun X hX => ?_, ?_⟩
                     · (obtain ⟨s0, s1, s2, s3, s4, s5, s6, s7, s8, s9, s10, s11, s12, s13, s14, s15, s16, s17, s18, s19⟩ := HXV.out X hX; go_simp; exact stillUpon_value)
                     simp only [Act.put, List.setIfInBounds_toArray, List.set_cons_zero, List.set_cons_succ]))
                refine wpO_eff rfl rfl (fun K hK => ?_)
                simp only [List.getElem_toArray, List.getElem_cons_succ, List.getElem_cons_zero]
                go_simp
                refine (HN1.out _ (Q4.out.drew)).mono ?_
                rintro e w' ⟨rfl, rfl⟩
                refine hK _ _ (fun _ => (Fr.refl No X4).drew) ?_
                clear hK K
                repeat (first
                  | (refine wpO_skip rfl rfl ?_; simp only [List.getElem_toArray, List.getElem_cons_succ, List.getElem_cons_zero, Act.put, List.setIfInBounds_toArray, List.set_cons_zero, List.set_cons_succ])
                  | (refine wpO_call rfl rfl ?_; simp only [List.getElem_toArray, List.getElem_cons_succ, List.getElem_cons_zero]; apply Exists.intro; refine ⟨fun X hX => ?_, ?_⟩
                     · (obtain ⟨s0, s1, s2, s3, s4, s5, s6, s7, s8, s9, s10, s11, s12, s13, s14, s15, s16, s17, s18, s19⟩ := HXV.out X hX; go_simp; exact stillUpon_value)
                     simp only [Act.put, List.setIfInBounds_toArray, List.set_cons_zero, List.set_cons_succ]))
                refine wpO_eff rfl rfl (fun K hK => ?_)
                simp only [List.getElem_toArray, List.getElem_cons_succ, List.getElem_cons_zero]
                go_simp
                refine (HN2.out _ (Q4.out.drew)).mono ?_
                rintro e wf ⟨rfl, f⟩
                have K1 := hid ((Fr.refl No X4).drew.trans f (fun _ _ h => h))
                clear f
                refine hK _ _ (fun _ => K1.out) ?_
                clear hK K
                repeat (first
                  | (refine wpO_skip rfl rfl ?_; simp only [List.getElem_toArray, List.getElem_cons_succ, List.getElem_cons_zero, Act.put, List.setIfInBounds_toArray, List.set_cons_zero, List.set_cons_succ])
                  | (refine wpO_call rfl rfl ?_; simp only [List.getElem_toArray, List.getElem_cons_succ, List.getElem_cons_zero]; apply Exists.intro; refine ⟨fun X hX => ?_, ?_⟩
                     · (obtain ⟨s0, s1, s2, s3, s4, s5, s6, s7, s8, s9, s10, s11, s12, s13, s14, s15, s16, s17, s18, s19⟩ := HXV.out X hX; go_simp; exact stillUpon_value)
                     simp only [Act.put, List.setIfInBounds_toArray, List.set_cons_zero, List.set_cons_succ]))
                refine wpO_eff rfl rfl (fun K hK => ?_)
                simp only [List.getElem_toArray, List.getElem_cons_succ, List.getElem_cons_zero]
                go_simp
                refine (HN3.out _ (Q4.out.trans K1.out (fun _ _ h => h))).mono ?_
                rintro e w' ⟨rfl, rfl⟩
                refine hK _ _ (fun _ => K1.out) ?_
                clear hK K
                repeat (first
                  | (refine wpO_skip rfl rfl ?_; simp only [List.getElem_toArray, List.getElem_cons_succ, List.getElem_cons_zero, Act.put, List.setIfInBounds_toArray, List.set_cons_zero, List.set_cons_succ])
                  | (refine wpO_call rfl rfl ?_; simp only [List.getElem_toArray, List.getElem_cons_succ, List.getElem_cons_zero]; apply Exists.intro; refine ⟨fun X hX => ?_, ?_⟩
                     · (obtain ⟨s0, s1, s2, s3, s4, s5, s6, s7, s8, s9, s10, s11, s12, s13, s14, s15, s16, s17, s18, s19⟩ := HXV.out X hX; go_simp; exact stillUpon_value)
                     simp only [Act.put, List.setIfInBounds_toArray, List.set_cons_zero, List.set_cons_succ]))
                refine wpO_eff rfl rfl (fun K hK => ?_)
                simp only [List.getElem_toArray, List.getElem_cons_succ, List.getElem_cons_zero]
                go_simp
                refine (HN4.out _ (Q4.out.trans K1.out (fun _ _ h => h))).mono ?_
                rintro e wg ⟨rfl, f⟩
                have K2 := hid (K1.out.trans f (fun _ _ h => h))
                clear f
                refine hK _ _ (fun _ => K2.out) ?_
                clear hK K
                repeat (first
                  | (refine wpO_skip rfl rfl ?_; simp only [List.getElem_toArray, List.getElem_cons_succ, List.getElem_cons_zero, Act.put, List.setIfInBounds_toArray, List.set_cons_zero, List.set_cons_succ])
                  | (refine wpO_call rfl rfl ?_; simp only [List.getElem_toArray, List.getElem_cons_succ, List.getElem_cons_zero]; apply Exists.intro; refine ⟨fun X hX => ?_, ?_⟩
                     · (obtain ⟨s0, s1, s2, s3, s4, s5, s6, s7, s8, s9, s10, s11, s12, s13, s14, s15, s16, s17, s18, s19⟩ := HXV.out X hX; go_simp; exact stillUpon_value)
                     simp only [Act.put, List.setIfInBounds_toArray, List.set_cons_zero, List.set_cons_succ]))
                refine wpO_eff rfl rfl (fun K hK => ?_)
                simp only [List.getElem_toArray, List.getElem_cons_succ, List.getElem_cons_zero]
                go_simp
                refine (HS1.out _ K2.out).mono ?_
                rintro e wh ⟨rfl, f⟩
                have K3 := hid (K2.out.trans f (fun _ _ h => h))
                clear f
                refine hK _ _ (fun _ => K3.out) ?_
                clear hK K
                repeat (first
                  | (refine wpO_skip rfl rfl ?_; simp only [List.getElem_toArray, List.getElem_cons_succ, List.getElem_cons_zero, Act.put, List.setIfInBounds_toArray, List.set_cons_zero, List.set_cons_succ])
                  | (refine wpO_call rfl rfl ?_; simp only [List.getElem_toArray, List.getElem_cons_succ, List.getElem_cons_zero]; apply Exists.intro; refine ⟨fun X hX => ?_, ?_⟩
                     · (obtain ⟨s0, s1, s2, s3, s4, s5, s6, s7, s8, s9, s10, s11, s12, s13, s14, s15, s16, s17, s18, s19⟩ := HXV.out X hX; go_simp; exact stillUpon_value)
                     simp only [Act.put, List.setIfInBounds_toArray, List.set_cons_zero, List.set_cons_succ]))
                refine wpO_eff rfl rfl (fun K hK => ?_)
                simp only [List.getElem_toArray, List.getElem_cons_succ, List.getElem_cons_zero]
                go_simp
                refine (HS2.out _ K3.out).mono ?_
                rintro e wi ⟨rfl, f⟩
                have K4 := hid (K3.out.trans f (fun _ _ h => h))
                clear f
                refine hK _ _ (fun _ => K4.out) ?_
                clear hK K
                repeat (first
                  | (refine wpO_skip rfl rfl ?_; simp only [List.getElem_toArray, List.getElem_cons_succ, List.getElem_cons_zero, Act.put, List.setIfInBounds_toArray, List.set_cons_zero, List.set_cons_succ])
                  | (refine wpO_call rfl rfl ?_; simp only [List.getElem_toArray, List.getElem_cons_succ, List.getElem_cons_zero]; apply Exists.intro; refine ⟨fun X hX => ?_, ?_⟩
                     · (obtain ⟨s0, s1, s2, s3, s4, s5, s6, s7, s8, s9, s10, s11, s12, s13, s14, s15, s16, s17, s18, s19⟩ := HXV.out X hX; go_simp; exact stillUpon_value)
                     simp only [Act.put, List.setIfInBounds_toArray, List.set_cons_zero, List.set_cons_succ]))
                refine wpO_nil ?_
                have P1 := hid (N1.out.fr' K4.out (fun _ _ h => h))
                have P3 := hid (N3.out.fr' K4.out (fun _ _ h => h))
                have r1 := intRow_of P1.out.p
                have r2 := intRow_of P1.out.r
                have r3 := intRow_of P3.out.p
                have r4 := intRow_of P3.out.r
                have m1 : InM (fun b => wA.heap.size ≤ b) B1 tf.params.length := fun _ b o e => (P1.out.p.own (by rw [e]; rfl)).1
                have m2 : InM (fun b => wA.heap.size ≤ b) B2 tf.results.length := fun _ b o e => (P1.out.r.own (by rw [e]; rfl)).1
                have m3 : InM (fun b => wA.heap.size ≤ b) D1 ff.params.length := fun _ b o e => (P3.out.p.own (by rw [e]; rfl)).1
                have m4 : InM (fun b => wA.heap.size ≤ b) D2 ff.results.length := fun _ b o e => (P3.out.r.own (by rw [e]; rfl)).1
                have HTU := hid (turn_any B1 B2 tf.params.length tf.results.length b1 b2 (fun b => wA.heap.size ≤ b) wi r1 r2 m1 m2 g1 g2)
                have HTV := hid (fun X (t : Tw wi X) => turn_any D1 D2 ff.params.length ff.results.length d1 d2 (fun b => wA.heap.size ≤ b) X (r3.tw t) (r4.tw t) m3 m4 g3 g4)
                have QQ := hid (Q4.out.trans K4.out (fun _ _ h => h))
                have V1' := V1.out.fr K4.out (fun x => x)
                have V3' := V3.out.fr K4.out (fun x => x)
                have y0 := V1'.cell 0
                have y1 := V1'.cell 1
                have hq3 := V3'.lt
                have y2 := hid (V3'.cell 0)
                have y3 := hid (V3'.cell 1)
                clear P1 P3 r1 r2 r3 r4 m1 m2 m3 m4 V1' V3' HS1 HS2 HXV K1 K2 K3 K4 N1 N3 V1 V2 V3 V4 E2 E4 Q1 Q2 Q3 Q4
                go_wp2_with fail
                refine HTU.out.mono ?_
                clear HTU y0 y1
                rintro e wj ⟨rfl, f, t⟩
                have z2 := t.keep ⟨q3, 0, none⟩ _ hq3 y2.out (fun v h => by cases h)
                have z3 := t.keep ⟨q3, 1, none⟩ _ hq3 y3.out (fun v h => by cases h)
                have HTV2 := hid (HTV.out _ t)
                have QR := hid (QQ.out.trans f (fun i hi h => by omega))
                clear f t HTV
                go_wp2_with fail
                refine HTV2.out.mono ?_
                clear HTV2 z2 z3
                rintro e wk ⟨rfl, f, t⟩
                have QS := hid (QR.out.trans f (fun i hi h => by omega))
                clear f t
                go_wp2
                go_round
                case rel => exact ⟨k9 + 1, by omega, by go_num, QS⟩
                case measure => simp [intOf]; omega
              · have hk2 : k9 = 2 := by omega
                subst hk2
                clear hgo HT1 HT2 HT3 HT4 HN1 HN2 HN3 HN4
                go_wp2_with fail
                refine (alive_any _).mono ?_
                rintro e wz ⟨rfl, f⟩
                have FZ := hid ((FWA.out.trans FQ.out (fun _ _ h => h)).trans f (fun _ _ h => h))
                clear f
                go_wp2
                go_ret
                exact ⟨rfl, FZ.out⟩
theorem spaceFuncs_walk (w : World) (v0 v1 : Value) (x0 : Md) (x1 : Int) (y0 : tMd.rd w (· < w.heap.size) v0.cells.toList x0) (y1 : (Ty.int .i64).rd w (· < w.heap.size) v1.cells.toList x1) (u0 : tMd.lw 140737488351232 x0) (_u1 : (Ty.int .i64).lw 140737488351232 x1) (hv0 : ∃ cs, v0 = .agg cs) (hv1 : ∃ n, v1 = .int .i64 n) :
    Calls Try.prog 3 #[v0, v1] w fun e w' => e = .returned (.bool true) ∧ Below w.heap.size w w' := by
  obtain ⟨cs, rfl⟩ := hv0
  obtain ⟨n, rfl⟩ := hv1
  obtain ⟨hy, hw⟩ := y1
  have hn : n = x1 := by have : [Value.int .i64 n] = [Value.int .i64 x1] := hy; simpa using this
  subst hn
  obtain ⟨At, ct, Ai, ci, Af, cf, Ata, cta, Am, cm, Ag, cg, Ae, ce, Ael, cel, Ad, cd, Ac, cc, hcs, _, _, h1, _, _, h2, _, _, h3, _, _, h4, _, _, h5, _, _, h6, _, _, h7, _, _, _, h8, _⟩ := Md_cells y0
  have hcs' : cs = #[.slice At x0.types.length ct, .slice Ai x0.imports.length ci, .slice Af x0.funcs.length cf, .slice Ata x0.tables.length cta, .slice Am x0.mems.length cm, .slice Ag x0.globals.length cg, .slice Ae x0.exports.length ce, .bool x0.hasStart, .int .i64 x0.start, .slice Ael x0.elems.length cel, .slice Ad x0.datas cd, .slice Ac x0.customs cc] := by
    have : cs.toList = _ := hcs
    rw [← Array.toArray_toList (xs := cs), this]
  subst hcs'
  exact (sfuncs_t _ _ _ _ _ _ _ _ _ _ ct ci cf cta cm cg ce cel cd cc At Ai Af Ata Am Ag Ae Ael Ad Ac _ _ w x0 n (wf_i64 hw) rfl rfl (md_in h1 h2 h3 h4 h5 h6 h7 h8 u0) h8 (md_items u0) rfl rfl rfl rfl rfl rfl rfl rfl rfl).mono fun e w' ⟨a, b⟩ => ⟨a, b.below⟩
end Go.Proofs.Ytfngopoaegofhaa
