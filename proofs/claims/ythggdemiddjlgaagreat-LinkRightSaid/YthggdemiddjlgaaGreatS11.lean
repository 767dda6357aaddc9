/- Part 11 of the proof: lemmas and contracts of functions. No condition. -/
import Derived.Test.YthggdemiddjlgaaGreatS7
import Derived.Test.YthggdemiddjlgaaGreatS9
import Derived.Test.YthggdemiddjlgaaGreatS5
import Derived.Test.YthggdemiddjlgaaGreatS1
set_option maxRecDepth 100000
set_option maxHeartbeats 12800000
set_option linter.unusedVariables false
set_option linter.unusedSimpArgs false
set_option linter.unusedSectionVars false
namespace Go.Proofs.YthggdemiddjlgaaGreat
open Go.RowKit Go.Proofs.Tryz
def kAJ {α : Type} (f : α → Nat) (l : List α) : Nat := (l.map f).sum
section
variable {α : Type} {f : α → Nat} {l : List α}
theorem sumBy_take {k : Nat} (h : k < l.length) : kAJ f (l.take (k + 1)) = kAJ f (l.take k) + f l[k] := by
 unfold kAJ
 rw [List.take_succ_eq_append_getElem h]
 simp only [List.map_append, List.sum_append, List.map_cons, List.map_nil, List.sum_cons, List.sum_nil, Nat.add_zero]
theorem kBA {a : α} (h : a ∈ l) : f a ≤ kAJ f l := by
 induction l with
 | nil => cases h
 | cons b l ih =>
  unfold kAJ at *
  simp only [List.map_cons, List.sum_cons]
  rcases List.mem_cons.1 h with rfl | h
  · omega
  · have := ih h
    omega
theorem kAn {b : Nat} (h : ∀ a ∈ l, f a ≤ b) : kAJ f l ≤ l.length * b := by
 induction l with
 | nil => simp [kAJ]
 | cons c l ih =>
  have h1 := h c List.mem_cons_self
  have h2 := ih (fun a ha => h a (List.mem_cons_of_mem _ ha))
  have e : kAJ f (c :: l) = f c + kAJ f l := by simp [kAJ]
  rw [e, List.length_cons, Nat.add_mul]
  omega
theorem kAW {b n k : Nat} (h : ∀ a ∈ l, f a ≤ b) (hn : l.length ≤ n) : kAJ f (l.take k) ≤ n * b := by
 refine Nat.le_trans (kAn (fun a ha => h a (List.mem_of_mem_take ha))) (Nat.mul_le_mul ?_ (Nat.le_refl b))
 rw [List.length_take]
 omega
end
def InsOk (l : List Ins) : Prop := l.length ≤ 3000 ∧ ∀ i ∈ l, i.labels.length ≤ 100 ∧ i.types.length ≤ 100
def sFn (a : Fn) : Nat := a.params.length + a.results.length
def sIm (a : Im) : Nat := a.mod.size + a.name.size
def sCd (a : Cd) : Nat := a.locals.length
def sEx (a : Ex) : Nat := a.name.size
def sDa (a : Da) : Nat := a.bytes.length
def sCu (a : Cu) : Nat := a.bytes.length + a.name.size
structure LtB (m : Md) : Prop where
 types : m.types.length ≤ 100
 imports : m.imports.length ≤ 100
 funcs : m.funcs.length ≤ 100
 tables : m.tables.length ≤ 100
 mems : m.mems.length ≤ 100
 globals : m.globals.length ≤ 100
 exports : m.exports.length ≤ 100
 elems : m.elems.length ≤ 100
 datas : m.datas.length ≤ 100
 customs : m.customs.length ≤ 100
 fn : ∀ a ∈ m.types, sFn a ≤ 9000
 im : ∀ a ∈ m.imports, sIm a ≤ 9000
 cd : ∀ a ∈ m.funcs, sCd a ≤ 9000 ∧ InsOk a.body
 gd : ∀ a ∈ m.globals, InsOk a.init
 ex : ∀ a ∈ m.exports, sEx a ≤ 9000
 el : ∀ a ∈ m.elems, a.items.length ≤ 300 ∧ InsOk a.off ∧ ∀ l ∈ a.items, InsOk l
 da : ∀ a ∈ m.datas, sDa a ≤ 9000 ∧ InsOk a.off
 cu : ∀ a ∈ m.customs, sCu a ≤ 9000
theorem InsOk.body {l : List Ins} (h : InsOk l) : kBb l := ⟨by have := h.1; omega, fun i hi => ⟨by have := (h.2 i hi).2; omega, by have := (h.2 i hi).1; omega⟩⟩
theorem LtB.md {m : Md} (h : LtB m) : MdB m where
 types := ⟨by have := h.types; omega, fun a ha => by have := h.fn a ha; unfold sFn at this; exact ⟨by omega, by omega⟩⟩
 imports := by have := h.imports; omega
 funcs := ⟨by have := h.funcs; omega, fun a ha => ⟨by have := (h.cd a ha).1; unfold sCd at this; omega, (h.cd a ha).2.body⟩⟩
 tables := by have := h.tables; omega
 mems := by have := h.mems; omega
 globals := ⟨by have := h.globals; omega, fun a ha => (h.gd a ha).body⟩
 exports := by have := h.exports; omega
 elems := ⟨by have := h.elems; omega, fun a ha => ⟨(h.el a ha).2.1.body, by have := (h.el a ha).1; omega, fun l hl => ((h.el a ha).2.2 l hl).body⟩⟩
 datas := ⟨by have := h.datas; omega, fun a ha => ⟨(h.da a ha).2.body, by have := (h.da a ha).1; unfold sDa at this; omega⟩⟩
 customs := ⟨by have := h.customs; omega, fun a ha => by have := h.cu a ha; unfold sCu at this; unfold CuB; omega⟩
def kAR (l : List El) : List (List Ins) := l.flatMap fun e => e.off :: e.items
def kDg (m : Md) : List (List Ins) := m.funcs.map (·.body) ++ m.globals.map (·.init) ++ kAR m.elems ++ m.datas.map (·.off)
def kCx (m : Md) : Nat := kAJ sFn m.types + kAJ sIm m.imports + kAJ sCd m.funcs + kAJ sEx m.exports + kAJ sDa m.datas + kAJ sCu m.customs
theorem kCp {l : List El} {e : El} (h : e ∈ l) : e.off ∈ kAR l ∧ ∀ x ∈ e.items, x ∈ kAR l := by
 unfold kAR
 exact ⟨List.mem_flatMap.2 ⟨e, h, List.mem_cons_self⟩, fun x hx => List.mem_flatMap.2 ⟨e, h, List.mem_cons_of_mem _ hx⟩⟩
theorem kEP {l : List El} {k : Nat} (h : k < l.length) : kAR (l.take (k + 1)) = kAR (l.take k) ++ [l[k].off] ++ l[k].items := by
 unfold kAR
 rw [List.take_succ_eq_append_getElem h, List.flatMap_append]
 simp
theorem kCn {l : List El} (h : ∀ e ∈ l, e.items.length ≤ 300) : (kAR l).length ≤ l.length * 301 := by
 induction l with
 | nil => simp [kAR]
 | cons e l ih =>
  have h1 := h e List.mem_cons_self
  have h2 := ih (fun a ha => h a (List.mem_cons_of_mem _ ha))
  unfold kAR at *
  simp only [List.flatMap_cons, List.length_append, List.length_cons]
  omega
theorem kID {m : Md} (h0 : m.types.length ≤ 100 ∧ m.imports.length ≤ 100 ∧ m.funcs.length ≤ 100 ∧ m.tables.length ≤ 100 ∧ m.mems.length ≤ 100 ∧ m.globals.length ≤ 100 ∧ m.exports.length ≤ 100 ∧ m.elems.length ≤ 100 ∧ m.datas.length ≤ 100 ∧ m.customs.length ≤ 100)
    (hi : ∀ e ∈ m.elems, e.items.length ≤ 300) (hs : kCx m ≤ 9000) (hr : ∀ x ∈ kDg m, InsOk x) : LtB m := by
 obtain ⟨k0, k1, k2, k3, k4, k5, k6, k7, k8, k9⟩ := h0
 unfold kCx at hs
 unfold kDg at hr
 have r1 : ∀ a ∈ m.funcs, InsOk a.body := fun a ha => hr _ (by simp only [List.mem_append, List.mem_map]; exact .inl (.inl (.inl ⟨a, ha, rfl⟩)))
 have r2 : ∀ a ∈ m.globals, InsOk a.init := fun a ha => hr _ (by simp only [List.mem_append, List.mem_map]; exact .inl (.inl (.inr ⟨a, ha, rfl⟩)))
 have r3 : ∀ x ∈ kAR m.elems, InsOk x := fun x hx => hr _ (by simp only [List.mem_append, List.mem_map]; exact .inl (.inr hx))
 have r4 : ∀ a ∈ m.datas, InsOk a.off := fun a ha => hr _ (by simp only [List.mem_append, List.mem_map]; exact .inr ⟨a, ha, rfl⟩)
 exact ⟨k0, k1, k2, k3, k4, k5, k6, k7, k8, k9, fun a ha => by have := kBA (f := sFn) ha; omega, fun a ha => by have := kBA (f := sIm) ha; omega, fun a ha => ⟨by have := kBA (f := sCd) ha; omega, r1 a ha⟩, r2,
  fun a ha => by have := kBA (f := sEx) ha; omega, fun a ha => ⟨hi a ha, r3 _ (kCp ha).1, fun l hl => r3 _ ((kCp ha).2 l hl)⟩, fun a ha => ⟨by have := kBA (f := sDa) ha; omega, r4 a ha⟩, fun a ha => by have := kBA (f := sCu) ha; omega⟩
def kIQ (l : List (List Ins)) (w : World) (e : Ending) (w' : World) : Prop := (∃ r, e = .returned (.bool r) ∧ (r = true → ∀ x ∈ l, InsOk x)) ∧ Fr No w w'
theorem kGL (l : List (List Ins)) (A : OA) (c : Nat) (S : Nat → Prop) (w : World) (h : tIns.slice.els w S A l) (hS : Lt S w) (hb : ∀ x ∈ l, x.length ≤ 140737488351232) (hl : l.length ≤ 1000000) :
    Calls prog 20 #[.slice A l.length c, .int .i64 3000] w (kIQ l w) := by
 have H := hid h
 have HS := hid hS
 have HB := hid hb
 have HLL := hid hl
 clear h hS hb hl
 go_enter func20, ntmps20
 go_wp2_with fail
 go_loopw [5, 6] (fun n i wr => ∃ k : Nat, k ≤ l.length ∧ n = .int .i64 ((kAJ List.length (l.take k) : Nat) : Int) ∧ i = .int .i64 k ∧ Hid (Fr No w wr) ∧ Hid (kAJ List.length (l.take k) ≤ 3000 ∧ ∀ x ∈ l.take k, InsOk x)) (fun _ i _ => l.length - (intOf i).toNat)
 case atStart => exact ⟨0, by omega, rfl, rfl, Fr.refl _ _, by simp [kAJ], fun x hx => by simp at hx⟩
 case round =>
 obtain ⟨k, hk, rfl, rfl, F, HN⟩ := hrel
 by_cases hlt : k < l.length
 · have d1 : decide ((k : Int) < (l.length : Nat)) = true := by simp; omega
   have i0 := nki k
   have i1 : (k : Int) < (l.length : Nat) := om
   have HLT : Hid (k + 1 ≤ l.length) := hlt
   obtain ⟨b, o, ds, eB, hb, hc, hr⟩ := (els_up H.o F.o HS.o i2).at_ k hlt
   have HXB := hid (HB.o _ (List.getElem_mem hlt))
   have HTK := hid (And.intro (sumBy_take (f := List.length) hlt) (List.take_succ_eq_append_getElem hlt))
   generalize l[k] = x at *
   obtain ⟨s, hs⟩ : ∃ s, s = kAJ List.length (l.take k) := ⟨_, rfl⟩
   rw [← hs] at HN HTK ⊢
   clear hs
   subst eB
   obtain ⟨A2, c2, rfl, hc1, hc2, he⟩ := hr
   have y : wr.cell? ⟨b, o + k, none⟩ = some (.slice A2 x.length c2) := by
    have h := hc 0 _ rfl
    rwa [show o + (k * tIns.slice.size + 0) = o + k by show o + (k * 1 + 0) = _; omega] at h
   have HE := hid he
   have s3 : s ≤ 3000 := HN.o.1
   have x3 := HXB.o
   have hw : wrap64 ((s : Int) + (x.length : Nat)) = ((s + x.length : Nat) : Int) := by simp only [wrap64]; omega
   have hw2 : IntKind.i64.wrap ((s : Int) + (x.length : Nat)) = ((s + x.length : Nat) : Int) := by rw [IntKind.wrap_i64]; omega
   clear hc he hb hc1 hc2
   by_cases hbig : 3000 < s + x.length
   · have d2 : decide ((3000 : Int) < (s : Int) + (x.length : Nat)) = true := by simp; omega
     clear s3 x3 hbig
     exact yy54
   have d2 : decide ((3000 : Int) < (s : Int) + (x.length : Nat)) = false := by simp; omega
   have HSX : Hid (s + x.length ≤ 3000) := by unfold Hid; omega
   clear s3 x3 hbig
   go_wp2_with fail
   go_loopw [7] (fun j wr2 => ∃ q : Nat, q ≤ x.length ∧ j = .int .i64 q ∧ wr2 = wr ∧ Hid (∀ p (hp : p < x.length), p < q → x[p].labels.length ≤ 100 ∧ x[p].types.length ≤ 100)) (fun j _ => x.length - (intOf j).toNat)
   case atStart => exact ⟨0, by omega, rfl, rfl, fun p hp h => by omega⟩
   case round =>
   obtain ⟨q, hq, rfl, rfl, HQ⟩ := hrel
   by_cases hql : q < x.length
   · have q1 : decide ((q : Int) < (x.length : Nat)) = true := by simp; omega
     have q0 := nki q
     have q2 : (q : Int) < (x.length : Nat) := om
     have HQL : Hid (q + 1 ≤ x.length) := hql
     have hx3 := HXB.o
     obtain ⟨g, o2, P1, p1, P2, p2, eg, -, -, -, -, -, -, -, -, z7, z8, -⟩ := kIU HE.o q hql
     subst eg
     have HNX : Hid (x[q].labels.length ≤ 100 → x[q].types.length ≤ 100 → ∀ p (hp : p < x.length), p < q + 1 → x[p].labels.length ≤ 100 ∧ x[p].types.length ≤ 100) := fun h1 h2 p hp h => by
      rcases Nat.lt_or_ge p q with h3 | h3
      · exact HQ.o p hp h3
      have e : p = q := om
      subst e
      exact ⟨h1, h2⟩
     generalize x[q] = it at z7 z8 HNX
     by_cases t1 : 100 < it.labels.length
     · have t2 : decide ((100 : Int) < (it.labels.length : Nat)) = true := by simp; omega
       clear t1 hql
       exact yy54
     have t2 : decide ((100 : Int) < (it.labels.length : Nat)) = false := by simp; omega
     have T1 : Hid (it.labels.length ≤ 100) := by unfold Hid; omega
     clear t1
     by_cases t3 : 100 < it.types.length
     · have t4 : decide ((100 : Int) < (it.types.length : Nat)) = true := by simp; omega
       clear t3 hql
       exact yy54
     have t4 : decide ((100 : Int) < (it.types.length : Nat)) = false := by simp; omega
     have T3 : Hid (it.types.length ≤ 100) := by unfold Hid; omega
     clear t3 hql
     go_wp2_with fail
     go_roundw
     case rel => exact ⟨q + 1, HQL.o, by go_num, trivial, HNX.o T1.o T3.o⟩
     have := HQL.o; simp [intOf]; omega
   have q1 : decide ((q : Int) < (x.length : Nat)) = false := by simp; omega
   have q2 : ¬ ((q : Int) < (x.length : Nat)) := om
   have HXO : Hid (InsOk x) := by
    refine ⟨by have := HSX.o; omega, fun i hi => ?_⟩
    obtain ⟨p, hp, rfl⟩ := List.getElem_of_mem hi
    exact HQ.o p hp om
   clear hql
   have hll := HLL.o
   have hlt2 := HLT.o
   go_wp2_with fail
   go_roundw
   case rel =>
    refine ⟨k + 1, HLT.o, by rw [HTK.o.1, Int.natCast_add], by go_num, F.o, by rw [HTK.o.1]; exact HSX.o, fun z hz => ?_⟩
    rw [HTK.o.2] at hz
    rcases List.mem_append.1 hz with h1 | h1
    · exact HN.o.2 z h1
    rw [List.mem_singleton.1 h1]; exact HXO.o
   have := HLT.o; simp [intOf]; omega
 have d1 : decide ((k : Int) < (l.length : Nat)) = false := by simp; omega
 have d2 : ¬ ((k : Int) < (l.length : Nat)) := om
 go_wp2_with fail
 go_ret
 refine ⟨⟨true, rfl, fun _ x hx => HN.o.2 x ?_⟩, F.o⟩
 rwa [List.take_of_length_le om]
theorem meas0 {n k : Nat} (h : k < n) : n - (intOf (.int .i64 ((k + 1 : Nat) : Int))).toNat < n - (intOf (.int .i64 (k : Int))).toNat := by
 simp only [intOf, Int.toNat_natCast]
 omega
theorem kDZ {n s a b : Nat} (hn : n ≤ 150000000000000000) (hs : s ≤ 100 * 281474976702464) (ha : a ≤ 140737488351232) (hb : b ≤ 140737488351232) : IntKind.i64.wrap ((n : Int) + s + IntKind.i64.wrap ((a : Int) + b)) = ((n + (s + (a + b)) : Nat) : Int) := by
 simp only [IntKind.wrap_i64]
 omega
structure LtW (m : Md) : Prop where
 fn : ∀ a ∈ m.types, a.params.length ≤ 140737488351232 ∧ a.results.length ≤ 140737488351232
 im : ∀ a ∈ m.imports, a.mod.size ≤ 140737488351232 ∧ a.name.size ≤ 140737488351232
 cd : ∀ a ∈ m.funcs, a.locals.length ≤ 140737488351232 ∧ a.body.length ≤ 140737488351232
 gd : ∀ a ∈ m.globals, a.init.length ≤ 140737488351232
 ex : ∀ a ∈ m.exports, a.name.size ≤ 140737488351232
 el : ∀ a ∈ m.elems, a.off.length ≤ 140737488351232 ∧ ∀ l ∈ a.items, l.length ≤ 140737488351232
 da : ∀ a ∈ m.datas, a.bytes.length ≤ 140737488351232 ∧ a.off.length ≤ 140737488351232
 cu : ∀ a ∈ m.customs, a.bytes.length ≤ 140737488351232 ∧ a.name.size ≤ 140737488351232
def kHt (m : Md) (w : World) (e : Ending) (w' : World) : Prop := (∃ r, e = .returned (.bool r) ∧ (r = true → LtB m)) ∧ Fr No w w'
theorem kES (m : Md) {ms : LV} (w : World) (hm : tMd.rd w (· < w.heap.size) ms m) (hw : LtW m) :
    Calls prog 9 #[.agg ms.toArray] w (kHt m w) := by
 obtain ⟨A0, c0, A1, c1, A2, c2, A3, c3, A4, c4, A5, c5, A6, c6, A7, c7, A8, c8, A9, c9, hms, -, -, e0, -, -, e1, -, -, e2, -, -, e3, -, -, e4, -, -, e5, -, -, e6, -, -, -, e7, -, -, e8, -, -, e9⟩ := kBS hm
 have E0 := hid e0
 have E1 := hid e1
 have E2 := hid e2
 have E3 := hid e3
 have E4 := hid e4
 have E5 := hid e5
 have E6 := hid e6
 have E7 := hid e7
 have E8 := hid e8
 have E9 := hid e9
 have HW := hid hw
 have HL : Hid (ms.length = 12) := TyOk.len _ _ _ _ hm
 have F0 := hid ((Fr.refl No w).alloc (.cells ms.toArray 55))
 have B0 := hid (Blk.new w 55 ms.toArray)
 have HC : Hid (∀ (X : World) (p : Nat), Blk X p 55 ms.toArray → Ce X p 0 (.slice A0 m.types.length c0) ∧ Ce X p 1 (.slice A1 m.imports.length c1) ∧ Ce X p 2 (.slice A2 m.funcs.length c2) ∧ Ce X p 3 (.slice A3 m.tables.length c3) ∧ Ce X p 4 (.slice A4 m.mems.length c4) ∧ Ce X p 5 (.slice A5 m.globals.length c5) ∧ Ce X p 6 (.slice A6 m.exports.length c6) ∧ Ce X p 9 (.slice A7 m.elems.length c7) ∧ Ce X p 10 (.slice A8 m.datas.length c8) ∧ Ce X p 11 (.slice A9 m.customs.length c9)) := fun X p b => by
  rw [hms] at b
  exact ⟨b.cell 0, b.cell 1, b.cell 2, b.cell 3, b.cell 4, b.cell 5, b.cell 6, b.cell 9, b.cell 10, b.cell 11⟩
 clear hm hw hms e0 e1 e2 e3 e4 e5 e6 e7 e8 e9
 go_enter func9, ntmps9
 go_upto_region 1 with fail
 generalize w.alloc (.cells ms.toArray 55) = W at *
 obtain ⟨p, hp⟩ : ∃ p, p = w.heap.size := ⟨_, rfl⟩
 rw [← hp] at B0 ⊢
 have HP := hid hp
 clear hp
 have HX : Hid (∀ X, Fr No W X → Ce X p 0 (.slice A0 m.types.length c0) ∧ Ce X p 1 (.slice A1 m.imports.length c1) ∧ Ce X p 2 (.slice A2 m.funcs.length c2) ∧ Ce X p 3 (.slice A3 m.tables.length c3) ∧ Ce X p 4 (.slice A4 m.mems.length c4) ∧ Ce X p 5 (.slice A5 m.globals.length c5) ∧ Ce X p 6 (.slice A6 m.exports.length c6) ∧ Ce X p 9 (.slice A7 m.elems.length c7) ∧ Ce X p 10 (.slice A8 m.datas.length c8) ∧ Ce X p 11 (.slice A9 m.customs.length c9)) := fun X f => HC.o X p (B0.o.fr f id)
 clear HC
 obtain ⟨y0, y1, y2, y3, y4, y5, y6, y7, y8, y9⟩ := HX.o _ (Fr.refl No W)
 by_cases h0 : 100 < m.types.length
 · have d0 : decide ((100 : Int) < (m.types.length : Nat)) = true := by simp; omega
   clear h0
   exact yy8
 have d0 : decide ((100 : Int) < (m.types.length : Nat)) = false := by simp; omega
 have H0 : Hid (m.types.length ≤ 100) := by unfold Hid; omega
 clear h0
 by_cases h1 : 100 < m.imports.length
 · have d1 : decide ((100 : Int) < (m.imports.length : Nat)) = true := by simp; omega
   clear h1
   exact yy8
 have d1 : decide ((100 : Int) < (m.imports.length : Nat)) = false := by simp; omega
 have H1 : Hid (m.imports.length ≤ 100) := by unfold Hid; omega
 clear h1
 by_cases h2 : 100 < m.funcs.length
 · have d2 : decide ((100 : Int) < (m.funcs.length : Nat)) = true := by simp; omega
   clear h2
   exact yy8
 have d2 : decide ((100 : Int) < (m.funcs.length : Nat)) = false := by simp; omega
 have H2 : Hid (m.funcs.length ≤ 100) := by unfold Hid; omega
 clear h2
 by_cases h3 : 100 < m.tables.length
 · have d3 : decide ((100 : Int) < (m.tables.length : Nat)) = true := by simp; omega
   clear h3
   exact yy8
 have d3 : decide ((100 : Int) < (m.tables.length : Nat)) = false := by simp; omega
 have H3 : Hid (m.tables.length ≤ 100) := by unfold Hid; omega
 clear h3
 by_cases h4 : 100 < m.mems.length
 · have d4 : decide ((100 : Int) < (m.mems.length : Nat)) = true := by simp; omega
   clear h4
   exact yy8
 have d4 : decide ((100 : Int) < (m.mems.length : Nat)) = false := by simp; omega
 have H4 : Hid (m.mems.length ≤ 100) := by unfold Hid; omega
 clear h4
 by_cases h5 : 100 < m.globals.length
 · have d5 : decide ((100 : Int) < (m.globals.length : Nat)) = true := by simp; omega
   clear h5
   exact yy8
 have d5 : decide ((100 : Int) < (m.globals.length : Nat)) = false := by simp; omega
 have H5 : Hid (m.globals.length ≤ 100) := by unfold Hid; omega
 clear h5
 by_cases h6 : 100 < m.exports.length
 · have d6 : decide ((100 : Int) < (m.exports.length : Nat)) = true := by simp; omega
   clear h6
   exact yy8
 have d6 : decide ((100 : Int) < (m.exports.length : Nat)) = false := by simp; omega
 have H6 : Hid (m.exports.length ≤ 100) := by unfold Hid; omega
 clear h6
 by_cases h7 : 100 < m.elems.length
 · have d7 : decide ((100 : Int) < (m.elems.length : Nat)) = true := by simp; omega
   clear h7
   exact yy8
 have d7 : decide ((100 : Int) < (m.elems.length : Nat)) = false := by simp; omega
 have H7 : Hid (m.elems.length ≤ 100) := by unfold Hid; omega
 clear h7
 by_cases h8 : 100 < m.datas.length
 · have d8 : decide ((100 : Int) < (m.datas.length : Nat)) = true := by simp; omega
   clear h8
   exact yy8
 have d8 : decide ((100 : Int) < (m.datas.length : Nat)) = false := by simp; omega
 have H8 : Hid (m.datas.length ≤ 100) := by unfold Hid; omega
 clear h8
 by_cases h9 : 100 < m.customs.length
 · have d9 : decide ((100 : Int) < (m.customs.length : Nat)) = true := by simp; omega
   clear h9
   exact yy8
 have d9 : decide ((100 : Int) < (m.customs.length : Nat)) = false := by simp; omega
 have H9 : Hid (m.customs.length ≤ 100) := by unfold Hid; omega
 clear h9
 go_wp2_with fail
 clear y0 y1 y2 y3 y4 y5 y6 y7 y8 y9 d0 d1 d2 d3 d4 d5 d6 d7 d8 d9
 have FW0 := hid (Fr.refl No W)
 go_loopw [4, 5] (fun n i wr => ∃ k : Nat, k ≤ m.types.length ∧ n = .int .i64 ((kAJ sFn (m.types.take k) : Nat) : Int) ∧ i = .int .i64 k ∧ Hid (Fr No W wr)) (fun _ i _ => m.types.length - (intOf i).toNat)
 case atStart => exact ⟨0, by omega, by simp [kAJ], rfl, Fr.refl _ _⟩
 case round =>
 obtain ⟨k, hk, rfl, rfl, F⟩ := hrel
 obtain ⟨y0, y1, y2, y3, y4, y5, y6, y7, y8, y9⟩ := HX.o _ (FW0.o.trans F.o i3)
 have h100 := H0.o
 by_cases hlt : k < m.types.length
 · have d1 : decide ((k : Int) < (m.types.length : Nat)) = true := by simp; omega
   have i0 := nki k
   have i1 : (k : Int) < (m.types.length : Nat) := om
   have HLT : Hid (k + 1 ≤ m.types.length) := hlt
   have FW := hid (F0.o.trans (FW0.o.trans F.o i3) i3)
   obtain ⟨b, o, P1, p1, P2, p2, eA, hbS, z0, z1, -⟩ := kIq (els_up E0.o FW.o i2 i2) k hlt
   subst eA
   have hbl : b < wr.heap.size := ltl hbS FW.o.size
   have HAB := hid (HW.o.fn _ (List.getElem_mem hlt))
   have HTK := hid (sumBy_take (f := sFn) hlt)
   have HSB := hid (kAW (f := sFn) (l := m.types) (b := 281474976702464) (n := 100) (k := k) (fun a ha => by have := HW.o.fn a ha; unfold sFn; omega) H0.o)
   generalize m.types[k] = f at z0 z1 HAB HTK
   have HY : Hid (∀ X, Fr No wr X → Ce X p 0 (.slice (some ⟨b, o, none⟩) m.types.length c0) ∧ Ce X b (o + k * 2) (.slice P1 f.params.length p1) ∧ Ce X b (o + k * 2 + 1) (.slice P2 f.results.length p2)) := fun X g =>
    ⟨(HX.o _ (FW0.o.trans (F.o.trans g i3) i3)).1, (g.cell (p := ⟨b, o + k * 2, none⟩) hbl id).trans z0, (g.cell (p := ⟨b, o + k * 2 + 1, none⟩) hbl id).trans z1⟩
   clear z0 z1 hbl hbS
   go_upto_region 8 with fail
   clear y0 y1 y2 y3 y4 y5 y6 y7 y8 y9
   generalize kAJ sFn (m.types.take k) = s at *
   have s1 := HSB.o
   have s2 := HAB.o.1
   have s3 := HAB.o.2
   refine rwO (Fr No wr) [] (List.range 18) [] (Fr.refl _ _).drew ?_
   refine rO HY.o ?_
   refine wpO_nil ?_
   have FD := hid (F.o.trans (Fr.refl No wr).drew i3)
   go_wp2
   go_roundw
   case rel => exact ⟨k + 1, HLT.o, by rw [HTK.o]; refine congrArg (Value.int .i64) ?_; simp only [sFn]; simp only [IntKind.wrap_i64]; omega, by go_num, FD.o⟩
   exact meas0 HLT.o
 have hkn : k = m.types.length := om
 subst hkn
 rw [List.take_length]
 obtain ⟨W1, hY⟩ : ∃ Y, Y = wr := ⟨_, rfl⟩
 subst hY
 have FW1 := ftr FW0 F.o
 clear F hk hlt
 go_wp2_with fail
 clear y0 y1 y2 y3 y4 y5 y6 y7 y8 y9
 have HS0 := hid (kAn (f := sFn) (l := m.types) (b := 281474976702464) (fun a ha => by have := HW.o.fn a ha; unfold sFn; omega))
 have K0 := H0.o
 obtain ⟨n0, hn0⟩ : ∃ n, n = kAJ sFn m.types := ⟨_, rfl⟩
 rw [← hn0] at HS0 ⊢
 have N0 : Hid (n0 ≤ 28147497670246400) := hid (by have := HS0.o; omega)
 have HN0 := hid hn0
 clear hn0 HS0 K0
 have b0 := N0.o
 go_loopw [4, 6] (fun n i wr => ∃ k : Nat, k ≤ m.imports.length ∧ n = .int .i64 ((n0 + kAJ sIm (m.imports.take k) : Nat) : Int) ∧ i = .int .i64 k ∧ Hid (Fr No W1 wr)) (fun _ i _ => m.imports.length - (intOf i).toNat)
 case atStart => exact ⟨0, by omega, by simp [kAJ], rfl, Fr.refl _ _⟩
 case round =>
 obtain ⟨k, hk, rfl, rfl, F⟩ := hrel
 obtain ⟨y0, y1, y2, y3, y4, y5, y6, y7, y8, y9⟩ := HX.o _ (FW1.o.trans F.o i3)
 have h100 := H1.o
 by_cases hlt : k < m.imports.length
 · have d1 : decide ((k : Int) < (m.imports.length : Nat)) = true := by simp; omega
   have i0 := nki k
   have i1 : (k : Int) < (m.imports.length : Nat) := om
   have HLT : Hid (k + 1 ≤ m.imports.length) := hlt
   have FW := hid (F0.o.trans (FW1.o.trans F.o i3) i3)
   obtain ⟨b, o, eA, hbS, z0, z1, -⟩ := kHM (els_up E1.o FW.o i2 i2) k hlt
   subst eA
   have hbl : b < wr.heap.size := ltl hbS FW.o.size
   have HAB := hid (HW.o.im _ (List.getElem_mem hlt))
   have HTK := hid (sumBy_take (f := sIm) hlt)
   have HSB := hid (kAW (f := sIm) (l := m.imports) (b := 281474976702464) (n := 100) (k := k) (fun a ha => by have := HW.o.im a ha; unfold sIm; omega) H1.o)
   generalize m.imports[k] = f at z0 z1 HAB HTK
   have HY : Hid (∀ X, Fr No wr X → Ce X p 1 (.slice (some ⟨b, o, none⟩) m.imports.length c1) ∧ Ce X b (o + k * 13) (.string f.mod) ∧ Ce X b (o + k * 13 + 1) (.string f.name)) := fun X g =>
    ⟨(HX.o _ (FW1.o.trans (F.o.trans g i3) i3)).2.1, (g.cell (p := ⟨b, o + k * 13, none⟩) hbl id).trans z0, (g.cell (p := ⟨b, o + k * 13 + 1, none⟩) hbl id).trans z1⟩
   clear z0 z1 hbl hbS
   go_upto_region 12 with fail
   clear y0 y1 y2 y3 y4 y5 y6 y7 y8 y9
   generalize kAJ sIm (m.imports.take k) = s at *
   have s1 := HSB.o
   have s2 := HAB.o.1
   have s3 := HAB.o.2
   refine rwO (Fr No wr) [] (List.range 18) [] (Fr.refl _ _).drew ?_
   refine rO HY.o ?_
   refine wpO_nil ?_
   have FD := hid (F.o.trans (Fr.refl No wr).drew i3)
   go_wp2
   go_roundw
   case rel => exact ⟨k + 1, HLT.o, by rw [HTK.o]; refine congrArg (Value.int .i64) ?_; simp only [sIm]; exact kDZ (Nat.le_trans N0.o dc) HSB.o HAB.o.1 HAB.o.2, by go_num, FD.o⟩
   exact meas0 HLT.o
 have hkn : k = m.imports.length := om
 subst hkn
 rw [List.take_length]
 obtain ⟨W2, hY⟩ : ∃ Y, Y = wr := ⟨_, rfl⟩
 subst hY
 have FW2 := ftr FW1 F.o
 clear F hk hlt
 go_wp2_with fail
 clear y0 y1 y2 y3 y4 y5 y6 y7 y8 y9
 have HS1 := hid (kAn (f := sIm) (l := m.imports) (b := 281474976702464) (fun a ha => by have := HW.o.im a ha; unfold sIm; omega))
 have K1 := H1.o
 obtain ⟨n1, hn1⟩ : ∃ n, n = n0 + kAJ sIm m.imports := ⟨_, rfl⟩
 rw [← hn1]
 have N1 : Hid (n1 ≤ 60000000000000000) := hid (by have := HS1.o; have := N0.o; rw [hn1]; omega)
 have HN1 := hid hn1
 clear hn1 HS1 K1
 have b1 := N1.o
 have R0 : Hid (tIns.slice.row W2 W.heap.size (· < w.heap.size) 104 (.slice none 0 0) []) := Ty.row.nil _ _ _ _
 obtain ⟨r0, hr0⟩ : ∃ r : List (List Ins), r = [] := ⟨_, rfl⟩
 rw [← hr0] at R0
 have RW := hid R0.o
 have r0L : Hid (r0.length ≤ 0) := by rw [hr0]; exact Nat.le_refl 0
 have HRr0 := hid hr0
 clear hr0 R0
 go_loopw [3, 4, 7] (fun al n i wr => ∃ k : Nat, k ≤ m.funcs.length ∧ n = .int .i64 ((n1 + kAJ sCd (m.funcs.take k) : Nat) : Int) ∧ i = .int .i64 k ∧ Hid (tIns.slice.row wr W.heap.size (· < w.heap.size) 104 al (r0 ++ (m.funcs.take k).map (·.body))) ∧ Hid (Fr No W wr)) (fun _ _ i _ => m.funcs.length - (intOf i).toNat)
 case atStart => exact ⟨0, by omega, by simp [kAJ], rfl, by simpa [Hid] using RW.o, FW2.o⟩
 case round =>
 clear RW
 obtain ⟨k, hk, rfl, rfl, ROW, FX⟩ := hrel
 obtain ⟨y0, y1, y2, y3, y4, y5, y6, y7, y8, y9⟩ := HX.o _ FX.o
 have h100 := H2.o
 by_cases hlt : k < m.funcs.length
 · have d1 : decide ((k : Int) < (m.funcs.length : Nat)) = true := by simp; omega
   have i0 := nki k
   have i1 : (k : Int) < (m.funcs.length : Nat) := om
   have HLT : Hid (k + 1 ≤ m.funcs.length) := hlt
   have FW := ftr F0 FX.o
   have HLOW : Hid (∀ k, k < w.heap.size → k < wr.heap.size) := fun k hk => ltl hk FW.o.size
   have HBS : Hid (W.heap.size ≤ wr.heap.size) := FX.o.size
   obtain ⟨b, o, P1, p1, P2, p2, eA, hbS, z0, z1, z2, -, -, -, -, l3, l4, el2⟩ := kIy (els_up E2.o FW.o i2 i2) k hlt
   subst eA
   have HAB := hid (HW.o.cd _ (List.getElem_mem hlt))
   have HSU := hid (sumBy_take (f := sCd) hlt)
   have HSB := hid (kAW (f := sCd) (l := m.funcs) (b := 281474976702464) (n := 100) (k := k) (fun a ha => by have := HW.o.cd a ha; unfold sCd; omega) H2.o)
   have HTK : Hid (r0 ++ (m.funcs.take (k + 1)).map (·.body) = (r0 ++ (m.funcs.take k).map (·.body)) ++ [m.funcs[k].body]) := by
    exact yy52
   have HRD : Hid (∀ X, Fr No wr X → tIns.slice.rd X (· < w.heap.size) [.slice P2 m.funcs[k].body.length p2] m.funcs[k].body) := fun X g => ⟨P2, p2, rfl, l3, l4, els_up el2 g (fun k hk => ltl hk FW.o.size) i2⟩
   have HLX : Hid ((r0 ++ (m.funcs.take k).map (·.body)).length ≤ 0 + 100) := hid (by have := r0L.o; rw [List.length_append, List.length_map, List.length_take]; omega)
   clear l3 l4 el2 hbS
   generalize m.funcs[k] = f at z0 z1 z2 HAB HTK HRD HSU
   have F5 := hid ((Fr.refl No wr).alloc (.cells #[.slice P2 f.body.length p2] 104))
   have G5 := hid (Blk.new wr 104 #[.slice P2 f.body.length p2])
   generalize r0 ++ (m.funcs.take k).map (·.body) = xs at *
   generalize kAJ sCd (m.funcs.take k) = s at *
   have s1 := HSB.o
   have s2 := HAB.o.1
   have hlt2 := HLT.o
   go_wp2_with (at_builtin; refine kAK (t := tIns.slice) (base := W.heap.size) (S := (· < w.heap.size)) (xs := xs) (ys := [f.body]) (dss := [[.slice P2 f.body.length p2]]) (B2 := (wr.alloc (.cells #[.slice P2 f.body.length p2] 104)).heap.size) kBl rfl rfl rfl rfl (ROW.o.fr F5.o (fun k hk => ⟨HLOW.o k hk, fun x => x⟩) (fun _ _ x => x)) (Css.one (HRD.o _ F5.o)) (Rd.blk G5.o G5.o.lt 0 (fun k u hu => by rw [Nat.zero_add]; simpa using hu)) rfl (by have := HLX.o; simp; omega) (by have := HLX.o; simp; omega) (fun k hk => ⟨ltl (HLOW.o k hk) F5.o.size, fun e => by have h1 := (ROW.o.own e.symm).1; have h2 : k < w.heap.size := hk; have h3 := F0.o.size; omega⟩) (Nat.le_trans HBS.o F5.o.size) ?_; intro al2 w2 hr2 fr2 _; have R2 := hid hr2; have FR2 := hid (kAP (w0 := W) (ROW.o.fr F5.o (fun k hk => ⟨HLOW.o k hk, fun x => x⟩) (fun _ _ x => x)) (FX.o.trans F5.o i3) fr2 nr); clear hr2 fr2)
   go_roundw
   case rel => exact ⟨k + 1, HLT.o, by rw [HSU.o]; refine congrArg (Value.int .i64) ?_; simp only [sCd]; omega, by go_num, by rw [HTK.o]; exact R2.o, FR2.o⟩
   exact meas0 HLT.o
 have hkn : k = m.funcs.length := om
 subst hkn
 rw [List.take_length] at ROW
 rw [List.take_length]
 obtain ⟨W3, hY⟩ : ∃ Y, Y = wr := ⟨_, rfl⟩
 subst hY
 have FW3 := hid FX.o
 clear FX hk hlt
 have r1L : Hid ((r0 ++ m.funcs.map (·.body)).length ≤ 0 + 100) := hid (by have := r0L.o; rw [List.length_append, List.length_map]; omega)
 obtain ⟨r1, hr1⟩ : ∃ r, r = r0 ++ m.funcs.map (·.body) := ⟨_, rfl⟩
 rw [← hr1] at ROW r1L
 have HRr1 := hid hr1
 clear hr1
 have RW := hid ROW.o
 clear ROW
 go_wp2_with fail
 clear y0 y1 y2 y3 y4 y5 y6 y7 y8 y9
 have HS2 := hid (kAn (f := sCd) (l := m.funcs) (b := 281474976702464) (fun a ha => by have := HW.o.cd a ha; unfold sCd; omega))
 have K2 := H2.o
 obtain ⟨n2, hn2⟩ : ∃ n, n = n1 + kAJ sCd m.funcs := ⟨_, rfl⟩
 rw [← hn2]
 have N2 : Hid (n2 ≤ 90000000000000000) := hid (by have := HS2.o; have := N1.o; rw [hn2]; omega)
 have HN2 := hid hn2
 clear hn2 HS2 K2
 have b2 := N2.o
 go_loopw [3, 8] (fun al i wr => ∃ k : Nat, k ≤ m.globals.length ∧ i = .int .i64 k ∧ Hid (tIns.slice.row wr W.heap.size (· < w.heap.size) 104 al (r1 ++ (m.globals.take k).map (·.init))) ∧ Hid (Fr No W wr)) (fun _ i _ => m.globals.length - (intOf i).toNat)
 case atStart => exact ⟨0, by omega, rfl, by simpa [Hid] using RW.o, FW3.o⟩
 case round =>
 clear RW
 obtain ⟨k, hk, rfl, ROW, FX⟩ := hrel
 obtain ⟨y0, y1, y2, y3, y4, y5, y6, y7, y8, y9⟩ := HX.o _ FX.o
 have h100 := H5.o
 by_cases hlt : k < m.globals.length
 · have d1 : decide ((k : Int) < (m.globals.length : Nat)) = true := by simp; omega
   have i0 := nki k
   have i1 : (k : Int) < (m.globals.length : Nat) := om
   have HLT : Hid (k + 1 ≤ m.globals.length) := hlt
   have FW := ftr F0 FX.o
   have HLOW : Hid (∀ k, k < w.heap.size → k < wr.heap.size) := fun k hk => ltl hk FW.o.size
   have HBS : Hid (W.heap.size ≤ wr.heap.size) := FX.o.size
   obtain ⟨b, o, P2, p2, eA, hbS, z0, z1, z2, -, l3, l4, el2⟩ := kIp (els_up E5.o FW.o i2 i2) k hlt
   subst eA
   have HAB := hid (HW.o.gd _ (List.getElem_mem hlt))
   have HTK : Hid (r1 ++ (m.globals.take (k + 1)).map (·.init) = (r1 ++ (m.globals.take k).map (·.init)) ++ [m.globals[k].init]) := by
    exact yy52
   have HRD : Hid (∀ X, Fr No wr X → tIns.slice.rd X (· < w.heap.size) [.slice P2 m.globals[k].init.length p2] m.globals[k].init) := fun X g => ⟨P2, p2, rfl, l3, l4, els_up el2 g (fun k hk => ltl hk FW.o.size) i2⟩
   have HLX : Hid ((r1 ++ (m.globals.take k).map (·.init)).length ≤ 100 + 100) := hid (by have := r1L.o; rw [List.length_append, List.length_map, List.length_take]; omega)
   clear l3 l4 el2 hbS
   generalize m.globals[k] = f at z0 z1 z2 HAB HTK HRD
   have F5 := hid ((Fr.refl No wr).alloc (.cells #[.slice P2 f.init.length p2] 104))
   have G5 := hid (Blk.new wr 104 #[.slice P2 f.init.length p2])
   generalize r1 ++ (m.globals.take k).map (·.init) = xs at *
   have hlt2 := HLT.o
   go_wp2_with (at_builtin; refine kAK (t := tIns.slice) (base := W.heap.size) (S := (· < w.heap.size)) (xs := xs) (ys := [f.init]) (dss := [[.slice P2 f.init.length p2]]) (B2 := (wr.alloc (.cells #[.slice P2 f.init.length p2] 104)).heap.size) kBl rfl rfl rfl rfl (ROW.o.fr F5.o (fun k hk => ⟨HLOW.o k hk, fun x => x⟩) (fun _ _ x => x)) (Css.one (HRD.o _ F5.o)) (Rd.blk G5.o G5.o.lt 0 (fun k u hu => by rw [Nat.zero_add]; simpa using hu)) rfl (by have := HLX.o; simp; omega) (by have := HLX.o; simp; omega) (fun k hk => ⟨ltl (HLOW.o k hk) F5.o.size, fun e => by have h1 := (ROW.o.own e.symm).1; have h2 : k < w.heap.size := hk; have h3 := F0.o.size; omega⟩) (Nat.le_trans HBS.o F5.o.size) ?_; intro al2 w2 hr2 fr2 _; have R2 := hid hr2; have FR2 := hid (kAP (w0 := W) (ROW.o.fr F5.o (fun k hk => ⟨HLOW.o k hk, fun x => x⟩) (fun _ _ x => x)) (FX.o.trans F5.o i3) fr2 nr); clear hr2 fr2)
   go_roundw
   case rel => exact ⟨k + 1, HLT.o, by go_num, by rw [HTK.o]; exact R2.o, FR2.o⟩
   exact meas0 HLT.o
 have hkn : k = m.globals.length := om
 subst hkn
 rw [List.take_length] at ROW
 obtain ⟨W4, hY⟩ : ∃ Y, Y = wr := ⟨_, rfl⟩
 subst hY
 have FW4 := hid FX.o
 clear FX hk hlt
 have r2L : Hid ((r1 ++ m.globals.map (·.init)).length ≤ 100 + 100) := hid (by have := r1L.o; rw [List.length_append, List.length_map]; omega)
 obtain ⟨r2, hr2⟩ : ∃ r, r = r1 ++ m.globals.map (·.init) := ⟨_, rfl⟩
 rw [← hr2] at ROW r2L
 have HRr2 := hid hr2
 clear hr2
 have RW := hid ROW.o
 clear ROW
 go_wp2_with fail
 clear y0 y1 y2 y3 y4 y5 y6 y7 y8 y9
 go_loopw [4, 9] (fun n i wr => ∃ k : Nat, k ≤ m.exports.length ∧ n = .int .i64 ((n2 + kAJ sEx (m.exports.take k) : Nat) : Int) ∧ i = .int .i64 k ∧ Hid (Fr No W4 wr)) (fun _ i _ => m.exports.length - (intOf i).toNat)
 case atStart => exact ⟨0, by omega, by simp [kAJ], rfl, Fr.refl _ _⟩
 case round =>
 obtain ⟨k, hk, rfl, rfl, F⟩ := hrel
 obtain ⟨y0, y1, y2, y3, y4, y5, y6, y7, y8, y9⟩ := HX.o _ (FW4.o.trans F.o i3)
 have h100 := H6.o
 by_cases hlt : k < m.exports.length
 · have d1 : decide ((k : Int) < (m.exports.length : Nat)) = true := by simp; omega
   have i0 := nki k
   have i1 : (k : Int) < (m.exports.length : Nat) := om
   have HLT : Hid (k + 1 ≤ m.exports.length) := hlt
   have FW := hid (F0.o.trans (FW4.o.trans F.o i3) i3)
   obtain ⟨b, o, eA, hbS, z0, -⟩ := kFX (els_up E6.o FW.o i2 i2) k hlt
   subst eA
   have HAB := hid (HW.o.ex _ (List.getElem_mem hlt))
   have HSU := hid (sumBy_take (f := sEx) hlt)
   have HSB := hid (kAW (f := sEx) (l := m.exports) (b := 281474976702464) (n := 100) (k := k) (fun a ha => by have := HW.o.ex a ha; unfold sEx; omega) H6.o)
   clear hbS
   generalize m.exports[k] = f at z0 HAB HSU
   generalize kAJ sEx (m.exports.take k) = s at *
   have s1 := HSB.o
   have s2 := HAB.o
   have hlt2 := HLT.o
   go_wp2_with fail
   go_roundw
   case rel => exact ⟨k + 1, HLT.o, by rw [HSU.o]; refine congrArg (Value.int .i64) ?_; simp only [sEx]; omega, by go_num, F.o⟩
   exact meas0 HLT.o
 have hkn : k = m.exports.length := om
 subst hkn
 rw [List.take_length]
 obtain ⟨W5, hY⟩ : ∃ Y, Y = wr := ⟨_, rfl⟩
 subst hY
 have FW5 := ftr FW4 F.o
 replace RW := hid (RW.o.fr F.o (fun k hk => ⟨ltl hk (F0.o.trans FW4.o i3).size, fun x => x⟩) (fun _ _ x => x))
 clear F hk hlt
 go_wp2_with fail
 clear y0 y1 y2 y3 y4 y5 y6 y7 y8 y9
 have HS3 := hid (kAn (f := sEx) (l := m.exports) (b := 281474976702464) (fun a ha => by have := HW.o.ex a ha; unfold sEx; omega))
 have K3 := H6.o
 obtain ⟨n3, hn3⟩ : ∃ n, n = n2 + kAJ sEx m.exports := ⟨_, rfl⟩
 rw [← hn3]
 have N3 : Hid (n3 ≤ 120000000000000000) := hid (by have := HS3.o; have := N2.o; rw [hn3]; omega)
 have HN3 := hid hn3
 clear hn3 HS3 K3
 have b3 := N3.o
 go_loopw [3, 10] (fun al i wr => ∃ k : Nat, k ≤ m.elems.length ∧ i = .int .i64 k ∧ Hid (tIns.slice.row wr W.heap.size (· < w.heap.size) 104 al (r2 ++ kAR (m.elems.take k))) ∧ Hid (Fr No W wr) ∧ Hid (∀ e ∈ m.elems.take k, e.items.length ≤ 300)) (fun _ i _ => m.elems.length - (intOf i).toNat)
 case atStart => exact ⟨0, by omega, rfl, by simpa [Hid, kAR] using RW.o, FW5.o, fun e he => by simp at he⟩
 case round =>
 clear RW
 obtain ⟨k, hk, rfl, ROW, FX, HI3⟩ := hrel
 obtain ⟨y0, y1, y2, y3, y4, y5, y6, y7, y8, y9⟩ := HX.o _ FX.o
 have h100 := H7.o
 by_cases hlt : k < m.elems.length
 · have d1 : decide ((k : Int) < (m.elems.length : Nat)) = true := by simp; omega
   have i0 := nki k
   have i1 : (k : Int) < (m.elems.length : Nat) := om
   have HLT : Hid (k + 1 ≤ m.elems.length) := hlt
   have FW := ftr F0 FX.o
   have HLOW : Hid (∀ k, k < w.heap.size → k < wr.heap.size) := fun k hk => ltl hk FW.o.size
   have HBS : Hid (W.heap.size ≤ wr.heap.size) := FX.o.size
   obtain ⟨b, o, P2, p2, P3, p3, eA, hbS, z0, z1, z2, z3, z4, -, -, l3, l4, el2, -, l5, l6, el3⟩ := kIs (els_up E7.o F0.o i2 i2) k hlt
   subst eA
   have HBL : Hid (b < W.heap.size) := ltl hbS F0.o.size
   have g2 := (FX.o.cell (p := ⟨b, o + k * 5 + 2, none⟩) (ltl hbS F0.o.size) id).trans z2
   have g4 := (FX.o.cell (p := ⟨b, o + k * 5 + 4, none⟩) (ltl hbS F0.o.size) id).trans z4
   have HTK : Hid (r2 ++ kAR (m.elems.take (k + 1)) = ((r2 ++ kAR (m.elems.take k)) ++ [m.elems[k].off]) ++ m.elems[k].items ∧ m.elems.take (k + 1) = m.elems.take k ++ [m.elems[k]]) := by
    refine ⟨?_, List.take_succ_eq_append_getElem hlt⟩
    rw [kEP hlt]
    simp only [List.append_assoc, List.cons_append, List.nil_append]
    rfl
   have HRD : Hid (∀ X, Fr No wr X → tIns.slice.rd X (· < w.heap.size) [.slice P2 m.elems[k].off.length p2] m.elems[k].off) := fun X g => ⟨P2, p2, rfl, l3, l4, els_up el2 (FX.o.trans g i3) (fun k hk => ltl hk F0.o.size) i2⟩
   have HLX : Hid ((r2 ++ kAR (m.elems.take k)).length ≤ 200 + 30100) := hid (by
    have h1 := r2L.o
    have h2 := kCn HI3.o
    rw [List.length_take] at h2
    rw [List.length_append]
    omega)
   obtain ⟨css, hcs, hri⟩ := kAk (B := W.heap.size) el3 (fun k hk => ltl hk F0.o.size)
   have HCS : Hid (∀ X, Fr No W X → Css tIns.slice X (· < w.heap.size) css m.elems[k].items) := hid (fun X g => hcs.fr g (fun k hk => ⟨ltl hk F0.o.size, fun x => x⟩))
   have HRI : Hid (∀ X, Fr No W X → Rd X W.heap.size P3 css.flatten) := hid (fun X g => hri.frNo g)
   have HNI : Hid (m.elems[k].items.length ≤ 300 → ∀ e ∈ m.elems.take (k + 1), e.items.length ≤ 300) := hid (fun h e he => by
    rw [HTK.o.2] at he
    rcases List.mem_append.1 he with h1 | h1
    · exact HI3.o e h1
    · rw [List.mem_singleton.1 h1]; exact h)
   clear l3 l4 el2 l5 l6 el3 hcs hri z0 z1 z2 z3 hbS
   have HZ4 := hid z4
   clear z4
   generalize m.elems[k] = f at g2 g4 HTK HRD HCS HNI HZ4
   have F5 := hid ((Fr.refl No wr).alloc (.cells #[.slice P2 f.off.length p2] 104))
   have G5 := hid (Blk.new wr 104 #[.slice P2 f.off.length p2])
   generalize r2 ++ kAR (m.elems.take k) = xs at *
   have hlt2 := HLT.o
   by_cases t1 : 300 < f.items.length
   · have t2 : decide ((300 : Int) < (f.items.length : Nat)) = true := by simp; omega
     clear t1 hlt
     go_wp2_with fail
     go_ret
     exact ⟨⟨false, rfl, fun e => by cases e⟩, FW.o⟩
   have t2 : decide ((300 : Int) < (f.items.length : Nat)) = false := by simp; omega
   have HIT : Hid (f.items.length ≤ 300) := by unfold Hid; omega
   clear t1 hlt
   go_upto_region 32 with (at_builtin; refine kAK (t := tIns.slice) (base := W.heap.size) (S := (· < w.heap.size)) (xs := xs) (ys := [f.off]) (dss := [[.slice P2 f.off.length p2]]) (B2 := (wr.alloc (.cells #[.slice P2 f.off.length p2] 104)).heap.size) kBl rfl rfl rfl rfl (ROW.o.fr F5.o (fun k hk => ⟨HLOW.o k hk, fun x => x⟩) (fun _ _ x => x)) (Css.one (HRD.o _ F5.o)) (Rd.blk G5.o G5.o.lt 0 (fun k u hu => by rw [Nat.zero_add]; simpa using hu)) rfl (by have := HLX.o; simp; omega) (by have := HLX.o; simp; omega) (fun k hk => ⟨ltl (HLOW.o k hk) F5.o.size, fun e => by have h1 := (ROW.o.own e.symm).1; have h2 : k < w.heap.size := hk; have h3 := F0.o.size; omega⟩) (Nat.le_trans HBS.o F5.o.size) ?_; intro al2 w2 hr2 fr2 _; have R2 := hid hr2; have FR2 := hid (kAP (w0 := W) (ROW.o.fr F5.o (fun k hk => ⟨HLOW.o k hk, fun x => x⟩) (fun _ _ x => x)) (FX.o.trans F5.o i3) fr2 nr); clear hr2 fr2)
   obtain ⟨v0, v1, v2, v3, v4, v5, v6, v7, v8, v9⟩ := HX.o _ FR2.o
   have g5 := (FR2.o.cell (p := ⟨b, o + k * 5 + 4, none⟩) HBL.o id).trans HZ4.o
   go_wp2_with (at_builtin; refine kAK (t := tIns.slice) (base := W.heap.size) (S := (· < w.heap.size)) (xs := xs ++ [f.off]) (ys := f.items) (dss := css) (B2 := W.heap.size) kBl rfl rfl rfl rfl R2.o (HCS.o _ FR2.o) (HRI.o _ FR2.o) rfl (by have := HLX.o; have := HIT.o; simp; omega) (by have := HLX.o; have := HIT.o; simp; omega) (fun k hk => ⟨ltl hk (F0.o.trans FR2.o i3).size, fun e => by have h1 := (R2.o.own e.symm).1; have h2 : k < w.heap.size := hk; have h3 := F0.o.size; omega⟩) (FR2.o.size) ?_; intro al3 w3 hr3 fr3 _; have R3 := hid hr3; have FR3 := hid (kAP (w0 := W) R2.o FR2.o fr3 nr); clear hr3 fr3)
   go_roundw
   case rel => exact ⟨k + 1, HLT.o, by go_num, by rw [HTK.o.1]; exact R3.o, FR3.o, HNI.o HIT.o⟩
   exact meas0 HLT.o
 have hkn : k = m.elems.length := om
 subst hkn
 rw [List.take_length] at ROW HI3
 obtain ⟨W6, hY⟩ : ∃ Y, Y = wr := ⟨_, rfl⟩
 subst hY
 have FW6 := hid FX.o
 clear FX hk hlt
 have r3L : Hid ((r2 ++ kAR m.elems).length ≤ 30300) := hid (by
  have h1 := r2L.o
  have h2 := kCn HI3.o
  rw [List.length_append]
  omega)
 obtain ⟨r3, hr3⟩ : ∃ r, r = r2 ++ kAR m.elems := ⟨_, rfl⟩
 rw [← hr3] at ROW r3L
 have HRr3 := hid hr3
 clear hr3
 have RW := hid ROW.o
 clear ROW
 go_wp2_with fail
 clear y0 y1 y2 y3 y4 y5 y6 y7 y8 y9
 go_loopw [3, 4, 11] (fun al n i wr => ∃ k : Nat, k ≤ m.datas.length ∧ n = .int .i64 ((n3 + kAJ sDa (m.datas.take k) : Nat) : Int) ∧ i = .int .i64 k ∧ Hid (tIns.slice.row wr W.heap.size (· < w.heap.size) 104 al (r3 ++ (m.datas.take k).map (·.off))) ∧ Hid (Fr No W wr)) (fun _ _ i _ => m.datas.length - (intOf i).toNat)
 case atStart => exact ⟨0, by omega, by simp [kAJ], rfl, by simpa [Hid] using RW.o, FW6.o⟩
 case round =>
 clear RW
 obtain ⟨k, hk, rfl, rfl, ROW, FX⟩ := hrel
 obtain ⟨y0, y1, y2, y3, y4, y5, y6, y7, y8, y9⟩ := HX.o _ FX.o
 have h100 := H8.o
 by_cases hlt : k < m.datas.length
 · have d1 : decide ((k : Int) < (m.datas.length : Nat)) = true := by simp; omega
   have i0 := nki k
   have i1 : (k : Int) < (m.datas.length : Nat) := om
   have HLT : Hid (k + 1 ≤ m.datas.length) := hlt
   have FW := ftr F0 FX.o
   have HLOW : Hid (∀ k, k < w.heap.size → k < wr.heap.size) := fun k hk => ltl hk FW.o.size
   have HBS : Hid (W.heap.size ≤ wr.heap.size) := FX.o.size
   obtain ⟨b, o, P2, p2, P1, p1, eA, hbS, z0, z1, z2, z3, -, -, l3, l4, el2, -⟩ := kIu (els_up E8.o FW.o i2 i2) k hlt
   subst eA
   have HAB := hid (HW.o.da _ (List.getElem_mem hlt))
   have HSU := hid (sumBy_take (f := sDa) hlt)
   have HSB := hid (kAW (f := sDa) (l := m.datas) (b := 281474976702464) (n := 100) (k := k) (fun a ha => by have := HW.o.da a ha; unfold sDa; omega) H8.o)
   have HTK : Hid (r3 ++ (m.datas.take (k + 1)).map (·.off) = (r3 ++ (m.datas.take k).map (·.off)) ++ [m.datas[k].off]) := by
    exact yy52
   have HRD : Hid (∀ X, Fr No wr X → tIns.slice.rd X (· < w.heap.size) [.slice P2 m.datas[k].off.length p2] m.datas[k].off) := fun X g => ⟨P2, p2, rfl, l3, l4, els_up el2 g (fun k hk => ltl hk FW.o.size) i2⟩
   have HLX : Hid ((r3 ++ (m.datas.take k).map (·.off)).length ≤ 30300 + 100) := hid (by have := r3L.o; rw [List.length_append, List.length_map, List.length_take]; omega)
   clear l3 l4 el2 hbS
   generalize m.datas[k] = f at z0 z1 z2 z3 HAB HTK HRD HSU
   have F5 := hid ((Fr.refl No wr).alloc (.cells #[.slice P2 f.off.length p2] 104))
   have G5 := hid (Blk.new wr 104 #[.slice P2 f.off.length p2])
   generalize r3 ++ (m.datas.take k).map (·.off) = xs at *
   generalize kAJ sDa (m.datas.take k) = s at *
   have s1 := HSB.o
   have s2 := HAB.o.1
   have hlt2 := HLT.o
   go_wp2_with (at_builtin; refine kAK (t := tIns.slice) (base := W.heap.size) (S := (· < w.heap.size)) (xs := xs) (ys := [f.off]) (dss := [[.slice P2 f.off.length p2]]) (B2 := (wr.alloc (.cells #[.slice P2 f.off.length p2] 104)).heap.size) kBl rfl rfl rfl rfl (ROW.o.fr F5.o (fun k hk => ⟨HLOW.o k hk, fun x => x⟩) (fun _ _ x => x)) (Css.one (HRD.o _ F5.o)) (Rd.blk G5.o G5.o.lt 0 (fun k u hu => by rw [Nat.zero_add]; simpa using hu)) rfl (by have := HLX.o; simp; omega) (by have := HLX.o; simp; omega) (fun k hk => ⟨ltl (HLOW.o k hk) F5.o.size, fun e => by have h1 := (ROW.o.own e.symm).1; have h2 : k < w.heap.size := hk; have h3 := F0.o.size; omega⟩) (Nat.le_trans HBS.o F5.o.size) ?_; intro al2 w2 hr2 fr2 _; have R2 := hid hr2; have FR2 := hid (kAP (w0 := W) (ROW.o.fr F5.o (fun k hk => ⟨HLOW.o k hk, fun x => x⟩) (fun _ _ x => x)) (FX.o.trans F5.o i3) fr2 nr); clear hr2 fr2)
   go_roundw
   case rel => exact ⟨k + 1, HLT.o, by rw [HSU.o]; refine congrArg (Value.int .i64) ?_; simp only [sDa]; omega, by go_num, by rw [HTK.o]; exact R2.o, FR2.o⟩
   exact meas0 HLT.o
 have hkn : k = m.datas.length := om
 subst hkn
 rw [List.take_length] at ROW
 rw [List.take_length]
 obtain ⟨W7, hY⟩ : ∃ Y, Y = wr := ⟨_, rfl⟩
 subst hY
 have FW7 := hid FX.o
 clear FX hk hlt
 have r4L : Hid ((r3 ++ m.datas.map (·.off)).length ≤ 30300 + 100) := hid (by have := r3L.o; rw [List.length_append, List.length_map]; omega)
 obtain ⟨r4, hr4⟩ : ∃ r, r = r3 ++ m.datas.map (·.off) := ⟨_, rfl⟩
 rw [← hr4] at ROW r4L
 have HRr4 := hid hr4
 clear hr4
 have RW := hid ROW.o
 clear ROW
 go_wp2_with fail
 clear y0 y1 y2 y3 y4 y5 y6 y7 y8 y9
 have HS4 := hid (kAn (f := sDa) (l := m.datas) (b := 281474976702464) (fun a ha => by have := HW.o.da a ha; unfold sDa; omega))
 have K4 := H8.o
 obtain ⟨n4, hn4⟩ : ∃ n, n = n3 + kAJ sDa m.datas := ⟨_, rfl⟩
 rw [← hn4]
 have N4 : Hid (n4 ≤ 150000000000000000) := hid (by have := HS4.o; have := N3.o; rw [hn4]; omega)
 have HN4 := hid hn4
 clear hn4 HS4 K4
 have b4 := N4.o
 go_loopw [4, 12] (fun n i wr => ∃ k : Nat, k ≤ m.customs.length ∧ n = .int .i64 ((n4 + kAJ sCu (m.customs.take k) : Nat) : Int) ∧ i = .int .i64 k ∧ Hid (Fr No W7 wr)) (fun _ i _ => m.customs.length - (intOf i).toNat)
 case atStart => exact ⟨0, by omega, by simp [kAJ], rfl, Fr.refl _ _⟩
 case round =>
 obtain ⟨k, hk, rfl, rfl, F⟩ := hrel
 obtain ⟨y0, y1, y2, y3, y4, y5, y6, y7, y8, y9⟩ := HX.o _ (FW7.o.trans F.o i3)
 have h100 := H9.o
 by_cases hlt : k < m.customs.length
 · have d1 : decide ((k : Int) < (m.customs.length : Nat)) = true := by simp; omega
   have i0 := nki k
   have i1 : (k : Int) < (m.customs.length : Nat) := om
   have HLT : Hid (k + 1 ≤ m.customs.length) := hlt
   have FW := hid (F0.o.trans (FW7.o.trans F.o i3) i3)
   obtain ⟨b, o, P1, p1, eA, hbS, -, z1, z0, -⟩ := kIw (els_up E9.o FW.o i2 i2) k hlt
   subst eA
   have hbl : b < wr.heap.size := ltl hbS FW.o.size
   have HAB := hid (HW.o.cu _ (List.getElem_mem hlt))
   have HTK := hid (sumBy_take (f := sCu) hlt)
   have HSB := hid (kAW (f := sCu) (l := m.customs) (b := 281474976702464) (n := 100) (k := k) (fun a ha => by have := HW.o.cu a ha; unfold sCu; omega) H9.o)
   generalize m.customs[k] = f at z0 z1 HAB HTK
   have HY : Hid (∀ X, Fr No wr X → Ce X p 11 (.slice (some ⟨b, o, none⟩) m.customs.length c9) ∧ Ce X b (o + k * 3 + 2) (.slice P1 f.bytes.length p1) ∧ Ce X b (o + k * 3 + 1) (.string f.name)) := fun X g =>
    ⟨(HX.o _ (FW7.o.trans (F.o.trans g i3) i3)).2.2.2.2.2.2.2.2.2, (g.cell (p := ⟨b, o + k * 3 + 2, none⟩) hbl id).trans z0, (g.cell (p := ⟨b, o + k * 3 + 1, none⟩) hbl id).trans z1⟩
   clear z0 z1 hbl hbS
   go_upto_region 41 with fail
   clear y0 y1 y2 y3 y4 y5 y6 y7 y8 y9
   generalize kAJ sCu (m.customs.take k) = s at *
   have s1 := HSB.o
   have s2 := HAB.o.1
   have s3 := HAB.o.2
   refine rwO (Fr No wr) [] (List.range 18) [] (Fr.refl _ _).drew ?_
   refine rO HY.o ?_
   refine wpO_nil ?_
   have FD := hid (F.o.trans (Fr.refl No wr).drew i3)
   go_wp2
   go_roundw
   case rel => exact ⟨k + 1, HLT.o, by rw [HTK.o]; refine congrArg (Value.int .i64) ?_; simp only [sCu]; exact kDZ (Nat.le_trans N4.o dc) HSB.o HAB.o.1 HAB.o.2, by go_num, FD.o⟩
   exact meas0 HLT.o
 have hkn : k = m.customs.length := om
 subst hkn
 rw [List.take_length]
 clear hk hlt
 have RW8 := hid (RW.o.fr F.o (fun k hk => ⟨ltl hk (F0.o.trans FW7.o i3).size, fun x => x⟩) (fun _ _ x => x))
 have FW8 := hid (F0.o.trans (FW7.o.trans F.o i3) i3)
 obtain ⟨AV, CV, hv, -, -, HEL⟩ := RW8.o.els (S' := (· < wr.heap.size)) (fun k hk => ltl hk FW8.o.size) (fun g hg => (kAB RW8.o hg).lt)
 subst hv
 have HE := hid HEL
 clear HEL RW RW8
 have HS5 := hid (kAn (f := sCu) (l := m.customs) (b := 281474976702464) (fun a ha => by have := HW.o.cu a ha; unfold sCu; omega))
 have K5 := H9.o
 obtain ⟨n5, hn5⟩ : ∃ n, n = n4 + kAJ sCu m.customs := ⟨_, rfl⟩
 rw [← hn5]
 have HN5 := hid hn5
 have HRS : Hid (∀ x ∈ r4, x.length ≤ 140737488351232) := hid (fun x hx => by
  rw [HRr4.o, HRr3.o, HRr2.o, HRr1.o, HRr0.o] at hx
  simp only [List.nil_append, List.mem_append, List.mem_map] at hx
  rcases hx with ((⟨a, ha, rfl⟩ | ⟨a, ha, rfl⟩) | hx) | ⟨a, ha, rfl⟩
  · exact (HW.o.cd a ha).2
  · exact HW.o.gd a ha
  · unfold kAR at hx
    obtain ⟨e, he, hx⟩ := List.mem_flatMap.1 hx
    rcases List.mem_cons.1 hx with rfl | hx
    · exact (HW.o.el e he).1
    exact (HW.o.el e he).2 x hx
  · exact (HW.o.da a ha).2)
 clear hn5 HS5 K5
 by_cases t9 : n5 ≤ 9000
 · have d9 : decide ((n5 : Int) ≤ 9000) = true := by simp; omega
   have HT9 := hid t9
   clear t9
   go_wp2_with fail
   refine (kGL r4 AV CV (· < wr.heap.size) wr HE.o i2 HRS.o (by have := r4L.o; omega)).mono ?_
   rintro e w9 ⟨⟨r, rfl, hr⟩, f9⟩
   have HR := hid hr
   have F9 := ftr FW8 f9
   clear hr f9
   go_wp2
   go_ret
   refine ⟨⟨r, rfl, fun e => kID ⟨H0.o, H1.o, H2.o, H3.o, H4.o, H5.o, H6.o, H7.o, H8.o, H9.o⟩ HI3.o ?_ ?_⟩, F9.o⟩
   · have h := HT9.o
     rw [HN5.o, HN4.o, HN3.o, HN2.o, HN1.o, HN0.o] at h
     unfold kCx
     exact h
   intro x hx
   refine HR.o e x ?_
   rw [HRr4.o, HRr3.o, HRr2.o, HRr1.o, HRr0.o]
   unfold kDg at hx
   simpa using hx
 have d9 : decide ((n5 : Int) ≤ 9000) = false := by simp; omega
 clear t9
 go_wp2_with fail
 go_ret
 exact ⟨⟨false, rfl, fun e => by cases e⟩, FW8.o⟩
theorem meas {n k : Nat} (h : k < n) : n - (intOf (.int .i64 ((k + 1 : Nat) : Int))).toNat < n - (intOf (.int .i64 (k : Int))).toNat := by
 simp only [intOf, Int.toNat_natCast]
 omega
def tabN (t : Rt) : Rt := ⟨t.t, List.replicate (t.t.lim.min.toNat + (t.l.length - t.t.lim.min.toNat) % 4294967296) 0⟩
def memN (m : Rm) : Rm := ⟨m.lim, List.replicate ((m.lim.min.toNat + (m.b.length / 256 - m.lim.min.toNat) % 4294967296) * 256) 0⟩
def kAE (x : Rx) (a b c d e : Nat) : Rx :=
 { hosts := x.hosts, counts := List.replicate x.hosts.length 0, calls := [], funcs := x.funcs.take a, tabs := (x.tabs.take b).map tabN, mems := (x.mems.take c).map memN, globs := x.globs.take d, elems := [], datas := [], insts := x.insts.take e }
structure MkQ (x : Rx) (b c : Nat) : Prop where
 t : ∀ t ∈ x.tabs.take b, 0 ≤ t.t.lim.min ∧ t.t.lim.min ≤ (t.l.length : Int)
 m : ∀ m ∈ x.mems.take c, 0 ≤ m.lim.min ∧ m.lim.min ≤ ((m.b.length / 256 : Nat) : Int) ∧ (memN m).b.length ≤ 65536
theorem MkQ.tab {x : Rx} {k c : Nat} {t : Rt} (h : MkQ x k c) (e : x.tabs.take (k + 1) = x.tabs.take k ++ [t]) (ht : 0 ≤ t.t.lim.min ∧ t.t.lim.min ≤ (t.l.length : Int)) : MkQ x (k + 1) c :=
 ⟨fun a ha => by
  rw [e] at ha
  rcases List.mem_append.1 ha with h1 | h1
  · exact h.t a h1
  · rw [List.mem_singleton.1 h1]; exact ht, h.m⟩
theorem MkQ.mem {x : Rx} {b k : Nat} {m : Rm} (h : MkQ x b k) (e : x.mems.take (k + 1) = x.mems.take k ++ [m]) (hm : 0 ≤ m.lim.min ∧ m.lim.min ≤ ((m.b.length / 256 : Nat) : Int) ∧ (memN m).b.length ≤ 65536) : MkQ x b (k + 1) :=
 ⟨h.t, fun a ha => by
  rw [e] at ha
  rcases List.mem_append.1 ha with h1 | h1
  · exact h.m a h1
  · rw [List.mem_singleton.1 h1]; exact hm⟩
structure Mk (w : World) (p : Nat) (x : Rx) (cs : LV) (a b c d e : Nat) (P : Nat) (X : World) : Prop where
 ex : ∃ (V : Pl) (R : Nat → Prop), V.P = P ∧ StIn X R V (kAE x a b c d e) ∧ (∀ k, R k → w.heap.size ≤ k) ∧ ¬ R p
 f : Fr No w X
 q : MkQ x b c
 bx : Blk X p 33 cs.toArray
theorem Mk.no {w X Y : World} {p P a b c d e : Nat} {x : Rx} {cs : LV} (h : Mk w p x cs a b c d e P X) (f : Fr No X Y) : Mk w p x cs a b c d e P Y := by
 obtain ⟨V, R, h1, h2, h3, h4⟩ := h.ex
 exact ⟨⟨V, R, h1, h2.frNo f, h3, h4⟩, h.f.trans f i3, h.q, h.bx.fr f id⟩
theorem Mk.grown {w X Y : World} {p P a b c d e a' b' c' d' e' : Nat} {x : Rx} {cs : LV} {V V' : Pl} {R R' : Nat → Prop} (hb : Blk X p 33 cs.toArray) (hf : Fr No w X) (hq : MkQ x b' c') (h3 : ∀ k, R k → w.heap.size ≤ k) (h4 : ¬ R p)
    (hs : StIn X R V (kAE x a b c d e)) (k : StIn Y R' V' (kAE x a' b' c' d' e')) (g : Grown X Y R R' V V') (hP : V.P = P) : Mk w p x cs a' b' c' d' e' P Y := by
 refine ⟨⟨V', R', g.P.trans hP, k, fun i r => ?_, fun r => h4 (g.up p hb.lt r)⟩, hf.trans g.fr (fun i hi o => by have := h3 i (hs.own i o); omega), hq, hb.fr g.fr (fun o => h4 (hs.own p o))⟩
 by_cases hi : i < X.heap.size
 · exact h3 i (g.up i hi r)
 have := hf.size
 omega
theorem StIn.growT {Y Z W : World} {R' : Nat → Prop} {V' : Pl} {y : Rx} (k2 : StIn Y R' V' y) (f : Fr No Y Z) {k : Nat} {z : Nat × Nat × Nat} (hz : V'.tp[k]? = some z) {t : Rt} (ht : y.tabs[k]? = some t) {l : List Int}
    (G : kEC z.1 z.2.1 t.t.elem t.t.lim.min t.t.lim.max t.t.lim.has l Z W) : ∃ R2 V2, StIn W R2 V2 { y with tabs := y.tabs.set k ⟨t.t, l⟩ } ∧ Grown Y W R' R2 V' V2 := by
 obtain ⟨q', c', T, fr, hq⟩ := G
 obtain ⟨k3, g3⟩ := (k2.frNo f).setTab (t' := ⟨t.t, l⟩) hz ht fr T hq
 exact ⟨_, _, k3, (Grown.of_no f).trans g3⟩
theorem StIn.growM {Y Z W : World} {R' : Nat → Prop} {V' : Pl} {y : Rx} (k2 : StIn Y R' V' y) (f : Fr No Y Z) {k : Nat} {z : Nat × Nat × Nat} (hz : V'.mp[k]? = some z) {t : Rm} (ht : y.mems[k]? = some t) {l : List Int} {q' c' : Nat}
    (T : Mo W z.1 q' c' t.lim l) (fr : Fr (Two z.1 z.2.1) Z W) (hq : q' = z.2.1 ∨ Z.heap.size ≤ q') : ∃ R2 V2, StIn W R2 V2 { y with mems := y.mems.set k ⟨t.lim, l⟩ } ∧ Grown Y W R' R2 V' V2 := by
 obtain ⟨k3, g3⟩ := (k2.frNo f).setMem (t' := ⟨t.lim, l⟩) hz ht fr T hq
 exact ⟨_, _, k3, (Grown.of_no f).trans g3⟩
theorem kDc {α : Type} {l : List α} {a b : α} {k : Nat} (h : l.length = k) : (l ++ [a]).set k b = l ++ [b] := by
 subst h
 simp
theorem kHP {t : Rt} {n : Int} {N : Nat} (h0 : 0 ≤ t.t.lim.min) (hn : n = (t.l.length : Int) - t.t.lim.min) (h1 : 0 ≤ n) (hN : n % 4294967296 = N) : tabN t = ⟨t.t, List.replicate t.t.lim.min.toNat 0 ++ List.replicate N 0⟩ := by
 have e : (t.l.length - t.t.lim.min.toNat) % 4294967296 = N := om
 unfold tabN
 rw [e, List.replicate_append_replicate]
theorem kHV {m : Rm} {n : Int} (h0 : 0 ≤ m.lim.min) (hn : n = ((m.b.length / 256 : Nat) : Int) - m.lim.min) (h1 : 0 ≤ n) {N : Nat} (hN : (n % 4294967296).toNat = N) : memN m = ⟨m.lim, List.replicate (m.lim.min.toNat * 256) 0 ++ List.replicate (N * 256) 0⟩ := by
 have e : (m.b.length / 256 - m.lim.min.toNat) % 4294967296 = N := om
 unfold memN
 rw [e, List.replicate_append_replicate, Nat.add_mul]
end Go.Proofs.YthggdemiddjlgaaGreat
