/- Part 8 of the proof: lemmas and contracts of functions. No condition. -/
import Derived.Test.YtdckghiipijobaaGreatP7
import Derived.Test.YtdckghiipijobaaGreatP5
import Derived.Test.YtdckghiipijobaaGreatP2
import Derived.Test.YtdckghiipijobaaGreatP1
set_option maxRecDepth 100000
set_option maxHeartbeats 12800000
set_option linter.unusedVariables false
set_option linter.unusedSimpArgs false
set_option linter.unusedSectionVars false
namespace Go.Proofs.YtdckghiipijobaaGreat
open Go.RowKit Go.Proofs.Tryz
theorem Blk.setCells {g : Nat} {t : TypeId} : ∀ (ds : LV) (o : Nat) (w : World) (cs : Array Value), Blk w g t cs → Blk (w.setCells g o ds) g t (setA cs o ds)
 | [], _, _, _, h => h
 | v :: r, o, w, cs, h => Blk.setCells r (o + 1) _ _ (h.set_ o v)
theorem kBD {α : Type} {t : Ty α} [TyOk t] [TyMore t] {w : World} {base : Nat} {S : Nat → Prop} {e : TypeId} {g c : Nat} {xs : List α} (h : t.row w base S e (.slice (some ⟨g, 0, none⟩) xs.length c) xs) (k : Nat) (hk : k < xs.length) : w.there g (k * t.size) t.size := fun j hj => by
 have he := Ty.row.els' (S' := fun _ => True) h tvv tvv
 obtain ⟨b, o, ds, e, _, hc, hr⟩ := he.at_ k hk
 injection e with e
 injection e with e1 e2 _
 subst e1 e2
 have hl := TyOk.len _ _ _ _ hr
 obtain ⟨css, _, ho⟩ := h
 refine ⟨?_, kCk ho _⟩
 have := hc j ds[j] sm
 rw [Nat.zero_add] at this
 rw [this]
 rfl
section
variable {w : World} {R : Nat → Prop} {V : Pl} {x : Rx}
theorem StIn.setEl (h : StIn w R V x) {k : Nat} {y : Rs} {ds : LV} {g c : Nat} (hk : k < x.elems.length) (hv : V.el = .slice (some ⟨g, 0, none⟩) x.elems.length c) (hr : ∀ X S, tRs.rd X S ds y) :
    StIn (w.setCells g (k * 2) ds) R V { x with elems := x.elems.set k y } ∧ Grown w (w.setCells g (k * 2) ds) R R V V := by
 have ho : V.el.ownBlock = some g := by rw [hv]; rfl
 have f := Fr.setCells' (M := fun k => k = V.P ∨ V.el.ownBlock = some k) (a := w) (b := g) (fun _ => .inr ho) ds (k * 2) w (Fr.refl _ w)
 have fg := Fr.setCells' (M := fun k => k = g) (a := w) (b := g) (fun _ => rfl) ds (k * 2) w (Fr.refl _ w)
 have hne : V.P ≠ g := fun e => Bt.ne ⟨_, h.blk⟩ (kAC h.el ho) dc e
 have hrow : tRs.row (w.setCells g (k * 2) ds) 0 (Sd w R) 182 (.slice (some ⟨g, 0, none⟩) x.elems.length c) (x.elems.set k y) := by
  have hrr := h.el
  rw [hv] at hrr
  refine hrr.set (ds := ds) k hk (hr _ _) (fun p hp => fg.cell hp.1 (fun e => hp.2 (h.own _ (Pl.o_el (by rw [ho, e]))))) (fun cur hb => ?_)
  exact Blk.setCells ds _ _ _ hb
 refine ⟨?_, rfl, f.mono (fun k _ e => e.elim (fun e => e ▸ V.oP) Pl.o_el), fun _ _ r => r, fun _ r => r, fun _ o => .inl o⟩
 have := h.put_el (v' := V.el) (xs := x.elems.set k y) f (h.blk.fr fg (fun e => hne e)) ?_ (fun k hk => h.own k (Pl.o_el hk)) (fun _ _ r => r) (fun _ r => r) (fun k r => ltl (h.low k r) f.size)
 · exact this
 exact yy86
def kBS (x : Rx) (i : Int) : Rx := if 0 ≤ i ∧ i < x.elems.length then { x with elems := x.elems.set i.toNat ⟨[], true⟩ } else x
theorem kHj (h : StIn w R V x) (i : Int) (hn : x.elems.length ≤ 1000000) :
    Calls prog 26 #[.pointer (some ⟨V.P, 0, none⟩), .int .i64 i] w (GrTo R V (.tuple #[]) (kBS x i) w) := by
 obtain ⟨A, c, hv, _, _⟩ := h.sl_el
 have hcell : w.cell? ⟨V.P, 7, none⟩ = some (.slice A x.elems.length c) := by rw [← hv]; exact h.blk.cell 7
 unfold kBS
 rcases at_cases x.elems i with ⟨k, hk, rfl⟩ | hi | ⟨hi0, hi⟩
 · rw [if_pos ⟨by omega, by omega⟩]
   obtain ⟨g, c', hg, _⟩ := kBF h.el om
   rw [hv] at hg
   injection hg with e1 e2 e3
   subst e1 e3
   have HS := hid (h.setEl (y := ⟨[], true⟩) (ds := [.slice none 0 0, .bool true]) hk hv (fun X S => kEm (a := ⟨[], true⟩) nz nz (.inl rfl)))
   have HT : Hid (w.there g (k * 2) 2) := by
    have hr := h.el
    rw [hv] at hr
    exact kBD hr k hk
   have i0 := nki k
   have i1 : (k : Int) < x.elems.length := om
   have d0 : decide ((k : Int) < 0) = false := by simp
   clear h hv
   rw [Int.toNat_natCast]
   go_enter func26, ntmps26
   go_wp2_with (first
    | (refine wpList_store_mid (by rfl) 182 _ _ (by rfl) g (k * 2) #[.slice none 0 0, .bool true] (by rfl) (by rfl) HT.o kr (by simp [Value.oneCell']) ?_)
    | fail)
   refine bodyPost_end (v := .tuple #[]) (results_none (by rfl) _ _ _) rfl ?_
   exact ⟨V, R, rfl, HS.o.1, HS.o.2⟩
 · rw [if_neg (by omega)]
   have H := hid h
   have d0 : decide (i < 0) = true := by simp [hi]
   clear h hv
   go_enter func26, ntmps26
   exact yy63
 rw [if_neg (by omega)]
 have H := hid h
 have d0 : decide (i < 0) = false := by simp; omega
 have d1 : decide ((x.elems.length : Int) ≤ i) = true := by simp; omega
 clear h hv
 go_enter func26, ntmps26
 exact yy63
theorem StIn.setDa (h : StIn w R V x) {k : Nat} {y : Rb} {ds : LV} {g c : Nat} (hk : k < x.datas.length) (hv : V.da = .slice (some ⟨g, 0, none⟩) x.datas.length c) (hr : ∀ X S, tRb.rd X S ds y) :
    StIn (w.setCells g (k * 2) ds) R V { x with datas := x.datas.set k y } ∧ Grown w (w.setCells g (k * 2) ds) R R V V := by
 have ho : V.da.ownBlock = some g := by rw [hv]; rfl
 have f := Fr.setCells' (M := fun k => k = V.P ∨ V.da.ownBlock = some k) (a := w) (b := g) (fun _ => .inr ho) ds (k * 2) w (Fr.refl _ w)
 have fg := Fr.setCells' (M := fun k => k = g) (a := w) (b := g) (fun _ => rfl) ds (k * 2) w (Fr.refl _ w)
 have hne : V.P ≠ g := fun e => Bt.ne ⟨_, h.blk⟩ (kAC h.da ho) dc e
 have hrow : tRb.row (w.setCells g (k * 2) ds) 0 (Sd w R) 184 (.slice (some ⟨g, 0, none⟩) x.datas.length c) (x.datas.set k y) := by
  have hrr := h.da
  rw [hv] at hrr
  refine hrr.set (ds := ds) k hk (hr _ _) (fun p hp => fg.cell hp.1 (fun e => hp.2 (h.own _ (Pl.o_da (by rw [ho, e]))))) (fun cur hb => ?_)
  exact Blk.setCells ds _ _ _ hb
 refine ⟨?_, rfl, f.mono (fun k _ e => e.elim (fun e => e ▸ V.oP) Pl.o_da), fun _ _ r => r, fun _ r => r, fun _ o => .inl o⟩
 have := h.put_da (v' := V.da) (xs := x.datas.set k y) f (h.blk.fr fg (fun e => hne e)) ?_ (fun k hk => h.own k (Pl.o_da hk)) (fun _ _ r => r) (fun _ r => r) (fun k r => ltl (h.low k r) f.size)
 · exact this
 exact yy86
def kBT (x : Rx) (i : Int) : Rx := if 0 ≤ i ∧ i < x.datas.length then { x with datas := x.datas.set i.toNat ⟨[], true⟩ } else x
theorem kHk (h : StIn w R V x) (i : Int) (hn : x.datas.length ≤ 1000000) :
    Calls prog 27 #[.pointer (some ⟨V.P, 0, none⟩), .int .i64 i] w (GrTo R V (.tuple #[]) (kBT x i) w) := by
 obtain ⟨A, c, hv, _, _⟩ := h.sl_da
 have hcell : w.cell? ⟨V.P, 8, none⟩ = some (.slice A x.datas.length c) := by rw [← hv]; exact h.blk.cell 8
 unfold kBT
 rcases at_cases x.datas i with ⟨k, hk, rfl⟩ | hi | ⟨hi0, hi⟩
 · rw [if_pos ⟨by omega, by omega⟩]
   obtain ⟨g, c', hg, _⟩ := kBF h.da om
   rw [hv] at hg
   injection hg with e1 e2 e3
   subst e1 e3
   have HS := hid (h.setDa (y := ⟨[], true⟩) (ds := [.slice none 0 0, .bool true]) hk hv (fun X S => kEo (a := ⟨[], true⟩) nz nz (.inl rfl)))
   have HT : Hid (w.there g (k * 2) 2) := by
    have hr := h.da
    rw [hv] at hr
    exact kBD hr k hk
   have i0 := nki k
   have i1 : (k : Int) < x.datas.length := om
   have d0 : decide ((k : Int) < 0) = false := by simp
   clear h hv
   rw [Int.toNat_natCast]
   go_enter func27, ntmps27
   go_wp2_with (first
    | (refine wpList_store_mid (by rfl) 184 _ _ (by rfl) g (k * 2) #[.slice none 0 0, .bool true] (by rfl) (by rfl) HT.o kr (by simp [Value.oneCell']) ?_)
    | fail)
   refine bodyPost_end (v := .tuple #[]) (results_none (by rfl) _ _ _) rfl ?_
   exact ⟨V, R, rfl, HS.o.1, HS.o.2⟩
 · rw [if_neg (by omega)]
   have H := hid h
   have d0 : decide (i < 0) = true := by simp [hi]
   clear h hv
   go_enter func27, ntmps27
   exact yy63
 rw [if_neg (by omega)]
 have H := hid h
 have d0 : decide (i < 0) = false := by simp; omega
 have d1 : decide ((x.datas.length : Int) ≤ i) = true := by simp; omega
 clear h hv
 go_enter func27, ntmps27
 exact yy63
end
def kNr {α : Type} (t : Ty α) (x : α) (ok : Bool) (w : World) (e : Ending) (w' : World) : Prop := ∃ cs, e = .returned (.tuple #[.agg cs.toArray, .bool ok]) ∧ t.rd w' (Nw w w') cs x ∧ Fr No w w'
section
variable {w : World} {R : Nat → Prop} {V : Pl} {x : Rx}
theorem kMV (h : StIn w R V x) (i : Int) (hn : x.funcs.length ≤ 1000000) (hb : ∀ a ∈ x.funcs, a.ty.params.length * 8 ≤ 140737488351232 ∧ a.ty.results.length * 8 ≤ 140737488351232) :
    Calls prog 46 #[.pointer (some ⟨V.P, 0, none⟩), .int .i64 i] w (kNr tFi (atD zFi x.funcs i).1 (atD zFi x.funcs i).2 w) := by
 have F0 := hid ((Fr.refl No w).alloc (.cells #[.slice none 0 0, .slice none 0 0, .int .i64 0, .int .i64 0] 47))
 have G0 := hid (Blk.new w 47 #[.slice none 0 0, .slice none 0 0, .int .i64 0, .int .i64 0])
 obtain ⟨A, c, hv, _, hel⟩ := h.sl_fu
 have hcell : w.cell? ⟨V.P, 3, none⟩ = some (.slice A x.funcs.length c) := by rw [← hv]; exact h.blk.cell 3
 have hPl : V.P < w.heap.size := h.lt V.oP
 have HA := hid (fun (X : World) (f : Fr No w X) => kMg V.P 3 A c x.funcs i (· < w.heap.size) X ((f.cell (p := ⟨V.P, 3, none⟩) hPl id).trans hcell) (hel.fr f (fun k hk => ⟨hk, fun x => x⟩)) (fun k hk => ltl hk f.size) hn)
 have hbl : Hid ((atD zFi x.funcs i).1.ty.params.length * 8 ≤ 140737488351232 ∧ (atD zFi x.funcs i).1.ty.results.length * 8 ≤ 140737488351232) := kCG (p := fun a : Fi => a.ty.params.length * 8 ≤ 140737488351232 ∧ a.ty.results.length * 8 ≤ 140737488351232) dc hb
 clear hel hcell hv h hPl hb
 obtain ⟨ok, hok⟩ : ∃ ok, ok = (atD zFi x.funcs i).2 := ⟨_, rfl⟩
 rw [← hok]
 have HOK := hid hok.symm
 clear hok
 obtain ⟨s, hs⟩ : ∃ s, s = (atD zFi x.funcs i).1 := ⟨_, rfl⟩
 rw [← hs] at hbl ⊢
 have HS := hid hs.symm
 clear hs
 go_enter func46, ntmps46
 go_wp2_with fail
 refine (HA.o _ F0.o).mono ?_
 rintro e w1 ⟨cs, rfl, hr, f1⟩
 rw [HS.o] at hr
 obtain ⟨A1, c1, A2, c2, rfl, q1, q2, q3, q4, q5, q6, q7, q8⟩ := kBm hr
 have F1 := ftr F0 f1
 replace G0 := hid (G0.o.fr f1 id)
 have HQ := hid G0.o.lt
 clear HA hr f1 F0
 obtain ⟨p, hp⟩ : ∃ p, p = w.heap.size := ⟨_, rfl⟩
 rw [← hp] at G0 HQ
 simp only [← hp]
 have HPW := hid hp
 clear hp
 have f2 := (Fr.refl No w1).alloc (.cells #[.slice A1 s.ty.params.length c1, .slice A2 s.ty.results.length c2, .int .i64 s.inst, .int .i64 s.index] 47)
 have F2 := ftr F1 f2
 replace G0 := hid (G0.o.fr f2 id)
 have G1 := hid (Blk.new w1 47 #[.slice A1 s.ty.params.length c1, .slice A2 s.ty.results.length c2, .int .i64 s.inst, .int .i64 s.index])
 go_upto_region 4 with fail
 have HC := hid (kCz s.ty A1 A2 c1 c2 (· < w.heap.size) (w1.alloc (.cells #[.slice A1 s.ty.params.length c1, .slice A2 s.ty.results.length c2, .int .i64 s.inst, .int .i64 s.index] 47)) (fun k hk => ltl hk F2.o.size) (q3.fr f2 (fun k hk => ⟨ltl hk F1.o.size, fun x => x⟩)) (q6.fr f2 (fun k hk => ⟨ltl hk F1.o.size, fun x => x⟩)) hbl.o.1 hbl.o.2)
 clear f2 q3 q6
 generalize w1.alloc (.cells #[.slice A1 s.ty.params.length c1, .slice A2 s.ty.results.length c2, .int .i64 s.inst, .int .i64 s.index] 47) = W at *
 have HW0 : w1.heap.size < W.heap.size := G1.o.lt
 have HW := hid HW0
 clear HW0
 generalize w1.heap.size = q at *
 have z0 := G1.o.cell 0
 have z1 := G1.o.cell 1
 go_wp2_with fail
 refine HC.o.mono ?_
 rintro e w3 ⟨cs, rfl, hr, f3⟩
 clear z0 z1 HC
 obtain ⟨B1, d1, B2, d2, rfl, r1, r2, r3, r4, r5, r6⟩ := Fn_cells hr
 have R3 := hid r3
 have R6 := hid r6
 clear hr r3 r6
 have F3 := ftr F2 f3
 replace G0 := hid (G0.o.fr f3 id)
 replace G1 := hid (G1.o.fr f3 id)
 clear f3
 have z0 := G1.o.cell 0
 have z1 := G1.o.cell 1
 have y0 := G1.o.frozen 0
 have y1 := G1.o.frozen 1
 have y2 : ∀ u, (w3.setCell ⟨q, 0, none⟩ u).cell? ⟨q, 1, none⟩ = some (.slice A2 s.ty.results.length c2) := fun u => (G1.o.set_ 0 u).cell 1
 have y3 : ∀ u, (w3.setCell ⟨q, 0, none⟩ u).frozen? ⟨q, 1, none⟩ = false := fun u => (G1.o.set_ 0 u).frozen 1
 go_upto_region 5 with fail
 have hpq : p ≠ q := by have := HQ.o; omega
 have N1 := hid ((G1.o.set_ 0 (.slice B1 s.ty.params.length d1)).set_ 1 (.slice B2 s.ty.results.length d2))
 have N0 := hid ((G0.o.far (p := ⟨q, 0, none⟩) hpq (.slice B1 s.ty.params.length d1)).far (p := ⟨q, 1, none⟩) hpq (.slice B2 s.ty.results.length d2))
 have F5 := hid ((F3.o.setCell ⟨q, 0, none⟩ (.slice B1 s.ty.params.length d1) (fun h => absurd h (by have := HQ.o; have := HPW.o; show ¬ q < _; omega))).setCell ⟨q, 1, none⟩ (.slice B2 s.ty.results.length d2) (fun h => absurd h (by have := HQ.o; have := HPW.o; show ¬ q < _; omega)))
 have fq := (((Fr.refl (fun k => k = q) w3).setCell ⟨q, 0, none⟩ (.slice B1 s.ty.params.length d1) (fun _ => rfl)).setCell ⟨q, 1, none⟩ (.slice B2 s.ty.results.length d2) (fun _ => rfl))
 have hlq : Hid (∀ k, Nw W w3 k → k < w3.heap.size ∧ ¬ k = q ∧ ¬ k = p ∧ w.heap.size ≤ k) := by
  rintro k ⟨ha, hb⟩
  have h1 := G1.o.lt
  have h2 := HW.o
  have h3 := HQ.o
  have h4 := HPW.o
  refine ⟨hb, ?_, ?_, ?_⟩ <;> omega
 have R3' := hid (R3.o.fr fq (fun k hk => ⟨(hlq.o k hk).1, (hlq.o k hk).2.1⟩))
 have R6' := hid (R6.o.fr fq (fun k hk => ⟨(hlq.o k hk).1, (hlq.o k hk).2.1⟩))
 have SZ := hid fq.size
 clear fq z0 z1 y0 y1 y2 y3 G0 G1 R3 R6 F3
 generalize (w3.setCell ⟨q, 0, none⟩ (.slice B1 s.ty.params.length d1)).setCell ⟨q, 1, none⟩ (.slice B2 s.ty.results.length d2) = W5 at *
 have HI : Hid ((prog.info? 47).map (·.size) = some 4) := by unfold Hid; kernel_rfl
 have RQ : W5.rangeAt q 0 [.slice B1 s.ty.params.length d1, .slice B2 s.ty.results.length d2, .int .i64 s.inst, .int .i64 s.index] := rangeAt_blk N1.o
 have HT : Hid (W5.there p 0 4) := there_blk N0.o rfl
 go_wp2_with (first
  | (refine wpList_load_mid (by rfl) 47 _ (by rfl) q 0 (by rfl) _ _ RQ underlying47 (by rfl) HI.o ?_)
  | (refine wpList_store_mid (by rfl) 47 _ _ (by rfl) p 0 #[.slice B1 s.ty.params.length d1, .slice B2 s.ty.results.length d2, .int .i64 s.inst, .int .i64 s.index] (by rfl) (by rfl) HT.o HI.o (by simp [Value.oneCell']) ?_)
  | fail)
 have F6 := hid (Fr.setCells' (a := w) (b := p) (M := No) (fun h => absurd h (by have := HPW.o; omega)) [.slice B1 s.ty.params.length d1, .slice B2 s.ty.results.length d2, .int .i64 s.inst, .int .i64 s.index] 0 W5 F5.o)
 have f7 := Fr.setCells' (a := W5) (b := p) (M := fun k => k = p) (fun _ => rfl) [.slice B1 s.ty.params.length d1, .slice B2 s.ty.results.length d2, .int .i64 s.inst, .int .i64 s.index] 0 W5 (Fr.refl _ W5)
 have RR := World.rangeAt_setCells_same W5 p 0 [.slice B1 s.ty.params.length d1, .slice B2 s.ty.results.length d2, .int .i64 s.inst, .int .i64 s.index] HT.o
 have E3 := R3'.o.fr f7 (fun k hk => ⟨ltl (hlq.o k hk).1 SZ.o, (hlq.o k hk).2.2.1⟩)
 have E6 := R6'.o.fr f7 (fun k hk => ⟨ltl (hlq.o k hk).1 SZ.o, (hlq.o k hk).2.2.1⟩)
 have hup : ∀ k, Nw W w3 k → Nw w (W5.setCells p 0 [.slice B1 s.ty.params.length d1, .slice B2 s.ty.results.length d2, .int .i64 s.inst, .int .i64 s.index]) k := fun k hk => ⟨(hlq.o k hk).2.2.2, ltl (hlq.o k hk).1 (Nat.le_trans SZ.o f7.size)⟩
 rw [HOK.o]
 refine bodyPost_ret (v := .tuple #[.agg [.slice B1 s.ty.params.length d1, .slice B2 s.ty.results.length d2, .int .i64 s.inst, .int .i64 s.index].toArray, .bool ok]) (results_wide (fn := f46) (p := 4) (t := 5) (ty := 47) rfl _ _ p _ _ (by rfl) RR underlying47 (by rfl) HI.o) rfl ?_
 exact ⟨_, rfl, Fi_mk (a := s) r1 r2 (E3.more hup) r4 r5 (E6.more hup) q7 q8, F6.o⟩
end
theorem kHI {cs : Array Value} {i : Nat} {v : Value} (h : cs[i]? = some v) : cs.setIfInBounds i v = cs := by
 apply Array.ext_getElem?
 intro j
 rw [Array.getElem?_setIfInBounds]
 split
 · subst_vars
   split
   · rw [h]
   rename_i hn
   rw [Array.getElem?_eq_none (by omega)]
 rfl
section
variable {w : World} {R : Nat → Prop} {V : Pl} {x : Rx}
theorem StIn.setGl (h : StIn w R V x) {k : Nat} {v : Vl} {g c : Nat} (hk : k < x.globs.length) (hv : V.gl = .slice (some ⟨g, 0, none⟩) x.globs.length c) (w1 : (Lit.int .i64 v.t).wf = true) (w2 : (Lit.int .u64 v.n).wf = true) :
    StIn (w.setCells g (k * 4 + 2) [.int .i64 v.t, .int .u64 v.n]) R V { x with globs := x.globs.set k ⟨x.globs[k].t, v⟩ } ∧ Grown w (w.setCells g (k * 4 + 2) [.int .i64 v.t, .int .u64 v.n]) R R V V := by
 have ho : V.gl.ownBlock = some g := by rw [hv]; rfl
 have f := Fr.setCells' (M := fun k => k = V.P ∨ V.gl.ownBlock = some k) (a := w) (b := g) (fun _ => .inr ho) [.int .i64 v.t, .int .u64 v.n] (k * 4 + 2) w (Fr.refl _ w)
 have fg := Fr.setCells' (M := fun k => k = g) (a := w) (b := g) (fun _ => rfl) [.int .i64 v.t, .int .u64 v.n] (k * 4 + 2) w (Fr.refl _ w)
 have hne : V.P ≠ g := fun e => Bt.ne ⟨_, h.blk⟩ (kAC h.gl ho) dc e
 have hrow : tRg.row (w.setCells g (k * 4 + 2) [.int .i64 v.t, .int .u64 v.n]) 0 (Sd w R) 180 (.slice (some ⟨g, 0, none⟩) x.globs.length c) (x.globs.set k ⟨x.globs[k].t, v⟩) := by
  have hrr := h.gl
  rw [hv] at hrr
  have he := Ty.row.els' (S' := fun _ => True) hrr tvv tvv
  obtain ⟨b, o, e, _, y0, y1, _, _, f0, _⟩ := kDO he k hk
  injection e with e
  injection e with e1 e2 _
  subst e1 e2
  rw [Nat.zero_add] at y0 y1
  refine hrr.set (ds := [.int .i64 x.globs[k].t.val, .bool x.globs[k].t.mut_, .int .i64 v.t, .int .u64 v.n]) k hk (kEn (a := ⟨x.globs[k].t, v⟩) f0 w1 w2) (fun p hp => fg.cell hp.1 (fun e => hp.2 (h.own _ (Pl.o_gl (by rw [ho, e]))))) (fun cur hb => ?_)
  have e4 : tRg.size = 4 := rfl
  rw [e4]
  have q0 : cur[k * 4]? = some (.int .i64 x.globs[k].t.val) := by rw [← hb.cell]; exact y0
  have q1 : cur[k * 4 + 1]? = some (.bool x.globs[k].t.mut_) := by rw [← hb.cell]; exact y1
  have := Blk.setCells [.int .i64 v.t, .int .u64 v.n] (k * 4 + 2) _ _ hb
  show Blk _ g _ (setA ((cur.setIfInBounds (k * 4) (.int .i64 x.globs[k].t.val)).setIfInBounds (k * 4 + 1) (.bool x.globs[k].t.mut_)) (k * 4 + 2) [.int .i64 v.t, .int .u64 v.n])
  rw [kHI q0, kHI q1]
  exact this
 refine ⟨?_, rfl, f.mono (fun k _ e => e.elim (fun e => e ▸ V.oP) Pl.o_gl), fun _ _ r => r, fun _ r => r, fun _ o => .inl o⟩
 have := h.put_gl (v' := V.gl) (xs := x.globs.set k ⟨x.globs[k].t, v⟩) f (h.blk.fr fg (fun e => hne e)) ?_ (fun k hk => h.own k (Pl.o_gl hk)) (fun _ _ r => r) (fun _ r => r) (fun k r => ltl (h.low k r) f.size)
 · exact this
 exact yy86
def kAq (x : Rx) (i : Int) (v : Vl) : Rx × Bool :=
 match getI x.globs i with
 | none => (x, false)
 | some g => if kBE v g.t.val then ({ x with globs := x.globs.set i.toNat ⟨g.t, v⟩ }, true) else (x, false)
theorem kGZ (h : StIn w R V x) (i : Int) (v : Vl) (hn : x.globs.length ≤ 1000000) (w1 : (Lit.int .i64 v.t).wf = true) (w2 : (Lit.int .u64 v.n).wf = true) :
    Calls prog 24 #[.pointer (some ⟨V.P, 0, none⟩), .int .i64 i, .agg #[.int .i64 v.t, .int .u64 v.n]] w (GrTo R V (.bool (kAq x i v).2) (kAq x i v).1 w) := by
 have F0 := hid ((Fr.refl No w).alloc (.cells #[.int .i64 v.t, .int .u64 v.n] 57))
 have G0 := hid (Blk.new w 57 #[.int .i64 v.t, .int .u64 v.n])
 have HG := kFi (h.frNo F0.o) i hn
 have H := hid h
 unfold kAq
 rcases at_cases x.globs i with ⟨k, hk, rfl⟩ | hi
 · rw [atD_yes hk] at HG
   rw [getI_yes hk]
   obtain ⟨A, c, hv, _, _⟩ := h.sl_gl
   obtain ⟨g, c', hg, _⟩ := kBF h.gl om
   rw [hv] at hg
   injection hg with e1 e2 e3
   subst e1 e3
   have HS := hid (fun (X : World) (f : Fr No w X) => (h.frNo f).setGl (v := v) hk hv w1 w2)
   have HC : Hid (∀ X, Fr No w X → Ce X V.P 6 (.slice (some ⟨g, 0, none⟩) x.globs.length c)) := fun X f => by
    have := (h.frNo f).blk.cell 6
    exact this.trans (by rw [← hv]; rfl)
   have HT : Hid (∀ X, Fr No w X → X.there g (k * 4 + 2) 2) := fun X f j hj => by
    have hr := (h.frNo f).gl
    rw [hv] at hr
    have := kBD hr k hk (j + 2) (by show j + 2 < 4; omega)
    rw [show k * tRg.size + (j + 2) = k * 4 + 2 + j by show k * 4 + (j + 2) = _; omega] at this
    exact this
   obtain ⟨y, hy⟩ : ∃ y, y = x.globs[k] := ⟨_, rfl⟩
   rw [← hy] at HG HS ⊢
   have HG := hid HG
   have i0 := nki k
   have i1 : (k : Int) < x.globs.length := om
   clear h hv hy
   simp only [Int.toNat_natCast]
   obtain ⟨q, hq⟩ : ∃ q, q = kBE v y.t.val := ⟨_, rfl⟩
   have HR := hid (kEP v y.t.val)
   rw [← hq] at HR ⊢
   clear hq
   cases q with
   | false =>
    simp only [Bool.false_eq_true, if_false]
    go_enter func24, ntmps24
    go_wp2_with fail
    refine HG.o.mono ?_
    rintro e w1 ⟨rfl, f1⟩
    have F1 := ftr F0 f1
    replace G0 := hid (G0.o.fr f1 id)
    clear f1 F0 HG
    generalize w.heap.size = p at *
    have f2 := ((Fr.refl No w1).alloc (.cells #[.int .i64 y.t.val, .bool y.t.mut_] 54)).alloc (.cells #[.int .i64 y.v.t, .int .u64 y.v.n] 57)
    have F2 := ftr F1 f2
    replace G0 := hid (G0.o.fr f2 id)
    have G1 := hid ((Blk.new w1 54 #[.int .i64 y.t.val, .bool y.t.mut_]).alloc (.cells #[.int .i64 y.v.t, .int .u64 y.v.n] 57))
    clear f2
    go_upto_region 2 with fail
    generalize (w1.alloc (.cells #[.int .i64 y.t.val, .bool y.t.mut_] 54)).alloc (.cells #[.int .i64 y.v.t, .int .u64 y.v.n] 57) = W at *
    generalize w1.heap.size = p2 at *
    have z0 := G0.o.cell 0
    have z1 := G0.o.cell 1
    have y0 := G1.o.cell 0
    have y1 := G1.o.cell 1
    go_wp2_with fail
    refine (HR.o _).mono ?_
    rintro e w3 ⟨rfl, f3⟩
    have F3 := ftr F2 f3
    replace G0 := hid (G0.o.fr f3 id)
    clear f3 z0 z1 y0 y1 G1 HR
    go_wp2
    go_ret
    exact GrTo.no H.o F3.o
   | true =>
    simp only [if_true]
    go_enter func24, ntmps24
    go_wp2_with fail
    refine HG.o.mono ?_
    rintro e w1 ⟨rfl, f1⟩
    have F1 := ftr F0 f1
    replace G0 := hid (G0.o.fr f1 id)
    clear f1 F0 HG
    generalize w.heap.size = p at *
    have f2 := ((Fr.refl No w1).alloc (.cells #[.int .i64 y.t.val, .bool y.t.mut_] 54)).alloc (.cells #[.int .i64 y.v.t, .int .u64 y.v.n] 57)
    have F2 := ftr F1 f2
    replace G0 := hid (G0.o.fr f2 id)
    have G1 := hid ((Blk.new w1 54 #[.int .i64 y.t.val, .bool y.t.mut_]).alloc (.cells #[.int .i64 y.v.t, .int .u64 y.v.n] 57))
    clear f2
    go_upto_region 2 with fail
    generalize (w1.alloc (.cells #[.int .i64 y.t.val, .bool y.t.mut_] 54)).alloc (.cells #[.int .i64 y.v.t, .int .u64 y.v.n] 57) = W at *
    generalize w1.heap.size = p2 at *
    have z0 := G0.o.cell 0
    have z1 := G0.o.cell 1
    have y0 := G1.o.cell 0
    have y1 := G1.o.cell 1
    go_wp2_with fail
    refine (HR.o _).mono ?_
    rintro e w3 ⟨rfl, f3⟩
    have F3 := ftr F2 f3
    replace G0 := hid (G0.o.fr f3 id)
    clear f3 z0 z1 y0 y1 G1 HR
    have HX : Hid (∀ X, Fr No w3 X → Ce X V.P 6 (.slice (some ⟨g, 0, none⟩) x.globs.length c) ∧ Ce X p 0 (.int .i64 v.t) ∧ Ce X p 1 (.int .u64 v.n)) := fun X f => ⟨HC.o X (F3.o.trans f i3), (G0.o.fr f id).cell 0, (G0.o.fr f id).cell 1⟩
    go_wp2_with fail
    refine rwO (fun X => Ce X V.P 6 (.slice (some ⟨g, 0, none⟩) x.globs.length c) ∧ Ce X p 0 (.int .i64 v.t) ∧ Ce X p 1 (.int .u64 v.n)) [9] (List.range 10) [9] (HX.o _ (Fr.refl No _).drew) ?_
    refine rC ?_
    refine wpO_eff rfl rfl (fun K hK => ?_)
    simp only [zA]
    refine wp_store_mid 57 _ _ (by rfl) g (k * 4 + 2) #[.int .i64 v.t, .int .u64 v.n] (by rfl) (by rfl) (HT.o _ F3.o.drew) kr (by simp [Value.oneCell']) ?_
    have HS2 := hid (HS.o _ F3.o.drew)
    refine hK _ _ (fun h => by cases h) ?_
    clear hK K
    refine wpO_nil ?_
    go_wp2
    go_ret
    exact ⟨V, R, rfl, HS2.o.1, (Grown.of_no F3.o.drew).trans HS2.o.2⟩
 have hi' : i < 0 ∨ (x.globs.length : Int) ≤ i := om
 rw [atD_no hi'] at HG
 rw [getI_no hi']
 have HG := hid HG
 clear h hi
 go_enter func24, ntmps24
 go_wp2_with fail
 refine HG.o.mono ?_
 rintro e w1 ⟨rfl, f1⟩
 have F1 := ftr F0 f1
 clear f1 F0 HG
 go_wp2
 go_ret
 exact GrTo.no H.o ((F1.o.alloc _).alloc _)
end
section
variable {w : World} {R : Nat → Prop} {V : Pl} {x : Rx}
def tbB (t : Tb) : Bool := tabB t.elem t.lim.min t.lim.max t.lim.has
def kBr (x : Rx) (t : Tb) : Rx × Int := if tbB t then ({ x with tabs := x.tabs ++ [⟨t, List.replicate t.lim.min.toNat 0⟩] }, x.tabs.length) else (x, -1)
abbrev q8x5 (a0 : Tb) : Array Value := #[.int .i64 a0.elem, .int .i64 a0.lim.min, .int .i64 a0.lim.max, .bool a0.lim.has]
theorem kHs (h : StIn w R V x) (t : Tb) (hn : x.tabs.length ≤ 1000000) :
    Calls prog 18 #[.pointer (some ⟨V.P, 0, none⟩), .agg (q8x5 t)] w (GrTo R V (.int .i64 (kBr x t).2) (kBr x t).1 w) := by
 have F0 := hid ((Fr.refl No w).alloc (.cells (q8x5 t) 52))
 have G0 := hid (Blk.new w 52 (q8x5 t))
 have H := hid h
 clear h
 have HTA := hid (fun X => kGI t.elem t.lim.min t.lim.max t.lim.has X)
 unfold kBr
 cases hv : tbB t with
 | false =>
  have HV : Hid (tabB t.elem t.lim.min t.lim.max t.lim.has = false) := hv
  clear hv
  rw [HV.o] at HTA
  simp only [if_true, Bool.false_eq_true, if_false]
  go_enter func18, ntmps18
  go_wp2_with (go_at_call 74; refine (HTA.o _).mono ?_; rintro e w1 ⟨rfl, f1⟩; have F1 := hid (Fr.of_below (M := No) f1); clear f1)
  go_ret
  exact GrTo.no H.o (F0.o.trans F1.o i3)
 | true =>
  have HV : Hid (tabB t.elem t.lim.min t.lim.max t.lim.has = true) := hv
  clear hv
  rw [HV.o] at HTA
  simp only [if_true, Bool.false_eq_true, if_false]
  go_enter func18, ntmps18
  go_wp2_with (go_at_call 74; refine (HTA.o _).mono ?_; rintro e w1 ⟨rfl, f1⟩; have F1 := hid (Fr.of_below (M := No) f1); clear f1)
  have F2 := ftr F0 F1.o
  have G1 := hid (G0.o.fr F1.o id)
  have HX : Hid (∀ X, Blk X w.heap.size 52 (q8x5 t) → Ce X w.heap.size 0 (.int .i64 t.elem) ∧ Ce X w.heap.size 1 (.int .i64 t.lim.min) ∧ Ce X w.heap.size 2 (.int .i64 t.lim.max) ∧ Ce X w.heap.size 3 (.bool t.lim.has)) := fun X b => ⟨b.cell 0, b.cell 1, b.cell 2, b.cell 3⟩
  clear G0 F0 F1 HTA
  refine rwO (fun X => Ce X w.heap.size 0 (.int .i64 t.elem) ∧ Ce X w.heap.size 1 (.int .i64 t.lim.min) ∧ Ce X w.heap.size 2 (.int .i64 t.lim.max) ∧ Ce X w.heap.size 3 (.bool t.lim.has)) [] (List.range 7) [4, 5] (HX.o _ G1.o.drew) ?_
  refine rC ?_
  refine wpO_eff rfl rfl fun K hK => sz ?_
  refine (kNc t.elem t.lim.min t.lim.max t.lim.has _ HV.o).mono ?_
  rintro e w2 ⟨p, q, rfl, hm, l1, l2, f2⟩
  have F3 := hid (F2.o.drew.trans f2 i3)
  have G2 := hid (G1.o.drew.fr f2 id)
  have HM := hid hm
  have l1 : w.heap.size ≤ p := Nat.le_trans F2.o.size l1
  have l2 : w.heap.size ≤ q := Nat.le_trans F2.o.size l2
  clear hm f2
  refine hK _ _ (fun _ => HX.o _ G2.o) ?_
  clear hK K
  have K1 : Hid (StIn w2 (fun k => R k ∨ k = p ∨ k = q) V x) := H.o.fr F3.o (fun _ _ m => m.elim) (fun k hk r => r.elim (fun r => r) (fun e => by omega)) (fun k r => .inl r) (fun k r => r.elim (fun r => ltl (H.o.low k r) F3.o.size) (fun e => e.elim (fun e => e ▸ HM.o.blk.lt) (fun e => e ▸ HM.o.own.lt)))
  refine wpO_eff rfl rfl fun K hK => sz ?_
  refine (kKS V.P 4 (Sd w2 (fun k => R k ∨ k = p ∨ k = q)) V.ta (V.tp.map (·.1)) p w2 (K1.o.addIn_ta rfl (by simp [H.o.tl]; exact hn))).mono ?_
  intro e w3 ha
  obtain ⟨V', R', rfl, h2, h3⟩ := H.o.added_ta (z := (p, q, t.lim.min.toNat)) (t := ⟨t, List.replicate t.lim.min.toNat 0⟩) F3.o HM.o l1 l2 ha
  have H2 := hid h2
  have H3 := hid h3
  clear h2 h3
  obtain ⟨v9, e9, -, f9, -⟩ := ha
  have G3 := G2.o.fr f9 (fun m => m.elim (fun e => by have := H.o.lt V.oP; omega) (fun e => by have := H.o.lt (Pl.o_ta e); omega))
  refine hK _ _ (fun _ => HX.o _ G3) ?_
  clear hK K f9 e9 G3
  refine rC ?_
  refine wpO_nil ?_
  go_wp2
  go_ret
  exact ⟨V', R', rfl, H2.o, H3.o⟩
end
theorem kGN (A B : OA) (xs ys : List Int) (c d : Nat) (S T : Nat → Prop) (w : World) (ha : tI.els w S A xs) (hb : tI.els w T B ys) (h1 : xs.length ≤ 140737488351232) (h2 : ys.length ≤ 140737488351232) :
    Calls prog 156 #[.slice A xs.length c, .slice B ys.length d] w fun e w' => e = .returned (.bool (decide (xs = ys))) ∧ ∃ n, w' = w.drewN n := by
 by_cases hl : xs.length = ys.length
 · have e1 : (((xs.length : Nat) : Int) != ((ys.length : Nat) : Int)) = false := by simp [hl]
   have hL := hid hl
   have hl1 : xs.length ≤ ys.length := om
   clear hl
   go_enter func156, ntmps156
   go_wp2
   go_loopw [14] (fun i wr => ∃ k m : Nat, k ≤ xs.length ∧ i = .int .i64 k ∧ wr = w.drewN m ∧ xs.take k = ys.take k) (fun i _ => xs.length - (intOf i).toNat)
   case atStart => exact ⟨0, 0, by omega, rfl, rfl, by simp⟩
   obtain ⟨k, m, hk, rfl, rfl, hq⟩ := hrel
   have HQ := hid hq
   clear hq e1
   by_cases hlt : k < xs.length
   · obtain ⟨b, o, rfl, _, c1, _⟩ := kDc ha k hlt
     obtain ⟨b', o', rfl, _, c2, _⟩ := kDc hb k om
     have i0 := nki k
     have i1 : (k : Int) < xs.length := om
     have i2 : (k : Int) < ys.length := om
     generalize hx : xs[k] = x at c1
     generalize hy : ys[k] = y at c2
     have HX := hid hx
     have HY := hid hy
     clear hx hy ha hb
     by_cases hxy : x = y
     · have hn : (x != y) = false := by simp [hxy]
       have HXY := hid hxy
       clear hxy
       go_wp2
       go_roundw
       case rel =>
        refine ⟨k + 1, _, by omega, by go_num, rfl, ?_⟩
        rw [List.take_succ_eq_append_getElem hlt, List.take_succ_eq_append_getElem (by omega), HQ.o, HX.o, HY.o, HXY.o]
       simp [intOf]; omega
     have hn : (x != y) = true := by simp [hxy]
     have HXY := hid hxy
     clear hxy
     go_wp2
     go_ret
     refine ⟨ret_bool ?_, _, rfl⟩
     symm
     rw [decide_eq_false_iff_not]
     rintro rfl
     exact HXY.o (HX.o.symm.trans HY.o)
   exact yy33
 have e1 : (((xs.length : Nat) : Int) != ((ys.length : Nat) : Int)) = true := by simp; omega
 have hL := hid hl
 clear hl
 go_enter func156, ntmps156
 exact yy55
theorem kDn (A B : OA) (xs ys : List Int) (c d : Nat) (S T : Nat → Prop) (w : World) (ha : tI.els w S A xs) (hb : tI.els w T B ys) (h1 : xs.length ≤ 140737488351232) (h2 : ys.length ≤ 140737488351232) :
    Calls prog 137 #[.slice A xs.length c, .slice B ys.length d] w fun e w' => e = .returned (.bool (decide (xs = ys))) ∧ ∃ n, w' = w.drewN n := by
 by_cases hl : xs.length = ys.length
 · have e1 : (((xs.length : Nat) : Int) != ((ys.length : Nat) : Int)) = false := by simp [hl]
   have hL := hid hl
   have hl1 : xs.length ≤ ys.length := om
   clear hl
   go_enter func137, ntmps137
   go_wp2
   go_loopw [5] (fun i wr => ∃ k m : Nat, k ≤ xs.length ∧ i = .int .i64 k ∧ wr = w.drewN m ∧ xs.take k = ys.take k) (fun i _ => xs.length - (intOf i).toNat)
   case atStart => exact ⟨0, 0, by omega, rfl, rfl, by simp⟩
   obtain ⟨k, m, hk, rfl, rfl, hq⟩ := hrel
   have HQ := hid hq
   clear hq e1
   by_cases hlt : k < xs.length
   · obtain ⟨b, o, rfl, _, c1, _⟩ := kDc ha k hlt
     obtain ⟨b', o', rfl, _, c2, _⟩ := kDc hb k om
     exact yy6
   exact yy33
 have e1 : (((xs.length : Nat) : Int) != ((ys.length : Nat) : Int)) = true := by simp; omega
 have hL := hid hl
 clear hl
 go_enter func137, ntmps137
 exact yy55
def fnEq (f g : Fn) : Bool := decide (f.params = g.params) && decide (f.results = g.results)
theorem kFI {f g : Fn} : fnEq f g = true ↔ f = g := by
 cases f; cases g
 simp [fnEq]
abbrev q8x6 (a0 a1 : Option Addr) (a2 : Fn) (a3 a4 : Nat) : Array Value := #[.slice a0 a2.params.length a3, .slice a1 a2.results.length a4]
abbrev q8x7 (a0 a1 : Option Addr) (a2 : Fn) (a3 a4 : Nat) : Array Value := #[.slice a0 a2.params.length a3, .slice a1 a2.results.length a4]
theorem kKf (f g : Fn) (A1 A2 B1 B2 : OA) (c1 c2 d1 d2 : Nat) (S T : Nat → Prop) (w : World) (hS : Lt S w) (hT : Lt T w) (h1 : tI.els w S A1 f.params) (h2 : tI.els w S A2 f.results) (h3 : tI.els w T B1 g.params) (h4 : tI.els w T B2 g.results)
    (b1 : f.params.length ≤ 140737488351232) (b2 : f.results.length ≤ 140737488351232) (b3 : g.params.length ≤ 140737488351232) (b4 : g.results.length ≤ 140737488351232) :
    Calls prog 71 #[.agg (q8x6 A1 A2 f c1 c2), .agg (q8x7 B1 B2 g d1 d2)] w fun e w' => e = .returned (.bool (fnEq f g)) ∧ Fr No w w' := by
 have F0 := hid (((Fr.refl No w).alloc (.cells (q8x6 A1 A2 f c1 c2) 45)).alloc (.cells (q8x7 B1 B2 g d1 d2) 45))
 have HP := hid (fun (X : World) (f0 : Fr No w X) => kGN A1 B1 f.params g.params c1 d1 S T X (h1.fr f0 (fun k hk => ⟨hS k hk, fun x => x⟩)) (h3.fr f0 (fun k hk => ⟨hT k hk, fun x => x⟩)) b1 b3)
 have HR := hid (fun (X : World) (f0 : Fr No w X) => kGN A2 B2 f.results g.results c2 d2 S T X (h2.fr f0 (fun k hk => ⟨hS k hk, fun x => x⟩)) (h4.fr f0 (fun k hk => ⟨hT k hk, fun x => x⟩)) b2 b4)
 have G0 := hid ((Blk.new w 45 (q8x6 A1 A2 f c1 c2)).alloc (.cells (q8x7 B1 B2 g d1 d2) 45))
 have G1 := hid (Blk.new1 w (.cells (q8x6 A1 A2 f c1 c2) 45) 45 (q8x7 B1 B2 g d1 d2))
 unfold fnEq
 obtain ⟨q1, e1⟩ : ∃ q, q = decide (f.params = g.params) := ⟨_, rfl⟩
 obtain ⟨q2, e2⟩ : ∃ q, q = decide (f.results = g.results) := ⟨_, rfl⟩
 rw [← e1] at HP ⊢
 rw [← e2] at HR ⊢
 clear e1 e2 h1 h2 h3 h4 hS hT
 go_enter func71, ntmps71
 exact yy30
theorem kCV (f g : Fn) (A1 A2 B1 B2 : OA) (c1 c2 d1 d2 : Nat) (S T : Nat → Prop) (w : World) (hS : Lt S w) (hT : Lt T w) (h1 : tI.els w S A1 f.params) (h2 : tI.els w S A2 f.results) (h3 : tI.els w T B1 g.params) (h4 : tI.els w T B2 g.results)
    (b1 : f.params.length ≤ 140737488351232) (b2 : f.results.length ≤ 140737488351232) (b3 : g.params.length ≤ 140737488351232) (b4 : g.results.length ≤ 140737488351232) :
    Calls prog 48 #[.agg (q8x6 A1 A2 f c1 c2), .agg (q8x7 B1 B2 g d1 d2)] w fun e w' => e = .returned (.bool (fnEq f g)) ∧ Fr No w w' := by
 have F0 := hid (((Fr.refl No w).alloc (.cells (q8x6 A1 A2 f c1 c2) 45)).alloc (.cells (q8x7 B1 B2 g d1 d2) 45))
 have HP := hid (fun (X : World) (f0 : Fr No w X) => kDn A1 B1 f.params g.params c1 d1 S T X (h1.fr f0 (fun k hk => ⟨hS k hk, fun x => x⟩)) (h3.fr f0 (fun k hk => ⟨hT k hk, fun x => x⟩)) b1 b3)
 have HR := hid (fun (X : World) (f0 : Fr No w X) => kDn A2 B2 f.results g.results c2 d2 S T X (h2.fr f0 (fun k hk => ⟨hS k hk, fun x => x⟩)) (h4.fr f0 (fun k hk => ⟨hT k hk, fun x => x⟩)) b2 b4)
 have G0 := hid ((Blk.new w 45 (q8x6 A1 A2 f c1 c2)).alloc (.cells (q8x7 B1 B2 g d1 d2) 45))
 have G1 := hid (Blk.new1 w (.cells (q8x6 A1 A2 f c1 c2) 45) 45 (q8x7 B1 B2 g d1 d2))
 unfold fnEq
 obtain ⟨q1, e1⟩ : ∃ q, q = decide (f.params = g.params) := ⟨_, rfl⟩
 obtain ⟨q2, e2⟩ : ∃ q, q = decide (f.results = g.results) := ⟨_, rfl⟩
 rw [← e1] at HP ⊢
 rw [← e2] at HR ⊢
 clear e1 e2 h1 h2 h3 h4 hS hT
 go_enter func48, ntmps48
 exact yy30
def kBC (x : Rx) (f : Fi) : Bool := fnB f.ty && (decide (0 ≤ f.index) && (decide (-1 ≤ f.inst) && (!decide (f.inst = -1) || (match getI x.hosts f.index with | some h => fnEq h.ty f.ty | none => false))))
def kBs (x : Rx) (f : Fi) : Rx × Int := if kBC x f then ({ x with funcs := x.funcs ++ [f] }, x.funcs.length) else (x, -1)
theorem kCS {x : Rx} {f : Fi} (h : kBC x f = false) : kBs x f = (x, -1) := by rw [kBs, h]; rfl
theorem kDN {x : Rx} {f : Fi} (h : kBC x f = true) : kBs x f = ({ x with funcs := x.funcs ++ [f] }, ((x.funcs.length : Nat) : Int)) := by rw [kBs, h]; rfl
section
variable {w : World} {R : Nat → Prop} {V : Pl} {x : Rx}
abbrev q8x3 (a0 a1 : Option Addr) (a2 : Fi) (a3 a4 : Nat) : Array Value := #[.slice a0 a2.ty.params.length a3, .slice a1 a2.ty.results.length a4, .int .i64 a2.inst, .int .i64 a2.index]
abbrev q8x4 (a0 a1 : Option Addr) (a2 : Fi) (a3 a4 : Nat) : List Value := [.slice a0 a2.ty.params.length a3, .slice a1 a2.ty.results.length a4, .int .i64 a2.inst, .int .i64 a2.index]
theorem kIs (h : StIn w R V x) (f : Fi) (A1 A2 : OA) (c1 c2 : Nat) (h1 : tI.els w (· < w.heap.size) A1 f.ty.params) (h2 : tI.els w (· < w.heap.size) A2 f.ty.results) (hn : x.funcs.length ≤ 1000000)
    (b1 : f.ty.params.length * 8 ≤ 140737488351232) (b2 : f.ty.results.length * 8 ≤ 140737488351232) (wi : (Lit.int .i64 f.inst).wf = true) (wx : (Lit.int .i64 f.index).wf = true) (hh : ∀ a ∈ x.hosts, a.ty.params.length ≤ 140737488351232 ∧ a.ty.results.length ≤ 140737488351232) :
    Calls prog 17 #[.pointer (some ⟨V.P, 0, none⟩), .agg (q8x3 A1 A2 f c1 c2)] w (GrTo R V (.int .i64 (kBs x f).2) (kBs x f).1 w) := by
 have F0 := hid ((Fr.refl No w).alloc (.cells (q8x3 A1 A2 f c1 c2) 47))
 have G0 := hid (Blk.new w 47 (q8x3 A1 A2 f c1 c2))
 have H := hid h
 have HR := hid (fun (X : World) (f0 : Fr No w X) => kBn f.ty A1 A2 c1 c2 w.heap.size X f0.size (h1.fr f0 (fun k hk => ⟨hk, fun x => x⟩)) (h2.fr f0 (fun k hk => ⟨hk, fun x => x⟩)) om om)
 have HC := hid (fun (X : World) (f0 : Fr No w X) => kCz f.ty A1 A2 c1 c2 (· < w.heap.size) X (fun k hk => ltl hk f0.size) (h1.fr f0 (fun k hk => ⟨hk, fun x => x⟩)) (h2.fr f0 (fun k hk => ⟨hk, fun x => x⟩)) b1 b2)
 have HE1 := hid h1
 have HE2 := hid h2
 clear h h1 h2
 cases hf : fnB f.ty with
 | false =>
  rw [kCS (by rw [kBC, hf]; rfl)]
  rw [hf] at HR
  exact yy40
 | true =>
  rw [hf] at HR
  by_cases hx : f.index < 0
  · rw [kCS (by rw [kBC, decide_eq_false (p := 0 ≤ f.index) (by omega)]; simp)]
    have d1 : decide (f.index < 0) = true := by simp [hx]
    exact yy40
  · have d1 : decide (f.index < 0) = false := by simp; omega
    by_cases hi : f.inst < -1
    · rw [kCS (by rw [kBC, decide_eq_false (p := -1 ≤ f.inst) (by omega)]; simp)]
      have d2 : decide (f.inst < -1) = true := by simp [hi]
      exact yy40
    have d2 : decide (f.inst < -1) = false := by simp; omega
    by_cases hm : f.inst = -1
    · have d3 : (f.inst == -1) = true := by simp [hm]
      obtain ⟨AH, cH, hvH, _, helH⟩ := H.o.sl_ho
      have HH : Hid (∀ X, Fr No w X → Ce X V.P 0 (.slice AH x.hosts.length cH)) := fun X f0 => by
       exact ((H.o.frNo f0).blk.cell 0).trans (by rw [← hvH]; rfl)
      have i0 : (0 : Int) ≤ f.index := om
      by_cases hlt : f.index < x.hosts.length
      · have i1 : decide ((x.hosts.length : Int) ≤ f.index) = false := by simp; omega
        have i2 : f.index < (x.hosts.length : Int) := hlt
        have hk : f.index.toNat < x.hosts.length := om
        obtain ⟨b, o, T1, t1, T2, t2, Q, qc, rfl, hb, -, -, y2, y3, -, -, -, -, -, e1, -, -, e2, -⟩ := kBa helH f.index.toNat hk
        have hhk := hh x.hosts[f.index.toNat] (List.getElem_mem hk)
        have hg : getI x.hosts f.index = some x.hosts[f.index.toNat] := by
         have := getI_yes hk
         rwa [Int.toNat_of_nonneg i0] at this
        have HY : Hid (∀ X, Fr No w X → Ce X b (o + f.index.toNat * 5 + 2) (.slice T1 (x.hosts[f.index.toNat]).ty.params.length t1) ∧ Ce X b (o + f.index.toNat * 5 + 3) (.slice T2 (x.hosts[f.index.toNat]).ty.results.length t2)) := fun X f0 => ⟨(f0.cell (p := ⟨b, o + f.index.toNat * 5 + 2, none⟩) hb id).trans y2, (f0.cell (p := ⟨b, o + f.index.toNat * 5 + 3, none⟩) hb id).trans y3⟩
        generalize x.hosts[f.index.toNat] = y at *
        have HSM := hid (fun (X : World) (f0 : Fr No w X) => kKf y.ty f.ty T1 T2 A1 A2 t1 t2 c1 c2 (· < w.heap.size) (· < w.heap.size) X (fun k hk => ltl hk f0.size) (fun k hk => ltl hk f0.size) (e1.fr f0 (fun k hk => ⟨hk, fun x => x⟩)) (e2.fr f0 (fun k hk => ⟨hk, fun x => x⟩)) (HE1.o.fr f0 (fun k hk => ⟨hk, fun x => x⟩)) (HE2.o.fr f0 (fun k hk => ⟨hk, fun x => x⟩)) hhk.1 hhk.2 om om)
        clear e1 e2 y2 y3 helH hvH
        cases hq : fnEq y.ty f.ty with
        | false =>
         rw [kCS (by rw [kBC, decide_eq_true hm, hg]; simp [hq])]
         rw [hq] at HSM
         clear hg hq hm
         go_enter func17, ntmps17
         go_wp2_with fail
         refine (HR.o _ F0.o).mono ?_
         rintro e w1 ⟨rfl, f1⟩
         have F1 := ftr F0 f1
         have G1 := hid (G0.o.fr f1 id)
         clear f1 HR
         have z0 := G1.o.cell 0
         have z1 := G1.o.cell 1
         have z2 := G1.o.cell 2
         have z3 := G1.o.cell 3
         have HX : Hid (∀ X, Fr No w1 X → Ce X w.heap.size 0 (.slice A1 f.ty.params.length c1) ∧ Ce X w.heap.size 1 (.slice A2 f.ty.results.length c2) ∧ Ce X w.heap.size 2 (.int .i64 f.inst) ∧ Ce X w.heap.size 3 (.int .i64 f.index) ∧ Ce X V.P 0 (.slice (some ⟨b, o, none⟩) x.hosts.length cH) ∧ Ce X b (o + f.index.toNat * 5 + 2) (.slice T1 y.ty.params.length t1) ∧ Ce X b (o + f.index.toNat * 5 + 3) (.slice T2 y.ty.results.length t2)) := fun X f0 => ⟨(G1.o.fr f0 id).cell 0, (G1.o.fr f0 id).cell 1, (G1.o.fr f0 id).cell 2, (G1.o.fr f0 id).cell 3, HH.o X (F1.o.trans f0 i3), HY.o X (F1.o.trans f0 i3)⟩
         go_wp2_with fail
         clear z0 z1 z2 z3
         refine rwO (fun X => Ce X w.heap.size 0 (.slice A1 f.ty.params.length c1) ∧ Ce X w.heap.size 1 (.slice A2 f.ty.results.length c2) ∧ Ce X w.heap.size 2 (.int .i64 f.inst) ∧ Ce X w.heap.size 3 (.int .i64 f.index) ∧ Ce X V.P 0 (.slice (some ⟨b, o, none⟩) x.hosts.length cH) ∧ Ce X b (o + f.index.toNat * 5 + 2) (.slice T1 y.ty.params.length t1) ∧ Ce X b (o + f.index.toNat * 5 + 3) (.slice T2 y.ty.results.length t2)) [] (List.range 28) [24] (HX.o _ (Fr.refl No _).drew) ?_
         refine rC ?_
         refine wpO_eff rfl rfl fun K hK => sz ?_
         refine (HSM.o _ F1.o.drew).mono ?_
         rintro e w2 ⟨rfl, f3⟩
         have F2 := hid (F1.o.drew.trans f3 i3)
         have G2 := hid (G1.o.drew.fr f3 id)
         refine hK _ _ (fun _ => HX.o _ ((Fr.refl No w1).drew.trans f3 i3)) ?_
         clear hK K f3
         refine rC ?_
         refine wpO_nil ?_
         clear F1 G1
         go_wp2
         go_ret
         exact GrTo.no H.o F2.o
        | true =>
         rw [kDN (by rw [kBC, hf, decide_eq_true (p := 0 ≤ f.index) (by omega), decide_eq_true (p := -1 ≤ f.inst) (by omega), decide_eq_true hm, hg]; simp [hq])]
         rw [hq] at HSM
         clear hg hq hm
         go_enter func17, ntmps17
         go_wp2_with fail
         refine (HR.o _ F0.o).mono ?_
         rintro e w1 ⟨rfl, f1⟩
         have F1 := ftr F0 f1
         have G1 := hid (G0.o.fr f1 id)
         clear f1 HR
         have z0 := G1.o.cell 0
         have z1 := G1.o.cell 1
         have z2 := G1.o.cell 2
         have z3 := G1.o.cell 3
         have HX : Hid (∀ X, Fr No w1 X → Ce X w.heap.size 0 (.slice A1 f.ty.params.length c1) ∧ Ce X w.heap.size 1 (.slice A2 f.ty.results.length c2) ∧ Ce X w.heap.size 2 (.int .i64 f.inst) ∧ Ce X w.heap.size 3 (.int .i64 f.index) ∧ Ce X V.P 0 (.slice (some ⟨b, o, none⟩) x.hosts.length cH) ∧ Ce X b (o + f.index.toNat * 5 + 2) (.slice T1 y.ty.params.length t1) ∧ Ce X b (o + f.index.toNat * 5 + 3) (.slice T2 y.ty.results.length t2)) := fun X f0 => ⟨(G1.o.fr f0 id).cell 0, (G1.o.fr f0 id).cell 1, (G1.o.fr f0 id).cell 2, (G1.o.fr f0 id).cell 3, HH.o X (F1.o.trans f0 i3), HY.o X (F1.o.trans f0 i3)⟩
         go_wp2_with fail
         clear z0 z1 z2 z3
         refine rwO (fun X => Ce X w.heap.size 0 (.slice A1 f.ty.params.length c1) ∧ Ce X w.heap.size 1 (.slice A2 f.ty.results.length c2) ∧ Ce X w.heap.size 2 (.int .i64 f.inst) ∧ Ce X w.heap.size 3 (.int .i64 f.index) ∧ Ce X V.P 0 (.slice (some ⟨b, o, none⟩) x.hosts.length cH) ∧ Ce X b (o + f.index.toNat * 5 + 2) (.slice T1 y.ty.params.length t1) ∧ Ce X b (o + f.index.toNat * 5 + 3) (.slice T2 y.ty.results.length t2)) [] (List.range 28) [24] (HX.o _ (Fr.refl No _).drew) ?_
         refine rC ?_
         refine wpO_eff rfl rfl fun K hK => sz ?_
         refine (HSM.o _ F1.o.drew).mono ?_
         rintro e w2 ⟨rfl, f3⟩
         have F2 := hid (F1.o.drew.trans f3 i3)
         have G2 := hid (G1.o.drew.fr f3 id)
         refine hK _ _ (fun _ => HX.o _ ((Fr.refl No w1).drew.trans f3 i3)) ?_
         clear hK K f3
         refine rC ?_
         refine wpO_nil ?_
         clear F1 G1
         exact yy1
      have i1 : decide ((x.hosts.length : Int) ≤ f.index) = true := by simp; omega
      have hg : getI x.hosts f.index = none := getI_no (.inr om)
      rw [kCS (by rw [kBC, decide_eq_true hm, hg]; simp)]
      clear helH hvH hg hm
      go_enter func17, ntmps17
      go_wp2_with fail
      refine (HR.o _ F0.o).mono ?_
      rintro e w1 ⟨rfl, f1⟩
      have F1 := ftr F0 f1
      have G1 := hid (G0.o.fr f1 id)
      clear f1 HR
      have z0 := G1.o.cell 0
      have z1 := G1.o.cell 1
      have z2 := G1.o.cell 2
      have z3 := G1.o.cell 3
      have HX : Hid (∀ X, Fr No w1 X → Ce X w.heap.size 0 (.slice A1 f.ty.params.length c1) ∧ Ce X w.heap.size 1 (.slice A2 f.ty.results.length c2) ∧ Ce X w.heap.size 2 (.int .i64 f.inst) ∧ Ce X w.heap.size 3 (.int .i64 f.index) ∧ Ce X V.P 0 (.slice AH x.hosts.length cH)) := fun X f0 => ⟨(G1.o.fr f0 id).cell 0, (G1.o.fr f0 id).cell 1, (G1.o.fr f0 id).cell 2, (G1.o.fr f0 id).cell 3, HH.o X (F1.o.trans f0 i3)⟩
      go_wp2_with fail
      clear z0 z1 z2 z3
      refine rwO (fun X => Ce X w.heap.size 0 (.slice A1 f.ty.params.length c1) ∧ Ce X w.heap.size 1 (.slice A2 f.ty.results.length c2) ∧ Ce X w.heap.size 2 (.int .i64 f.inst) ∧ Ce X w.heap.size 3 (.int .i64 f.index) ∧ Ce X V.P 0 (.slice AH x.hosts.length cH)) [] (List.range 28) [24] (HX.o _ (Fr.refl No _).drew) ?_
      refine rC ?_
      refine wpO_skipE rfl rfl (HX.o _ (Fr.refl No _).drew) ?_
      simp only [zA, zC, Act.put]
      refine rC ?_
      refine wpO_nil ?_
      have F2 := hid F1.o.drew
      clear F1 G1
      generalize w1.drew = w2 at *
      go_wp2
      go_ret
      exact GrTo.no H.o F2.o
    rw [kDN (by rw [kBC, hf, decide_eq_true (p := 0 ≤ f.index) (by omega), decide_eq_true (p := -1 ≤ f.inst) (by omega), decide_eq_false hm]; rfl)]
    have d3 : (f.inst == -1) = false := by simp [hm]
    go_enter func17, ntmps17
    go_wp2_with fail
    refine (HR.o _ F0.o).mono ?_
    rintro e w1 ⟨rfl, f1⟩
    have F1 := ftr F0 f1
    have G1 := hid (G0.o.fr f1 id)
    clear f1 HR
    have z0 := G1.o.cell 0
    have z1 := G1.o.cell 1
    have z2 := G1.o.cell 2
    have z3 := G1.o.cell 3
    have HX : Hid (∀ X, Blk X w.heap.size 47 (q8x3 A1 A2 f c1 c2) → Ce X w.heap.size 0 (.slice A1 f.ty.params.length c1) ∧ Ce X w.heap.size 1 (.slice A2 f.ty.results.length c2) ∧ Ce X w.heap.size 2 (.int .i64 f.inst) ∧ Ce X w.heap.size 3 (.int .i64 f.index)) := fun X b => ⟨b.cell 0, b.cell 1, b.cell 2, b.cell 3⟩
    go_wp2_with fail
    clear z0 z1 z2 z3
    refine rwO (fun X => Ce X w.heap.size 0 (.slice A1 f.ty.params.length c1) ∧ Ce X w.heap.size 1 (.slice A2 f.ty.results.length c2) ∧ Ce X w.heap.size 2 (.int .i64 f.inst) ∧ Ce X w.heap.size 3 (.int .i64 f.index)) [] (List.range 28) [24] (HX.o _ G1.o.drew) ?_
    refine rC ?_
    refine wpO_skipE rfl rfl (HX.o _ G1.o.drew) ?_
    simp only [zA, zC, Act.put]
    refine rC ?_
    refine wpO_nil ?_
    have F2 := hid F1.o.drew
    have G2 := hid G1.o.drew
    clear F1 G1
    generalize w1.drew = w2 at *
    exact yy1
end
theorem kAA {α : Type} {t : Ty α} [TyOk t] [TyMore t] {w w' : World} {S S' : Nat → Prop} {A : OA} {xs : List α} (h : t.els w S A xs) (f : Fr No w w') (hS : Lt S w) (hB : ∀ k, S k → S' k) : t.els w' S' A xs :=
 (h.fr f (fun k hk => ⟨hS k hk, fun x => x⟩)).more hB
theorem kAH {α : Type} {t : Ty α} [ho : TyOk t] [hm : TyMore t] {w w' : World} {S S' : Nat → Prop} {cs : LV} {x : α} (h : t.rd w S cs x) (f : Fr No w w') (hS : Lt S w) (hB : ∀ k, S k → S' k) : t.rd w' S' cs x :=
 hm.more _ _ _ _ _ (ho.keep _ _ _ _ _ h (fun p hp => f.cell (hS _ hp) id)) hB
theorem kAv {P : Program} {fn : Func} {p : Tmp} {ty : TypeId} (h : fn.results = #[.cell p ty]) (tmps : Array Value) (w : World) (g : Nat) (ds : LV) (d : TypeDesc)
    (hp : tmps.getD p undef = .pointer (some ⟨g, 0, none⟩)) (hr : w.rangeAt g 0 ds) (hu : P.underlying ty = some d) (hd : d.isRow = true) (hi : (P.info? ty).map (·.size) = some ds.length) :
    (results fn tmps).run P w = .ok (.agg ds.toArray) w := by
 have hp' : tmps[p]?.getD undef = .pointer (some ⟨g, 0, none⟩) := by simpa using hp
 exact kJL
def RfTo (S : Nat → Prop) (x' : Rx) (v : Value) (w : World) (e : Ending) (w' : World) : Prop :=
 ∃ cs, e = .returned (.tuple #[.agg cs.toArray, v]) ∧ tRx.rd w' (fun k => S k ∨ Nw w w' k) cs x' ∧ Fr No w w'
def kCA (S : Nat → Prop) (x' : Rx) (w : World) (e : Ending) (w' : World) : Prop :=
 ∃ cs, e = .returned (.agg cs.toArray) ∧ tRx.rd w' (fun k => S k ∨ Nw w w' k) cs x' ∧ Fr No w w'
section
variable {w : World} {S : Nat → Prop} {x : Rx} {A0 A1 A2 A3 A4 A5 A6 A7 A8 A9 : OA} {c0 c1 c2 c3 c4 c5 c6 c7 c8 c9 : Nat}
abbrev q8x1 (a0 a1 a2 a3 a4 a5 a6 a7 a8 a9 : Option Addr) (a10 : Rx) (a11 a12 a13 a14 a15 a16 a17 a18 a19 a20 : Nat) : List Value := [.slice a0 a10.hosts.length a11, .slice a1 a10.counts.length a12, .slice a2 a10.calls.length a13, .slice a3 a10.funcs.length a14, .slice a4 a10.tabs.length a15, .slice a5 a10.mems.length a16, .slice a6 a10.globs.length a17, .slice a7 a10.elems.length a18, .slice a8 a10.datas.length a19, .slice a9 a10.insts.length a20]
theorem kAI (h : tRx.rd w S (q8x1 A0 A1 A2 A3 A4 A5 A6 A7 A8 A9 x c0 c1 c2 c3 c4 c5 c6 c7 c8 c9) x) : x.hosts.length ≤ c0 ∧ c0 ≤ maxLen ∧ tHo.els w S A0 x.hosts := by
 obtain ⟨B0, d0, B1, d1, B2, d2, B3, d3, B4, d4, B5, d5, B6, d6, B7, d7, B8, d8, B9, d9, e, h0, k0, e0, h1, k1, e1, h2, k2, e2, h3, k3, e3, h4, k4, e4, h5, k5, e5, h6, k6, e6, h7, k7, e7, h8, k8, e8, h9, k9, e9⟩ := kAU h
 simp only [List.cons.injEq, Value.slice.injEq, true_and, and_true] at e
 obtain ⟨⟨rfl, rfl⟩, ⟨rfl, rfl⟩, ⟨rfl, rfl⟩, ⟨rfl, rfl⟩, ⟨rfl, rfl⟩, ⟨rfl, rfl⟩, ⟨rfl, rfl⟩, ⟨rfl, rfl⟩, ⟨rfl, rfl⟩, ⟨rfl, rfl⟩⟩ := e
 exact ⟨h0, k0, e0⟩
theorem kAJ (h : tRx.rd w S (q8x1 A0 A1 A2 A3 A4 A5 A6 A7 A8 A9 x c0 c1 c2 c3 c4 c5 c6 c7 c8 c9) x) : x.counts.length ≤ c1 ∧ c1 ≤ maxLen ∧ tI.els w S A1 x.counts := by
 obtain ⟨B0, d0, B1, d1, B2, d2, B3, d3, B4, d4, B5, d5, B6, d6, B7, d7, B8, d8, B9, d9, e, h0, k0, e0, h1, k1, e1, h2, k2, e2, h3, k3, e3, h4, k4, e4, h5, k5, e5, h6, k6, e6, h7, k7, e7, h8, k8, e8, h9, k9, e9⟩ := kAU h
 simp only [List.cons.injEq, Value.slice.injEq, true_and, and_true] at e
 obtain ⟨⟨rfl, rfl⟩, ⟨rfl, rfl⟩, ⟨rfl, rfl⟩, ⟨rfl, rfl⟩, ⟨rfl, rfl⟩, ⟨rfl, rfl⟩, ⟨rfl, rfl⟩, ⟨rfl, rfl⟩, ⟨rfl, rfl⟩, ⟨rfl, rfl⟩⟩ := e
 exact ⟨h1, k1, e1⟩
theorem kAQ (h : tRx.rd w S (q8x1 A0 A1 A2 A3 A4 A5 A6 A7 A8 A9 x c0 c1 c2 c3 c4 c5 c6 c7 c8 c9) x) : x.calls.length ≤ c2 ∧ c2 ≤ maxLen ∧ tCa.els w S A2 x.calls := by
 obtain ⟨B0, d0, B1, d1, B2, d2, B3, d3, B4, d4, B5, d5, B6, d6, B7, d7, B8, d8, B9, d9, e, h0, k0, e0, h1, k1, e1, h2, k2, e2, h3, k3, e3, h4, k4, e4, h5, k5, e5, h6, k6, e6, h7, k7, e7, h8, k8, e8, h9, k9, e9⟩ := kAU h
 simp only [List.cons.injEq, Value.slice.injEq, true_and, and_true] at e
 obtain ⟨⟨rfl, rfl⟩, ⟨rfl, rfl⟩, ⟨rfl, rfl⟩, ⟨rfl, rfl⟩, ⟨rfl, rfl⟩, ⟨rfl, rfl⟩, ⟨rfl, rfl⟩, ⟨rfl, rfl⟩, ⟨rfl, rfl⟩, ⟨rfl, rfl⟩⟩ := e
 exact ⟨h2, k2, e2⟩
theorem kAN (h : tRx.rd w S (q8x1 A0 A1 A2 A3 A4 A5 A6 A7 A8 A9 x c0 c1 c2 c3 c4 c5 c6 c7 c8 c9) x) : x.funcs.length ≤ c3 ∧ c3 ≤ maxLen ∧ tFi.els w S A3 x.funcs := by
 obtain ⟨B0, d0, B1, d1, B2, d2, B3, d3, B4, d4, B5, d5, B6, d6, B7, d7, B8, d8, B9, d9, e, h0, k0, e0, h1, k1, e1, h2, k2, e2, h3, k3, e3, h4, k4, e4, h5, k5, e5, h6, k6, e6, h7, k7, e7, h8, k8, e8, h9, k9, e9⟩ := kAU h
 simp only [List.cons.injEq, Value.slice.injEq, true_and, and_true] at e
 obtain ⟨⟨rfl, rfl⟩, ⟨rfl, rfl⟩, ⟨rfl, rfl⟩, ⟨rfl, rfl⟩, ⟨rfl, rfl⟩, ⟨rfl, rfl⟩, ⟨rfl, rfl⟩, ⟨rfl, rfl⟩, ⟨rfl, rfl⟩, ⟨rfl, rfl⟩⟩ := e
 exact ⟨h3, k3, e3⟩
theorem kAR (h : tRx.rd w S (q8x1 A0 A1 A2 A3 A4 A5 A6 A7 A8 A9 x c0 c1 c2 c3 c4 c5 c6 c7 c8 c9) x) : x.tabs.length ≤ c4 ∧ c4 ≤ maxLen ∧ tRt.els w S A4 x.tabs := by
 obtain ⟨B0, d0, B1, d1, B2, d2, B3, d3, B4, d4, B5, d5, B6, d6, B7, d7, B8, d8, B9, d9, e, h0, k0, e0, h1, k1, e1, h2, k2, e2, h3, k3, e3, h4, k4, e4, h5, k5, e5, h6, k6, e6, h7, k7, e7, h8, k8, e8, h9, k9, e9⟩ := kAU h
 simp only [List.cons.injEq, Value.slice.injEq, true_and, and_true] at e
 obtain ⟨⟨rfl, rfl⟩, ⟨rfl, rfl⟩, ⟨rfl, rfl⟩, ⟨rfl, rfl⟩, ⟨rfl, rfl⟩, ⟨rfl, rfl⟩, ⟨rfl, rfl⟩, ⟨rfl, rfl⟩, ⟨rfl, rfl⟩, ⟨rfl, rfl⟩⟩ := e
 exact ⟨h4, k4, e4⟩
theorem kAS (h : tRx.rd w S (q8x1 A0 A1 A2 A3 A4 A5 A6 A7 A8 A9 x c0 c1 c2 c3 c4 c5 c6 c7 c8 c9) x) : x.mems.length ≤ c5 ∧ c5 ≤ maxLen ∧ tRm.els w S A5 x.mems := by
 obtain ⟨B0, d0, B1, d1, B2, d2, B3, d3, B4, d4, B5, d5, B6, d6, B7, d7, B8, d8, B9, d9, e, h0, k0, e0, h1, k1, e1, h2, k2, e2, h3, k3, e3, h4, k4, e4, h5, k5, e5, h6, k6, e6, h7, k7, e7, h8, k8, e8, h9, k9, e9⟩ := kAU h
 simp only [List.cons.injEq, Value.slice.injEq, true_and, and_true] at e
 obtain ⟨⟨rfl, rfl⟩, ⟨rfl, rfl⟩, ⟨rfl, rfl⟩, ⟨rfl, rfl⟩, ⟨rfl, rfl⟩, ⟨rfl, rfl⟩, ⟨rfl, rfl⟩, ⟨rfl, rfl⟩, ⟨rfl, rfl⟩, ⟨rfl, rfl⟩⟩ := e
 exact ⟨h5, k5, e5⟩
theorem kAM (h : tRx.rd w S (q8x1 A0 A1 A2 A3 A4 A5 A6 A7 A8 A9 x c0 c1 c2 c3 c4 c5 c6 c7 c8 c9) x) : x.globs.length ≤ c6 ∧ c6 ≤ maxLen ∧ tRg.els w S A6 x.globs := by
 obtain ⟨B0, d0, B1, d1, B2, d2, B3, d3, B4, d4, B5, d5, B6, d6, B7, d7, B8, d8, B9, d9, e, h0, k0, e0, h1, k1, e1, h2, k2, e2, h3, k3, e3, h4, k4, e4, h5, k5, e5, h6, k6, e6, h7, k7, e7, h8, k8, e8, h9, k9, e9⟩ := kAU h
 simp only [List.cons.injEq, Value.slice.injEq, true_and, and_true] at e
 obtain ⟨⟨rfl, rfl⟩, ⟨rfl, rfl⟩, ⟨rfl, rfl⟩, ⟨rfl, rfl⟩, ⟨rfl, rfl⟩, ⟨rfl, rfl⟩, ⟨rfl, rfl⟩, ⟨rfl, rfl⟩, ⟨rfl, rfl⟩, ⟨rfl, rfl⟩⟩ := e
 exact ⟨h6, k6, e6⟩
theorem kAO (h : tRx.rd w S (q8x1 A0 A1 A2 A3 A4 A5 A6 A7 A8 A9 x c0 c1 c2 c3 c4 c5 c6 c7 c8 c9) x) : x.elems.length ≤ c7 ∧ c7 ≤ maxLen ∧ tRs.els w S A7 x.elems := by
 obtain ⟨B0, d0, B1, d1, B2, d2, B3, d3, B4, d4, B5, d5, B6, d6, B7, d7, B8, d8, B9, d9, e, h0, k0, e0, h1, k1, e1, h2, k2, e2, h3, k3, e3, h4, k4, e4, h5, k5, e5, h6, k6, e6, h7, k7, e7, h8, k8, e8, h9, k9, e9⟩ := kAU h
 simp only [List.cons.injEq, Value.slice.injEq, true_and, and_true] at e
 obtain ⟨⟨rfl, rfl⟩, ⟨rfl, rfl⟩, ⟨rfl, rfl⟩, ⟨rfl, rfl⟩, ⟨rfl, rfl⟩, ⟨rfl, rfl⟩, ⟨rfl, rfl⟩, ⟨rfl, rfl⟩, ⟨rfl, rfl⟩, ⟨rfl, rfl⟩⟩ := e
 exact ⟨h7, k7, e7⟩
theorem kAP (h : tRx.rd w S (q8x1 A0 A1 A2 A3 A4 A5 A6 A7 A8 A9 x c0 c1 c2 c3 c4 c5 c6 c7 c8 c9) x) : x.datas.length ≤ c8 ∧ c8 ≤ maxLen ∧ tRb.els w S A8 x.datas := by
 obtain ⟨B0, d0, B1, d1, B2, d2, B3, d3, B4, d4, B5, d5, B6, d6, B7, d7, B8, d8, B9, d9, e, h0, k0, e0, h1, k1, e1, h2, k2, e2, h3, k3, e3, h4, k4, e4, h5, k5, e5, h6, k6, e6, h7, k7, e7, h8, k8, e8, h9, k9, e9⟩ := kAU h
 simp only [List.cons.injEq, Value.slice.injEq, true_and, and_true] at e
 obtain ⟨⟨rfl, rfl⟩, ⟨rfl, rfl⟩, ⟨rfl, rfl⟩, ⟨rfl, rfl⟩, ⟨rfl, rfl⟩, ⟨rfl, rfl⟩, ⟨rfl, rfl⟩, ⟨rfl, rfl⟩, ⟨rfl, rfl⟩, ⟨rfl, rfl⟩⟩ := e
 exact ⟨h8, k8, e8⟩
theorem kAL (h : tRx.rd w S (q8x1 A0 A1 A2 A3 A4 A5 A6 A7 A8 A9 x c0 c1 c2 c3 c4 c5 c6 c7 c8 c9) x) : x.insts.length ≤ c9 ∧ c9 ≤ maxLen ∧ tRi.els w S A9 x.insts := by
 obtain ⟨B0, d0, B1, d1, B2, d2, B3, d3, B4, d4, B5, d5, B6, d6, B7, d7, B8, d8, B9, d9, e, h0, k0, e0, h1, k1, e1, h2, k2, e2, h3, k3, e3, h4, k4, e4, h5, k5, e5, h6, k6, e6, h7, k7, e7, h8, k8, e8, h9, k9, e9⟩ := kAU h
 simp only [List.cons.injEq, Value.slice.injEq, true_and, and_true] at e
 obtain ⟨⟨rfl, rfl⟩, ⟨rfl, rfl⟩, ⟨rfl, rfl⟩, ⟨rfl, rfl⟩, ⟨rfl, rfl⟩, ⟨rfl, rfl⟩, ⟨rfl, rfl⟩, ⟨rfl, rfl⟩, ⟨rfl, rfl⟩, ⟨rfl, rfl⟩⟩ := e
 exact ⟨h9, k9, e9⟩
theorem kGk {w' : World} {S' : Nat → Prop} {A : OA} {c : Nat} {ys : List Int} (h : tRx.rd w S (q8x1 A0 A1 A2 A3 A4 A5 A6 A7 A8 A9 x c0 c1 c2 c3 c4 c5 c6 c7 c8 c9) x) (f : Fr No w w') (hS : Lt S w) (hB : ∀ k, S k → S' k) (h1 : ys.length ≤ c) (h2 : c ≤ maxLen) (h3 : tI.els w' S' A ys) :
    tRx.rd w' S' [.slice A0 x.hosts.length c0, .slice A ys.length c, .slice A2 x.calls.length c2, .slice A3 x.funcs.length c3, .slice A4 x.tabs.length c4, .slice A5 x.mems.length c5, .slice A6 x.globs.length c6, .slice A7 x.elems.length c7, .slice A8 x.datas.length c8, .slice A9 x.insts.length c9] { x with counts := ys } :=
 kCZ (a := { x with counts := ys }) (kAI h).1 (kAI h).2.1 (kAA (kAI h).2.2 f hS hB) h1 h2 h3 (kAQ h).1 (kAQ h).2.1 (kAA (kAQ h).2.2 f hS hB) (kAN h).1 (kAN h).2.1 (kAA (kAN h).2.2 f hS hB) (kAR h).1 (kAR h).2.1 (kAA (kAR h).2.2 f hS hB) (kAS h).1 (kAS h).2.1 (kAA (kAS h).2.2 f hS hB) (kAM h).1 (kAM h).2.1 (kAA (kAM h).2.2 f hS hB) (kAO h).1 (kAO h).2.1 (kAA (kAO h).2.2 f hS hB) (kAP h).1 (kAP h).2.1 (kAA (kAP h).2.2 f hS hB) (kAL h).1 (kAL h).2.1 (kAA (kAL h).2.2 f hS hB)
theorem kHz {w' : World} {S' : Nat → Prop} {A : OA} {c : Nat} {ys : List Ca} (h : tRx.rd w S (q8x1 A0 A1 A2 A3 A4 A5 A6 A7 A8 A9 x c0 c1 c2 c3 c4 c5 c6 c7 c8 c9) x) (f : Fr No w w') (hS : Lt S w) (hB : ∀ k, S k → S' k) (h1 : ys.length ≤ c) (h2 : c ≤ maxLen) (h3 : tCa.els w' S' A ys) :
    tRx.rd w' S' [.slice A0 x.hosts.length c0, .slice A1 x.counts.length c1, .slice A ys.length c, .slice A3 x.funcs.length c3, .slice A4 x.tabs.length c4, .slice A5 x.mems.length c5, .slice A6 x.globs.length c6, .slice A7 x.elems.length c7, .slice A8 x.datas.length c8, .slice A9 x.insts.length c9] { x with calls := ys } :=
 kCZ (a := { x with calls := ys }) (kAI h).1 (kAI h).2.1 (kAA (kAI h).2.2 f hS hB) (kAJ h).1 (kAJ h).2.1 (kAA (kAJ h).2.2 f hS hB) h1 h2 h3 (kAN h).1 (kAN h).2.1 (kAA (kAN h).2.2 f hS hB) (kAR h).1 (kAR h).2.1 (kAA (kAR h).2.2 f hS hB) (kAS h).1 (kAS h).2.1 (kAA (kAS h).2.2 f hS hB) (kAM h).1 (kAM h).2.1 (kAA (kAM h).2.2 f hS hB) (kAO h).1 (kAO h).2.1 (kAA (kAO h).2.2 f hS hB) (kAP h).1 (kAP h).2.1 (kAA (kAP h).2.2 f hS hB) (kAL h).1 (kAL h).2.1 (kAA (kAL h).2.2 f hS hB)
theorem kHw {w' : World} {S' : Nat → Prop} {A : OA} {c : Nat} {ys : List Fi} (h : tRx.rd w S (q8x1 A0 A1 A2 A3 A4 A5 A6 A7 A8 A9 x c0 c1 c2 c3 c4 c5 c6 c7 c8 c9) x) (f : Fr No w w') (hS : Lt S w) (hB : ∀ k, S k → S' k) (h1 : ys.length ≤ c) (h2 : c ≤ maxLen) (h3 : tFi.els w' S' A ys) :
    tRx.rd w' S' [.slice A0 x.hosts.length c0, .slice A1 x.counts.length c1, .slice A2 x.calls.length c2, .slice A ys.length c, .slice A4 x.tabs.length c4, .slice A5 x.mems.length c5, .slice A6 x.globs.length c6, .slice A7 x.elems.length c7, .slice A8 x.datas.length c8, .slice A9 x.insts.length c9] { x with funcs := ys } :=
 kCZ (a := { x with funcs := ys }) (kAI h).1 (kAI h).2.1 (kAA (kAI h).2.2 f hS hB) (kAJ h).1 (kAJ h).2.1 (kAA (kAJ h).2.2 f hS hB) (kAQ h).1 (kAQ h).2.1 (kAA (kAQ h).2.2 f hS hB) h1 h2 h3 (kAR h).1 (kAR h).2.1 (kAA (kAR h).2.2 f hS hB) (kAS h).1 (kAS h).2.1 (kAA (kAS h).2.2 f hS hB) (kAM h).1 (kAM h).2.1 (kAA (kAM h).2.2 f hS hB) (kAO h).1 (kAO h).2.1 (kAA (kAO h).2.2 f hS hB) (kAP h).1 (kAP h).2.1 (kAA (kAP h).2.2 f hS hB) (kAL h).1 (kAL h).2.1 (kAA (kAL h).2.2 f hS hB)
theorem kIv {w' : World} {S' : Nat → Prop} {A : OA} {c : Nat} {ys : List Rt} (h : tRx.rd w S (q8x1 A0 A1 A2 A3 A4 A5 A6 A7 A8 A9 x c0 c1 c2 c3 c4 c5 c6 c7 c8 c9) x) (f : Fr No w w') (hS : Lt S w) (hB : ∀ k, S k → S' k) (h1 : ys.length ≤ c) (h2 : c ≤ maxLen) (h3 : tRt.els w' S' A ys) :
    tRx.rd w' S' [.slice A0 x.hosts.length c0, .slice A1 x.counts.length c1, .slice A2 x.calls.length c2, .slice A3 x.funcs.length c3, .slice A ys.length c, .slice A5 x.mems.length c5, .slice A6 x.globs.length c6, .slice A7 x.elems.length c7, .slice A8 x.datas.length c8, .slice A9 x.insts.length c9] { x with tabs := ys } :=
 kCZ (a := { x with tabs := ys }) (kAI h).1 (kAI h).2.1 (kAA (kAI h).2.2 f hS hB) (kAJ h).1 (kAJ h).2.1 (kAA (kAJ h).2.2 f hS hB) (kAQ h).1 (kAQ h).2.1 (kAA (kAQ h).2.2 f hS hB) (kAN h).1 (kAN h).2.1 (kAA (kAN h).2.2 f hS hB) h1 h2 h3 (kAS h).1 (kAS h).2.1 (kAA (kAS h).2.2 f hS hB) (kAM h).1 (kAM h).2.1 (kAA (kAM h).2.2 f hS hB) (kAO h).1 (kAO h).2.1 (kAA (kAO h).2.2 f hS hB) (kAP h).1 (kAP h).2.1 (kAA (kAP h).2.2 f hS hB) (kAL h).1 (kAL h).2.1 (kAA (kAL h).2.2 f hS hB)
theorem kIw {w' : World} {S' : Nat → Prop} {A : OA} {c : Nat} {ys : List Rm} (h : tRx.rd w S (q8x1 A0 A1 A2 A3 A4 A5 A6 A7 A8 A9 x c0 c1 c2 c3 c4 c5 c6 c7 c8 c9) x) (f : Fr No w w') (hS : Lt S w) (hB : ∀ k, S k → S' k) (h1 : ys.length ≤ c) (h2 : c ≤ maxLen) (h3 : tRm.els w' S' A ys) :
    tRx.rd w' S' [.slice A0 x.hosts.length c0, .slice A1 x.counts.length c1, .slice A2 x.calls.length c2, .slice A3 x.funcs.length c3, .slice A4 x.tabs.length c4, .slice A ys.length c, .slice A6 x.globs.length c6, .slice A7 x.elems.length c7, .slice A8 x.datas.length c8, .slice A9 x.insts.length c9] { x with mems := ys } :=
 kCZ (a := { x with mems := ys }) (kAI h).1 (kAI h).2.1 (kAA (kAI h).2.2 f hS hB) (kAJ h).1 (kAJ h).2.1 (kAA (kAJ h).2.2 f hS hB) (kAQ h).1 (kAQ h).2.1 (kAA (kAQ h).2.2 f hS hB) (kAN h).1 (kAN h).2.1 (kAA (kAN h).2.2 f hS hB) (kAR h).1 (kAR h).2.1 (kAA (kAR h).2.2 f hS hB) h1 h2 h3 (kAM h).1 (kAM h).2.1 (kAA (kAM h).2.2 f hS hB) (kAO h).1 (kAO h).2.1 (kAA (kAO h).2.2 f hS hB) (kAP h).1 (kAP h).2.1 (kAA (kAP h).2.2 f hS hB) (kAL h).1 (kAL h).2.1 (kAA (kAL h).2.2 f hS hB)
theorem kHv {w' : World} {S' : Nat → Prop} {A : OA} {c : Nat} {ys : List Rg} (h : tRx.rd w S (q8x1 A0 A1 A2 A3 A4 A5 A6 A7 A8 A9 x c0 c1 c2 c3 c4 c5 c6 c7 c8 c9) x) (f : Fr No w w') (hS : Lt S w) (hB : ∀ k, S k → S' k) (h1 : ys.length ≤ c) (h2 : c ≤ maxLen) (h3 : tRg.els w' S' A ys) :
    tRx.rd w' S' [.slice A0 x.hosts.length c0, .slice A1 x.counts.length c1, .slice A2 x.calls.length c2, .slice A3 x.funcs.length c3, .slice A4 x.tabs.length c4, .slice A5 x.mems.length c5, .slice A ys.length c, .slice A7 x.elems.length c7, .slice A8 x.datas.length c8, .slice A9 x.insts.length c9] { x with globs := ys } :=
 kCZ (a := { x with globs := ys }) (kAI h).1 (kAI h).2.1 (kAA (kAI h).2.2 f hS hB) (kAJ h).1 (kAJ h).2.1 (kAA (kAJ h).2.2 f hS hB) (kAQ h).1 (kAQ h).2.1 (kAA (kAQ h).2.2 f hS hB) (kAN h).1 (kAN h).2.1 (kAA (kAN h).2.2 f hS hB) (kAR h).1 (kAR h).2.1 (kAA (kAR h).2.2 f hS hB) (kAS h).1 (kAS h).2.1 (kAA (kAS h).2.2 f hS hB) h1 h2 h3 (kAO h).1 (kAO h).2.1 (kAA (kAO h).2.2 f hS hB) (kAP h).1 (kAP h).2.1 (kAA (kAP h).2.2 f hS hB) (kAL h).1 (kAL h).2.1 (kAA (kAL h).2.2 f hS hB)
theorem kHx {w' : World} {S' : Nat → Prop} {A : OA} {c : Nat} {ys : List Rs} (h : tRx.rd w S (q8x1 A0 A1 A2 A3 A4 A5 A6 A7 A8 A9 x c0 c1 c2 c3 c4 c5 c6 c7 c8 c9) x) (f : Fr No w w') (hS : Lt S w) (hB : ∀ k, S k → S' k) (h1 : ys.length ≤ c) (h2 : c ≤ maxLen) (h3 : tRs.els w' S' A ys) :
    tRx.rd w' S' [.slice A0 x.hosts.length c0, .slice A1 x.counts.length c1, .slice A2 x.calls.length c2, .slice A3 x.funcs.length c3, .slice A4 x.tabs.length c4, .slice A5 x.mems.length c5, .slice A6 x.globs.length c6, .slice A ys.length c, .slice A8 x.datas.length c8, .slice A9 x.insts.length c9] { x with elems := ys } :=
 kCZ (a := { x with elems := ys }) (kAI h).1 (kAI h).2.1 (kAA (kAI h).2.2 f hS hB) (kAJ h).1 (kAJ h).2.1 (kAA (kAJ h).2.2 f hS hB) (kAQ h).1 (kAQ h).2.1 (kAA (kAQ h).2.2 f hS hB) (kAN h).1 (kAN h).2.1 (kAA (kAN h).2.2 f hS hB) (kAR h).1 (kAR h).2.1 (kAA (kAR h).2.2 f hS hB) (kAS h).1 (kAS h).2.1 (kAA (kAS h).2.2 f hS hB) (kAM h).1 (kAM h).2.1 (kAA (kAM h).2.2 f hS hB) h1 h2 h3 (kAP h).1 (kAP h).2.1 (kAA (kAP h).2.2 f hS hB) (kAL h).1 (kAL h).2.1 (kAA (kAL h).2.2 f hS hB)
theorem kHy {w' : World} {S' : Nat → Prop} {A : OA} {c : Nat} {ys : List Rb} (h : tRx.rd w S (q8x1 A0 A1 A2 A3 A4 A5 A6 A7 A8 A9 x c0 c1 c2 c3 c4 c5 c6 c7 c8 c9) x) (f : Fr No w w') (hS : Lt S w) (hB : ∀ k, S k → S' k) (h1 : ys.length ≤ c) (h2 : c ≤ maxLen) (h3 : tRb.els w' S' A ys) :
    tRx.rd w' S' [.slice A0 x.hosts.length c0, .slice A1 x.counts.length c1, .slice A2 x.calls.length c2, .slice A3 x.funcs.length c3, .slice A4 x.tabs.length c4, .slice A5 x.mems.length c5, .slice A6 x.globs.length c6, .slice A7 x.elems.length c7, .slice A ys.length c, .slice A9 x.insts.length c9] { x with datas := ys } :=
 kCZ (a := { x with datas := ys }) (kAI h).1 (kAI h).2.1 (kAA (kAI h).2.2 f hS hB) (kAJ h).1 (kAJ h).2.1 (kAA (kAJ h).2.2 f hS hB) (kAQ h).1 (kAQ h).2.1 (kAA (kAQ h).2.2 f hS hB) (kAN h).1 (kAN h).2.1 (kAA (kAN h).2.2 f hS hB) (kAR h).1 (kAR h).2.1 (kAA (kAR h).2.2 f hS hB) (kAS h).1 (kAS h).2.1 (kAA (kAS h).2.2 f hS hB) (kAM h).1 (kAM h).2.1 (kAA (kAM h).2.2 f hS hB) (kAO h).1 (kAO h).2.1 (kAA (kAO h).2.2 f hS hB) h1 h2 h3 (kAL h).1 (kAL h).2.1 (kAA (kAL h).2.2 f hS hB)
theorem kHu {w' : World} {S' : Nat → Prop} {A : OA} {c : Nat} {ys : List Ri} (h : tRx.rd w S (q8x1 A0 A1 A2 A3 A4 A5 A6 A7 A8 A9 x c0 c1 c2 c3 c4 c5 c6 c7 c8 c9) x) (f : Fr No w w') (hS : Lt S w) (hB : ∀ k, S k → S' k) (h1 : ys.length ≤ c) (h2 : c ≤ maxLen) (h3 : tRi.els w' S' A ys) :
    tRx.rd w' S' [.slice A0 x.hosts.length c0, .slice A1 x.counts.length c1, .slice A2 x.calls.length c2, .slice A3 x.funcs.length c3, .slice A4 x.tabs.length c4, .slice A5 x.mems.length c5, .slice A6 x.globs.length c6, .slice A7 x.elems.length c7, .slice A8 x.datas.length c8, .slice A ys.length c] { x with insts := ys } :=
 kCZ (a := { x with insts := ys }) (kAI h).1 (kAI h).2.1 (kAA (kAI h).2.2 f hS hB) (kAJ h).1 (kAJ h).2.1 (kAA (kAJ h).2.2 f hS hB) (kAQ h).1 (kAQ h).2.1 (kAA (kAQ h).2.2 f hS hB) (kAN h).1 (kAN h).2.1 (kAA (kAN h).2.2 f hS hB) (kAR h).1 (kAR h).2.1 (kAA (kAR h).2.2 f hS hB) (kAS h).1 (kAS h).2.1 (kAA (kAS h).2.2 f hS hB) (kAM h).1 (kAM h).2.1 (kAA (kAM h).2.2 f hS hB) (kAO h).1 (kAO h).2.1 (kAA (kAO h).2.2 f hS hB) (kAP h).1 (kAP h).2.1 (kAA (kAP h).2.2 f hS hB) h1 h2 h3
end
theorem kEC {w : World} {S : Nat → Prop} {x : Rx} {cs : LV} (h : tRx.rd w S cs x) : ∃ A c, cs[0]? = some (.slice A x.hosts.length c) ∧ x.hosts.length ≤ c ∧ c ≤ maxLen ∧ tHo.els w S A x.hosts := by
 obtain ⟨A0, c0, A1, c1, A2, c2, A3, c3, A4, c4, A5, c5, A6, c6, A7, c7, A8, c8, A9, c9, rfl, -⟩ := kAU h
 exact ⟨A0, c0, rfl, kAI h⟩
theorem kKW {w : World} {S : Nat → Prop} {x : Rx} {cs : LV} (h : tRx.rd w S cs x) : ∃ A c, cs[3]? = some (.slice A x.funcs.length c) ∧ x.funcs.length ≤ c ∧ c ≤ maxLen ∧ tFi.els w S A x.funcs := by
 obtain ⟨A0, c0, A1, c1, A2, c2, A3, c3, A4, c4, A5, c5, A6, c6, A7, c7, A8, c8, A9, c9, rfl, -⟩ := kAU h
 exact ⟨A3, c3, rfl, kAN h⟩
theorem Rx_p3 {w w' : World} {S S' : Nat → Prop} {x : Rx} {cs : LV} {A : OA} {c : Nat} {ys : List Fi} (h : tRx.rd w S cs x) (f : Fr No w w') (hS : Lt S w) (hB : ∀ k, S k → S' k) (h1 : ys.length ≤ c) (h2 : c ≤ maxLen) (h3 : tFi.els w' S' A ys) :
    tRx.rd w' S' (cs.set 3 (.slice A ys.length c)) { x with funcs := ys } := by
 obtain ⟨A0, c0, A1, c1, A2, c2, A3, c3, A4, c4, A5, c5, A6, c6, A7, c7, A8, c8, A9, c9, rfl, -⟩ := kAU h
 exact kHw h f hS hB h1 h2 h3
theorem kNJ {w : World} {S : Nat → Prop} {x : Rx} {cs : LV} (h : tRx.rd w S cs x) : ∃ A c, cs[4]? = some (.slice A x.tabs.length c) ∧ x.tabs.length ≤ c ∧ c ≤ maxLen ∧ tRt.els w S A x.tabs := by
 obtain ⟨A0, c0, A1, c1, A2, c2, A3, c3, A4, c4, A5, c5, A6, c6, A7, c7, A8, c8, A9, c9, rfl, -⟩ := kAU h
 exact ⟨A4, c4, rfl, kAR h⟩
theorem kOy {w w' : World} {S S' : Nat → Prop} {x : Rx} {cs : LV} {A : OA} {c : Nat} {ys : List Rt} (h : tRx.rd w S cs x) (f : Fr No w w') (hS : Lt S w) (hB : ∀ k, S k → S' k) (h1 : ys.length ≤ c) (h2 : c ≤ maxLen) (h3 : tRt.els w' S' A ys) :
    tRx.rd w' S' (cs.set 4 (.slice A ys.length c)) { x with tabs := ys } := by
 obtain ⟨A0, c0, A1, c1, A2, c2, A3, c3, A4, c4, A5, c5, A6, c6, A7, c7, A8, c8, A9, c9, rfl, -⟩ := kAU h
 exact kIv h f hS hB h1 h2 h3
theorem kKV {w : World} {S : Nat → Prop} {x : Rx} {cs : LV} (h : tRx.rd w S cs x) : ∃ A c, cs[5]? = some (.slice A x.mems.length c) ∧ x.mems.length ≤ c ∧ c ≤ maxLen ∧ tRm.els w S A x.mems := by
 obtain ⟨A0, c0, A1, c1, A2, c2, A3, c3, A4, c4, A5, c5, A6, c6, A7, c7, A8, c8, A9, c9, rfl, -⟩ := kAU h
 exact ⟨A5, c5, rfl, kAS h⟩
theorem kNI {w w' : World} {S S' : Nat → Prop} {x : Rx} {cs : LV} {A : OA} {c : Nat} {ys : List Rm} (h : tRx.rd w S cs x) (f : Fr No w w') (hS : Lt S w) (hB : ∀ k, S k → S' k) (h1 : ys.length ≤ c) (h2 : c ≤ maxLen) (h3 : tRm.els w' S' A ys) :
    tRx.rd w' S' (cs.set 5 (.slice A ys.length c)) { x with mems := ys } := by
 obtain ⟨A0, c0, A1, c1, A2, c2, A3, c3, A4, c4, A5, c5, A6, c6, A7, c7, A8, c8, A9, c9, rfl, -⟩ := kAU h
 exact kIw h f hS hB h1 h2 h3
theorem Rx_g6 {w : World} {S : Nat → Prop} {x : Rx} {cs : LV} (h : tRx.rd w S cs x) : ∃ A c, cs[6]? = some (.slice A x.globs.length c) ∧ x.globs.length ≤ c ∧ c ≤ maxLen ∧ tRg.els w S A x.globs := by
 obtain ⟨A0, c0, A1, c1, A2, c2, A3, c3, A4, c4, A5, c5, A6, c6, A7, c7, A8, c8, A9, c9, rfl, -⟩ := kAU h
 exact ⟨A6, c6, rfl, kAM h⟩
theorem kNH {w w' : World} {S S' : Nat → Prop} {x : Rx} {cs : LV} {A : OA} {c : Nat} {ys : List Rg} (h : tRx.rd w S cs x) (f : Fr No w w') (hS : Lt S w) (hB : ∀ k, S k → S' k) (h1 : ys.length ≤ c) (h2 : c ≤ maxLen) (h3 : tRg.els w' S' A ys) :
    tRx.rd w' S' (cs.set 6 (.slice A ys.length c)) { x with globs := ys } := by
 obtain ⟨A0, c0, A1, c1, A2, c2, A3, c3, A4, c4, A5, c5, A6, c6, A7, c7, A8, c8, A9, c9, rfl, -⟩ := kAU h
 exact kHv h f hS hB h1 h2 h3
theorem kGu {w : World} {S : Nat → Prop} {x : Rx} {cs : LV} (h : tRx.rd w S cs x) : ∃ A c, cs[7]? = some (.slice A x.elems.length c) ∧ x.elems.length ≤ c ∧ c ≤ maxLen ∧ tRs.els w S A x.elems := by
 obtain ⟨A0, c0, A1, c1, A2, c2, A3, c3, A4, c4, A5, c5, A6, c6, A7, c7, A8, c8, A9, c9, rfl, -⟩ := kAU h
 exact ⟨A7, c7, rfl, kAO h⟩
theorem kNG {w w' : World} {S S' : Nat → Prop} {x : Rx} {cs : LV} {A : OA} {c : Nat} {ys : List Rs} (h : tRx.rd w S cs x) (f : Fr No w w') (hS : Lt S w) (hB : ∀ k, S k → S' k) (h1 : ys.length ≤ c) (h2 : c ≤ maxLen) (h3 : tRs.els w' S' A ys) :
    tRx.rd w' S' (cs.set 7 (.slice A ys.length c)) { x with elems := ys } := by
 obtain ⟨A0, c0, A1, c1, A2, c2, A3, c3, A4, c4, A5, c5, A6, c6, A7, c7, A8, c8, A9, c9, rfl, -⟩ := kAU h
 exact kHx h f hS hB h1 h2 h3
theorem kGt {w : World} {S : Nat → Prop} {x : Rx} {cs : LV} (h : tRx.rd w S cs x) : ∃ A c, cs[8]? = some (.slice A x.datas.length c) ∧ x.datas.length ≤ c ∧ c ≤ maxLen ∧ tRb.els w S A x.datas := by
 obtain ⟨A0, c0, A1, c1, A2, c2, A3, c3, A4, c4, A5, c5, A6, c6, A7, c7, A8, c8, A9, c9, rfl, -⟩ := kAU h
 exact ⟨A8, c8, rfl, kAP h⟩
theorem kNF {w w' : World} {S S' : Nat → Prop} {x : Rx} {cs : LV} {A : OA} {c : Nat} {ys : List Rb} (h : tRx.rd w S cs x) (f : Fr No w w') (hS : Lt S w) (hB : ∀ k, S k → S' k) (h1 : ys.length ≤ c) (h2 : c ≤ maxLen) (h3 : tRb.els w' S' A ys) :
    tRx.rd w' S' (cs.set 8 (.slice A ys.length c)) { x with datas := ys } := by
 obtain ⟨A0, c0, A1, c1, A2, c2, A3, c3, A4, c4, A5, c5, A6, c6, A7, c7, A8, c8, A9, c9, rfl, -⟩ := kAU h
 exact kHy h f hS hB h1 h2 h3
theorem kFr {w : World} {S : Nat → Prop} {x : Rx} {cs : LV} (h : tRx.rd w S cs x) : ∃ A c, cs[9]? = some (.slice A x.insts.length c) ∧ x.insts.length ≤ c ∧ c ≤ maxLen ∧ tRi.els w S A x.insts := by
 obtain ⟨A0, c0, A1, c1, A2, c2, A3, c3, A4, c4, A5, c5, A6, c6, A7, c7, A8, c8, A9, c9, rfl, -⟩ := kAU h
 exact ⟨A9, c9, rfl, kAL h⟩
theorem kOx {w w' : World} {S S' : Nat → Prop} {x : Rx} {cs : LV} {A : OA} {c : Nat} {ys : List Ri} (h : tRx.rd w S cs x) (f : Fr No w w') (hS : Lt S w) (hB : ∀ k, S k → S' k) (h1 : ys.length ≤ c) (h2 : c ≤ maxLen) (h3 : tRi.els w' S' A ys) :
    tRx.rd w' S' (cs.set 9 (.slice A ys.length c)) { x with insts := ys } := by
 obtain ⟨A0, c0, A1, c1, A2, c2, A3, c3, A4, c4, A5, c5, A6, c6, A7, c7, A8, c8, A9, c9, rfl, -⟩ := kAU h
 exact kHu h f hS hB h1 h2 h3
section
variable {w : World}
abbrev z10 : Array Value := #[.slice none 0 0, .slice none 0 0, .slice none 0 0, .slice none 0 0, .slice none 0 0, .slice none 0 0, .slice none 0 0, .slice none 0 0, .slice none 0 0, .slice none 0 0]
theorem kBo : (prog.info? 39).map (·.size) = some 10 := by kernel_rfl
theorem Blk.to {p : Nat} {t : TypeId} {C : Array Value} (h : Blk w p t C) (hC : C.size = 10) : ∀ {n : Nat}, n = 10 → w.there p 0 n := fun e => by rw [e]; exact there_blk h hC
theorem ldX {ops : Array Oper} {rest : List Oper} {op : Oper} {a : Act} {Q : Exit → Act → World → Prop} {p : Nat} {cs : LV} (b : Blk w p 39 cs.toArray) (hl : cs.length = 10) (h : wpList prog ops Q rest (a.put op.dst (.agg cs.toArray)) w)
    (hgd : op.guard = none := by rfl) {o : Operand} (ho : op.op = .load 39 o := by rfl) (hx : a.eval o = .pointer (some ⟨p, 0, none⟩) := by rfl) : wpList prog ops Q (op :: rest) a w :=
 wpList_load_mid hgd 39 o ho p 0 hx cs _ (by simpa using rangeAt_blk b) underlying39 rfl (by rw [hl]; exact kBo) h
theorem stX {ops : Array Oper} {rest : List Oper} {op : Oper} {a : Act} {Q : Exit → Act → World → Prop} {p : Nat} {C : Array Value} {cs : LV} (b : Blk w p 39 C) (hC : C.size = 10) (hl : cs.length = 10) (h1 : cs.all (·.oneCell') = true) (h : wpList prog ops Q rest (a.put op.dst undef) (w.setCells p 0 cs))
    (hgd : op.guard = none := by rfl) {o v : Operand} (ho : op.op = .store 39 o v := by rfl) (hx : a.eval o = .pointer (some ⟨p, 0, none⟩) := by rfl) (hy : a.eval v = .agg cs.toArray := by rfl) : wpList prog ops Q (op :: rest) a w :=
 wpList_store_mid hgd 39 o v ho p 0 cs.toArray hx hy (b.to hC hl) (by rw [show cs.toArray.size = 10 from hl]; exact kBo) (by simpa using h1) h
theorem nwX {ops : Array Oper} {rest : List Oper} {op : Oper} {a : Act} {Q : Exit → Act → World → Prop} {cs : LV} (hl : cs.length = 10) (h1 : cs.all (·.oneCell') = true) (h : wpList prog ops Q rest (a.put op.dst undef) (w.alloc (.cells cs.toArray 39)))
    (hgd : op.guard = none := by rfl) {o v : Operand} (ho : op.op = .store 39 o v := by rfl) (hx : a.eval o = .pointer (some ⟨w.heap.size, 0, none⟩) := by rfl) (hy : a.eval v = .agg cs.toArray := by rfl) : wpList prog ops Q (op :: rest) a (w.alloc (.cells z10 39)) :=
 kAz hgd 39 o v ho z10 cs hx hy (by rw [hl]; exact kBo) (by rw [hl]; rfl) h1 h
theorem rx_one {X : World} {S : Nat → Prop} {c : LV} {y : Rx} (h : tRx.rd X S c y) : c.length = 10 ∧ c.all (·.oneCell') = true := ⟨TyOk.len _ _ _ _ h, List.all_eq_true.2 ((inferInstance : kAG tRx).one _ _ _ _ h)⟩
end
theorem Blk.at_ {w : World} {p i : Nat} {t : TypeId} {cs : LV} {v : Value} (h : Blk w p t cs.toArray) (e : cs[i]? = some v) : w.cell? ⟨p, i, none⟩ = some v := by
 rw [h.cell, List.getElem?_toArray, e]
theorem bx0 (w : World) (cs : LV) (C : Array Value) (T : TypeId) : Hid (Fr No w ((w.alloc (.cells cs.toArray 39)).alloc (.cells C T))) ∧ Hid (Blk ((w.alloc (.cells cs.toArray 39)).alloc (.cells C T)) w.heap.size 39 cs.toArray) ∧ Hid (Blk ((w.alloc (.cells cs.toArray 39)).alloc (.cells C T)) (w.heap.size + 1) T C) :=
 ⟨((Fr.refl No w).alloc _).alloc _, (Blk.new w 39 cs.toArray).alloc _, Blk.new1 w (.cells cs.toArray 39) T C⟩
theorem bx1 (w : World) (cs : LV) (C : Array Value) (T : TypeId) (D : Array Value) (U : TypeId) : Hid (Fr No w (((w.alloc (.cells cs.toArray 39)).alloc (.cells C T)).alloc (.cells D U))) ∧ Hid (Blk (((w.alloc (.cells cs.toArray 39)).alloc (.cells C T)).alloc (.cells D U)) w.heap.size 39 cs.toArray) ∧ Hid (Blk (((w.alloc (.cells cs.toArray 39)).alloc (.cells C T)).alloc (.cells D U)) (w.heap.size + 1) T C) ∧ Hid (Blk (((w.alloc (.cells cs.toArray 39)).alloc (.cells C T)).alloc (.cells D U)) (w.heap.size + 1 + 1) U D) := by
 obtain ⟨f, g0, g1⟩ := bx0 w cs C T
 exact ⟨f.o.alloc _, g0.o.alloc _, g1.o.alloc _, by have h := Blk.new ((w.alloc (.cells cs.toArray 39)).alloc (.cells C T)) U D; simp only [World.size_alloc] at h; exact h⟩
theorem bx2 (w : World) (cs : LV) (C : Array Value) (T : TypeId) (D : Array Value) (U : TypeId) (E : Array Value) (Y : TypeId) : Hid (Fr No w ((((w.alloc (.cells cs.toArray 39)).alloc (.cells C T)).alloc (.cells D U)).alloc (.cells E Y))) ∧ Hid (Blk ((((w.alloc (.cells cs.toArray 39)).alloc (.cells C T)).alloc (.cells D U)).alloc (.cells E Y)) w.heap.size 39 cs.toArray) ∧ Hid (Blk ((((w.alloc (.cells cs.toArray 39)).alloc (.cells C T)).alloc (.cells D U)).alloc (.cells E Y)) (w.heap.size + 1) T C) ∧ Hid (Blk ((((w.alloc (.cells cs.toArray 39)).alloc (.cells C T)).alloc (.cells D U)).alloc (.cells E Y)) (w.heap.size + 1 + 1) U D) ∧ Hid (Blk ((((w.alloc (.cells cs.toArray 39)).alloc (.cells C T)).alloc (.cells D U)).alloc (.cells E Y)) (w.heap.size + 1 + 1 + 1) Y E) := by
 obtain ⟨f, g0, g1, g2⟩ := bx1 w cs C T D U
 exact ⟨f.o.alloc _, g0.o.alloc _, g1.o.alloc _, g2.o.alloc _, by have h := Blk.new (((w.alloc (.cells cs.toArray 39)).alloc (.cells C T)).alloc (.cells D U)) Y E; simp only [World.size_alloc] at h; exact h⟩
section
variable {w w2 : World} {S S2 : Nat → Prop} {x x' : Rx} {cs ds : LV}
theorem setf {p q : Nat} {C : Array Value} (G0 : Blk w2 p 39 cs.toArray) (G1 : Blk w2 q 39 C) (ne : q ≠ p) (H : tRx.rd w S cs x) (i : Nat) (v : Value) (hv : v.oneCell' = true) :
    Hid (Blk (w2.setCell ⟨p, i, none⟩ v) p 39 (cs.set i v).toArray) ∧ Hid (Blk (w2.setCell ⟨p, i, none⟩ v) q 39 C) ∧ Hid ((cs.set i v).length = 10) ∧ Hid ((cs.set i v).all (·.oneCell') = true) := by
 obtain ⟨h1, h2⟩ := rx_one H
 refine ⟨by have h := G0.set_ i v; unfold Hid; simpa using h, G1.far (p := ⟨p, i, none⟩) ne v, by unfold Hid; simpa using h1, List.all_eq_true.2 fun u hu => ?_⟩
 rcases List.mem_or_eq_of_mem_set hu with h | rfl
 · exact List.all_eq_true.1 h2 u h
 exact hv
theorem rcore {α : Type} {t : Ty α} [TyOk t] [TyMore t] {ys : List α} {A : OA} {c n i q n0 base : Nat} {tid : TypeId}
    (put : ∀ {w' : World} {S' : Nat → Prop} {A : OA} {c : Nat}, Fr No w w' → (∀ k, S k → S' k) → ys.length ≤ c → c ≤ maxLen → t.els w' S' A ys → tRx.rd w' S' (cs.set i (.slice A ys.length c)) x') (H : tRx.rd w S cs x)
    (F : Fr No w w2) (G0 : Blk w2 w.heap.size 39 cs.toArray) (G1 : Blk w2 q 39 z10) (hq : w.heap.size < q)
    (HR : (ys.length ≤ c ∧ c ≤ maxLen) ∧ t.els w2 (fun k => S2 k ∨ (Value.slice A n c).ownBlock = some k) A ys ∧ ∀ g, (Value.slice A n c).ownBlock = some g → base ≤ g ∧ ∃ C, Blk w2 g tid C) (hn : ys.length = n)
    (HSS : ∀ k, S2 k → k < n0 ∧ ¬ k = w.heap.size ∧ ¬ k = q ∧ (S k ∨ w.heap.size ≤ k)) (h0 : n0 ≤ w2.heap.size) (hb : w.heap.size ≤ base) (ht : tid ≠ 39) :
    tRx.rd ((w2.setCell ⟨w.heap.size, i, none⟩ (.slice A n c)).setCells q 0 (cs.set i (.slice A n c))) (fun k => S k ∨ Nw w ((w2.setCell ⟨w.heap.size, i, none⟩ (.slice A n c)).setCells q 0 (cs.set i (.slice A n c))) k) (cs.set i (.slice A n c)) x' ∧ Fr No w ((w2.setCell ⟨w.heap.size, i, none⟩ (.slice A n c)).setCells q 0 (cs.set i (.slice A n c))) ∧ ((w2.setCell ⟨w.heap.size, i, none⟩ (.slice A n c)).setCells q 0 (cs.set i (.slice A n c))).rangeAt q 0 (cs.set i (.slice A n c)) := by
 subst hn
 have FX := Fr.setCells' (a := w2) (b := q) (M := Two w.heap.size q) (fun _ => .inr rfl) (cs.set i (.slice A ys.length c)) 0 _ ((Fr.refl _ w2).setCell ⟨w.heap.size, i, none⟩ (.slice A ys.length c) (fun _ => .inl rfl))
 have FT := Fr.setCells' (a := w) (b := q) (M := No) (fun h => absurd h om) (cs.set i (.slice A ys.length c)) 0 _ (F.setCell ⟨w.heap.size, i, none⟩ (.slice A ys.length c) (fun h => absurd h (by show ¬ w.heap.size < _; omega)))
 have E := HR.2.1.fr FX (fun k hk => by
  rcases hk with hk | hk
  · obtain ⟨h1, h2, h3, -⟩ := HSS k hk
    refine ⟨by omega, ?_⟩
    rintro (h | h)
    · exact h2 h
    exact h3 h
  · obtain ⟨-, C, q3⟩ := HR.2.2 k hk
    refine ⟨q3.lt, ?_⟩
    rintro (rfl | rfl)
    · exact Blk.ne_ q3 G0 ht rfl
    · exact Blk.ne_ q3 G1 ht rfl)
 refine ⟨put FT (fun _ h => .inl h) HR.1.1 HR.1.2 (E.more fun k hk => ?_), FT, World.rangeAt_setCells_same _ q 0 _ ((G1.far (p := ⟨w.heap.size, i, none⟩) (by show q ≠ w.heap.size; omega) _).to rfl (by simpa using (rx_one H).1))⟩
 rcases hk with hk | hk
 · exact (HSS k hk).2.2.2.elim .inl (fun h => .inr ⟨h, by have := (HSS k hk).1; have := FX.size; omega⟩)
 obtain ⟨q1, C, q3⟩ := HR.2.2 k hk
 exact .inr ⟨by omega, ltl q3.lt FX.size⟩
theorem rnc {q : Nat} (H : tRx.rd w S cs x) (hS : Lt S w) (F : Fr No w w2) (G : Blk w2 q 39 z10) (hq : w.heap.size < q) :
    tRx.rd (w2.setCells q 0 cs) (fun k => S k ∨ Nw w (w2.setCells q 0 cs) k) cs x ∧ Fr No w (w2.setCells q 0 cs) ∧ (w2.setCells q 0 cs).rangeAt q 0 cs := by
 have FT := Fr.setCells' (a := w) (b := q) (M := No) (fun h => absurd h om) cs 0 w2 F
 exact ⟨kAH H FT hS (fun _ h => .inl h), FT, World.rangeAt_setCells_same w2 q 0 cs (G.to rfl (rx_one H).1)⟩
theorem ryes {X : World} {q : Nat} {v : Value} {fn : Func} {act : Act} {s u : Tmp} (h : tRx.rd X (fun k => S k ∨ Nw w X k) ds x' ∧ Fr No w X ∧ X.rangeAt q 0 ds) (hf : fn.results = #[.cell s 39, .tmp u] := by rfl) (hp : act.tmps.getD s undef = .pointer (some ⟨q, 0, none⟩) := by rfl) (hv : act.tmps.getD u undef = v := by rfl) (hd : act.defers = [] := by rfl) :
    bodyPost prog fn (RfTo S x' v w) .ret act X :=
 bodyPost_ret (v := .tuple #[.agg ds.toArray, v]) (by rw [← hv]; exact results_wide hf _ _ q _ _ hp h.2.2 underlying39 rfl (by rw [(rx_one h.1).1]; exact kBo)) hd ⟨_, rfl, h.1, h.2.1⟩
theorem ryes1 {X : World} {q : Nat} {fn : Func} {act : Act} {s : Tmp} (h : tRx.rd X (fun k => S k ∨ Nw w X k) ds x' ∧ Fr No w X ∧ X.rangeAt q 0 ds) (hf : fn.results = #[.cell s 39] := by rfl) (hp : act.tmps.getD s undef = .pointer (some ⟨q, 0, none⟩) := by rfl) (hd : act.defers = [] := by rfl) :
    bodyPost prog fn (kCA S x' w) .ret act X :=
 bodyPost_ret (v := .agg ds.toArray) (kAv hf _ _ q _ _ hp h.2.2 underlying39 rfl (by rw [(rx_one h.1).1]; exact kBo)) hd ⟨_, rfl, h.1, h.2.1⟩
end
section
variable {ops : Array Oper} {rest : List Oper} {op : Oper} {a : Act} {Q : Exit → Act → World → Prop} {w : World} {T : TypeId} {d : TypeDesc} {n p q : Nat} {ds : LV}
theorem ldG (hu : prog.underlying T = some d) (hi : (prog.info? T).map (·.size) = some n) (r : w.rangeAt p q ds) (hl : ds.length = n) (h : wpList prog ops Q rest (a.put op.dst (.agg ds.toArray)) w)
    (hd : d.isRow = true := by rfl) (hgd : op.guard = none := by rfl) {o : Operand} (ho : op.op = .load T o := by rfl) (hx : a.eval o = .pointer (some ⟨p, q, none⟩) := by rfl) : wpList prog ops Q (op :: rest) a w :=
 wpList_load_mid hgd T o ho p q hx ds _ r hu hd (by rw [hl]; exact hi) h
theorem stG (hi : (prog.info? T).map (·.size) = some n) (th : w.there p q n) (hl : ds.length = n) (h1 : ds.all (·.oneCell') = true) (h : wpList prog ops Q rest (a.put op.dst undef) (w.setCells p q ds))
    (hgd : op.guard = none := by rfl) {o v : Operand} (ho : op.op = .store T o v := by rfl) (hx : a.eval o = .pointer (some ⟨p, q, none⟩) := by rfl) (hy : a.eval v = .agg ds.toArray := by rfl) : wpList prog ops Q (op :: rest) a w :=
 wpList_store_mid hgd T o v ho p q ds.toArray hx hy (by rw [show ds.toArray.size = n from hl]; exact th) (by rw [show ds.toArray.size = n from hl]; exact hi) (by simpa using h1) h
theorem nwG {c : Array Value} (hi : (prog.info? T).map (·.size) = some n) (hc : c.size = n) (hl : ds.length = n) (h1 : ds.all (·.oneCell') = true) (h : wpList prog ops Q rest (a.put op.dst undef) (w.alloc (.cells ds.toArray T)))
    (hgd : op.guard = none := by rfl) {o v : Operand} (ho : op.op = .store T o v := by rfl) (hx : a.eval o = .pointer (some ⟨w.heap.size, 0, none⟩) := by rfl) (hy : a.eval v = .agg ds.toArray := by rfl) : wpList prog ops Q (op :: rest) a (w.alloc (.cells c T)) :=
 kAz hgd T o v ho c ds hx hy (by rw [hl]; exact hi) (by rw [hl]; exact hc) h1 h
end
section
variable {α : Type} {t : Ty α} [hok : TyOk t] [hm : TyMore t] [hone : kAG t] {P : Program} {ts e : TypeId} {bytes : Nat} {z : Value} {ops : Array Oper} {rest : List Oper} {o : Oper} {a : Act} {Q : Exit → Act → World → Prop} {W w1 : World} {S : Nat → Prop}
theorem app0 {ys : List α} {css : List (LV)} {A : OA} {B : Nat} (E : ElemOk P ts e t.size bytes z) (HC : Css t W S css ys ∧ Rd W B A css.flatten) (hl : ys.length ≤ 1000000) (hby : bytes ≤ 1000) (hS : Lt S W)
    (h : ∀ v w1, t.row w1 W.heap.size S e v ([] ++ ys) → Fr No W w1 → wpList P ops Q rest (a.put o.dst v) w1)
    (hgd : o.guard = none := by rfl) {s y : Operand} (ho : o.op = .call { callee := .builtin .append, args := #[s, y], argTypes := #[ts, ts] } := by rfl) (hs : a.eval s = .slice none 0 0 := by rfl) {cs : Nat} (hx : a.eval y = .slice A ys.length cs := by rfl) : wpList P ops Q (o :: rest) a W := by
 have hb : (0 + ys.length) * bytes ≤ 1000000 * 1000 := Nat.mul_le_mul om hby
 have R0 := Ty.row.nil (t := t) W W.heap.size S e
 exact wpList_appC E hgd ho hs hx R0 HC.1 HC.2 rfl so (Nat.le_trans hb dc) (fun k hk => ⟨hS k hk, fun e => nomatch e⟩) nr fun v w1 hr fr _ => h v w1 hr (own_frame R0 (Fr.refl No W) fr nr)
theorem app1 {v1 : Value} {xs : List α} {x : α} {es : LV} {base : Nat} (E : ElemOk P ts e t.size bytes z) (R1 : t.row w1 base S e v1 xs) (hx : t.rd w1 S es x) (hl : xs.length ≤ 1000000) (hby : bytes ≤ 1000) (hS : ∀ k, S k → k < base) (hb : base ≤ w1.heap.size) (F1 : Fr No W w1) (hW : W.heap.size ≤ base)
    (h : ∀ v2 w2, t.row w2 base S e v2 (xs ++ [x]) → Fr No W w2 → (∀ (g : Nat) (u : TypeId) (C : Array Value), Blk w1 g u C → u ≠ e → Blk w2 g u C) → wpList P ops Q rest (a.put o.dst v2) w2)
    (hgd : o.guard = none := by rfl) {s y : Operand} (ho : o.op = .call { callee := .builtin .append, args := #[s, y], argTypes := #[ts, ts] } := by rfl) (hs : a.eval s = v1 := by rfl) {cs : Nat} (hy : a.eval y = .slice (some ⟨w1.heap.size, 0, none⟩) 1 cs := by rfl) :
    wpList P ops Q (o :: rest) a (w1.alloc (.cells es.toArray e)) := by
 have FA := (Fr.refl No w1).alloc (.cells es.toArray e)
 have s1 := FA.size
 have hb2 : (xs.length + 1) * bytes ≤ 1000001 * 1000 := Nat.mul_le_mul om hby
 have RA := R1.fr FA (fun k hk => ⟨by have := hS k hk; omega, fun x => x⟩) (fun _ _ x => x)
 have HE : t.rd (w1.alloc (.cells es.toArray e)) S es x := hok.keep _ _ _ _ _ hx (fun p hp => FA.cell (by have := hS _ hp; omega) id)
 refine wpList_appC (dss := [es]) (B2 := w1.heap.size + 1) E hgd ho hs hy RA (Css.one HE) (by simpa using kFY w1 es e) rfl om om (fun k hk => ⟨by have := hS k hk; omega, fun e => by have h1 := hS k hk; have h2 := (R1.own e.symm).1; omega⟩) om fun v2 w2 hr fr _ => ?_
 refine h v2 w2 hr (own_frame RA (F1.trans FA i3) fr om) (fun g u C hb hne => (hb.fr FA id).fr fr (fun e => ?_))
 obtain ⟨-, cs', h2⟩ := R1.own e.symm
 exact Blk.ne_ hb h2 hne rfl
end
structure FLi where
 α : Type
 t : Ty α
 A : OA
 l : List α
 c : Nat
 ok : TyOk t
 more : TyMore t
abbrev FLi.on (i : FLi) (W X : World) : Prop := i.l.length ≤ i.c ∧ i.c ≤ maxLen ∧ i.t.els X (Nw W X) i.A i.l
def Its (W X : World) (L : List FLi) : Prop := ∀ (n : Nat) (i : FLi), L[n]? = some i → i.on W X
section
variable {w W X Y : World} {L : List FLi}
theorem Its.nil : Its W X [] := fun n i h => by simp at h
theorem Its.fr {M : Nat → Prop} (h : Its W X L) (f : Fr M X Y) (hM : ∀ k, W.heap.size ≤ k → ¬ M k) : Its W Y L := fun n i e => by
 obtain ⟨h1, h2, h3⟩ := h n i e
 have := i.ok
 have := i.more
 exact ⟨h1, h2, (h3.fr f (fun k hk => ⟨hk.2, hM k hk.1⟩)).more (fun k hk => ⟨hk.1, ltl hk.2 f.size⟩)⟩
theorem Its.no (h : Its W X L) (f : Fr No X Y) : Its W Y L := h.fr f (fun _ _ m => m)
theorem Its.push {α : Type} {t : Ty α} [ho : TyOk t] [hm : TyMore t] {A : OA} {l : List α} {c : Nat} (h : Its W X L) (f : Fr No X Y) (hx : W.heap.size ≤ X.heap.size) (h1 : l.length ≤ c) (h2 : c ≤ maxLen) (e : t.els Y (Nw X Y) A l) : Its W Y (⟨α, t, A, l, c, ho, hm⟩ :: L) := fun n i e1 => by
 cases n with
 | zero =>
  simp only [List.getElem?_cons_zero, Option.some.injEq] at e1
  subst e1
  exact ⟨h1, h2, e.more (fun k hk => ⟨Nat.le_trans hx hk.1, hk.2⟩)⟩
 | succ n => exact h.no f n i (by simpa using e1)
theorem Its.low (h : Its W X L) (hw : w.heap.size ≤ W.heap.size) : Its w X L := fun n i e => by
 obtain ⟨h1, h2, h3⟩ := h n i e
 have := i.more
 exact ⟨h1, h2, h3.more (fun k hk => ⟨Nat.le_trans hw hk.1, hk.2⟩)⟩
theorem Its.get (h : Its W X L) (n : Nat) {i : FLi} (e : L[n]? = some i) : i.on W X := h n i e
end
section
variable {α : Type} {t : Ty α} {w W : World} {x : α} {T : TypeId} {d : TypeDesc} {n q : Nat} {ds : LV} {fn : Func} {act : Act} {s : Tmp}
theorem kDv (hu : prog.underlying T = some d) (hi : (prog.info? T).map (·.size) = some n) (F : Fr No w W) (hq : w.heap.size ≤ q) (th : W.there q 0 n) (hl : ds.length = n) (hr : Fr (One q) W (W.setCells q 0 ds) → t.rd (W.setCells q 0 ds) (Nw w (W.setCells q 0 ds)) ds x)
    (hd : d.isRow = true := by rfl) (hf : fn.results = #[.cell s T] := by rfl) (hp : act.tmps.getD s undef = .pointer (some ⟨q, 0, none⟩) := by rfl) (hdd : act.defers = [] := by rfl) :
    bodyPost prog fn (kAa t x w) .ret act (W.setCells q 0 ds) := by
 have FT := Fr.setCells' (a := w) (b := q) (M := No) (fun h => absurd h om) ds 0 W F
 exact bodyPost_ret (v := .agg ds.toArray) (kAv hf _ _ q _ _ hp (World.rangeAt_setCells_same W q 0 ds (by rw [hl]; exact th)) hu hd (by rw [hl]; exact hi)) hdd ⟨ds, rfl, hr (Fr.setCells' (M := One q) (b := q) (fun _ => rfl) ds 0 W (Fr.refl _ W)), FT⟩
end
theorem Blk.setCells_ {p : Nat} {t : TypeId} : ∀ (ds : LV) (o : Nat) (w : World) (C : Array Value), Blk w p t C → Blk (w.setCells p o ds) p t (List.foldl (fun (cs : Array Value) (x : Value × Nat) => cs.setIfInBounds x.snd x.fst) C (ds.zipIdx o))
 | [], _, _, _, h => h
 | v :: r, o, w, C, h => by
  rw [List.zipIdx_cons, List.foldl_cons]
  exact Blk.setCells_ r (o + 1) _ _ (h.set_ o v)
theorem Blk.setAll {w : World} {p : Nat} {t : TypeId} {C : Array Value} {ds : LV} (h : Blk w p t C) (hl : C.size = ds.length) : Blk (w.setCells p 0 ds) p t ds.toArray := by
 have := Blk.setCells_ ds 0 w C h
 rwa [kBj hl] at this
section
variable {P : Program} {ops : Array Oper} {Q : Exit → Act → World → Prop} {i : Nat} {r : OT} {o : Oper} {a : Act} {wr w : World} {tb : TypeId} {zs : Array Value}
theorem tNw {A : Nat → Act} (F : Fr No wr w) (h : ∀ (q : Nat) (w' : World), Hid (Fr No wr w') → Hid (Fr No w w') → Hid (Blk w' q tb zs) → Hid (wr.heap.size ≤ q ∧ w.heap.size ≤ q ∧ q < w'.heap.size) → wpT P ops Q (Fr No wr) r (A q) w') (ho : ops[i]? = some o := by rfl) (hw : Region.wanted o (yielded ops a.tmps) = true := by rfl)
    (hv : ∀ (K : Act → World → Prop) (q : Nat), w.heap.size = q → K (A q) (w.alloc (.cells zs tb)) → o.wp P a w K Q := by intro K q hq hK; (try dsimp only [World.drew] at hq); simp only [zA]; go_simp; (try rw [hq]); exact hK) :
    wpT P ops Q (Fr No wr) (.eff i r) a w :=
 wpT_eff ho hw fun K hK => hv K _ rfl (hK _ _ (F.alloc _) (h _ _ (F.alloc _) ((Fr.refl No w).alloc _) (Blk.new w tb zs) ⟨F.size, nr, (Blk.new w tb zs).lt⟩))
theorem tWr {a' : Act} {q : Nat} {ty : TypeId} {x y : Operand} {ds : LV} (F : Fr No wr w) (L : wr.heap.size ≤ q) (B : Blk w q tb zs) (h : ∀ w' : World, Hid (Fr No wr w') → Hid (Fr (One q) w w') → Hid (Blk w' q tb ds.toArray) → wpT P ops Q (Fr No wr) r a' w') (ho : ops[i]? = some o := by rfl) (hw : Region.wanted o (yielded ops a.tmps) = true := by rfl)
    (hst : o.op = .store ty x y := by rfl) (hx : a.eval x = .pointer (some ⟨q, 0, none⟩) := by rfl) (hy : a.eval y = .agg ds.toArray := by rfl) (hn : zs.size = ds.length := by rfl) (hi : (P.info? ty).map (·.size) = some ds.toArray.size := by kernel_rfl) (h1 : ds.toArray.all (·.oneCell') = true := by simp [Value.oneCell'])
    (ha : a.put o.dst undef = a' := by simp only [zA, zC, Act.put]; rfl) : wpT P ops Q (Fr No wr) (.eff i r) a w := by
 have f := Fr.setCells' (M := One q) (b := q) (fun _ => rfl) ds 0 w (Fr.refl _ w)
 have g := F.trans f (fun i hi e => by have e : i = q := e; omega)
 refine wpT_eff ho hw fun K hK => wp_store_mid ty x y hst q 0 ds.toArray hx hy (there_blk B (by simpa using hn)) hi h1 (hK _ _ g ?_)
 rw [ha]
 exact h _ g f (B.setAll hn)
end
theorem kHa {w : World} {S : Nat → Prop} {x : Rx} {cs : LV} (h : tRx.rd w S cs x) (hS : Lt S w) (refs : List Int) (A : OA) (c : Nat) (he : tRs.rd w S [.slice A refs.length c, .bool false] ⟨refs, false⟩) (hn : x.elems.length ≤ 1000000) :
    Calls prog 123 #[.agg cs.toArray, .slice A refs.length c] w (RfTo S { x with elems := x.elems ++ [⟨refs, false⟩] } (.int .i64 (x.elems.length : Nat)) w) := by
 obtain ⟨F0, G0, G1⟩ := bx0 w cs z10 39
 obtain ⟨A7, c7, e7, -, -, E7⟩ := kGu h
 obtain ⟨css, hcs, hrd⟩ := kAY E7 hS
 have HC := hid (And.intro hcs hrd)
 have H := hid h
 have HS := hid hS
 have HE7 := hid e7
 have HE := hid he
 clear he
 clear hcs hrd h hS e7 E7
 have HN := hid hn
 go_enter func123, ntmps123
 have z := G0.o.at_ HE7.o
 go_upto_region 2 with fail
 generalize ((w.alloc (.cells cs.toArray 39)).alloc (.cells z10 39)) = W at *
 have HSS : Hid (∀ k, S k → k < W.heap.size ∧ ¬ k = w.heap.size ∧ ¬ k = w.heap.size + 1 ∧ (S k ∨ w.heap.size ≤ k)) := fun k hk => ⟨ltl (HS.o k hk) F0.o.size, by have := HS.o k hk; omega, by have := HS.o k hk; omega, .inl hk⟩
 have HCW := hid (And.intro ((HC.o.1.fr F0.o (fun k hk => ⟨HS.o k hk, fun x => x⟩))) (HC.o.2.frNo F0.o))
 have HEW := hid (kAH HE.o F0.o HS.o i2)
 go_upto_region 3 with (first | (at_builtin; refine app0 elRs HCW.o (by have := HN.o; omega) dc (fun k hk => (HSS.o k hk).1) ?_; intro v1 w1 hr1 f1; have R1 := hid hr1; have FW1 := hid f1; clear hr1 f1 HCW z) | fail)
 have FT1 := ftr F0 FW1.o
 replace G0 := hid (G0.o.fr FW1.o id)
 replace G1 := hid (G1.o.fr FW1.o id)
 go_upto_region 4 with (first | (at_builtin; refine app1 elRs R1.o (kAH HEW.o FW1.o (fun k hk => (HSS.o k hk).1) i2) (by have := HN.o; simp; omega) dc (fun k hk => (HSS.o k hk).1) FW1.o.size FW1.o nr ?_; intro v2 w2 hr2 f2 kg; have R2 := hid hr2; have FW2 := hid f2; have KG := hid kg; clear hr2 f2 kg R1) | fail)
 replace G0 := hid (KG.o _ _ _ G0.o dc)
 replace G1 := hid (KG.o _ _ _ G1.o dc)
 clear KG FW1 FT1
 have FT2 := ftr F0 FW2.o
 obtain ⟨A', c', e2, l1, l2, E2⟩ := R2.o.els (S' := fun k => S k ∨ v2.ownBlock = some k) (fun _ h => .inl h) (fun g hg => .inr hg)
 have e3 : ([] ++ x.elems ++ [(⟨refs, false⟩ : Rs)]).length = x.elems.length + 1 := by simp
 have HR := hid (And.intro (And.intro l1 l2) (And.intro E2 (fun g (e : v2.ownBlock = some g) => R2.o.own e)))
 rw [e3] at e2
 subst e2
 clear R2 l1 l2 E2
 have y := G0.o.frozen 7
 have y' := G0.o.at_ HE7.o
 go_upto_region 5 with fail
 clear y y'
 obtain ⟨N0, N1, HL2, HO2⟩ := setf G0.o G1.o om H.o 7 (.slice A' (x.elems.length + 1) c') rfl
 go_wp2_with (first | refine ldX N0.o HL2.o ?_ | refine stX N1.o rfl HL2.o HO2.o ?_ | fail)
 exact ryes (rcore (x' := { x with elems := x.elems ++ [(⟨refs, false⟩ : Rs)] }) (t := tRs) (ys := [] ++ x.elems ++ [(⟨refs, false⟩ : Rs)]) (fun f hB l m e => kNG H.o f HS.o hB l m e) H.o FT2.o G0.o G1.o om HR.o e3 HSS.o (by have := FW2.o.size; omega) F0.o.size dc)
theorem kHb {w : World} {S : Nat → Prop} {x : Rx} {cs : LV} (h : tRx.rd w S cs x) (hS : Lt S w) (bs : List Int) (A : OA) (c : Nat) (he : tRb.rd w S [.slice A bs.length c, .bool false] ⟨bs, false⟩) (hn : x.datas.length ≤ 1000000) :
    Calls prog 124 #[.agg cs.toArray, .slice A bs.length c] w (RfTo S { x with datas := x.datas ++ [⟨bs, false⟩] } (.int .i64 (x.datas.length : Nat)) w) := by
 obtain ⟨F0, G0, G1⟩ := bx0 w cs z10 39
 obtain ⟨A8, c8, e8, -, -, E8⟩ := kGt h
 obtain ⟨css, hcs, hrd⟩ := kAY E8 hS
 have HC := hid (And.intro hcs hrd)
 have H := hid h
 have HS := hid hS
 have HE8 := hid e8
 have HE := hid he
 clear he
 clear hcs hrd h hS e8 E8
 have HN := hid hn
 go_enter func124, ntmps124
 have z := G0.o.at_ HE8.o
 go_upto_region 2 with fail
 generalize ((w.alloc (.cells cs.toArray 39)).alloc (.cells z10 39)) = W at *
 have HSS : Hid (∀ k, S k → k < W.heap.size ∧ ¬ k = w.heap.size ∧ ¬ k = w.heap.size + 1 ∧ (S k ∨ w.heap.size ≤ k)) := fun k hk => ⟨ltl (HS.o k hk) F0.o.size, by have := HS.o k hk; omega, by have := HS.o k hk; omega, .inl hk⟩
 have HCW := hid (And.intro ((HC.o.1.fr F0.o (fun k hk => ⟨HS.o k hk, fun x => x⟩))) (HC.o.2.frNo F0.o))
 have HEW := hid (kAH HE.o F0.o HS.o i2)
 go_upto_region 3 with (first | (at_builtin; refine app0 elRb HCW.o (by have := HN.o; omega) dc (fun k hk => (HSS.o k hk).1) ?_; intro v1 w1 hr1 f1; have R1 := hid hr1; have FW1 := hid f1; clear hr1 f1 HCW z) | fail)
 have FT1 := ftr F0 FW1.o
 replace G0 := hid (G0.o.fr FW1.o id)
 replace G1 := hid (G1.o.fr FW1.o id)
 go_upto_region 4 with (first | (at_builtin; refine app1 elRb R1.o (kAH HEW.o FW1.o (fun k hk => (HSS.o k hk).1) i2) (by have := HN.o; simp; omega) dc (fun k hk => (HSS.o k hk).1) FW1.o.size FW1.o nr ?_; intro v2 w2 hr2 f2 kg; have R2 := hid hr2; have FW2 := hid f2; have KG := hid kg; clear hr2 f2 kg R1) | fail)
 replace G0 := hid (KG.o _ _ _ G0.o dc)
 replace G1 := hid (KG.o _ _ _ G1.o dc)
 clear KG FW1 FT1
 have FT2 := ftr F0 FW2.o
 obtain ⟨A', c', e2, l1, l2, E2⟩ := R2.o.els (S' := fun k => S k ∨ v2.ownBlock = some k) (fun _ h => .inl h) (fun g hg => .inr hg)
 have e3 : ([] ++ x.datas ++ [(⟨bs, false⟩ : Rb)]).length = x.datas.length + 1 := by simp
 have HR := hid (And.intro (And.intro l1 l2) (And.intro E2 (fun g (e : v2.ownBlock = some g) => R2.o.own e)))
 rw [e3] at e2
 subst e2
 clear R2 l1 l2 E2
 have y := G0.o.frozen 8
 have y' := G0.o.at_ HE8.o
 go_upto_region 5 with fail
 clear y y'
 obtain ⟨N0, N1, HL2, HO2⟩ := setf G0.o G1.o om H.o 8 (.slice A' (x.datas.length + 1) c') rfl
 go_wp2_with (first | refine ldX N0.o HL2.o ?_ | refine stX N1.o rfl HL2.o HO2.o ?_ | fail)
 exact ryes (rcore (x' := { x with datas := x.datas ++ [(⟨bs, false⟩ : Rb)] }) (t := tRb) (ys := [] ++ x.datas ++ [(⟨bs, false⟩ : Rb)]) (fun f hB l m e => kNF H.o f HS.o hB l m e) H.o FT2.o G0.o G1.o om HR.o e3 HSS.o (by have := FW2.o.size; omega) F0.o.size dc)
abbrev q8x0 (a0 a1 a2 a3 a4 a5 a6 a7 a8 a9 : Option Addr) (a10 : Md) (a11 a12 a13 a14 a15 a16 a17 a18 a19 a20 : Nat) : Array Value := #[.slice a0 a10.types.length a11, .slice a1 a10.imports.length a12, .slice a2 a10.funcs.length a13, .slice a3 a10.tables.length a14, .slice a4 a10.mems.length a15, .slice a5 a10.globals.length a16, .slice a6 a10.exports.length a17, .bool a10.hasStart, .int .i64 a10.start, .slice a7 a10.elems.length a18, .slice a8 a10.datas.length a19, .slice a9 a10.customs.length a20]
abbrev q8x2 (a0 a1 a2 a3 a4 a5 : Option Addr) (a6 : Ad) (a7 a8 a9 a10 a11 a12 : Nat) : Array Value := #[.slice a0 a6.funcs.length a7, .slice a1 a6.tables.length a8, .slice a2 a6.mems.length a9, .slice a3 a6.globals.length a10, .slice a4 a6.elems.length a11, .slice a5 a6.datas.length a12]
theorem kHZ {w : World} {S : Nat → Prop} {x : Rx} {cs : LV} (h : tRx.rd w S cs x) (hS : Lt S w) (m : Md) (d : Ad) {At Ai Af Ata Am Ag Ae Ael Ad Ac : OA} {ct ci cf cta cm cg ce cel cd cc : Nat} {Bf Bt Bm Bg Be Bd : OA} {df dt dm dg de dd : Nat} (he : tRi.rd w S [.slice At m.types.length ct, .slice Ai m.imports.length ci, .slice Af m.funcs.length cf, .slice Ata m.tables.length cta, .slice Am m.mems.length cm, .slice Ag m.globals.length cg, .slice Ae m.exports.length ce, .bool m.hasStart, .int .i64 m.start, .slice Ael m.elems.length cel, .slice Ad m.datas.length cd, .slice Ac m.customs.length cc, .slice Bf d.funcs.length df, .slice Bt d.tables.length dt, .slice Bm d.mems.length dm, .slice Bg d.globals.length dg, .slice Be d.elems.length de, .slice Bd d.datas.length dd] ⟨m, d⟩) (hi : x.insts.length < 16) (hn : x.insts.length ≤ 1000000) :
    Calls prog 125 #[.agg cs.toArray, .agg (q8x0 At Ai Af Ata Am Ag Ae Ael Ad Ac m ct ci cf cta cm cg ce cel cd cc), .agg (q8x2 Bf Bt Bm Bg Be Bd d df dt dm dg de dd)] w (RfTo S { x with insts := x.insts ++ [⟨m, d⟩] } (.int .i64 (x.insts.length : Nat)) w) := by
 obtain ⟨F0, G0, G1, G2, G3⟩ := bx2 w cs (q8x0 At Ai Af Ata Am Ag Ae Ael Ad Ac m ct ci cf cta cm cg ce cel cd cc) 71 (q8x2 Bf Bt Bm Bg Be Bd d df dt dm dg de dd) 73 z10 39
 obtain ⟨A9, c9, e9, -, -, E9⟩ := kFr h
 obtain ⟨css, hcs, hrd⟩ := kAY E9 hS
 have HC := hid (And.intro hcs hrd)
 have H := hid h
 have HS := hid hS
 have HE9 := hid e9
 have HE := hid he
 clear he
 have d1 : decide ((16 : Int) ≤ (x.insts.length : Int)) = false := by simp; omega
 clear hcs hrd h hS e9 E9
 have HN := hid hn
 go_enter func125, ntmps125
 have z := G0.o.at_ HE9.o
 go_upto_region 4 with fail
 generalize ((((w.alloc (.cells cs.toArray 39)).alloc (.cells (q8x0 At Ai Af Ata Am Ag Ae Ael Ad Ac m ct ci cf cta cm cg ce cel cd cc) 71)).alloc (.cells (q8x2 Bf Bt Bm Bg Be Bd d df dt dm dg de dd) 73)).alloc (.cells z10 39)) = W at *
 have HSS : Hid (∀ k, S k → k < W.heap.size ∧ ¬ k = w.heap.size ∧ ¬ k = w.heap.size + 1 + 1 + 1 ∧ (S k ∨ w.heap.size ≤ k)) := fun k hk => ⟨ltl (HS.o k hk) F0.o.size, by have := HS.o k hk; omega, by have := HS.o k hk; omega, .inl hk⟩
 have HCW := hid (And.intro ((HC.o.1.fr F0.o (fun k hk => ⟨HS.o k hk, fun x => x⟩))) (HC.o.2.frNo F0.o))
 have HEW := hid (kAH HE.o F0.o HS.o i2)
 go_upto_region 5 with (first | (at_builtin; refine app0 elRi HCW.o (by have := HN.o; omega) dc (fun k hk => (HSS.o k hk).1) ?_; intro v1 w1 hr1 f1; have R1 := hid hr1; have FW1 := hid f1; clear hr1 f1 HCW z) | fail)
 have FT1 := ftr F0 FW1.o
 replace G0 := hid (G0.o.fr FW1.o id)
 replace G1 := hid (G1.o.fr FW1.o id)
 replace G2 := hid (G2.o.fr FW1.o id)
 replace G3 := hid (G3.o.fr FW1.o id)
 have z0_0 := G1.o.cell 0
 have z0_1 := G1.o.cell 1
 have z0_2 := G1.o.cell 2
 have z0_3 := G1.o.cell 3
 have z0_4 := G1.o.cell 4
 have z0_5 := G1.o.cell 5
 have z0_6 := G1.o.cell 6
 have z0_7 := G1.o.cell 7
 have z0_8 := G1.o.cell 8
 have z0_9 := G1.o.cell 9
 have z0_10 := G1.o.cell 10
 have z0_11 := G1.o.cell 11
 have z1_0 := G2.o.cell 0
 have z1_1 := G2.o.cell 1
 have z1_2 := G2.o.cell 2
 have z1_3 := G2.o.cell 3
 have z1_4 := G2.o.cell 4
 have z1_5 := G2.o.cell 5
 go_upto_region 6 with (first | (at_builtin; refine app1 elRi R1.o (kAH HEW.o FW1.o (fun k hk => (HSS.o k hk).1) i2) (by have := HN.o; simp; omega) dc (fun k hk => (HSS.o k hk).1) FW1.o.size FW1.o nr ?_; intro v2 w2 hr2 f2 kg; have R2 := hid hr2; have FW2 := hid f2; have KG := hid kg; clear hr2 f2 kg R1) | fail)
 clear z0_0 z0_1 z0_2 z0_3 z0_4 z0_5 z0_6 z0_7 z0_8 z0_9 z0_10 z0_11 z1_0 z1_1 z1_2 z1_3 z1_4 z1_5
 replace G0 := hid (KG.o _ _ _ G0.o dc)
 replace G3 := hid (KG.o _ _ _ G3.o dc)
 clear KG FW1 FT1 G1 G2
 have FT2 := ftr F0 FW2.o
 obtain ⟨A', c', e2, l1, l2, E2⟩ := R2.o.els (S' := fun k => S k ∨ v2.ownBlock = some k) (fun _ h => .inl h) (fun g hg => .inr hg)
 have e3 : ([] ++ x.insts ++ [(⟨m, d⟩ : Ri)]).length = x.insts.length + 1 := by simp
 have HR := hid (And.intro (And.intro l1 l2) (And.intro E2 (fun g (e : v2.ownBlock = some g) => R2.o.own e)))
 rw [e3] at e2
 subst e2
 clear R2 l1 l2 E2
 have y := G0.o.frozen 9
 have y' := G0.o.at_ HE9.o
 go_upto_region 7 with fail
 clear y y'
 obtain ⟨N0, N1, HL2, HO2⟩ := setf G0.o G3.o om H.o 9 (.slice A' (x.insts.length + 1) c') rfl
 go_wp2_with (first | refine ldX N0.o HL2.o ?_ | refine stX N1.o rfl HL2.o HO2.o ?_ | fail)
 exact ryes (rcore (x' := { x with insts := x.insts ++ [(⟨m, d⟩ : Ri)] }) (t := tRi) (ys := [] ++ x.insts ++ [(⟨m, d⟩ : Ri)]) (fun f hB l m e => kOx H.o f HS.o hB l m e) H.o FT2.o G0.o G3.o om HR.o e3 HSS.o (by have := FW2.o.size; omega) F0.o.size dc)
theorem kIW {w : World} {S : Nat → Prop} {x : Rx} {cs : LV} (h : tRx.rd w S cs x) (hS : Lt S w) (m : Md) (d : Ad) {At Ai Af Ata Am Ag Ae Ael Ad Ac : OA} {ct ci cf cta cm cg ce cel cd cc : Nat} {Bf Bt Bm Bg Be Bd : OA} {df dt dm dg de dd : Nat} (hi : ¬ x.insts.length < 16) :
    Calls prog 125 #[.agg cs.toArray, .agg (q8x0 At Ai Af Ata Am Ag Ae Ael Ad Ac m ct ci cf cta cm cg ce cel cd cc), .agg (q8x2 Bf Bt Bm Bg Be Bd d df dt dm dg de dd)] w (RfTo S x (.int .i64 (-1)) w) := by
 obtain ⟨F0, G0, G1, G2, G3⟩ := bx2 w cs (q8x0 At Ai Af Ata Am Ag Ae Ael Ad Ac m ct ci cf cta cm cg ce cel cd cc) 71 (q8x2 Bf Bt Bm Bg Be Bd d df dt dm dg de dd) 73 z10 39
 have H := hid h
 have HS := hid hS
 have HCL := hid (rx_one h)
 have d1 : decide ((16 : Int) ≤ (x.insts.length : Int)) = true := by simp; omega
 clear h hS
 go_enter func125, ntmps125
 obtain ⟨A9, c9, e9, -⟩ := kFr H.o
 have z := G0.o.at_ e9
 clear e9
 go_upto_region 2 with fail
 generalize ((((w.alloc (.cells cs.toArray 39)).alloc (.cells (q8x0 At Ai Af Ata Am Ag Ae Ael Ad Ac m ct ci cf cta cm cg ce cel cd cc) 71)).alloc (.cells (q8x2 Bf Bt Bm Bg Be Bd d df dt dm dg de dd) 73)).alloc (.cells z10 39)) = W at *
 exact yy56
end Go.Proofs.YtdckghiipijobaaGreat
