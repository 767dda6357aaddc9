/- Part 4 of the proof: lemmas and contracts of functions. No condition. -/
import Derived.Test.YthggdemiddjlgaaGreatS3
import Derived.Test.YthggdemiddjlgaaGreatS1
set_option maxRecDepth 100000
set_option maxHeartbeats 12800000
set_option linter.unusedVariables false
set_option linter.unusedSimpArgs false
set_option linter.unusedSectionVars false
namespace Go.Proofs.YthggdemiddjlgaaGreat
open Go.RowKit Go.Proofs.Tryz
def Sd (w : World) (R : Nat → Prop) (k : Nat) : Prop := k < w.heap.size ∧ ¬ R k
theorem Sd.up {w w' : World} {R R' : Nat → Prop} (hs : w.heap.size ≤ w'.heap.size) (hR : ∀ k, k < w.heap.size → R' k → R k) {k : Nat} (h : Sd w R k) : Sd w' R' k :=
 ⟨ltl h.1 hs, fun r => h.2 (hR k h.1 r)⟩
theorem kAA {α : Type} {t : Ty α} [TyOk t] [TyMore t] {w w' : World} {R R' M : Nat → Prop} {e : TypeId} {v : Value} {xs : List α} (h : t.row w 0 (Sd w R) e v xs) (f : Fr M w w') (hM : ∀ k, k < w.heap.size → M k → R k)
    (hv : ∀ k, v.ownBlock = some k → ¬ M k) (hR : ∀ k, k < w.heap.size → R' k → R k) : t.row w' 0 (Sd w' R') e v xs :=
 (h.fr f (fun k hk => ⟨hk.1, fun m => hk.2 (hM k hk.1 m)⟩) hv).more nr (fun _ hk => hk.up f.size hR)
structure Pl where
 P : Nat
 ho : Value
 co : Value
 ca : Value
 fu : Value
 ta : Value
 me : Value
 gl : Value
 el : Value
 da : Value
 is : Value
 tp : List (Nat × Nat × Nat)
 mp : List (Nat × Nat × Nat)
def Pl.vs (V : Pl) : LV := [V.ho, V.co, V.ca, V.fu, V.ta, V.me, V.gl, V.el, V.da, V.is]
def Pl.own (V : Pl) (k : Nat) : Prop := k = V.P ∨ (∃ v ∈ V.vs, v.ownBlock = some k) ∨ (∃ t ∈ V.tp, k = t.1 ∨ k = t.2.1) ∨ (∃ t ∈ V.mp, k = t.1 ∨ k = t.2.1)
structure StIn (w : World) (R : Nat → Prop) (V : Pl) (x : Rx) : Prop where
 blk : Blk w V.P 181 #[V.ho, V.co, V.ca, V.fu, V.ta, V.me, V.gl, V.el, V.da, V.is]
 ho : tHo.row w 0 (Sd w R) 98 V.ho x.hosts
 co : tI.row w 0 (Sd w R) 3 V.co x.counts
 ca : tCa.row w 0 (Sd w R) 297 V.ca x.calls
 fu : tFi.row w 0 (Sd w R) 80 V.fu x.funcs
 ta : tPt.row w 0 (Sd w R) 128 V.ta (V.tp.map (·.1))
 me : tPt.row w 0 (Sd w R) 131 V.me (V.mp.map (·.1))
 gl : tRg.row w 0 (Sd w R) 188 V.gl x.globs
 el : tRs.row w 0 (Sd w R) 304 V.el x.elems
 da : tRb.row w 0 (Sd w R) 306 V.da x.datas
 is : tRi.row w 0 (Sd w R) 210 V.is x.insts
 tl : V.tp.length = x.tabs.length
 tat : ∀ (i : Nat) (z : Nat × Nat × Nat) (t : Rt), V.tp[i]? = some z → x.tabs[i]? = some t → TabAt w z.1 z.2.1 z.2.2 t.t.elem t.t.lim.min t.t.lim.max t.t.lim.has t.l
 tne : ∀ (i j : Nat) (a b : Nat × Nat × Nat), V.tp[i]? = some a → V.tp[j]? = some b → i ≠ j → a.1 ≠ b.1 ∧ a.2.1 ≠ b.2.1
 ml : V.mp.length = x.mems.length
 mat : ∀ (i : Nat) (z : Nat × Nat × Nat) (t : Rm), V.mp[i]? = some z → x.mems[i]? = some t → Mo w z.1 z.2.1 z.2.2 t.lim t.b
 mne : ∀ (i j : Nat) (a b : Nat × Nat × Nat), V.mp[i]? = some a → V.mp[j]? = some b → i ≠ j → a.1 ≠ b.1 ∧ a.2.1 ≠ b.2.1
 own : ∀ k, V.own k → R k
 low : ∀ k, R k → k < w.heap.size
def Bt (w : World) (k : Nat) (t : TypeId) : Prop := ∃ cs, Blk w k t cs
theorem Bt.ne {w : World} {a b : Nat} {t u : TypeId} (h : Bt w a t) (k : Bt w b u) (hne : t ≠ u) : a ≠ b := by
 obtain ⟨_, h⟩ := h
 obtain ⟨_, k⟩ := k
 exact h.ne_ k hne
theorem kAB {α : Type} {t : Ty α} {w : World} {base : Nat} {S : Nat → Prop} {e : TypeId} {v : Value} {xs : List α} (h : t.row w base S e v xs) {k : Nat} (hv : v.ownBlock = some k) : Bt w k e := (h.own hv).2
theorem Own.bk {w : World} {q c : Nat} {e : TypeId} {xs : LV} (h : Own w q e c xs) : Bt w q e := by obtain ⟨cur, hb, _⟩ := h.cur; exact ⟨cur, hb⟩
theorem kEi {α β : Type} {l : List α} {m : List β} (h : l.length = m.length) {a : α} (ha : a ∈ l) : ∃ (i : Nat) (b : β), l[i]? = some a ∧ m[i]? = some b := by
 obtain ⟨i, hi, rfl⟩ := List.getElem_of_mem ha
 exact ⟨i, m[i]'om, List.getElem?_eq_getElem hi, List.getElem?_eq_getElem om⟩
section
variable {M : Nat → Prop} {w w' : World} {R R' : Nat → Prop} {V : Pl} {x : Rx}
theorem StIn.tbk (h : StIn w R V x) {z : Nat × Nat × Nat} (hz : z ∈ V.tp) : Bt w z.1 202 ∧ Bt w z.2.1 82 := by
 obtain ⟨i, t, h1, h2⟩ := kEi h.tl hz
 have := h.tat i z t h1 h2
 exact ⟨⟨_, this.blk⟩, this.own.bk⟩
theorem StIn.mbk (h : StIn w R V x) {z : Nat × Nat × Nat} (hz : z ∈ V.mp) : Bt w z.1 206 ∧ Bt w z.2.1 5 := by
 obtain ⟨i, t, h1, h2⟩ := kEi h.ml hz
 have := h.mat i z t h1 h2
 exact ⟨⟨_, this.hp⟩, this.own.bk⟩
theorem StIn.kinds (h : StIn w R V x) {k : Nat} (hk : V.own k) : k = V.P ∧ Bt w k 181 ∨ V.ho.ownBlock = some k ∧ Bt w k 98 ∨ V.co.ownBlock = some k ∧ Bt w k 3 ∨ V.ca.ownBlock = some k ∧ Bt w k 297 ∨ V.fu.ownBlock = some k ∧ Bt w k 80 ∨ V.ta.ownBlock = some k ∧ Bt w k 128 ∨ V.me.ownBlock = some k ∧ Bt w k 131 ∨ V.gl.ownBlock = some k ∧ Bt w k 188 ∨ V.el.ownBlock = some k ∧ Bt w k 304 ∨ V.da.ownBlock = some k ∧ Bt w k 306 ∨ V.is.ownBlock = some k ∧ Bt w k 210 ∨ (∃ z ∈ V.tp, k = z.1 ∧ Bt w k 202 ∨ k = z.2.1 ∧ Bt w k 82) ∨ (∃ z ∈ V.mp, k = z.1 ∧ Bt w k 206 ∨ k = z.2.1 ∧ Bt w k 5) := by
 rcases hk with rfl | ⟨v, hv, hk⟩ | ⟨z, hz, hk⟩ | ⟨z, hz, hk⟩
 · exact .inl ⟨rfl, _, h.blk⟩
 · simp only [Pl.vs, List.mem_cons, List.not_mem_nil, or_false] at hv
   rcases hv with rfl | rfl | rfl | rfl | rfl | rfl | rfl | rfl | rfl | rfl
   · exact .inr (.inl ⟨hk, kAB h.ho hk⟩)
   · exact .inr (.inr (.inl ⟨hk, kAB h.co hk⟩))
   · exact .inr (.inr (.inr (.inl ⟨hk, kAB h.ca hk⟩)))
   · exact .inr (.inr (.inr (.inr (.inl ⟨hk, kAB h.fu hk⟩))))
   · exact .inr (.inr (.inr (.inr (.inr (.inl ⟨hk, kAB h.ta hk⟩)))))
   · exact .inr (.inr (.inr (.inr (.inr (.inr (.inl ⟨hk, kAB h.me hk⟩))))))
   · exact .inr (.inr (.inr (.inr (.inr (.inr (.inr (.inl ⟨hk, kAB h.gl hk⟩)))))))
   · exact .inr (.inr (.inr (.inr (.inr (.inr (.inr (.inr (.inl ⟨hk, kAB h.el hk⟩))))))))
   · exact .inr (.inr (.inr (.inr (.inr (.inr (.inr (.inr (.inr (.inl ⟨hk, kAB h.da hk⟩)))))))))
   exact .inr (.inr (.inr (.inr (.inr (.inr (.inr (.inr (.inr (.inr (.inl ⟨hk, kAB h.is hk⟩))))))))))
 · obtain ⟨h1, h2⟩ := h.tbk hz
   refine .inr (.inr (.inr (.inr (.inr (.inr (.inr (.inr (.inr (.inr (.inr (.inl ⟨z, hz, ?_⟩)))))))))))
   rcases hk with rfl | rfl
   · exact .inl ⟨rfl, h1⟩
   exact .inr ⟨rfl, h2⟩
 obtain ⟨h1, h2⟩ := h.mbk hz
 refine .inr (.inr (.inr (.inr (.inr (.inr (.inr (.inr (.inr (.inr (.inr (.inr (⟨z, hz, ?_⟩))))))))))))
 rcases hk with rfl | rfl
 · exact .inl ⟨rfl, h1⟩
 exact .inr ⟨rfl, h2⟩
theorem StIn.lt (h : StIn w R V x) {k : Nat} (hk : V.own k) : k < w.heap.size := by
 have := h.kinds hk
 rcases this with ⟨_, _, h⟩ | ⟨_, _, h⟩ | ⟨_, _, h⟩ | ⟨_, _, h⟩ | ⟨_, _, h⟩ | ⟨_, _, h⟩ | ⟨_, _, h⟩ | ⟨_, _, h⟩ | ⟨_, _, h⟩ | ⟨_, _, h⟩ | ⟨_, _, h⟩ | ⟨z, hz, ⟨_, _, h⟩ | ⟨_, _, h⟩⟩ | ⟨z, hz, ⟨_, _, h⟩ | ⟨_, _, h⟩⟩ <;> exact h.lt
theorem Pl.oP (V : Pl) : V.own V.P := .inl rfl
theorem Pl.o_ho {V : Pl} {k : Nat} (h : V.ho.ownBlock = some k) : V.own k := .inr (.inl ⟨V.ho, by simp [Pl.vs], h⟩)
theorem Pl.o_co {V : Pl} {k : Nat} (h : V.co.ownBlock = some k) : V.own k := .inr (.inl ⟨V.co, by simp [Pl.vs], h⟩)
theorem Pl.o_ca {V : Pl} {k : Nat} (h : V.ca.ownBlock = some k) : V.own k := .inr (.inl ⟨V.ca, by simp [Pl.vs], h⟩)
theorem Pl.o_fu {V : Pl} {k : Nat} (h : V.fu.ownBlock = some k) : V.own k := .inr (.inl ⟨V.fu, by simp [Pl.vs], h⟩)
theorem Pl.o_ta {V : Pl} {k : Nat} (h : V.ta.ownBlock = some k) : V.own k := .inr (.inl ⟨V.ta, by simp [Pl.vs], h⟩)
theorem Pl.o_me {V : Pl} {k : Nat} (h : V.me.ownBlock = some k) : V.own k := .inr (.inl ⟨V.me, by simp [Pl.vs], h⟩)
theorem Pl.o_gl {V : Pl} {k : Nat} (h : V.gl.ownBlock = some k) : V.own k := .inr (.inl ⟨V.gl, by simp [Pl.vs], h⟩)
theorem Pl.o_el {V : Pl} {k : Nat} (h : V.el.ownBlock = some k) : V.own k := .inr (.inl ⟨V.el, by simp [Pl.vs], h⟩)
theorem Pl.o_da {V : Pl} {k : Nat} (h : V.da.ownBlock = some k) : V.own k := .inr (.inl ⟨V.da, by simp [Pl.vs], h⟩)
theorem Pl.o_is {V : Pl} {k : Nat} (h : V.is.ownBlock = some k) : V.own k := .inr (.inl ⟨V.is, by simp [Pl.vs], h⟩)
theorem Pl.o_tp {V : Pl} {z : Nat × Nat × Nat} (h : z ∈ V.tp) : V.own z.1 ∧ V.own z.2.1 := ⟨.inr (.inr (.inl ⟨z, h, .inl rfl⟩)), .inr (.inr (.inl ⟨z, h, .inr rfl⟩))⟩
theorem Pl.o_mp {V : Pl} {z : Nat × Nat × Nat} (h : z ∈ V.mp) : V.own z.1 ∧ V.own z.2.1 := ⟨.inr (.inr (.inr ⟨z, h, .inl rfl⟩)), .inr (.inr (.inr ⟨z, h, .inr rfl⟩))⟩
theorem StIn.fr (h : StIn w R V x) (f : Fr M w w') (hM : ∀ k, k < w.heap.size → M k → R k ∧ ¬ V.own k) (hR : ∀ k, k < w.heap.size → R' k → R k) (hR2 : ∀ k, R k → R' k) (hR3 : ∀ k, R' k → k < w'.heap.size) : StIn w' R' V x where
 blk := h.blk.fr f (fun m => (hM _ h.blk.lt m).2 V.oP)
 ho := kAA h.ho f (fun k hk m => (hM k hk m).1) (fun k hk m => (hM k (h.lt (Pl.o_ho hk)) m).2 (Pl.o_ho hk)) hR
 co := kAA h.co f (fun k hk m => (hM k hk m).1) (fun k hk m => (hM k (h.lt (Pl.o_co hk)) m).2 (Pl.o_co hk)) hR
 ca := kAA h.ca f (fun k hk m => (hM k hk m).1) (fun k hk m => (hM k (h.lt (Pl.o_ca hk)) m).2 (Pl.o_ca hk)) hR
 fu := kAA h.fu f (fun k hk m => (hM k hk m).1) (fun k hk m => (hM k (h.lt (Pl.o_fu hk)) m).2 (Pl.o_fu hk)) hR
 ta := kAA h.ta f (fun k hk m => (hM k hk m).1) (fun k hk m => (hM k (h.lt (Pl.o_ta hk)) m).2 (Pl.o_ta hk)) hR
 me := kAA h.me f (fun k hk m => (hM k hk m).1) (fun k hk m => (hM k (h.lt (Pl.o_me hk)) m).2 (Pl.o_me hk)) hR
 gl := kAA h.gl f (fun k hk m => (hM k hk m).1) (fun k hk m => (hM k (h.lt (Pl.o_gl hk)) m).2 (Pl.o_gl hk)) hR
 el := kAA h.el f (fun k hk m => (hM k hk m).1) (fun k hk m => (hM k (h.lt (Pl.o_el hk)) m).2 (Pl.o_el hk)) hR
 da := kAA h.da f (fun k hk m => (hM k hk m).1) (fun k hk m => (hM k (h.lt (Pl.o_da hk)) m).2 (Pl.o_da hk)) hR
 is := kAA h.is f (fun k hk m => (hM k hk m).1) (fun k hk m => (hM k (h.lt (Pl.o_is hk)) m).2 (Pl.o_is hk)) hR
 tl := h.tl
 tat := fun i z t h1 h2 => by
  have o := Pl.o_tp (V := V) (List.mem_of_getElem? h1)
  exact (h.tat i z t h1 h2).fr f (fun m => (hM _ (h.lt o.1) m).2 o.1) (fun m => (hM _ (h.lt o.2) m).2 o.2)
 tne := h.tne
 ml := h.ml
 mat := fun i z t h1 h2 => by
  have o := Pl.o_mp (V := V) (List.mem_of_getElem? h1)
  exact (h.mat i z t h1 h2).fr f (fun m => (hM _ (h.lt o.1) m).2 o.1) (fun m => (hM _ (h.lt o.2) m).2 o.2)
 mne := h.mne
 own := fun k hk => hR2 k (h.own k hk)
 low := hR3
theorem StIn.frNo (h : StIn w R V x) (f : Fr No w w') : StIn w' R V x := h.fr f (fun _ _ m => m.elim) i3 i2 (fun k hk => ltl (h.low k hk) f.size)
end
theorem StIn.put_ca {w w' : World} {R R' : Nat → Prop} {V : Pl} {x : Rx} {v' : Value} {xs : List Ca} (h : StIn w R V x) (f : Fr (fun k => k = V.P ∨ V.ca.ownBlock = some k) w w') (hb : Blk w' V.P 181 #[V.ho, V.co, v', V.fu, V.ta, V.me, V.gl, V.el, V.da, V.is])
    (hrow : tCa.row w' 0 (Sd w' R') 297 v' xs) (hv : ∀ k, v'.ownBlock = some k → R' k) (hR : ∀ k, k < w.heap.size → R' k → R k) (hR2 : ∀ k, R k → R' k) (hR3 : ∀ k, R' k → k < w'.heap.size) : StIn w' R' { V with ca := v' } { x with calls := xs } := by
 have hM : ∀ k, k < w.heap.size → (k = V.P ∨ V.ca.ownBlock = some k) → R k := fun k _ m => h.own k (m.elim (fun e => e ▸ V.oP) Pl.o_ca)
 have nP : ∀ {k t}, Bt w k t → t ≠ 181 → t ≠ 297 → ¬ (k = V.P ∨ V.ca.ownBlock = some k) := fun hk h1 h2 m => m.elim (fun e => Bt.ne hk ⟨_, h.blk⟩ h1 e) (fun e => Bt.ne hk (kAB h.ca e) h2 rfl)
 constructor
 case blk => exact hb
 case ho => exact kAA h.ho f hM (fun k hk => nP (kAB h.ho hk) dc dc) hR
 case co => exact kAA h.co f hM (fun k hk => nP (kAB h.co hk) dc dc) hR
 case ca => exact hrow
 case fu => exact kAA h.fu f hM (fun k hk => nP (kAB h.fu hk) dc dc) hR
 case ta => exact kAA h.ta f hM (fun k hk => nP (kAB h.ta hk) dc dc) hR
 case me => exact kAA h.me f hM (fun k hk => nP (kAB h.me hk) dc dc) hR
 case gl => exact kAA h.gl f hM (fun k hk => nP (kAB h.gl hk) dc dc) hR
 case el => exact kAA h.el f hM (fun k hk => nP (kAB h.el hk) dc dc) hR
 case da => exact kAA h.da f hM (fun k hk => nP (kAB h.da hk) dc dc) hR
 case is => exact kAA h.is f hM (fun k hk => nP (kAB h.is hk) dc dc) hR
 case tl => exact h.tl
 case tat =>
  exact yy22
 case tne => exact h.tne
 case ml => exact h.ml
 case mat =>
  exact yy23
 case mne => exact h.mne
 case low => exact hR3
 rintro k (hk | ⟨v, hv1, hk⟩ | hk | hk)
 · exact hR2 k (h.own k (.inl hk))
 · simp only [Pl.vs, List.mem_cons, List.not_mem_nil, or_false] at hv1
   rcases hv1 with rfl | rfl | rfl | rfl | rfl | rfl | rfl | rfl | rfl | rfl
   · exact hR2 k (h.own k (Pl.o_ho hk))
   · exact hR2 k (h.own k (Pl.o_co hk))
   · exact hv k hk
   · exact hR2 k (h.own k (Pl.o_fu hk))
   · exact hR2 k (h.own k (Pl.o_ta hk))
   · exact hR2 k (h.own k (Pl.o_me hk))
   · exact hR2 k (h.own k (Pl.o_gl hk))
   · exact hR2 k (h.own k (Pl.o_el hk))
   · exact hR2 k (h.own k (Pl.o_da hk))
   exact hR2 k (h.own k (Pl.o_is hk))
 · exact hR2 k (h.own k (.inr (.inr (.inl hk))))
 exact hR2 k (h.own k (.inr (.inr (.inr hk))))
theorem StIn.put_fu {w w' : World} {R R' : Nat → Prop} {V : Pl} {x : Rx} {v' : Value} {xs : List Fi} (h : StIn w R V x) (f : Fr (fun k => k = V.P ∨ V.fu.ownBlock = some k) w w') (hb : Blk w' V.P 181 #[V.ho, V.co, V.ca, v', V.ta, V.me, V.gl, V.el, V.da, V.is])
    (hrow : tFi.row w' 0 (Sd w' R') 80 v' xs) (hv : ∀ k, v'.ownBlock = some k → R' k) (hR : ∀ k, k < w.heap.size → R' k → R k) (hR2 : ∀ k, R k → R' k) (hR3 : ∀ k, R' k → k < w'.heap.size) : StIn w' R' { V with fu := v' } { x with funcs := xs } := by
 have hM : ∀ k, k < w.heap.size → (k = V.P ∨ V.fu.ownBlock = some k) → R k := fun k _ m => h.own k (m.elim (fun e => e ▸ V.oP) Pl.o_fu)
 have nP : ∀ {k t}, Bt w k t → t ≠ 181 → t ≠ 80 → ¬ (k = V.P ∨ V.fu.ownBlock = some k) := fun hk h1 h2 m => m.elim (fun e => Bt.ne hk ⟨_, h.blk⟩ h1 e) (fun e => Bt.ne hk (kAB h.fu e) h2 rfl)
 constructor
 case blk => exact hb
 case ho => exact kAA h.ho f hM (fun k hk => nP (kAB h.ho hk) dc dc) hR
 case co => exact kAA h.co f hM (fun k hk => nP (kAB h.co hk) dc dc) hR
 case ca => exact kAA h.ca f hM (fun k hk => nP (kAB h.ca hk) dc dc) hR
 case fu => exact hrow
 case ta => exact kAA h.ta f hM (fun k hk => nP (kAB h.ta hk) dc dc) hR
 case me => exact kAA h.me f hM (fun k hk => nP (kAB h.me hk) dc dc) hR
 case gl => exact kAA h.gl f hM (fun k hk => nP (kAB h.gl hk) dc dc) hR
 case el => exact kAA h.el f hM (fun k hk => nP (kAB h.el hk) dc dc) hR
 case da => exact kAA h.da f hM (fun k hk => nP (kAB h.da hk) dc dc) hR
 case is => exact kAA h.is f hM (fun k hk => nP (kAB h.is hk) dc dc) hR
 case tl => exact h.tl
 case tat =>
  exact yy22
 case tne => exact h.tne
 case ml => exact h.ml
 case mat =>
  exact yy23
 case mne => exact h.mne
 case low => exact hR3
 rintro k (hk | ⟨v, hv1, hk⟩ | hk | hk)
 · exact hR2 k (h.own k (.inl hk))
 · simp only [Pl.vs, List.mem_cons, List.not_mem_nil, or_false] at hv1
   rcases hv1 with rfl | rfl | rfl | rfl | rfl | rfl | rfl | rfl | rfl | rfl
   · exact hR2 k (h.own k (Pl.o_ho hk))
   · exact hR2 k (h.own k (Pl.o_co hk))
   · exact hR2 k (h.own k (Pl.o_ca hk))
   · exact hv k hk
   · exact hR2 k (h.own k (Pl.o_ta hk))
   · exact hR2 k (h.own k (Pl.o_me hk))
   · exact hR2 k (h.own k (Pl.o_gl hk))
   · exact hR2 k (h.own k (Pl.o_el hk))
   · exact hR2 k (h.own k (Pl.o_da hk))
   exact hR2 k (h.own k (Pl.o_is hk))
 · exact hR2 k (h.own k (.inr (.inr (.inl hk))))
 exact hR2 k (h.own k (.inr (.inr (.inr hk))))
theorem StIn.put_gl {w w' : World} {R R' : Nat → Prop} {V : Pl} {x : Rx} {v' : Value} {xs : List Rg} (h : StIn w R V x) (f : Fr (fun k => k = V.P ∨ V.gl.ownBlock = some k) w w') (hb : Blk w' V.P 181 #[V.ho, V.co, V.ca, V.fu, V.ta, V.me, v', V.el, V.da, V.is])
    (hrow : tRg.row w' 0 (Sd w' R') 188 v' xs) (hv : ∀ k, v'.ownBlock = some k → R' k) (hR : ∀ k, k < w.heap.size → R' k → R k) (hR2 : ∀ k, R k → R' k) (hR3 : ∀ k, R' k → k < w'.heap.size) : StIn w' R' { V with gl := v' } { x with globs := xs } := by
 have hM : ∀ k, k < w.heap.size → (k = V.P ∨ V.gl.ownBlock = some k) → R k := fun k _ m => h.own k (m.elim (fun e => e ▸ V.oP) Pl.o_gl)
 have nP : ∀ {k t}, Bt w k t → t ≠ 181 → t ≠ 188 → ¬ (k = V.P ∨ V.gl.ownBlock = some k) := fun hk h1 h2 m => m.elim (fun e => Bt.ne hk ⟨_, h.blk⟩ h1 e) (fun e => Bt.ne hk (kAB h.gl e) h2 rfl)
 constructor
 case blk => exact hb
 case ho => exact kAA h.ho f hM (fun k hk => nP (kAB h.ho hk) dc dc) hR
 case co => exact kAA h.co f hM (fun k hk => nP (kAB h.co hk) dc dc) hR
 case ca => exact kAA h.ca f hM (fun k hk => nP (kAB h.ca hk) dc dc) hR
 case fu => exact kAA h.fu f hM (fun k hk => nP (kAB h.fu hk) dc dc) hR
 case ta => exact kAA h.ta f hM (fun k hk => nP (kAB h.ta hk) dc dc) hR
 case me => exact kAA h.me f hM (fun k hk => nP (kAB h.me hk) dc dc) hR
 case gl => exact hrow
 case el => exact kAA h.el f hM (fun k hk => nP (kAB h.el hk) dc dc) hR
 case da => exact kAA h.da f hM (fun k hk => nP (kAB h.da hk) dc dc) hR
 case is => exact kAA h.is f hM (fun k hk => nP (kAB h.is hk) dc dc) hR
 case tl => exact h.tl
 case tat =>
  exact yy22
 case tne => exact h.tne
 case ml => exact h.ml
 case mat =>
  exact yy23
 case mne => exact h.mne
 case low => exact hR3
 rintro k (hk | ⟨v, hv1, hk⟩ | hk | hk)
 · exact hR2 k (h.own k (.inl hk))
 · simp only [Pl.vs, List.mem_cons, List.not_mem_nil, or_false] at hv1
   rcases hv1 with rfl | rfl | rfl | rfl | rfl | rfl | rfl | rfl | rfl | rfl
   · exact hR2 k (h.own k (Pl.o_ho hk))
   · exact hR2 k (h.own k (Pl.o_co hk))
   · exact hR2 k (h.own k (Pl.o_ca hk))
   · exact hR2 k (h.own k (Pl.o_fu hk))
   · exact hR2 k (h.own k (Pl.o_ta hk))
   · exact hR2 k (h.own k (Pl.o_me hk))
   · exact hv k hk
   · exact hR2 k (h.own k (Pl.o_el hk))
   · exact hR2 k (h.own k (Pl.o_da hk))
   exact hR2 k (h.own k (Pl.o_is hk))
 · exact hR2 k (h.own k (.inr (.inr (.inl hk))))
 exact hR2 k (h.own k (.inr (.inr (.inr hk))))
theorem StIn.put_is {w w' : World} {R R' : Nat → Prop} {V : Pl} {x : Rx} {v' : Value} {xs : List Ri} (h : StIn w R V x) (f : Fr (fun k => k = V.P ∨ V.is.ownBlock = some k) w w') (hb : Blk w' V.P 181 #[V.ho, V.co, V.ca, V.fu, V.ta, V.me, V.gl, V.el, V.da, v'])
    (hrow : tRi.row w' 0 (Sd w' R') 210 v' xs) (hv : ∀ k, v'.ownBlock = some k → R' k) (hR : ∀ k, k < w.heap.size → R' k → R k) (hR2 : ∀ k, R k → R' k) (hR3 : ∀ k, R' k → k < w'.heap.size) : StIn w' R' { V with is := v' } { x with insts := xs } := by
 have hM : ∀ k, k < w.heap.size → (k = V.P ∨ V.is.ownBlock = some k) → R k := fun k _ m => h.own k (m.elim (fun e => e ▸ V.oP) Pl.o_is)
 have nP : ∀ {k t}, Bt w k t → t ≠ 181 → t ≠ 210 → ¬ (k = V.P ∨ V.is.ownBlock = some k) := fun hk h1 h2 m => m.elim (fun e => Bt.ne hk ⟨_, h.blk⟩ h1 e) (fun e => Bt.ne hk (kAB h.is e) h2 rfl)
 constructor
 case blk => exact hb
 case ho => exact kAA h.ho f hM (fun k hk => nP (kAB h.ho hk) dc dc) hR
 case co => exact kAA h.co f hM (fun k hk => nP (kAB h.co hk) dc dc) hR
 case ca => exact kAA h.ca f hM (fun k hk => nP (kAB h.ca hk) dc dc) hR
 case fu => exact kAA h.fu f hM (fun k hk => nP (kAB h.fu hk) dc dc) hR
 case ta => exact kAA h.ta f hM (fun k hk => nP (kAB h.ta hk) dc dc) hR
 case me => exact kAA h.me f hM (fun k hk => nP (kAB h.me hk) dc dc) hR
 case gl => exact kAA h.gl f hM (fun k hk => nP (kAB h.gl hk) dc dc) hR
 case el => exact kAA h.el f hM (fun k hk => nP (kAB h.el hk) dc dc) hR
 case da => exact kAA h.da f hM (fun k hk => nP (kAB h.da hk) dc dc) hR
 case is => exact hrow
 case tl => exact h.tl
 case tat =>
  exact yy22
 case tne => exact h.tne
 case ml => exact h.ml
 case mat =>
  exact yy23
 case mne => exact h.mne
 case low => exact hR3
 rintro k (hk | ⟨v, hv1, hk⟩ | hk | hk)
 · exact hR2 k (h.own k (.inl hk))
 · simp only [Pl.vs, List.mem_cons, List.not_mem_nil, or_false] at hv1
   rcases hv1 with rfl | rfl | rfl | rfl | rfl | rfl | rfl | rfl | rfl | rfl
   · exact hR2 k (h.own k (Pl.o_ho hk))
   · exact hR2 k (h.own k (Pl.o_co hk))
   · exact hR2 k (h.own k (Pl.o_ca hk))
   · exact hR2 k (h.own k (Pl.o_fu hk))
   · exact hR2 k (h.own k (Pl.o_ta hk))
   · exact hR2 k (h.own k (Pl.o_me hk))
   · exact hR2 k (h.own k (Pl.o_gl hk))
   · exact hR2 k (h.own k (Pl.o_el hk))
   · exact hR2 k (h.own k (Pl.o_da hk))
   exact hv k hk
 · exact hR2 k (h.own k (.inr (.inr (.inl hk))))
 exact hR2 k (h.own k (.inr (.inr (.inr hk))))
structure AddIn {α : Type} (t : Ty α) (el : TypeId) (w : World) (P off : Nat) (S : Nat → Prop) (v : Value) (xs : List α) (cs : LV) (x : α) : Prop where
 cell : w.cell? ⟨P, off, none⟩ = some v
 fz : w.frozen? ⟨P, off, none⟩ = false
 row : t.row w 0 S el v xs
 rd : t.rd w S cs x
 lt : ∀ k, S k → k < w.heap.size
 own : ∀ k, S k → v.ownBlock ≠ some k ∧ k ≠ P
 ne : v.ownBlock ≠ some P
 len : xs.length ≤ 1000000
def kAa {α : Type} (t : Ty α) (el : TypeId) (P off : Nat) (S : Nat → Prop) (v : Value) (xs : List α) (x : α) (w : World) (e : Ending) (w' : World) : Prop :=
 ∃ v', e = .returned (.int .i64 xs.length) ∧ t.row w' 0 S el v' (xs ++ [x]) ∧ Fr (fun k => k = P ∨ v.ownBlock = some k) w w' ∧ (∀ T cs, Blk w P T cs → Blk w' P T (cs.setIfInBounds off v')) ∧
  (∀ k, v'.ownBlock = some k → v.ownBlock = some k ∨ w.heap.size ≤ k ∧ k < w'.heap.size)
theorem AddIn.fr {α : Type} {t : Ty α} [TyOk t] {el : TypeId} {w w' : World} {P off : Nat} {S : Nat → Prop} {v : Value} {xs : List α} {cs : LV} {x : α} (h : AddIn t el w P off S v xs cs x) (f : Fr No w w') : AddIn t el w' P off S v xs cs x where
 cell := (f.cell (p := ⟨P, off, none⟩) (World.block_lt_of_cell? w _ h.cell) id).trans h.cell
 fz := (f.frozen (p := ⟨P, off, none⟩) (World.block_lt_of_cell? w _ h.cell) id).trans h.fz
 row := h.row.fr f (fun k hk => ⟨h.lt k hk, fun x => x⟩) (fun _ _ x => x)
 rd := TyOk.keep _ _ _ _ _ h.rd (fun p hp => f.cell (h.lt _ hp) id)
 lt := fun k hk => ltl (h.lt k hk) f.size
 own := h.own
 ne := h.ne
 len := h.len
theorem wrap64_len {n : Nat} (h : n ≤ 1000000) : wrap64 (n : Int) = n := by simp only [wrap64]; omega
theorem blk_gone {w w' : World} {P : Nat} {T : TypeId} {cs : Array Value} {off : Nat} {v : Value} (h : Blk w P T cs) (f : Fr (fun k => some k = v.ownBlock) w w') (hn : v.ownBlock ≠ some P) (u : Value) : Blk (w'.setCell ⟨P, off, none⟩ u) P T (cs.setIfInBounds off u) :=
 (h.fr f (fun e => hn e.symm)).set_ off u
theorem kGE (P off : Nat) (S : Nat → Prop) (v : Value) (xs : List Rg) (cs : LV) (x : Rg) (w : World) (h : AddIn tRg 188 w P off S v xs cs x) :
    Calls prog 52 #[.pointer (some ⟨P, off, none⟩), .agg cs.toArray] w (kAa tRg 188 P off S v xs x w) := by
 obtain ⟨rfl, _, _, _⟩ := kCc h.rd
 have HA := hid h
 have F0 := hid ((Fr.refl No w).alloc (.cells #[.int .i64 x.t.val, .bool x.t.mut_, .int .i64 x.v.t, .int .u64 x.v.n] 188))
 have G0 := hid (Blk.new w 188 #[.int .i64 x.t.val, .bool x.t.mut_, .int .i64 x.v.t, .int .u64 x.v.n])
 have hPl := World.block_lt_of_cell? w _ h.cell
 have hPl : P < w.heap.size := hPl
 clear h
 go_enter func52, ntmps52
 go_wp2
 generalize w.alloc (.cells #[.int .i64 x.t.val, .bool x.t.mut_, .int .i64 x.v.t, .int .u64 x.v.n] 188) = W at *
 have HI := hid (HA.o.fr F0.o)
 have hgW := G0.o.lt
 have HX : Hid (∀ X, Fr No W X → Ce X P off v ∧ Ce X w.heap.size 0 (.int .i64 x.t.val) ∧ Ce X w.heap.size 1 (.bool x.t.mut_) ∧ Ce X w.heap.size 2 (.int .i64 x.v.t) ∧ Ce X w.heap.size 3 (.int .u64 x.v.n)) := fun X f => ⟨(f.cell (p := ⟨P, off, none⟩) (Nat.lt_trans hPl hgW) id).trans HI.o.cell, (G0.o.fr f id).cell 0, (G0.o.fr f id).cell 1, (G0.o.fr f id).cell 2, (G0.o.fr f id).cell 3⟩
 obtain ⟨g, hg⟩ : ∃ g, g = w.heap.size := ⟨_, rfl⟩
 have HG := hid hg
 rw [← hg] at HX hgW ⊢
 have hPg : P < g := om
 clear hg
 refine rwO (fun X => Ce X P off v ∧ Ce X g 0 (.int .i64 x.t.val) ∧ Ce X g 1 (.bool x.t.mut_) ∧ Ce X g 2 (.int .i64 x.v.t) ∧ Ce X g 3 (.int .u64 x.v.n)) [10] (List.range 11) [6, 7, 10] (HX.o _ (Fr.refl _ _).drew) ?_
 refine rC ?_
 refine wpO_eff rfl rfl fun K hK => sz ?_
 have F1 := hid ((Fr.refl No W).alloc (.cells #[.int .i64 x.t.val, .bool x.t.mut_, .int .i64 x.v.t, .int .u64 x.v.n] 188)).drew
 have G1 := hid (Blk.new W 188 #[.int .i64 x.t.val, .bool x.t.mut_, .int .i64 x.v.t, .int .u64 x.v.n]).drew
 refine hK _ _ (fun _ => HX.o _ F1.o) ?_
 clear hK K
 generalize (W.alloc (.cells #[.int .i64 x.t.val, .bool x.t.mut_, .int .i64 x.v.t, .int .u64 x.v.n] 188)).drew = W1 at *
 have HJ := hid (HI.o.fr F1.o)
 refine rC ?_
 refine wpO_eff rfl rfl (fun K hK => ?_)
 simp only [zA]
 refine kBV (t := tRg) (P := prog) (base := 0) (S := S) (v := v) (xs := xs) (ys := [x]) (dss := [[.int .i64 x.t.val, .bool x.t.mut_, .int .i64 x.v.t, .int .u64 x.v.n]]) (B2 := W1.heap.size) elGg rfl rfl rfl HJ.o.row (Css.one HJ.o.rd) (Rd.blk G1.o G1.o.lt 0 (fun k u hu => by rw [Nat.zero_add]; simpa using hu)) rfl (by have := HJ.o.len; simp; omega) (by have := HJ.o.len; simp; omega) (fun k hk => ⟨HJ.o.lt k hk, fun e => (HJ.o.own k hk).1 e.symm⟩) nz ?_
 intro v1 w1 hr1 fr1 hv1
 have gw1 : W.heap.size < W1.heap.size := G1.o.lt
 have FR := hid fr1
 have R1 := hid hr1
 have hvl : ∀ k, v1.ownBlock = some k → v.ownBlock = some k ∨ w.heap.size ≤ k ∧ k < w1.heap.size := fun k hk => by
  exact yy19
 have HV := hid hvl
 have HC : Hid (∀ X, Fr (fun k => some k = v.ownBlock) W1 X → Ce X P off v ∧ Ce X g 0 (.int .i64 x.t.val) ∧ Ce X g 1 (.bool x.t.mut_) ∧ Ce X g 2 (.int .i64 x.v.t) ∧ Ce X g 3 (.int .u64 x.v.n)) := fun X f => by
  exact yy13
 exact yy1
abbrev q4x0 (a0 a1 : Option Addr) (a2 : Fi) (a3 a4 : Nat) : Array Value := #[.slice a0 a2.ty.params.length a3, .slice a1 a2.ty.results.length a4, .int .i64 a2.inst, .int .i64 a2.index]
theorem addFi_any (P off : Nat) (S : Nat → Prop) (v : Value) (xs : List Fi) (cs : LV) (x : Fi) (w : World) (h : AddIn tFi 80 w P off S v xs cs x) :
    Calls prog 59 #[.pointer (some ⟨P, off, none⟩), .agg cs.toArray] w (kAa tFi 80 P off S v xs x w) := by
 obtain ⟨Aty_params, cty_params, Aty_results, cty_results, rfl, _, _, _, _, _, _, _, _⟩ := kCe h.rd
 have HA := hid h
 have F0 := hid ((Fr.refl No w).alloc (.cells (q4x0 Aty_params Aty_results x cty_params cty_results) 80))
 have G0 := hid (Blk.new w 80 (q4x0 Aty_params Aty_results x cty_params cty_results))
 have hPl := World.block_lt_of_cell? w _ h.cell
 have hPl : P < w.heap.size := hPl
 clear h
 go_enter func59, ntmps59
 go_wp2
 generalize w.alloc (.cells (q4x0 Aty_params Aty_results x cty_params cty_results) 80) = W at *
 have HI := hid (HA.o.fr F0.o)
 have hgW := G0.o.lt
 have HX : Hid (∀ X, Fr No W X → Ce X P off v ∧ Ce X w.heap.size 0 (.slice Aty_params x.ty.params.length cty_params) ∧ Ce X w.heap.size 1 (.slice Aty_results x.ty.results.length cty_results) ∧ Ce X w.heap.size 2 (.int .i64 x.inst) ∧ Ce X w.heap.size 3 (.int .i64 x.index)) := fun X f => ⟨(f.cell (p := ⟨P, off, none⟩) (Nat.lt_trans hPl hgW) id).trans HI.o.cell, (G0.o.fr f id).cell 0, (G0.o.fr f id).cell 1, (G0.o.fr f id).cell 2, (G0.o.fr f id).cell 3⟩
 obtain ⟨g, hg⟩ : ∃ g, g = w.heap.size := ⟨_, rfl⟩
 have HG := hid hg
 rw [← hg] at HX hgW ⊢
 have hPg : P < g := om
 clear hg
 refine rwO (fun X => Ce X P off v ∧ Ce X g 0 (.slice Aty_params x.ty.params.length cty_params) ∧ Ce X g 1 (.slice Aty_results x.ty.results.length cty_results) ∧ Ce X g 2 (.int .i64 x.inst) ∧ Ce X g 3 (.int .i64 x.index)) [10] (List.range 11) [6, 7, 10] (HX.o _ (Fr.refl _ _).drew) ?_
 refine rC ?_
 refine wpO_eff rfl rfl fun K hK => sz ?_
 have F1 := hid ((Fr.refl No W).alloc (.cells (q4x0 Aty_params Aty_results x cty_params cty_results) 80)).drew
 have G1 := hid (Blk.new W 80 (q4x0 Aty_params Aty_results x cty_params cty_results)).drew
 refine hK _ _ (fun _ => HX.o _ F1.o) ?_
 clear hK K
 generalize (W.alloc (.cells (q4x0 Aty_params Aty_results x cty_params cty_results) 80)).drew = W1 at *
 have HJ := hid (HI.o.fr F1.o)
 refine rC ?_
 refine wpO_eff rfl rfl (fun K hK => ?_)
 simp only [zA]
 refine kBV (t := tFi) (P := prog) (base := 0) (S := S) (v := v) (xs := xs) (ys := [x]) (dss := [[.slice Aty_params x.ty.params.length cty_params, .slice Aty_results x.ty.results.length cty_results, .int .i64 x.inst, .int .i64 x.index]]) (B2 := W1.heap.size) elFi rfl rfl rfl HJ.o.row (Css.one HJ.o.rd) (Rd.blk G1.o G1.o.lt 0 (fun k u hu => by rw [Nat.zero_add]; simpa using hu)) rfl (by have := HJ.o.len; simp; omega) (by have := HJ.o.len; simp; omega) (fun k hk => ⟨HJ.o.lt k hk, fun e => (HJ.o.own k hk).1 e.symm⟩) nz ?_
 intro v1 w1 hr1 fr1 hv1
 have gw1 : W.heap.size < W1.heap.size := G1.o.lt
 have FR := hid fr1
 have R1 := hid hr1
 have hvl : ∀ k, v1.ownBlock = some k → v.ownBlock = some k ∨ w.heap.size ≤ k ∧ k < w1.heap.size := fun k hk => by
  exact yy19
 have HV := hid hvl
 have HC : Hid (∀ X, Fr (fun k => some k = v.ownBlock) W1 X → Ce X P off v ∧ Ce X g 0 (.slice Aty_params x.ty.params.length cty_params) ∧ Ce X g 1 (.slice Aty_results x.ty.results.length cty_results) ∧ Ce X g 2 (.int .i64 x.inst) ∧ Ce X g 3 (.int .i64 x.index)) := fun X f => by
  exact yy13
 exact yy1
theorem kFQ (P off : Nat) (S : Nat → Prop) (v : Value) (xs : List Nat) (x : Nat) (w : World) (h : AddIn tPt 128 w P off S v xs [.pointer (some ⟨x, 0, none⟩)] x) :
    Calls prog 61 #[.pointer (some ⟨P, off, none⟩), .pointer (some ⟨x, 0, none⟩)] w (kAa tPt 128 P off S v xs x w) := by
 have HA := hid h
 have F0 := hid ((Fr.refl No w).alloc (.cells #[.pointer (some ⟨x, 0, none⟩)] 128))
 have G0 := hid (Blk.new w 128 #[.pointer (some ⟨x, 0, none⟩)])
 have hPl : P < w.heap.size := World.block_lt_of_cell? w _ h.cell
 have HJ := hid (h.fr F0.o)
 have z0 := h.cell
 clear h
 go_enter func61, ntmps61
 go_wp2_with (at_builtin; refine kAK (t := tPt) (P := prog) (base := 0) (S := S) (v := v) (xs := xs) (ys := [x]) (dss := [[.pointer (some ⟨x, 0, none⟩)]]) (B2 := (w.alloc (.cells #[.pointer (some ⟨x, 0, none⟩)] 128)).heap.size) kIc rfl rfl rfl rfl HJ.o.row (Css.one HJ.o.rd) (Rd.blk G0.o G0.o.lt 0 (fun k u hu => by rw [Nat.zero_add]; simpa using hu)) rfl (by have := HJ.o.len; simp; omega) (by have := HJ.o.len; simp; omega) (fun k hk => ⟨HJ.o.lt k hk, fun e => (HJ.o.own k hk).1 e.symm⟩) nz ?_; intro v1 w1 hr1 fr1 hv1; have FR := hid fr1; have R1 := hid hr1; have HV := hid hv1; clear hr1 fr1 hv1; obtain ⟨A1, k1, e1, hk1, hm1, _⟩ := R1.o.els (S' := fun _ => True) tvv tvv; subst e1; rw [show (xs ++ [x]).length = xs.length + 1 by simp] at R1 HV; have y0 : w1.cell? ⟨P, off, none⟩ = some v := (FR.o.cell (p := ⟨P, off, none⟩) (ltl hPl F0.o.size) (fun e => HA.o.ne e.symm)).trans HJ.o.cell; have y1 : w1.frozen? ⟨P, off, none⟩ = false := (FR.o.frozen (p := ⟨P, off, none⟩) (ltl hPl F0.o.size) (fun e => HA.o.ne e.symm)).trans HJ.o.fz)
 go_ret
 have := HJ.o.len
 have gw1 : w.heap.size < (w.alloc (.cells #[.pointer (some ⟨x, 0, none⟩)] 128)).heap.size := G0.o.lt
 exact yy9
theorem kFR (P off : Nat) (S : Nat → Prop) (v : Value) (xs : List Nat) (x : Nat) (w : World) (h : AddIn tPt 131 w P off S v xs [.pointer (some ⟨x, 0, none⟩)] x) :
    Calls prog 54 #[.pointer (some ⟨P, off, none⟩), .pointer (some ⟨x, 0, none⟩)] w (kAa tPt 131 P off S v xs x w) := by
 have HA := hid h
 have F0 := hid ((Fr.refl No w).alloc (.cells #[.pointer (some ⟨x, 0, none⟩)] 131))
 have G0 := hid (Blk.new w 131 #[.pointer (some ⟨x, 0, none⟩)])
 have hPl : P < w.heap.size := World.block_lt_of_cell? w _ h.cell
 have HJ := hid (h.fr F0.o)
 have z0 := h.cell
 clear h
 go_enter func54, ntmps54
 go_wp2_with (at_builtin; refine kAK (t := tPt) (P := prog) (base := 0) (S := S) (v := v) (xs := xs) (ys := [x]) (dss := [[.pointer (some ⟨x, 0, none⟩)]]) (B2 := (w.alloc (.cells #[.pointer (some ⟨x, 0, none⟩)] 131)).heap.size) kId rfl rfl rfl rfl HJ.o.row (Css.one HJ.o.rd) (Rd.blk G0.o G0.o.lt 0 (fun k u hu => by rw [Nat.zero_add]; simpa using hu)) rfl (by have := HJ.o.len; simp; omega) (by have := HJ.o.len; simp; omega) (fun k hk => ⟨HJ.o.lt k hk, fun e => (HJ.o.own k hk).1 e.symm⟩) nz ?_; intro v1 w1 hr1 fr1 hv1; have FR := hid fr1; have R1 := hid hr1; have HV := hid hv1; clear hr1 fr1 hv1; obtain ⟨A1, k1, e1, hk1, hm1, _⟩ := R1.o.els (S' := fun _ => True) tvv tvv; subst e1; rw [show (xs ++ [x]).length = xs.length + 1 by simp] at R1 HV; have y0 : w1.cell? ⟨P, off, none⟩ = some v := (FR.o.cell (p := ⟨P, off, none⟩) (ltl hPl F0.o.size) (fun e => HA.o.ne e.symm)).trans HJ.o.cell; have y1 : w1.frozen? ⟨P, off, none⟩ = false := (FR.o.frozen (p := ⟨P, off, none⟩) (ltl hPl F0.o.size) (fun e => HA.o.ne e.symm)).trans HJ.o.fz)
 go_ret
 have := HJ.o.len
 have gw1 : w.heap.size < (w.alloc (.cells #[.pointer (some ⟨x, 0, none⟩)] 131)).heap.size := G0.o.lt
 exact yy9
def atD {α : Type} (d : α) (l : List α) (i : Int) : α × Bool := if h : 0 ≤ i ∧ i < l.length then (l[i.toNat]'om, true) else (d, false)
theorem kCQ {α : Type} {d : α} {l : List α} {k : Nat} (h : k < l.length) : atD d l (k : Int) = (l[k], true) := by
 rw [atD, dif_pos ⟨by omega, by omega⟩]; simp
theorem kBI {α : Type} {d : α} {l : List α} {i : Int} (h : i < 0 ∨ (l.length : Int) ≤ i) : atD d l i = (d, false) := by
 rw [atD, dif_neg (by omega)]
theorem kBC {α : Type} (l : List α) (i : Int) : (∃ k : Nat, k < l.length ∧ i = k) ∨ i < 0 ∨ (¬ i < 0 ∧ (l.length : Int) ≤ i) := by
 by_cases h : i < 0
 · exact .inr (.inl h)
 by_cases h' : i < l.length
 · exact .inl ⟨i.toNat, by omega, by omega⟩
 exact .inr (.inr ⟨h, by omega⟩)
def AtTo {α : Type} (t : Ty α) (d : α) (S : Nat → Prop) (xs : List α) (i : Int) (w : World) (e : Ending) (w' : World) : Prop :=
 ∃ cs, e = .returned (.tuple #[.agg cs.toArray, .bool (atD d xs i).2]) ∧ t.rd w' S cs (atD d xs i).1 ∧ Fr No w w'
def getI {α : Type} (xs : List α) (i : Int) : Option α := if 0 ≤ i then xs[i.toNat]? else none
theorem kAp {α : Type} {xs : List α} {k : Nat} (h : k < xs.length) : getI xs (k : Int) = some xs[k] := by simp [getI, h]
theorem kFg {α : Type} {xs : List α} {i : Int} (h : i < 0 ∨ (xs.length : Int) ≤ i) : getI xs i = none := by
 unfold getI
 split
 · rw [List.getElem?_eq_none]; omega
 rfl
def ptrV : Option Nat → Value
 | some p => .pointer (some ⟨p, 0, none⟩)
 | none => .pointer none
def AtPt (xs : List Nat) (i : Int) (w : World) (e : Ending) (w' : World) : Prop := e = .returned (.tuple #[ptrV (getI xs i), .bool (getI xs i).isSome]) ∧ Fr No w w'
theorem kHK {w : World} {S : Nat → Prop} {A : OA} {l : List Nat} (h : tPt.els w S A l) (i : Nat) (hi : i < l.length) : ∃ (b o : Nat), A = some ⟨b, o, none⟩ ∧ S b ∧ w.cell? ⟨b, o + i, none⟩ = some (.pointer (some ⟨l[i], 0, none⟩)) := by
 obtain ⟨b, o, ds, rfl, hb, hc, hr⟩ := h.at_ i hi
 have hr : ds = [.pointer (some ⟨l[i], 0, none⟩)] := hr
 subst hr
 have := hc 0 _ rfl
 have e : tPt.size = 1 := rfl
 rw [e, Nat.mul_one, Nat.add_zero] at this
 exact ⟨b, o, rfl, hb, this⟩
def zRg : Rg := ⟨⟨0, false⟩, ⟨0, 0⟩⟩
theorem zRg_rd (w : World) (S : Nat → Prop) : tRg.rd w S [.int .i64 0, .bool false, .int .i64 0, .int .u64 0] zRg := kFT (a := zRg) rfl rfl rfl
theorem kGu (P off : Nat) (A : OA) (c : Nat) (xs : List Rg) (i : Int) (S : Nat → Prop) (w : World) (hc : w.cell? ⟨P, off, none⟩ = some (.slice A xs.length c)) (h : tRg.els w S A xs) (hS : Lt S w) (hl : xs.length ≤ 1000000) :
    Calls prog 119 #[.pointer (some ⟨P, off, none⟩), .int .i64 i] w (AtTo tRg zRg S xs i w) := by
 have F0 := hid (((Fr.refl No w).alloc (.cells #[.int .i64 0, .bool false, .int .i64 0, .int .u64 0] 188)).alloc (.cells #[.int .i64 0, .bool false, .int .i64 0, .int .u64 0] 188))
 have hPl : P < w.heap.size := World.block_lt_of_cell? w _ hc
 unfold AtTo
 rcases kBC xs i with ⟨k, hk, rfl⟩ | hi | ⟨hi0, hi⟩
 · obtain ⟨b, o, rfl, hb, y0, y1, y2, y3, f0, f1, f2⟩ := kHL h k hk
   rw [kCQ hk]
   have i0 := nki k
   have i1 : (k : Int) < xs.length := om
   have hbl := hS b hb
   have HS := hid hS
   generalize xs[k] = y at *
   clear h hS hb
   have F1 := hid (((Fr.refl No w).alloc (.cells #[.int .i64 y.t.val, .bool y.t.mut_, .int .i64 y.v.t, .int .u64 y.v.n] 188)).alloc (.cells #[.int .i64 0, .bool false, .int .i64 0, .int .u64 0] 188))
   have G1 := hid ((Blk.new w 188 #[.int .i64 y.t.val, .bool y.t.mut_, .int .i64 y.v.t, .int .u64 y.v.n]).alloc (.cells #[.int .i64 0, .bool false, .int .i64 0, .int .u64 0] 188))
   have HR := hid (TyOk.keep (t := tRg) _ _ _ _ _ (kFT f0 f1 f2) (fun p hp => F1.o.cell (HS.o _ hp) id))
   go_enter func119, ntmps119
   go_wp2
   generalize (w.alloc (.cells #[.int .i64 y.t.val, .bool y.t.mut_, .int .i64 y.v.t, .int .u64 y.v.n] 188)).alloc (.cells #[.int .i64 0, .bool false, .int .i64 0, .int .u64 0] 188) = W at *
   have z0 := G1.o.cell 0
   have z1 := G1.o.cell 1
   have z2 := G1.o.cell 2
   have z3 := G1.o.cell 3
   exact bodyPost_ret (v := .tuple #[.agg #[.int .i64 y.t.val, .bool y.t.mut_, .int .i64 y.v.t, .int .u64 y.v.n], .bool true]) (by simp [results, Tryz.results119, go_sem, z0, z1, z2, z3]) rfl ⟨[.int .i64 y.t.val, .bool y.t.mut_, .int .i64 y.v.t, .int .u64 y.v.n], rfl, HR.o, F1.o⟩
 · rw [kBI (.inl hi)]
   clear h
   exact yy10
 rw [kBI (.inr hi)]
 clear h
 exact yy10
def zFi : Fi := ⟨⟨[], []⟩, 0, 0⟩
theorem zFi_rd (w : World) (S : Nat → Prop) : tFi.rd w S [.slice none 0 0, .slice none 0 0, .int .i64 0, .int .i64 0] zFi := Fi_mk (a := zFi) nz (by simp [maxLen]) (.inl rfl) nz (by simp [maxLen]) (.inl rfl) rfl rfl
abbrev q4x1 : Array Value := #[.slice none 0 0, .slice none 0 0, .int .i64 0, .int .i64 0]
theorem kGv (P off : Nat) (A : OA) (c : Nat) (xs : List Fi) (i : Int) (S : Nat → Prop) (w : World) (hc : w.cell? ⟨P, off, none⟩ = some (.slice A xs.length c)) (h : tFi.els w S A xs) (hS : Lt S w) (hl : xs.length ≤ 1000000) :
    Calls prog 117 #[.pointer (some ⟨P, off, none⟩), .int .i64 i] w (AtTo tFi zFi S xs i w) := by
 have F0 := hid (((Fr.refl No w).alloc (.cells q4x1 80)).alloc (.cells q4x1 80))
 have hPl : P < w.heap.size := World.block_lt_of_cell? w _ hc
 unfold AtTo
 rcases kBC xs i with ⟨k, hk, rfl⟩ | hi | ⟨hi0, hi⟩
 · obtain ⟨b, o, Aty_params, cty_params, Aty_results, cty_results, rfl, hb, y0, y1, y2, y3, f0, f1, f2, f3, f4, f5, f6, f7⟩ := kFW h k hk
   rw [kCQ hk]
   have i0 := nki k
   have i1 : (k : Int) < xs.length := om
   have hbl := hS b hb
   have HS := hid hS
   generalize xs[k] = y at *
   clear h hS hb
   have F1 := hid (((Fr.refl No w).alloc (.cells #[.slice Aty_params y.ty.params.length cty_params, .slice Aty_results y.ty.results.length cty_results, .int .i64 y.inst, .int .i64 y.index] 80)).alloc (.cells q4x1 80))
   have G1 := hid ((Blk.new w 80 #[.slice Aty_params y.ty.params.length cty_params, .slice Aty_results y.ty.results.length cty_results, .int .i64 y.inst, .int .i64 y.index]).alloc (.cells q4x1 80))
   have HR := hid (TyOk.keep (t := tFi) _ _ _ _ _ (Fi_mk f0 f1 f2 f3 f4 f5 f6 f7) (fun p hp => F1.o.cell (HS.o _ hp) id))
   go_enter func117, ntmps117
   go_wp2
   generalize (w.alloc (.cells #[.slice Aty_params y.ty.params.length cty_params, .slice Aty_results y.ty.results.length cty_results, .int .i64 y.inst, .int .i64 y.index] 80)).alloc (.cells q4x1 80) = W at *
   have z0 := G1.o.cell 0
   have z1 := G1.o.cell 1
   have z2 := G1.o.cell 2
   have z3 := G1.o.cell 3
   exact bodyPost_ret (v := .tuple #[.agg #[.slice Aty_params y.ty.params.length cty_params, .slice Aty_results y.ty.results.length cty_results, .int .i64 y.inst, .int .i64 y.index], .bool true]) (by simp [results, Tryz.results117, go_sem, z0, z1, z2, z3]) rfl ⟨[.slice Aty_params y.ty.params.length cty_params, .slice Aty_results y.ty.results.length cty_results, .int .i64 y.inst, .int .i64 y.index], rfl, HR.o, F1.o⟩
 · rw [kBI (.inl hi)]
   clear h
   exact yy17
 rw [kBI (.inr hi)]
 clear h
 exact yy17
theorem kGA (P off : Nat) (A : OA) (c : Nat) (xs : List Nat) (i : Int) (S : Nat → Prop) (w : World) (hc : w.cell? ⟨P, off, none⟩ = some (.slice A xs.length c)) (h : tPt.els w S A xs) (hl : xs.length ≤ 1000000) :
    Calls prog 63 #[.pointer (some ⟨P, off, none⟩), .int .i64 i] w (AtPt xs i w) := by
 unfold AtPt
 rcases kBC xs i with ⟨k, hk, rfl⟩ | hi | ⟨hi0, hi⟩
 · obtain ⟨b, o, rfl, hb, y0⟩ := kHK h k hk
   rw [kAp hk]
   have i0 := nki k
   have i1 : (k : Int) < xs.length := om
   generalize xs[k] = y at *
   clear h hb
   go_enter func63, ntmps63
   exact yy49
 · rw [kFg (.inl hi)]
   clear h
   go_enter func63, ntmps63
   exact yy49
 rw [kFg (.inr hi)]
 clear h
 go_enter func63, ntmps63
 exact yy49
theorem kGB (P off : Nat) (A : OA) (c : Nat) (xs : List Nat) (i : Int) (S : Nat → Prop) (w : World) (hc : w.cell? ⟨P, off, none⟩ = some (.slice A xs.length c)) (h : tPt.els w S A xs) (hl : xs.length ≤ 1000000) :
    Calls prog 65 #[.pointer (some ⟨P, off, none⟩), .int .i64 i] w (AtPt xs i w) := by
 unfold AtPt
 rcases kBC xs i with ⟨k, hk, rfl⟩ | hi | ⟨hi0, hi⟩
 · obtain ⟨b, o, rfl, hb, y0⟩ := kHK h k hk
   rw [kAp hk]
   have i0 := nki k
   have i1 : (k : Int) < xs.length := om
   generalize xs[k] = y at *
   clear h hb
   go_enter func65, ntmps65
   exact yy49
 · rw [kFg (.inl hi)]
   clear h
   go_enter func65, ntmps65
   exact yy49
 rw [kFg (.inr hi)]
 clear h
 go_enter func65, ntmps65
 exact yy49
def Nw (w w' : World) (k : Nat) : Prop := w.heap.size ≤ k ∧ k < w'.heap.size
theorem Nw.up {w w1 w2 w3 : World} (h1 : w.heap.size ≤ w1.heap.size) (h2 : w2.heap.size ≤ w3.heap.size) {k : Nat} (h : Nw w1 w2 k) : Nw w w3 k := ⟨Nat.le_trans h1 h.1, ltl h.2 h2⟩
def kAN {α : Type} (t : Ty α) (x : α) (w : World) (e : Ending) (w' : World) : Prop := ∃ cs, e = .returned (.agg cs.toArray) ∧ t.rd w' (Nw w w') cs x ∧ Fr No w w'
theorem Ty.row.flat {α : Type} {t : Ty α} [kAQ t] {w : World} {base : Nat} {S : Nat → Prop} {e : TypeId} {v : Value} {xs : List α} (h : t.row w base S e v xs) (S' : Nat → Prop) : t.row w base S' e v xs := by
 obtain ⟨css, h1, h2⟩ := h
 exact ⟨css, h1.flat w S', h2⟩
theorem kBW {α : Type} {t : Ty α} [TyOk t] [TyMore t] [kAQ t] {w w1 w2 w' : World} {S : Nat → Prop} {el : TypeId} {l : List α} {A : OA} {c : Nat} {M : Nat → Prop} (h : t.row w2 w1.heap.size S el (.slice A l.length c) l) (h0 : w.heap.size ≤ w1.heap.size) (f : Fr M w2 w') (hM : ∀ k, w1.heap.size ≤ k → k < w2.heap.size → ¬ M k) :
    l.length ≤ c ∧ c ≤ maxLen ∧ t.els w' (Nw w w') A l := by
 obtain ⟨h1, h2, h3⟩ := kAe (h.flat Emp)
 refine ⟨h1, h2, (h3.fr f (fun k hk => ?_)).more (fun k hk => ?_)⟩
 · rcases hk with hk | hk
   · exact hk.elim
   exact ⟨hk.2, hM k hk.1 hk.2⟩
 rcases hk with hk | hk
 · exact hk.elim
 exact ⟨Nat.le_trans h0 hk.1, ltl hk.2 f.size⟩
theorem kAg {α : Type} {t : Ty α} [TyOk t] {w w' : World} {S : Nat → Prop} {A : OA} {xs : List α} (h : t.els w S A xs) (f : Fr No w w') (hS : Lt S w) : t.els w' S A xs := h.fr f fun k hk => ⟨hS k hk, fun x => x⟩
theorem kBQ (f : Fn) (A1 A2 : OA) (c1 c2 : Nat) (S : Nat → Prop) (w : World) (hS : Lt S w) (h1 : tI.els w S A1 f.params) (h2 : tI.els w S A2 f.results) (b1 : f.params.length * 8 ≤ 140737488351232) (b2 : f.results.length * 8 ≤ 140737488351232) :
    Calls prog 58 #[.agg #[.slice A1 f.params.length c1, .slice A2 f.results.length c2]] w (kAN tFn f w) := by
 have F0 := hid (((Fr.refl No w).alloc (.cells #[.slice A1 f.params.length c1, .slice A2 f.results.length c2] 78)).alloc (.cells #[.slice none 0 0, .slice none 0 0] 78))
 have G0 := hid ((Blk.new w 78 #[.slice A1 f.params.length c1, .slice A2 f.results.length c2]).alloc (.cells #[.slice none 0 0, .slice none 0 0] 78))
 have G1 := hid (Blk.new1 w (.cells #[.slice A1 f.params.length c1, .slice A2 f.results.length c2] 78) 78 #[.slice none 0 0, .slice none 0 0])
 have H1 := hid h1
 have H2 := hid h2
 have HB1 := hid b1
 have HB2 := hid b2
 have HS := hid hS
 clear h1 h2 b1 b2 hS
 go_enter func58, ntmps58
 go_wp2
 generalize (w.alloc (.cells #[.slice A1 f.params.length c1, .slice A2 f.results.length c2] 78)).alloc (.cells #[.slice none 0 0, .slice none 0 0] 78) = W at *
 have hW : w.heap.size + 1 < W.heap.size := G1.o.lt
 have HSW : Hid (Lt S W) := fun k hk => ltl (HS.o k hk) F0.o.size
 have HX : Hid (∀ X, Fr No W X → Ce X w.heap.size 0 (.slice A1 f.params.length c1) ∧ Ce X w.heap.size 1 (.slice A2 f.results.length c2)) := fun X g => ⟨(G0.o.fr g id).cell 0, (G0.o.fr g id).cell 1⟩
 refine rwO (fun X => Ce X w.heap.size 0 (.slice A1 f.params.length c1) ∧ Ce X w.heap.size 1 (.slice A2 f.results.length c2)) [7] [0, 1, 3, 4, 2, 5, 6, 7] [2, 5, 7] (HX.o _ (Fr.refl _ _).drew) ?_
 refine rC ?_
 refine wpO_eff rfl rfl fun K hK => sz ?_
 refine (kAi A1 c1 f.params S _ (kAg H1.o (F0.o.drew) HS.o) HSW.o HB1.o).mono ?_
 rintro e w1 ⟨B1, d1, rfl, hr1, f1⟩
 have F1 := hid ((Fr.refl No W).drew.trans f1 i3)
 have R1 := hid hr1
 clear hr1 f1
 refine hK _ _ (fun _ => HX.o _ F1.o) ?_
 clear hK K
 refine rC ?_
 refine wpO_eff rfl rfl fun K hK => sz ?_
 refine (kAi A2 c2 f.results S _ (kAg H2.o (F0.o.trans F1.o i3) HS.o) (fun k hk => ltl (HSW.o k hk) F1.o.size) HB2.o).mono ?_
 rintro e w2 ⟨B2, d2, rfl, hr2, f2⟩
 have F2 := hid f2
 have R2 := hid hr2
 clear hr2 f2
 refine hK _ _ (fun _ => HX.o _ (F1.o.trans F2.o i3)) ?_
 clear hK K
 refine rC ?_
 have GZ := hid ((G1.o.fr F1.o id).fr F2.o id)
 have u0 : w2.cell? ⟨w.heap.size + 1, 0, none⟩ = some (.slice none 0 0) := GZ.o.cell 0
 have u1 : w2.cell? ⟨w.heap.size + 1, 1, none⟩ = some (.slice none 0 0) := GZ.o.cell 1
 have u2 : w2.frozen? ⟨w.heap.size + 1, 0, none⟩ = false := GZ.o.frozen 0
 have u3 : w2.frozen? ⟨w.heap.size + 1, 1, none⟩ = false := GZ.o.frozen 1
 refine wpO_eff rfl rfl fun K hK => sz ?_
 have FZ := hid (((Fr.refl (One (w.heap.size + 1)) w2).setCell ⟨w.heap.size + 1, 0, none⟩ (.slice B1 f.params.length d1) (fun _ => rfl)).setCell ⟨w.heap.size + 1, 1, none⟩ (.slice B2 f.results.length d2) (fun _ => rfl))
 have GY := hid ((GZ.o.set_ 0 (.slice B1 f.params.length d1)).set_ 1 (.slice B2 f.results.length d2))
 generalize (w2.setCell ⟨w.heap.size + 1, 0, none⟩ (.slice B1 f.params.length d1)).setCell ⟨w.heap.size + 1, 1, none⟩ (.slice B2 f.results.length d2) = X at *
 refine hK _ _ (fun h => by simp at h) ?_
 clear hK K
 refine wpO_nil ?_
 have y0 : Ce X (w.heap.size + 1) 0 (.slice B1 f.params.length d1) := GY.o.cell 0
 have y1 : Ce X (w.heap.size + 1) 1 (.slice B2 f.results.length d2) := GY.o.cell 1
 clear u0 u1 u2 u3
 go_wp2
 have s0 := F0.o.size
 have s1 := F1.o.size
 have s2 := F2.o.size
 obtain ⟨p1, p2, p3⟩ := kBW (w := w) R1.o (by show w.heap.size ≤ W.heap.size; omega) ((F2.o.mono (M := One (w.heap.size + 1)) (fun _ _ h => h.elim)).trans FZ.o i3) (fun k h1 _ h => by have h1 : W.heap.size ≤ k := h1; have h : k = w.heap.size + 1 := h; omega)
 obtain ⟨q1, q2, q3⟩ := kBW (w := w) R2.o om FZ.o (fun k h1 _ h => by have h : k = w.heap.size + 1 := h; omega)
 refine bodyPost_ret (v := .agg #[.slice B1 f.params.length d1, .slice B2 f.results.length d2]) (by simp [results, Tryz.results58, go_sem, y0, y1]) rfl ⟨[.slice B1 f.params.length d1, .slice B2 f.results.length d2], rfl, kHN p1 p2 p3 q1 q2 q3, ?_⟩
 exact F0.o.trans (((F1.o.trans F2.o i3).mono (M := One (w.heap.size + 1)) (fun _ _ h => h.elim)).trans FZ.o i3) (fun i hi h => by have h : i = w.heap.size + 1 := h; omega)
def CssF {α : Type} (t : Ty α) (w : World) (S : Nat → Nat → Prop) (css : List (LV)) (xs : List α) : Prop :=
 css.length = xs.length ∧ ∀ (i : Nat) (c : LV) (x : α), css[i]? = some c → xs[i]? = some x → t.rd w (S i) c x
theorem kDK {sz : Nat} : ∀ (css : List (LV)) (i m : Nat) (d : LV) (u : Value), (∀ c ∈ css, c.length = sz) → css[i]? = some d → m < sz → css.flatten.set (i * sz + m) u = (css.set i (d.set m u)).flatten
 | [], i, m, d, u, _, h, _ => by simp at h
 | c :: css, 0, m, d, u, hl, h, hm => by
  simp only [List.getElem?_cons_zero, Option.some.injEq] at h
  subst h
  have := hl c sm
  rw [List.set_cons_zero, List.flatten_cons, List.flatten_cons, Nat.zero_mul, Nat.zero_add, List.set_append_left _ _ (by omega)]
 | c :: css, i + 1, m, d, u, hl, h, hm => by
  simp only [List.getElem?_cons_succ] at h
  have hc := hl c sm
  rw [List.set_cons_succ, List.flatten_cons, List.flatten_cons, List.set_append_right _ _ (by rw [Nat.add_mul]; omega), show (i + 1) * sz + m - c.length = i * sz + m by rw [Nat.add_mul]; omega,
   kDK css i m d u (fun c hc => hl c (by simp [hc])) h hm]
section
variable {w : World} {base n c g sz : Nat} {e : TypeId} {css : List (LV)} {i : Nat} {d : LV}
theorem kHS (h : w.ownsRow base e sz (.slice (some ⟨g, 0, none⟩) n c) n css.flatten) (hl : ∀ c ∈ css, c.length = sz) (hd : css[i]? = some d) {j : Nat} {u : Value} (hu : d[j]? = some u) : w.cell? ⟨g, i * sz + j, none⟩ = some u := by
 have hf := kBv hl hd hu
 rcases h.2 with ⟨hv, _⟩ | ⟨g', cap, cur, hv, hb, hg, k1, k2, k3, k4⟩
 · cases hv
 injection hv with e1 e2 e3
 injection e1 with e1
 injection e1 with e1 _ _
 subst e1
 rw [Blk.cell (t := e) (cs := cur) hg, ← Array.getElem?_toList]
 rw [← k4, List.getElem?_take] at hf
 split at hf
 · exact hf
 cases hf
theorem kEv (h : w.ownsRow base e sz (.slice (some ⟨g, 0, none⟩) n c) n css.flatten) (k : Nat) : w.frozen? ⟨g, k, none⟩ = false := by
 rcases h.2 with ⟨hv, _⟩ | ⟨g', cap, cur, hv, hb, hg, k1, k2, k3, k4⟩
 · cases hv
 injection hv with e1 e2 e3
 injection e1 with e1
 injection e1 with e1 _ _
 subst e1
 exact Blk.frozen (t := e) (cs := cur) hg k
theorem kHR (h : w.ownsRow base e sz (.slice (some ⟨g, 0, none⟩) n c) n css.flatten) (hl : ∀ c ∈ css, c.length = sz) (hd : css[i]? = some d) {m : Nat} (hm : m < sz) (u : Value) :
    (w.setCell ⟨g, i * sz + m, none⟩ u).ownsRow base e sz (.slice (some ⟨g, 0, none⟩) n c) n (css.set i (d.set m u)).flatten := by
 have hfl := kDK css i m d u hl hd hm
 rw [← hfl]
 refine ⟨by rw [List.length_set]; exact h.1, ?_⟩
 rcases h.2 with ⟨hv, _⟩ | ⟨g', cap, cur, hv, hb, hg, k1, k2, k3, k4⟩
 · cases hv
 injection hv with e1 e2 e3
 injection e1 with e1
 injection e1 with e1 _ _
 subst e1 e3
 refine .inr ⟨g, c, cur.setIfInBounds (i * sz + m) u, rfl, hb, Blk.set_ (t := e) (cs := cur) hg _ _, k1, k2, by simpa using k3, ?_⟩
 rw [Array.toList_setIfInBounds, List.take_set, k4]
theorem kHz {w' : World} {M : Nat → Prop} {xs : LV} (h : w.ownsRow base e sz (.slice (some ⟨g, 0, none⟩) n c) n xs) (f : Fr M w w') (hg : ¬ M g) : w'.ownsRow base e sz (.slice (some ⟨g, 0, none⟩) n c) n xs := by
 refine ⟨h.1, ?_⟩
 rcases h.2 with ⟨hv, _⟩ | ⟨g', cap, cur, hv, hb, hg', k⟩
 · cases hv
 have hv0 := hv
 injection hv with e1 e2 e3
 injection e1 with e1
 injection e1 with e1 _ _
 subst e1
 exact .inr ⟨g, cap, cur, hv0, hb, Blk.fr (t := e) (cs := cur) hg' f hg, k⟩
theorem kBk {xs : LV} (h : w.ownsRow base e sz (.slice (some ⟨g, 0, none⟩) n c) n xs) : base ≤ g ∧ g < w.heap.size := by
 rcases h.2 with ⟨hv, _⟩ | ⟨g', cap, cur, hv, hb, hg', k⟩
 · cases hv
 injection hv with e1 e2 e3
 injection e1 with e1
 injection e1 with e1 _ _
 subst e1
 exact ⟨hb, Blk.lt (t := e) (cs := cur) hg'⟩
end
section
variable {α : Type} {t : Ty α} {w w' : World} {S S' : Nat → Nat → Prop} {css : List (LV)} {xs : List α}
theorem CssF.of {T : Nat → Prop} (h : Css t w T css xs) : CssF t w (fun _ => T) css xs := h
theorem CssF.toCss [hm : TyMore t] {T : Nat → Prop} (h : CssF t w S css xs) (hT : ∀ i k, i < xs.length → S i k → T k) : Css t w T css xs :=
 ⟨h.1, fun i c x e1 e2 => hm.more _ _ _ _ _ (h.2 i c x e1 e2) (fun k hk => hT i k (List.getElem?_eq_some_iff.1 e2).1 hk)⟩
theorem CssF.lens [hok : TyOk t] (h : CssF t w S css xs) : ∀ c ∈ css, c.length = t.size := by
 exact yy44
theorem CssF.keep [hok : TyOk t] [hm : TyMore t] (h : CssF t w S css xs) (hk : ∀ i p, i < xs.length → S i p.block → w'.cell? p = w.cell? p) (hS : ∀ i k, i < xs.length → S i k → S' i k) : CssF t w' S' css xs :=
 ⟨h.1, fun i c x e1 e2 => by
  have hi := (List.getElem?_eq_some_iff.1 e2).1
  exact hm.more _ _ _ _ _ (hok.keep _ w' _ _ _ (h.2 i c x e1 e2) (fun p hp => hk i p hi hp)) (fun k hk => hS i k hi hk)⟩
theorem CssF.upd [hok : TyOk t] [hm : TyMore t] (h : CssF t w S css xs) {i : Nat} {x : α} {d : LV} (hx : xs[i]? = some x) (hr : t.rd w' (S' i) d x) (hk : ∀ j p, j < xs.length → j ≠ i → S j p.block → w'.cell? p = w.cell? p) (hS : ∀ j k, j < xs.length → j ≠ i → S j k → S' j k) :
    CssF t w' S' (css.set i d) xs := by
 refine ⟨by rw [List.length_set]; exact h.1, fun j c y e1 e2 => ?_⟩
 have hj := (List.getElem?_eq_some_iff.1 e2).1
 by_cases hij : i = j
 · subst hij
   rw [hx] at e2
   rw [List.getElem?_set_self (by rw [h.1]; exact hj)] at e1
   simp only [Option.some.injEq] at e1 e2
   subst e1 e2
   exact hr
 rw [List.getElem?_set_ne hij] at e1
 exact hm.more _ _ _ _ _ (hok.keep _ w' _ _ _ (h.2 j c y e1 e2) (fun p hp => hk j p hj (fun e => hij e.symm) hp)) (fun k hk => hS j k hj (fun e => hij e.symm) hk)
end
def Sk (k : Nat) (X Y : Nat → Prop) (i b : Nat) : Prop := (i < k ∧ X b) ∨ (k ≤ i ∧ Y b)
def Nx (w w' : World) (g b : Nat) : Prop := Nw w w' b ∧ b ≠ g
end Go.Proofs.YthggdemiddjlgaaGreat
