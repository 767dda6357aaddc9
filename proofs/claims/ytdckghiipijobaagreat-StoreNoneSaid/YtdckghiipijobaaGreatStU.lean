/- A row that grows in one cell of a struct (Shot). -/
import Derived.Test.YtdckghiipijobaaGreatStL
namespace Go.Proofs.YtdckghiipijobaaGreat
open Go.RowKit

structure Stg {α : Type} (t : Ty α) (T el : TypeId) (w0 wr : World) (B i : Nat) (cs : Array Value) (xs : List α) (v : Value) : Prop where
  fr : Fr (One B) w0 wr
  hB : Blk wr B T (cs.setIfInBounds i v)
  row : t.row wr w0.heap.size (fun b => Nw w0 wr b ∧ v.ownBlock ≠ some b) el v xs
  lt : B < w0.heap.size
section
variable {α : Type} {t : Ty α} {T el : TypeId} {w0 wr w' w3 w4 : World} {B i : Nat} {cs : Array Value} {xs : List α} {x : α} {v v1 : Value}
theorem Stg.start (hB : Blk w0 B T cs) (e : cs.setIfInBounds i (.slice none 0 0) = cs) : Stg t T el w0 w0 B i cs ([] : List α) (.slice none 0 0) :=
  ⟨Fr.refl _ _, e.symm ▸ hB, Ty.row.nil _ _ _ _, hB.lt⟩
theorem Stg.frNo [TyOk t] [TyMore t] (h : Stg t T el w0 wr B i cs xs v) (f : Fr No wr w') : Stg t T el w0 w' B i cs xs v :=
  ⟨h.fr.trans f (fun _ _ h => h.elim), h.hB.fr f (fun x => x), (h.row.fr f (fun k hk => ⟨hk.1.2, fun x => x⟩) (fun _ _ x => x)).more (Nat.le_refl _) (fun b hb => ⟨hb.1.up (Nat.le_refl _) f.size, hb.2⟩), h.lt⟩
theorem Stg.own (h : Stg t T el w0 wr B i cs xs v) {k : Nat} (hk : v.ownBlock = some k) : w0.heap.size ≤ k ∧ k < wr.heap.size := by
  obtain ⟨h1, _, hb⟩ := h.row.own hk
  exact ⟨h1, hb.lt⟩
theorem Stg.push [TyOk t] [TyMore t] (h : Stg t T el w0 w3 B i cs xs v) (hr : t.row w4 w0.heap.size (fun b => Nw w0 w3 b ∧ v.ownBlock ≠ some b) el v1 (xs ++ [x])) (f4 : Fr (fun k => some k = v.ownBlock) w3 w4)
    (hv : v1.ownBlock = v.ownBlock ∨ v1.ownBlock = some w3.heap.size) : Stg t T el w0 (w4.setCell ⟨B, i, none⟩ v1) B i cs (xs ++ [x]) v1 := by
  have hlt := h.lt
  have s3 := h.fr.size
  have s4 := f4.size
  have hvB : ¬ some B = v.ownBlock := fun e => by have := (h.own e.symm).1; omega
  have f5 := (Fr.refl (One B) w4).setCell ⟨B, i, none⟩ v1 (fun _ => rfl)
  have hv1 : ∀ k, v1.ownBlock = some k → w0.heap.size ≤ k := fun k hk => (hr.own hk).1
  refine ⟨?_, ?_, ?_, hlt⟩
  · exact (h.fr.trans f4 (fun k hk e => by have := (h.own e.symm).1; omega)).trans f5 (fun _ _ e => e)
  · have := (h.hB.fr f4 hvB).set_ i v1
    simpa using this
  · refine (hr.fr f5 (fun k hk => ⟨Nat.lt_of_lt_of_le hk.1.2 s4, fun e => by have e : k = B := e; have := hk.1.1; omega⟩) (fun k hk e => by have e : k = B := e; have := hv1 k hk; omega)).more (Nat.le_refl _) ?_
    intro b hb
    refine ⟨⟨hb.1.1, by have := hb.1.2; have := f5.size; omega⟩, fun e => ?_⟩
    rcases hv with e1 | e1
    · exact hb.2 (e1.symm.trans e)
    · rw [e] at e1; have := Option.some.inj e1; have := hb.1.2; omega
theorem Stg.els [TyOk t] [TyMore t] (h : Stg t T el w0 wr B i cs xs v) : ∃ A c, v = .slice A xs.length c ∧ xs.length ≤ c ∧ c ≤ maxLen ∧ t.els wr (fun b => Nw w0 wr b ∧ b ≠ B) A xs := by
  have hlt := h.lt
  obtain ⟨A, c, e, h1, h2, h3⟩ := h.row.els (S' := fun b => Nw w0 wr b ∧ b ≠ B) (fun k hk => ⟨hk.1, by have := hk.1.1; omega⟩) (fun k hk => by
    have := h.own hk
    exact ⟨this, by omega⟩)
  exact ⟨A, c, e, h1, h2, h3⟩
end
/-- Between two stages: the two structs, what was there before is unchanged. -/
structure ShB (T : TypeId) (w wi : World) (D B : Nat) (zs cs : Array Value) : Prop where
  fr : Fr No w wi
  hD : Blk wi D T zs
  hB : Blk wi B T cs
  lD : w.heap.size ≤ D
  lB : w.heap.size ≤ B
  ne : D ≠ B
theorem ShB.frNo {T : TypeId} {w wi w' : World} {D B : Nat} {zs cs : Array Value} (h : ShB T w wi D B zs cs) (f : Fr No wi w') : ShB T w w' D B zs cs :=
  ⟨h.fr.trans f (fun _ _ h => h), h.hD.fr f (fun x => x), h.hB.fr f (fun x => x), h.lD, h.lB, h.ne⟩
theorem ShB.step {α : Type} {t : Ty α} {el T : TypeId} {w wi wr : World} {D B i : Nat} {zs cs : Array Value} {xs : List α} {v : Value} (h : ShB T w wi D B zs cs) (k : Stg t T el wi wr B i cs xs v) : ShB T w wr D B zs (cs.setIfInBounds i v) :=
  ⟨h.fr.trans k.fr (fun i hi e => by have e : i = B := e; have := h.lB; omega), h.hD.fr k.fr h.ne, k.hB, h.lD, h.lB, h.ne⟩
/-- Elements of a finished stage. -/
def ShE {α : Type} (t : Ty α) (w wi : World) (D B : Nat) (A : Option Addr) (xs : List α) : Prop := t.els wi (fun b => Nw w wi b ∧ b ≠ B ∧ b ≠ D) A xs
theorem ShE.of {α : Type} {t : Ty α} [TyMore t] {T : TypeId} {w wi wr : World} {D B : Nat} {zs cs : Array Value} {A : Option Addr} {xs : List α} (h : ShB T w wi D B zs cs) (k : t.els wr (fun b => Nw wi wr b ∧ b ≠ B) A xs) : ShE t w wr D B A xs :=
  k.more (fun b hb => ⟨⟨Nat.le_trans h.fr.size hb.1.1, hb.1.2⟩, hb.2, fun e => by have := h.hD.lt; have := hb.1.1; omega⟩)
theorem ShE.up {α : Type} {t : Ty α} [TyOk t] [TyMore t] {w wi wr : World} {D B : Nat} {A : Option Addr} {xs : List α} (k : ShE t w wi D B A xs) (f : Fr (fun k => k = B ∨ k = D) wi wr) : ShE t w wr D B A xs :=
  Ty.els.more (Ty.els.fr k f (fun b hb => ⟨hb.1.2, fun e => e.elim hb.2.1 hb.2.2⟩)) (fun b hb => ⟨hb.1.up (Nat.le_refl _) f.size, hb.2⟩)
theorem ShE.one {α : Type} {t : Ty α} [TyOk t] [TyMore t] {w wi wr : World} {D B : Nat} {A : Option Addr} {xs : List α} (k : ShE t w wi D B A xs) (f : Fr (One B) wi wr) : ShE t w wr D B A xs :=
  k.up (f.mono (fun _ _ h => .inl h))
def shotS (x : Rx) : Sh := ⟨x.mems.map (·.b), x.tabs.map (·.l), x.globs.map (·.v), x.elems.map (·.gone), x.datas.map (·.gone), x.calls⟩
end Go.Proofs.YtdckghiipijobaaGreat
