/- Contracts: New. -/
import Derived.Test.YtdckghiipijobaaGreatStI
namespace Go.Proofs.YtdckghiipijobaaGreat
open Go.RowKit

structure HoBd (h : Ho) : Prop where
  p : h.ty.params.length * 8 ≤ 140737488351232
  r : h.ty.results.length * 8 ≤ 140737488351232
  a : h.acts.length * 56 ≤ 140737488351232
  v : ∀ a ∈ h.acts, a.vals.length * 16 ≤ 140737488351232
def mayB (hosts : List Ho) : Bool := decide (hosts.length ≤ 32) && hosts.all hoB
def sto0 (hosts : List Ho) : Rx := ⟨hosts, List.replicate hosts.length 0, [], [], [], [], [], [], [], []⟩
def NewSTo (hosts : List Ho) (w : World) (e : Ending) (w' : World) : Prop :=
  if mayB hosts = true then ∃ V : Pl, e = .returned (.pointer (some ⟨V.P, 0, none⟩)) ∧ StIn w' V.own V (sto0 hosts) ∧ (∀ k, V.own k → w.heap.size ≤ k) ∧ Fr No w w'
  else e = .returned (.pointer none) ∧ Fr No w w'
theorem may_long {hosts : List Ho} (h : 32 < hosts.length) : mayB hosts = false := by simp [mayB]; omega
theorem may_no {hosts : List Ho} {k : Nat} (hk : k < hosts.length) (h : hoB hosts[k] = false) : mayB hosts = false := by
  simp only [mayB, Bool.and_eq_false_iff, List.all_eq_false]
  exact .inr ⟨_, List.getElem_mem hk, by simp [h]⟩
theorem may_yes {hosts : List Ho} (h : hosts.length ≤ 32) (hk : ∀ (j : Nat) (hj : j < hosts.length), hoB hosts[j] = true) : mayB hosts = true := by
  simp only [mayB, Bool.and_eq_true, decide_eq_true_eq, List.all_eq_true]
  refine ⟨h, fun x hx => ?_⟩
  obtain ⟨j, hj, rfl⟩ := List.getElem_of_mem hx
  exact hk j hj
def Tn (w wr : World) (P C : Nat) (v : Value) (b : Nat) : Prop := Nw w wr b ∧ b ≠ P ∧ b ≠ C ∧ v.ownBlock ≠ some b
structure NewInv (w wr : World) (P C : Nat) (hosts : List Ho) (k : Nat) (v : Value) : Prop where
  fr : Fr No w wr
  hP : Blk wr P 135 #[v, .slice (some ⟨C, 0, none⟩) hosts.length hosts.length, .slice none 0 0, .slice none 0 0, .slice none 0 0, .slice none 0 0, .slice none 0 0, .slice none 0 0, .slice none 0 0, .slice none 0 0]
  own : Own wr C 3 hosts.length (List.replicate hosts.length (.int .i64 0))
  row : tHo.row wr w.heap.size (Tn w wr P C v) 108 v (hosts.take k)
  ok : ∀ (j : Nat) (hj : j < hosts.length), j < k → hoB hosts[j] = true
  lP : w.heap.size ≤ P
  lC : w.heap.size ≤ C
theorem NewInv.frNo {w wr w' : World} {P C : Nat} {hosts : List Ho} {k : Nat} {v : Value} (h : NewInv w wr P C hosts k v) (f : Fr No wr w') : NewInv w w' P C hosts k v :=
  ⟨h.fr.trans f (fun _ _ h => h), h.hP.fr f (fun x => x), h.own.fr f (fun x => x), (h.row.fr f (fun k hk => ⟨hk.1.2, fun x => x⟩) (fun _ _ x => x)).more (Nat.le_refl _) (fun b hb => ⟨hb.1.up (Nat.le_refl _) f.size, hb.2⟩), h.ok, h.lP, h.lC⟩
theorem zeros_row {w : World} {base C n : Nat} {S : Nat → Prop} (h : Own w C 3 n (List.replicate n (.int .i64 0))) (hb : base ≤ C) : tI.row w base S 3 (.slice (some ⟨C, 0, none⟩) n n) (List.replicate n (0 : Int)) := by
  obtain ⟨cur, h1, h2, h3, h4, h5⟩ := h.cur
  have e : tI.size = 1 := rfl
  have hf : (List.replicate n [Value.int .i64 0]).flatten = List.replicate n (.int .i64 0) := by
    clear h h1 h2 h3 h4 h5
    induction n with
    | zero => rfl
    | succ n ih => simp only [List.replicate_succ, List.flatten_cons, ih]; rfl
  refine ⟨List.replicate n [.int .i64 0], ⟨by simp, fun i c x e1 e2 => ?_⟩, ?_, .inr ⟨C, n, cur, by simp, hb, h1, by simp, h3, by simpa [e] using h4, ?_⟩⟩
  · have e1 := List.eq_of_mem_replicate (List.mem_of_getElem? e1)
    have e2 := List.eq_of_mem_replicate (List.mem_of_getElem? e2)
    subst e1 e2
    exact int_mk rfl
  · rw [hf]; simp [e]
  · rw [hf]; simpa [e] using h5
theorem NewInv.done {w wr : World} {P C : Nat} {hosts : List Ho} {v : Value} (h : NewInv w wr P C hosts hosts.length v) : ∃ V : Pl, V.P = P ∧ StIn wr V.own V (sto0 hosts) ∧ (∀ k, V.own k → w.heap.size ≤ k) := by
  let V : Pl := ⟨P, v, .slice (some ⟨C, 0, none⟩) hosts.length hosts.length, .slice none 0 0, .slice none 0 0, .slice none 0 0, .slice none 0 0, .slice none 0 0, .slice none 0 0, .slice none 0 0, .slice none 0 0, [], []⟩
  have hown : ∀ k, V.own k ↔ k = P ∨ v.ownBlock = some k ∨ k = C := by
    intro k
    simp only [Pl.own, Pl.vs, V, List.mem_cons, List.not_mem_nil, or_false]
    constructor
    · rintro (hk | ⟨u, hu, hk⟩ | ⟨z, hz, _⟩ | ⟨z, hz, _⟩)
      · exact .inl hk
      · rcases hu with rfl | rfl | rfl | rfl | rfl | rfl | rfl | rfl | rfl | rfl
        · exact .inr (.inl hk)
        · simp only [Value.ownBlock, Option.some.injEq] at hk; exact .inr (.inr hk.symm)
        all_goals (simp [Value.ownBlock] at hk)
      · exact hz.elim
      · exact hz.elim
    · rintro (h | h | h)
      · exact .inl h
      · exact .inr (.inl ⟨v, .inl rfl, h⟩)
      · exact .inr (.inl ⟨_, .inr (.inl rfl), by simp [Value.ownBlock, h]⟩)
  refine ⟨V, rfl, ?_, fun k hk => ?_⟩
  · constructor
    case blk => exact h.hP
    case ho =>
      have := h.row
      rw [List.take_length] at this
      exact this.more (Nat.zero_le _) (fun b hb => ⟨hb.1.2, fun o => by
        rcases (hown b).1 o with e | e | e
        · exact hb.2.1 e
        · exact hb.2.2.2 e
        · exact hb.2.2.1 e⟩)
    case co => exact zeros_row h.own (Nat.zero_le _)
    case ca => exact Ty.row.nil _ _ _ _
    case fu => exact Ty.row.nil _ _ _ _
    case ta => exact Ty.row.nil _ _ _ _
    case me => exact Ty.row.nil _ _ _ _
    case gl => exact Ty.row.nil _ _ _ _
    case el => exact Ty.row.nil _ _ _ _
    case da => exact Ty.row.nil _ _ _ _
    case is => exact Ty.row.nil _ _ _ _
    case tl => rfl
    case tat => intro i z t h1; simp [V] at h1
    case tne => intro i j a b h1; simp [V] at h1
    case ml => rfl
    case mat => intro i z t h1; simp [V] at h1
    case mne => intro i j a b h1; simp [V] at h1
    case own => exact fun k hk => hk
    case low =>
      intro k hk
      rcases (hown k).1 hk with e | e | e
      · rw [e]; exact h.hP.lt
      · obtain ⟨_, _, hb⟩ := h.row.own e; exact hb.lt
      · rw [e]; exact h.own.lt
  · rcases (hown k).1 hk with e | e | e
    · rw [e]; exact h.lP
    · exact (h.row.own e).1
    · rw [e]; exact h.lC
end Go.Proofs.YtdckghiipijobaaGreat
