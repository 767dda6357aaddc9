/- Readings are kept when the set of blocks that they rest on grows. No condition. -/
import Derived.Test.YthggdemiddjlgaaTs
namespace Go.Proofs.Ythggdemiddjlgaa

class TyMore {α : Type} (t : Ty α) : Prop where
  more : ∀ w (S S' : Nat → Prop) cs x, t.rd w S cs x → (∀ k, S k → S' k) → t.rd w S' cs x
instance (k : IntKind) : TyMore (Ty.int k) := ⟨fun _ _ _ _ _ h _ => h⟩
instance : TyMore Ty.bool := ⟨fun _ _ _ _ _ h _ => h⟩
instance : TyMore Ty.str := ⟨fun _ _ _ _ _ h _ => h⟩
instance : TyMore Ty.unit := ⟨fun _ _ _ _ _ h _ => h⟩
instance {α β : Type} (s : Ty α) (t : Ty β) [hs : TyMore s] [ht : TyMore t] : TyMore (s.pair t) :=
  ⟨fun _ _ _ _ _ ⟨c1, c2, e, h1, h2⟩ hB => ⟨c1, c2, e, hs.more _ _ _ _ _ h1 hB, ht.more _ _ _ _ _ h2 hB⟩⟩
instance {α β : Type} (t : Ty β) (g : α → β) [ht : TyMore t] : TyMore (t.iso g) := ⟨fun w S S' cs x h hB => ht.more w S S' cs (g x) h hB⟩
theorem Ty.els.more {α : Type} {t : Ty α} [ht : TyMore t] {w : World} {S S' : Nat → Prop} {A : Option Addr} {xs : List α} (h : t.els w S A xs) (hB : ∀ k, S k → S' k) : t.els w S' A xs := by
  rcases h with h | ⟨b, o, e, hb, h⟩
  · exact .inl h
  · refine .inr ⟨b, o, e, hB _ hb, fun i x hx => ?_⟩
    obtain ⟨ds, h1, h2⟩ := h i x hx
    exact ⟨ds, h1, ht.more _ _ _ _ _ h2 hB⟩
instance {α : Type} (t : Ty α) [ht : TyMore t] : TyMore t.slice := ⟨fun _ _ _ _ _ ⟨A, c, e, h1, h2, h3⟩ hB => ⟨A, c, e, h1, h2, h3.more hB⟩⟩
end Go.Proofs.Ythggdemiddjlgaa
