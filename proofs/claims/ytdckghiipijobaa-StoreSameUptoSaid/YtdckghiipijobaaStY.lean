/- What StoreNew needs: a zero store, bytes as strings. -/
import Derived.Test.YtdckghiipijobaaStW
import Derived.Test.YtdckghiipijobaaStX
namespace Go.Proofs.Ytdckghiipijobaa
open Go.RowKit

def sto00 : Rx := ⟨[], [], [], [], [], [], [], [], [], []⟩
def zPl (P : Nat) : Pl := ⟨P, .slice none 0 0, .slice none 0 0, .slice none 0 0, .slice none 0 0, .slice none 0 0, .slice none 0 0, .slice none 0 0, .slice none 0 0, .slice none 0 0, .slice none 0 0, [], []⟩
theorem zPl_own {P k : Nat} : (zPl P).own k ↔ k = P := by
  simp only [Pl.own, Pl.vs, zPl, List.mem_cons, List.not_mem_nil, or_false]
  constructor
  · rintro (hk | ⟨u, hu, hk⟩ | ⟨z, hz, _⟩ | ⟨z, hz, _⟩)
    · exact hk
    · rcases hu with rfl | rfl | rfl | rfl | rfl | rfl | rfl | rfl | rfl | rfl <;> simp [Value.ownBlock] at hk
    · exact hz.elim
    · exact hz.elim
  · exact .inl
theorem StIn.zero {w : World} {P : Nat} {R : Nat → Prop} (hb : Blk w P 51 #[.slice none 0 0, .slice none 0 0, .slice none 0 0, .slice none 0 0, .slice none 0 0, .slice none 0 0, .slice none 0 0, .slice none 0 0, .slice none 0 0, .slice none 0 0])
    (hP : R P) (hR : ∀ k, R k → k < w.heap.size) : StIn w R (zPl P) sto00 where
  blk := hb
  ho := Ty.row.nil _ _ _ _
  co := Ty.row.nil _ _ _ _
  ca := Ty.row.nil _ _ _ _
  fu := Ty.row.nil _ _ _ _
  ta := Ty.row.nil _ _ _ _
  me := Ty.row.nil _ _ _ _
  gl := Ty.row.nil _ _ _ _
  el := Ty.row.nil _ _ _ _
  da := Ty.row.nil _ _ _ _
  is := Ty.row.nil _ _ _ _
  tl := rfl
  tat := by intro i z t h1; simp [zPl] at h1
  tne := by intro i j a b h1; simp [zPl] at h1
  ml := rfl
  mat := by intro i z t h1; simp [zPl] at h1
  mne := by intro i j a b h1; simp [zPl] at h1
  own := by intro k hk; rw [zPl_own.1 hk]; exact hP
  low := hR

/-- Bytes as a string. -/
def toU8 (l : List Int) : List UInt8 := l.map fun n => UInt8.ofNat n.toNat
def strU (l : List Int) : ByteArray := ⟨(toU8 l).toArray⟩
theorem Bs_toU8 {l : List Int} (h : ∀ b ∈ l, 0 ≤ b ∧ b ≤ 255) : Bs (toU8 l) = l := by
  induction l with
  | nil => rfl
  | cons b l ih =>
    have hb := h b (by simp)
    have := ih (fun c hc => h c (by simp [hc]))
    simp only [toU8, List.map_cons, Bs] at this ⊢
    rw [this]
    congr 1
    simp only [UInt8.toNat_ofNat']
    omega
theorem strU_inj {l m : List Int} (h : ∀ b ∈ l, 0 ≤ b ∧ b ≤ 255) (k : ∀ b ∈ m, 0 ≤ b ∧ b ≤ 255) (e : strU l = strU m) : l = m := by
  have e : (toU8 l).toArray = (toU8 m).toArray := congrArg ByteArray.data e
  have e : toU8 l = toU8 m := by simpa using e
  rw [← Bs_toU8 h, ← Bs_toU8 k, e]
theorem css_u8 {w : World} {S : Nat → Prop} : ∀ {css : List (List Value)} {bs : List Int}, Css tB w S css bs → css.flatten = Ks .u8 bs ∧ ∀ b ∈ bs, 0 ≤ b ∧ b ≤ 255
  | [], [], _ => ⟨rfl, fun _ h => nomatch h⟩
  | [], _ :: _, h => nomatch h.1
  | _ :: _, [], h => nomatch h.1
  | c :: css, b :: bs, h => by
    obtain ⟨h1, h2⟩ := css_u8 (css := css) (bs := bs) ⟨by simpa using h.1, fun i c x e1 e2 => h.2 (i + 1) c x (by simpa using e1) (by simpa using e2)⟩
    obtain ⟨rfl, hw⟩ := h.2 0 c b rfl rfl
    refine ⟨by rw [List.flatten_cons, h1]; rfl, fun x hx => ?_⟩
    rcases List.mem_cons.1 hx with rfl | hx
    · exact wf_u8 hw
    · exact h2 x hx
theorem conv_els {w : World} {S : Nat → Prop} {A : Option Addr} {bs : List Int} (c : Nat) (h : tB.els w S A bs) : (convert 23 9 (.slice A bs.length c)).run Try.prog w = .ok (.string (strU bs)) w ∧ ∀ b ∈ bs, 0 ≤ b ∧ b ≤ 255 := by
  have h' : tB.els w (fun k => S k ∧ k < k + 1) A bs := h.more (fun k hk => ⟨hk, by omega⟩)
  rcases h with rfl | ⟨b, o, rfl, hb, hc⟩
  · refine ⟨?_, fun _ h => nomatch h⟩
    have := conv_bytes (P := Try.prog) (w := w) (B := 0) (A := A) (l := []) 23 9 5 c Try.underlying23 Try.underlying5 Try.underlying9 (.inl rfl)
    exact this
  · have h2 : tB.els w (fun k => k < b + 1) (some ⟨b, o, none⟩) bs := .inr ⟨b, o, rfl, by omega, fun i x hx => by obtain ⟨ds, h1, h2⟩ := hc i x hx; exact ⟨ds, h1, h2⟩⟩
    obtain ⟨css, k1, k2⟩ := els_rd (B := b + 1) h2 (fun k hk => hk)
    obtain ⟨e1, e2⟩ := css_u8 k1
    refine ⟨?_, e2⟩
    rw [e1] at k2
    have e3 := Bs_toU8 e2
    have := conv_bytes (P := Try.prog) (w := w) (B := b + 1) (A := some ⟨b, o, none⟩) (l := toU8 bs) 23 9 5 c Try.underlying23 Try.underlying5 Try.underlying9 (by rw [e3]; exact k2)
    rw [show (toU8 bs).length = bs.length by simp [toU8]] at this
    exact this
end Go.Proofs.Ytdckghiipijobaa
