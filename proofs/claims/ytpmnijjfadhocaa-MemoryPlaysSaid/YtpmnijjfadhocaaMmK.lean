/- Chapter 28: slices of bytes. -/
import Derived.Test.YtpmnijjfadhocaaMmJ
namespace Go.Proofs.Ytpmnijjfadhocaa
open Go.RowKit

/-- Bytes that are read: of an empty slice nothing is said of its address. -/
structure SrcIn (w : World) (A : Option Addr) (c : Nat) (B : List Int) : Prop where
  rd : Rd w w.heap.size A (Ks .u8 B)
  nil : A = none → B = []
  spot : B.length ≠ 0 → ∀ ad, A = some ad → ∃ q o, ad = ⟨q, o, none⟩
  bts : Bts B
  cap : B.length ≤ c
theorem RmIn.src {w : World} {A : Option Addr} {c : Nat} {B : List Int} (h : RmIn w A c B) : SrcIn w A c B := ⟨h.rd, h.nil, fun _ => h.spot, h.bts, h.cap⟩
theorem SrcIn.fr {w w' : World} {A : Option Addr} {c : Nat} {B : List Int} (h : SrcIn w A c B) (f : Fr No w w') : SrcIn w' A c B :=
  ⟨(h.rd.fr f (fun _ _ x => x)).more f.size, h.nil, h.spot, h.bts, h.cap⟩
theorem SrcIn.frM {w w' : World} {A : Option Addr} {c : Nat} {B : List Int} {M : Nat → Prop} (h : SrcIn w A c B) (f : Fr M w w') (hq : B ≠ [] → ∀ q o, A = some ⟨q, o, none⟩ → ¬ M q) : SrcIn w' A c B := by
  refine ⟨?_, h.nil, h.spot, h.bts, h.cap⟩
  rcases h.rd with hh | ⟨q, o, rfl, hb, hh⟩
  · exact .inl hh
  · by_cases hB : B = []
    · subst hB; exact .inl rfl
    · exact .inr ⟨q, o, rfl, Nat.lt_of_lt_of_le hb f.size, fun k u hu => by rw [f.cell (p := ⟨q, o + k, none⟩) hb (hq hB q o rfl)]; exact hh k u hu⟩
/-- A slice of bytes that the statement reads. -/
theorem els_src {w : World} {A : Option Addr} {c : Nat} {B : List Int} (h : tB.els w (· < w.heap.size) A B) (hc : B.length ≤ c) : SrcIn w A c B := by
  have hb := els_bts h
  rcases h with rfl | ⟨b, o, rfl, hlt, hh⟩
  · exact ⟨.inl rfl, fun _ => rfl, (fun h => absurd rfl h), hb, hc⟩
  · refine ⟨.inr ⟨b, o, rfl, hlt, fun k u hu => ?_⟩, (fun h => by cases h), (fun _ ad e => ⟨b, o, by injection e with e; exact e.symm⟩), hb, hc⟩
    rw [Ks, List.getElem?_map] at hu
    obtain ⟨x, hx, rfl⟩ := Option.map_eq_some_iff.1 hu
    obtain ⟨ds, hd, rfl, _⟩ := hh k x hx
    have := hd 0 _ rfl
    have e : tB.size = 1 := rfl
    rw [e, Nat.mul_one, Nat.add_zero] at this
    exact this
theorem run_sub (kl kh : IntKind) (D : Option Addr) (n d k m : Nat) (hk : k + m ≤ n) (hd : n ≤ d) (hspot : n ≠ 0 → ∀ ad, D = some ad → ∃ q o, ad = ⟨q, o, none⟩) :
    ∃ (D' : Option Addr) (d' : Nat), (∀ W, (Instr.slice 26 (.slice D n d) (some (.int kl (k : Int))) (some (.int kh ((k : Int) + m))) none).run Try.prog W = .ok (.slice D' m d') W) ∧ m ≤ d' ∧
      (D' = D ∧ (D = none ∨ m = 0 ∨ k = 0) ∨ ∃ q o, D = some ⟨q, o, none⟩ ∧ D' = some ⟨q, o + k, none⟩) := by
  have hrun := fun W => run_slice_lh (P := Try.prog) (w := W) 26 D n d (by kernel_rfl) kl kh (k : Int) ((k : Int) + m) (by omega) (by omega) (by omega)
  have e1 : ((k : Int) + m).toNat = k + m := by omega
  have hs : ∀ W, (sizeOf (Try.prog.elem 26)).run Try.prog W = .ok 1 W := fun W => by kernel_rfl
  simp only [Int.toNat_natCast, e1, hs, Result.andThen_ok] at hrun
  cases D with
  | none =>
    exact ⟨none, d - k, fun W => by rw [hrun W]; simp [sliced], by omega, .inl ⟨rfl, .inl rfl⟩⟩
  | some ad =>
    by_cases hn0 : n = 0
    · have hk0 : k = 0 := by omega
      have hm0 : m = 0 := by omega
      subst hk0 hm0
      refine ⟨some ad, d, fun W => ?_, by omega, .inl ⟨rfl, .inr (.inr rfl)⟩⟩
      rw [hrun W]
      simp [sliced, Addr.add]
    obtain ⟨q, o, rfl⟩ := hspot hn0 ad rfl
    by_cases h0 : d - k = 0
    · refine ⟨some ⟨q, o, none⟩, 0, fun W => ?_, by omega, .inl ⟨rfl, .inr (.inl (by omega))⟩⟩
      rw [hrun W]
      simp [sliced, h0]
      intro h; omega
    · refine ⟨some ⟨q, o + k, none⟩, d - k, fun W => ?_, by omega, .inr ⟨q, o, rfl, rfl⟩⟩
      rw [hrun W]
      simp [sliced]
      rw [if_neg (by omega), add_lit']
theorem sub_rd {W : World} {N : Nat} {D D' : Option Addr} {bs : List Int} {k m : Nat} (h : Rd W N D (Ks .u8 bs)) (hn : D = none → bs = []) (hk : k + m ≤ bs.length)
    (hD : D' = D ∧ (D = none ∨ m = 0 ∨ k = 0) ∨ ∃ q o, D = some ⟨q, o, none⟩ ∧ D' = some ⟨q, o + k, none⟩) : Rd W N D' (Ks .u8 ((bs.drop k).take m)) := by
  rcases hD with ⟨rfl, h1 | h1 | h1⟩ | ⟨q, o, rfl, rfl⟩
  · rw [hn h1]; simp; exact Rd.nil
  · subst h1; simp; exact Rd.nil
  · subst h1; rw [List.drop_zero, ← Ks_take]; exact h.take_ m
  · rw [← Ks_take, ← Ks_drop]; exact (h.drop_ k).take_ m
theorem Bts.sub {bs : List Int} (h : Bts bs) (k m : Nat) : Bts ((bs.drop k).take m) := fun b hb => h b (List.mem_of_mem_drop (List.mem_of_mem_take hb))
end Go.Proofs.Ytpmnijjfadhocaa
