/- Chapter 28: slices of bytes. -/
import Derived.Test.YtpmnijjfadhocaaMmJ
namespace Go.Proofs.Ytpmnijjfadhocaa
open Go.RowKit

theorem run_sub (kl kh : IntKind) (D : Option Addr) (n d k m : Nat) (hk : k + m ≤ n) (hd : n ≤ d) (hspot : ∀ ad, D = some ad → ∃ q o, ad = ⟨q, o, none⟩) :
    ∃ (D' : Option Addr) (d' : Nat), (∀ W, (Instr.slice 26 (.slice D n d) (some (.int kl (k : Int))) (some (.int kh ((k : Int) + m))) none).run Try.prog W = .ok (.slice D' m d') W) ∧ m ≤ d' ∧
      (D' = D ∧ (D = none ∨ m = 0 ∨ k = 0) ∨ ∃ q o, D = some ⟨q, o, none⟩ ∧ D' = some ⟨q, o + k, none⟩) := by
  have hrun := fun W => run_slice_lh (P := Try.prog) (w := W) 26 D n d (by kernel_rfl) kl kh (k : Int) ((k : Int) + m) (by omega) (by omega) (by omega)
  have e1 : ((k : Int) + m).toNat = k + m := by omega
  have hs : ∀ W, (sizeOf (Try.prog.elem 26)).run Try.prog W = .ok 1 W := fun W => by kernel_rfl
  simp only [Int.toNat_natCast, e1, hs, Result.andThen_ok] at hrun
  cases D with
  | none =>
    exact ⟨none, d - k, fun W => by rw [hrun W]; simp [sliced], by omega, .inl ⟨rfl, .inl rfl⟩⟩
  | some ad =>
    obtain ⟨q, o, rfl⟩ := hspot ad rfl
    by_cases h0 : d - k = 0
    · refine ⟨some ⟨q, o, none⟩, 0, fun W => ?_, by omega, .inl ⟨rfl, .inr (.inl (by omega))⟩⟩
      rw [hrun W]
      simp [sliced, h0]
      intro h; omega
    · refine ⟨some ⟨q, o + k, none⟩, d - k, fun W => ?_, by omega, .inr ⟨q, o, rfl, rfl⟩⟩
      rw [hrun W]
      simp [sliced]
      rw [if_neg (by omega), add_lit']
theorem sub_rd {W : World} {N : Nat} {D D' : Option Addr} {bs : List Int} {k m : Nat} (h : Rd W N D (Ks .u8 bs)) (hn : D = none → bs = []) (hk : k + m ≤ bs.length)
    (hD : D' = D ∧ (D = none ∨ m = 0 ∨ k = 0) ∨ ∃ q o, D = some ⟨q, o, none⟩ ∧ D' = some ⟨q, o + k, none⟩) : Rd W N D' (Ks .u8 ((bs.drop k).take m)) := by
  rcases hD with ⟨rfl, h1 | h1 | h1⟩ | ⟨q, o, rfl, rfl⟩
  · rw [hn h1]; simp; exact Rd.nil
  · subst h1; simp; exact Rd.nil
  · subst h1; rw [List.drop_zero, ← Ks_take]; exact h.take_ m
  · rw [← Ks_take, ← Ks_drop]; exact (h.drop_ k).take_ m
theorem Bts.sub {bs : List Int} (h : Bts bs) (k m : Nat) : Bts ((bs.drop k).take m) := fun b hb => h b (List.mem_of_mem_drop (List.mem_of_mem_take hb))
end Go.Proofs.Ytpmnijjfadhocaa
