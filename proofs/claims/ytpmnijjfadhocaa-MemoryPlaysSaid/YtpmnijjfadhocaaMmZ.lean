/- Chapter 28: plain laws of stores and loads. -/
import Derived.Test.YtpmnijjfadhocaaMmX
namespace Go.Proofs.Ytpmnijjfadhocaa

theorem splice_sub (B bs : List Int) (a i n : Nat) (h : a + bs.length ≤ B.length) (hn : i + n ≤ bs.length) : ((splice B a bs).drop (a + i)).take n = (bs.drop i).take n := by
  apply List.ext_getElem?
  intro j
  rw [List.getElem?_take, List.getElem?_take]
  split
  · rw [List.getElem?_drop, List.getElem?_drop, splice_get? _ _ _ h, if_neg (by omega), if_pos (by omega)]
    congr 1; omega
  · rfl
theorem leB_drop (n : Nat) (x : Int) (i : Nat) (h : i ≤ n) : (leB n x).drop i = leB (n - i) (x / 256 ^ i) := by
  induction i generalizing n x with
  | zero => simp
  | succ i ih =>
    obtain ⟨m, rfl⟩ : ∃ m, n = m + 1 := ⟨n - 1, by omega⟩
    rw [leB, List.drop_succ_cons, ih m _ (by omega), Int.pow_succ, Int.mul_comm, ← Int.ediv_ediv_of_nonneg (by omega)]
    congr 1
    omega
theorem leB_take' (n : Nat) (x : Int) (i : Nat) (h : i ≤ n) : (leB n x).take i = leB i x := by
  induction i generalizing n x with
  | zero => simp [leB]
  | succ i ih =>
    obtain ⟨m, rfl⟩ : ∃ m, n = m + 1 := ⟨n - 1, by omega⟩
    rw [leB, List.take_succ_cons, ih m _ (by omega), leB]
theorem emod_mul' (x : Int) (P : Int) : x % (256 * P) = x % 256 + 256 * (x / 256 % P) := by
  rw [Int.emod_def x (256 * P), Int.emod_def (x / 256) P, ← Int.ediv_ediv_of_nonneg (by omega), Int.mul_sub, Int.mul_assoc]
  omega
theorem leI_leB (n : Nat) (x : Int) : leI (leB n x) = x % 256 ^ n := by
  induction n generalizing x with
  | zero => simp [leB, leI]
  | succ n ih => rw [leB, leI, ih, Int.pow_succ, Int.mul_comm (256 ^ n) 256, emod_mul']
/-- The law of MemoryBack: what is stored at an address is loaded there. -/
theorem back_yes (addr x : Int) (hx : 0 ≤ x ∧ x < 18446744073709551616) (h : addr % 4294967296 ≤ 248) :
    (storeR 55 (List.replicate 256 0) addr 0 x).2 = 0 ∧ (storeR 55 (List.replicate 256 0) addr 0 x).1.length = 256 ∧ loadR 41 (storeR 55 (List.replicate 256 0) addr 0 x).1 addr 0 = (x, 0) ∧ loadR 40 (storeR 55 (List.replicate 256 0) addr 0 x).1 addr 4 = (x / 4294967296, 0) ∧ loadR 49 (storeR 55 (List.replicate 256 0) addr 0 x).1 addr 7 = (x / 72057594037927936, 0) := by
  obtain ⟨a, ha⟩ : ∃ a : Nat, addr % 4294967296 = a := ⟨(addr % 4294967296).toNat, by omega⟩
  have e1 : storeR 55 (List.replicate 256 0) addr 0 x = (splice (List.replicate 256 0) a (leB 8 x), 0) := by
    rw [storeR, show wst 55 = 8 from by decide, if_neg (by decide), List.length_replicate, hasB, if_pos (decide_eq_true (by omega)), ha, Int.add_zero, Int.toNat_natCast]
  have hl : (splice (List.replicate 256 (0 : Int)) a (leB 8 x)).length = 256 := by rw [splice_len (by rw [leB_len, List.length_replicate]; omega), List.length_replicate]
  have ld : ∀ (op off : Int) (i k : Nat), wid op = k → k ≠ 0 → off = i → i + k ≤ 8 → (∀ l, ldV op l = leI l) → loadR op (splice (List.replicate 256 0) a (leB 8 x)) addr off = (x / 256 ^ i % 256 ^ k, 0) := by
    intro op off i k hw hk hi hik hv
    rw [loadR, hw, if_neg hk, hl, hasB, if_pos (decide_eq_true (by omega)), hv, ha, hi, show ((a : Int) + (i : Int)).toNat = a + i from by omega, splice_sub _ _ _ _ _ (by rw [leB_len, List.length_replicate]; omega) (by rw [leB_len]; omega), leB_drop _ _ _ (by omega), leB_take' _ _ _ (by omega), leI_leB]
  rw [e1]
  refine ⟨rfl, hl, ?_, ?_, ?_⟩
  · rw [ld 41 0 0 8 (by decide) (by decide) rfl (by omega) (fun l => by simp [ldV])]
    simp only [Prod.mk.injEq, and_true]
    simp only [show (256:Int)^0 = 1 from rfl, show (256:Int)^8 = 18446744073709551616 from rfl, show (256:Int)^4 = 4294967296 from rfl, show (256:Int)^7 = 72057594037927936 from rfl, show (256:Int)^1 = 256 from rfl]; omega
  · rw [ld 40 4 4 4 (by decide) (by decide) rfl (by omega) (fun l => by simp [ldV])]
    simp only [Prod.mk.injEq, and_true]
    simp only [show (256:Int)^0 = 1 from rfl, show (256:Int)^8 = 18446744073709551616 from rfl, show (256:Int)^4 = 4294967296 from rfl, show (256:Int)^7 = 72057594037927936 from rfl, show (256:Int)^1 = 256 from rfl]; omega
  · rw [ld 49 7 7 1 (by decide) (by decide) rfl (by omega) (fun l => by simp [ldV])]
    simp only [Prod.mk.injEq, and_true]
    simp only [show (256:Int)^0 = 1 from rfl, show (256:Int)^8 = 18446744073709551616 from rfl, show (256:Int)^4 = 4294967296 from rfl, show (256:Int)^7 = 72057594037927936 from rfl, show (256:Int)^1 = 256 from rfl]; omega
theorem back_no (addr x : Int) (h : 248 < addr % 4294967296) :
    storeR 55 (List.replicate 256 0) addr 0 x = (List.replicate 256 0, 2) ∧ loadR 41 (List.replicate 256 0) addr 0 = (0, 2) ∧ loadR 40 (List.replicate 256 0) addr 4 = (0, 2) ∧ loadR 49 (List.replicate 256 0) addr 7 = (0, 2) := by
  refine ⟨?_, ?_, ?_, ?_⟩
  · rw [storeR, show wst 55 = 8 from by decide, if_neg (by decide), List.length_replicate, hasB, decide_eq_false (by omega)]; rfl
  · rw [loadR, show wid 41 = 8 from by decide, if_neg (by decide), List.length_replicate, hasB, decide_eq_false (by omega)]; rfl
  · rw [loadR, show wid 40 = 4 from by decide, if_neg (by decide), List.length_replicate, hasB, decide_eq_false (by omega)]; rfl
  · rw [loadR, show wid 49 = 1 from by decide, if_neg (by decide), List.length_replicate, hasB, decide_eq_false (by omega)]; rfl
end Go.Proofs.Ytpmnijjfadhocaa
