/- Chapter 28: stores of the program and of the reference: the bytes of a number. -/
import Derived.Test.YtpmnijjfadhocaaMmD
namespace Go.Proofs.Ytpmnijjfadhocaa
open Go.RowKit

def Emp : Nat → Prop := fun _ => False
theorem elBs : ElemOk Try.prog 26 5 1 1 (.int .u8 0) := ElemOk.mk' Try.underlying26 (by kernel_rfl) rfl (by decide)
/-- The n lowest bytes of a number, the lowest first. -/
def leB : Nat → Int → List Int
  | 0, _ => []
  | n + 1, x => x % 256 :: leB n (x / 256)
@[simp] theorem leB_len (n : Nat) (x : Int) : (leB n x).length = n := by
  induction n generalizing x with
  | zero => rfl
  | succ n ih => simp [leB, ih]
theorem leB_bts (n : Nat) (x : Int) : Bts (leB n x) := by
  induction n generalizing x with
  | zero => intro b hb; cases hb
  | succ n ih =>
    intro b hb
    rw [leB, List.mem_cons] at hb
    rcases hb with rfl | hb
    · omega
    · exact ih _ b hb
theorem leB_get (n : Nat) (x : Int) (k : Nat) (h : k < n) : (leB n x)[k]'(by simpa using h) = x / 256 ^ k % 256 := by
  induction n generalizing x k with
  | zero => omega
  | succ n ih =>
    cases k with
    | zero => simp [leB]
    | succ k =>
      simp only [leB, List.getElem_cons_succ]
      rw [ih _ _ (by omega), Int.pow_succ, Int.mul_comm, ← Int.ediv_ediv_of_nonneg (by omega)]
theorem leB_take (n : Nat) (x : Int) (k : Nat) (h : k < n) : (leB n x).take (k + 1) = (leB n x).take k ++ [x / 256 ^ k % 256] := by
  rw [List.take_succ_eq_append_getElem (by simpa using h), leB_get n x k h]
theorem wf_u8' {n : Int} (h : 0 ≤ n ∧ n ≤ 255) : (Lit.int .u8 n).wf = true := by
  simpa [Lit.wf, IntKind.min, IntKind.max, IntKind.signed, IntKind.bits] using h
theorem css_bts {w : World} {S : Nat → Prop} {l : List Int} (h : Bts l) : Css tB w S (l.map fun b => [.int .u8 b]) l := by
  refine ⟨by simp, fun i c x h1 h2 => ?_⟩
  rw [List.getElem?_map, h2] at h1
  simp only [Option.map_some, Option.some.injEq] at h1
  subst h1
  exact ⟨rfl, wf_u8' (h x (List.mem_of_getElem? h2))⟩
theorem flat_bts (l : List Int) : (l.map fun b => [Value.int .u8 b]).flatten = Ks .u8 l := by
  induction l with
  | nil => rfl
  | cons a l ih => simp [Ks] at ih ⊢; exact ih
/-- A row of bytes in a block of its own. -/
theorem row_bts {w : World} {base q : Nat} {l : List Int} (hb : Blk w q 5 (Ks .u8 l).toArray) (hq : base ≤ q) (h : Bts l) (hm : l.length ≤ maxLen) : tB.row w base Emp 5 (.slice (some ⟨q, 0, none⟩) l.length l.length) l :=
  Ty.row.lit (css := l.map fun b => [.int .u8 b]) (by rw [flat_bts]; exact hb) hq (css_bts h) hm
def stD (op x : Int) : List Int × Bool := if wst op = 0 then ([], false) else (leB (wst op) x, true)
def StTo (l : List Int) (ok : Bool) (w : World) (e : Ending) (w' : World) : Prop :=
  ∃ (A : Option Addr) (c : Nat), e = .returned (.tuple #[.slice A l.length c, .bool ok]) ∧ tB.row w' w.heap.size Emp 5 (.slice A l.length c) l ∧ Fr No w w'
theorem wst_form {op : Int} (h : wst op ≠ 0) : wst op = 1 ∨ wst op = 2 ∨ wst op = 4 ∨ wst op = 8 := by
  unfold wst at h ⊢
  split at h
  · simp [*]
  · split at h
    · simp [*]
    · split at h
      · simp [*]
      · split at h
        · simp [*]
        · exact absurd rfl h
theorem fill_set (l : List Int) (n k : Nat) (hk : k < n) (hl : l.length = n) (v : Int) (hv : l[k]? = some v) : ((Ks .u8 (l.take k ++ List.replicate (n - k) 0)).toArray).setIfInBounds k (.int .u8 v) = (Ks .u8 (l.take (k + 1) ++ List.replicate (n - (k + 1)) 0)).toArray := by
  have hkl : k < l.length := by omega
  have hvv : l[k] = v := by rw [List.getElem?_eq_getElem hkl] at hv; injection hv
  have e : n - k = (n - (k + 1)) + 1 := by omega
  rw [e, List.replicate_succ, List.take_succ_eq_append_getElem hkl, hvv, List.setIfInBounds_toArray]
  congr 1
  simp only [Ks, List.map_append, List.map_cons]
  rw [List.set_append, if_neg (by simp; omega)]
  simp [Nat.min_eq_left (Nat.le_of_lt hkl)]
theorem shr_byte (x : Int) (k : Nat) (hx : 0 ≤ x) : x / 2 ^ (8 * k) % 256 = x / 256 ^ k % 256 := by
  have : (256 : Int) ^ k = 2 ^ (8 * k) := by rw [Int.pow_mul]; rfl
  rw [this]
set_option maxRecDepth 100000 in
set_option maxHeartbeats 1600000 in
theorem astore_any (op x : Int) (w : World) (hx : 0 ≤ x ∧ x < 18446744073709551616) :
    Calls Try.prog 26 #[.int .i64 op, .int .u64 x] w (StTo (stD op x).1 (stD op x).2 w) := by
  have hr := hid (writes_any op w)
  by_cases h0 : wst op = 0
  · rw [stD, if_pos h0]
    rw [h0] at hr
    clear h0
    go_enter Try.func26, Try.ntmps26
    go_wp2_with fail
    refine hr.out.mono ?_
    rintro e w' ⟨rfl, rfl⟩
    go_wp2
    go_ret2
    exact ⟨none, 0, rfl, Ty.row.nil _ _ _ _, Fr.refl _ _⟩
  · rw [stD, if_neg h0]
    have hf := wst_form h0
    generalize wst op = n at *
    have HL := hid hf
    have z1 : ((n : Int) == 0) = false := by simp; omega
    have hn8 : n ≤ 8 := by omega
    have hmk := run_mk elBs rfl w .i64 .i64 n (by omega) (by omega)
    have G0 : Hid (Blk (w.alloc (.cells (Array.replicate n (.int .u8 0)) 5)) w.heap.size 5 (Ks .u8 ((leB n x).take 0 ++ List.replicate (n - 0) 0)).toArray) := by
      have := Blk.new w 5 (Array.replicate n (.int .u8 0))
      have e : Array.replicate n (Value.int .u8 0) = (Ks .u8 ((leB n x).take 0 ++ List.replicate (n - 0) 0)).toArray := by simp [Ks]
      rw [← e]
      exact this
    have F0 := hid ((Fr.refl No w).alloc (.cells (Array.replicate n (.int .u8 0)) 5))
    have HX := hid hx
    clear h0 hf
    go_enter Try.func26, Try.ntmps26
    go_wp2_with fail
    refine hr.out.mono ?_
    rintro e w' ⟨rfl, rfl⟩
    go_wp2
    clear hmk
    generalize w.alloc (.cells (Array.replicate n (.int .u8 0)) 5) = W at *
    go_loopw [17] (fun j wr => ∃ k : Nat, k ≤ n ∧ j = .int .i64 k ∧ Hid (Blk wr w.heap.size 5 (Ks .u8 ((leB n x).take k ++ List.replicate (n - k) 0)).toArray) ∧ Hid (Fr No w wr)) (fun j _ => n - (intOf j).toNat)
    case atStart => exact ⟨0, by omega, rfl, G0, F0⟩
    case round =>
      obtain ⟨k, hk, rfl, G, F⟩ := hrel
      clear G0 F0
      by_cases hkn : k < n
      · have i0 : (0 : Int) ≤ k := by omega
        have i1 : (k : Int) < n := by omega
        have i3 : (0 : Int) ≤ 8 * k := by omega
        have hk8 : k < 8 := by omega
        have y0 := G.out.cell k
        have yv : ((Ks .u8 ((leB n x).take k ++ List.replicate (n - k) 0)).toArray)[k]? = some (.int .u8 0) := by
          rw [List.getElem?_toArray, Ks, List.getElem?_map, List.getElem?_append_right (by rw [List.length_take]; exact Nat.min_le_left _ _), List.getElem?_replicate]
          simp [Nat.min_eq_left (Nat.le_of_lt hkn)]
          omega
        rw [yv] at y0
        have q0 := G.out.frozen k
        have hs := shr_byte x k hx.1
        clear yv
        go_wp2
        refine ⟨⟨k + 1, by omega, by go_num, ?_, ?_⟩, by simp [intOf]; omega⟩
        · have := G.out.set_ k (.int .u8 (x / 256 ^ k % 256))
          rw [fill_set (leB n x) n k hkn (leB_len n x) _ (by rw [List.getElem?_eq_getElem (by simpa using hkn), leB_get n x k hkn])] at this
          exact this
        · exact F.out.setCell _ _ (fun h => absurd h (Nat.lt_irrefl _))
      · have hke : k = n := by omega
        subst hke
        have hi1 : ¬ ((k : Int) < k) := by omega
        go_wp2
        go_ret2
        have hG := G.out
        rw [List.take_of_length_le (by simp), Nat.sub_self, List.replicate_zero, List.append_nil] at hG
        have := row_bts hG (Nat.le_refl _) (leB_bts k x) (by simp [maxLen]; omega)
        simp only [leB_len] at this
        refine ⟨some ⟨w.heap.size, 0, none⟩, k, ?_, ?_, F.out⟩
        · simp only [leB_len]; rfl
        · simp only [leB_len]; exact this
theorem row_of {w : World} {base : Nat} {v : Value} {l : List Int} (h : w.ownsRow base 5 1 v l.length (Ks .u8 l)) (hb : Bts l) : tB.row w base Emp 5 v l :=
  ⟨l.map fun b => [.int .u8 b], css_bts hb, by rw [flat_bts]; exact h⟩
theorem owns_ge {w : World} {base n : Nat} {e : TypeId} {v : Value} {xs : List Value} (h : w.ownsRow base e 1 v n xs) {g : Nat} (hv : v.ownBlock = some g) : base ≤ g := by
  rcases h.2 with hn | ⟨g', cap, cur, rfl, hb, _⟩
  · obtain ⟨rfl, _⟩ := hn
    simp [Value.ownBlock] at hv
  · simp [Value.ownBlock] at hv
    subst hv
    exact hb
theorem Bts.take {l : List Int} (h : Bts l) (k : Nat) : Bts (l.take k) := fun b hb => h b (List.mem_of_mem_take hb)
set_option maxRecDepth 100000 in
set_option maxHeartbeats 1600000 in
theorem rstore_any (op x : Int) (w : World) (hx : 0 ≤ x ∧ x < 18446744073709551616) :
    Calls Try.prog 43 #[.int .i64 op, .int .u64 x] w (StTo (stD op x).1 (stD op x).2 w) := by
  have hr := hid (fun W => width4_any op W)
  by_cases h1 : wid op = 0
  · have hw : wall op = wst op := by rw [wall, if_pos h1]
    rw [hw] at hr
    by_cases h0 : wst op = 0
    · rw [stD, if_pos h0]
      rw [h0] at hr
      clear h0 h1 hw
      go_enter Try.func43, Try.ntmps43
      go_wp2_with fail
      refine (hr.out _).mono ?_
      rintro e w' ⟨rfl, rfl⟩
      go_wp2
      go_ret2
      exact ⟨none, 0, rfl, Ty.row.nil _ _ _ _, Fr.refl _ _⟩
    · rw [stD, if_neg h0]
      have hge := wst_ge h0
      have hf := wst_form h0
      generalize wst op = n at *
      have z1 : ((n : Int) == 0) = false := by simp; omega
      have hn8 : n ≤ 8 := by omega
      clear h0 h1 hw hf
      go_enter Try.func43, Try.ntmps43
      go_wp2_with fail
      refine (hr.out _).mono ?_
      rintro e w' ⟨rfl, rfl⟩
      go_wp2_with fail
      go_loopw [1, 6, 7] (fun y out i wr => ∃ k : Nat, k ≤ n ∧ i = .int .i64 k ∧ y = .int .u64 (x / 256 ^ k) ∧ Hid (wr.ownsRow w.heap.size 5 1 out k (Ks .u8 ((leB n x).take k))) ∧ Hid (Fr No w wr)) (fun _ _ i _ => n - (intOf i).toNat)
      case atStart => exact ⟨0, by omega, rfl, by simp, by simpa [Hid, Ks] using World.ownsRow_nil w w.heap.size 5 1, Fr.refl _ _⟩
      case round =>
        obtain ⟨k, hk, rfl, rfl, HO, F⟩ := hrel
        by_cases hkn : k < n
        · have i0 : (0 : Int) ≤ k := by omega
          have i1 : (k : Int) < n := by omega
          have hT := leB_take n x k hkn
          have hd : x / 256 ^ k / 256 = x / 256 ^ (k + 1) := by rw [Int.pow_succ, ← Int.ediv_ediv_of_nonneg (Int.pow_nonneg (by omega))]
          have hq0 : 0 ≤ x / 256 ^ k := Int.ediv_nonneg hx.1 (Int.pow_nonneg (by omega))
          have hq1 : x / 256 ^ k < 18446744073709551616 := by
            have : x / 256 ^ k ≤ x := Int.ediv_le_self _ hx.1
            omega
          have HT := hid hT
          have HD := hid hd
          have HS := F.out.size
          clear hT hd
          generalize x / 256 ^ k = y at *
          go_wp2_with fail
          refine (hr.out _).mono ?_
          rintro e w' ⟨rfl, rfl⟩
          go_wp2_with (at_builtin; refine wpList_pushR elBs rfl rfl rfl rfl HO.out rfl (by omega) (by omega) HS ?_; intro v2 w2 ho2 hf2 hq2)
          refine ⟨⟨k + 1, by omega, by go_num, by rw [HD.out], ?_, F.out.trans hf2 (fun i hi h => absurd (owns_ge HO.out h.symm) (by omega))⟩, by simp [intOf]; omega⟩
          rw [HT.out, Ks_append]
          exact ho2
        · have hke : k = n := by omega
          subst hke
          have hi1 : ¬ ((k : Int) < k) := by omega
          have hO := HO.out
          rw [List.take_of_length_le (by simp)] at hO
          have hR := row_of (l := leB k x) (by simpa using hO) (leB_bts k x)
          obtain ⟨A, c, e1, _, _, _⟩ := hR.els (S' := fun _ => True) (fun _ _ => trivial) (fun _ _ => trivial)
          have HR := hid hR
          subst e1
          clear hO hR HO
          generalize x / 256 ^ k = y at *
          go_wp2_with fail
          refine (hr.out _).mono ?_
          rintro e w' ⟨rfl, rfl⟩
          go_wp2
          go_ret2
          exact ⟨A, c, by first | rfl | (simp only [leB_len]; rfl), HR.out, F.out⟩
  · have hlt := wid_lt h1
    have hw : wall op = wid op := by rw [wall, if_neg h1]
    rw [hw] at hr
    have h0 : wst op = 0 := by
      rcases Nat.eq_zero_or_pos (wst op) with h | h
      · exact h
      · have := wst_ge (Nat.ne_of_gt h); omega
    rw [stD, if_pos h0]
    have z2 : ((wid op : Int) == 0) = false := by simp; omega
    generalize wid op = n at *
    clear h0 h1 hw
    go_enter Try.func43, Try.ntmps43
    go_wp2_with fail
    refine (hr.out _).mono ?_
    rintro e w' ⟨rfl, rfl⟩
    go_wp2
    go_ret2
    exact ⟨none, 0, rfl, Ty.row.nil _ _ _ _, Fr.refl _ _⟩
end Go.Proofs.Ytpmnijjfadhocaa
