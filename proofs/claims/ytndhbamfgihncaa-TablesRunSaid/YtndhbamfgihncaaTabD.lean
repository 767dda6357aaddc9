/- Contracts of Init, Copy, Grow and Fill of a table. -/
import Derived.Test.YtndhbamfgihncaaTabC
namespace Go.Proofs.Ytndhbamfgihncaa
open Go.RowKit

section
variable {w : World} {p q c : Nat} {e mn mx : Int} {h : Bool} {xs : List Int}

def Fits (n m : Nat) (to at_ k : Int) : Prop := to % 4294967296 + k % 4294967296 ≤ (n : Int) ∧ at_ % 4294967296 + k % 4294967296 ≤ (m : Int)

set_option maxHeartbeats 400000 in
theorem init_no (t : TabAt w p q c e mn mx h xs) (A : Option Addr) (m cl : Nat) (to at_ k : Int) (h0 : 0 ≤ to) (h1 : 0 ≤ at_) (h2 : 0 ≤ k) (hm : m ≤ 1048576) (hi : ¬ Fits xs.length m to at_ k) :
    Calls Try.prog 11 #[.pointer (some ⟨p, 0, none⟩), .slice A m cl, .int .u64 to, .int .u64 at_, .int .u64 k] w fun e' w' => e' = .returned (.int .i64 3) ∧ w = w' := by
  have hl := t.len
  by_cases hf : to % 4294967296 + k % 4294967296 ≤ (xs.length : Int)
  · have hb := there_true hf
    have hb2 := there_false (n := m) (i := at_) (m := k) (fun hx => hi ⟨hf, hx⟩)
    clear hi hf
    go_enter Try.func11, Try.ntmps11
    go_wp2_with (first
      | (go_at_call 25; refine (list_at _ _ _ t.c4).mono ?_; rintro e w' ⟨rfl, rfl⟩)
      | (go_at_call 26; refine (there_any _ _ _ _ _ _ (by omega) (by omega) (by omega)).mono ?_; rintro e w' ⟨rfl, rfl⟩))
    go_ret
    exact ⟨rfl, rfl⟩
  · have hb := there_false hf
    clear hi hf
    go_enter Try.func11, Try.ntmps11
    go_wp2_with (first
      | (go_at_call 25; refine (list_at _ _ _ t.c4).mono ?_; rintro e w' ⟨rfl, rfl⟩)
      | (go_at_call 26; refine (there_any _ _ _ _ _ _ (by omega) (by omega) (by omega)).mono ?_; rintro e w' ⟨rfl, rfl⟩))
    go_ret
    exact ⟨rfl, rfl⟩

set_option maxHeartbeats 400000 in
theorem init_zero (t : TabAt w p q c e mn mx h xs) (A : Option Addr) (m cl : Nat) (to at_ k : Int) (h0 : 0 ≤ to) (h1 : 0 ≤ at_) (h2 : 0 ≤ k) (hm : m ≤ 1048576) (hi : Fits xs.length m to at_ k) (hk : k % 4294967296 = 0) :
    Calls Try.prog 11 #[.pointer (some ⟨p, 0, none⟩), .slice A m cl, .int .u64 to, .int .u64 at_, .int .u64 k] w fun e' w' => e' = .returned (.int .i64 0) ∧ w = w' := by
  have hl := t.len
  have hb := there_true hi.1
  have hb2 := there_true hi.2
  clear hi
  go_enter Try.func11, Try.ntmps11
  go_wp2_with (first
      | (go_at_call 25; refine (list_at _ _ _ t.c4).mono ?_; rintro e w' ⟨rfl, rfl⟩)
      | (go_at_call 27; refine (low_any _ _ (by omega)).mono ?_; rintro e w' ⟨rfl, rfl⟩)
      | (go_at_call 26; refine (there_any _ _ _ _ _ _ (by omega) (by omega) (by omega)).mono ?_; rintro e w' ⟨rfl, rfl⟩))
  go_ret
  exact ⟨rfl, rfl⟩

set_option maxHeartbeats 800000 in
theorem init_pos (t : TabAt w p q c e mn mx h xs) (A : Option Addr) (ys : List Int) (B cl T U N : Nat) (to at_ k : Int) (h0 : 0 ≤ to) (h1 : 0 ≤ at_) (h2 : 0 ≤ k) (hm : ys.length ≤ 1048576) (hcl : ys.length ≤ cl)
    (hr : Rd w B A (Us ys)) (eT : to % 4294967296 = T) (eU : at_ % 4294967296 = U) (eN : k % 4294967296 = N) (hN : 0 < N) (f1 : T + N ≤ xs.length) (f2 : U + N ≤ ys.length) :
    Calls Try.prog 11 #[.pointer (some ⟨p, 0, none⟩), .slice A ys.length cl, .int .u64 to, .int .u64 at_, .int .u64 k] w
      fun e' w' => e' = .returned (.int .i64 0) ∧ TabAt w' p q c e mn mx h (splice xs T ((ys.drop U).take N)) ∧ Fr (One q) w w' := by
  have hl := t.len
  have hb := there_true (n := xs.length) (i := to) (m := k) (by omega)
  have hb2 := there_true (n := ys.length) (i := at_) (m := k) (by omega)
  have hne : q ≠ p := fun h => t.ne h.symm
  have h4 := t.c4
  have hcap := t.cap
  have hr' : ∃ b o, A = some ⟨b, o, none⟩ ∧ b < B ∧ Rd w B (some ⟨b, o + U, none⟩) (Us ((ys.drop U).take N)) := by
    rcases hr with hx | ⟨b, o, rfl, hb, hc⟩
    · have h' : (Us ys).length = 0 := by rw [hx]; rfl
      rw [len_Us] at h'; omega
    · refine ⟨b, o, rfl, hb, .inr ⟨b, o + U, rfl, hb, fun j u hu => ?_⟩⟩
      have := hc (U + j) u (by
        simp only [Us, List.getElem?_map, List.getElem?_take, List.getElem?_drop] at hu ⊢
        split at hu
        · exact hu
        · simp at hu)
      rwa [← Nat.add_assoc] at this
  obtain ⟨b, o, rfl, hbB, hr2⟩ := hr'
  clear hr
  have hlen : ((ys.drop U).take N).length = N := by simp; omega
  generalize hcs : (ys.drop U).take N = cs at *
  have HR := hid hr2; clear hr2
  have HL := hid hlen; clear hlen hcs
  have i1 : (0 : Int) ≤ T := by omega
  have i2 : (T : Int) ≤ xs.length := by omega
  have i3 : (0 : Int) ≤ U := by omega
  have i4 : (U : Int) + N ≤ cl := by omega
  have i5 : (U : Int) ≤ U + N := by omega
  have i6 : (0 : Int) ≤ U + N := by omega
  have ws : IntKind.u64.wrap ((U : Int) + (N : Int)) = (U : Int) + (N : Int) := IntWalk.u64_in _ (by omega)
  have wt : ((U : Int) + (N : Int)).toNat = U + N := by omega
  have n1 : ¬ c = T := by omega
  have n2 : ¬ cl = U := by omega
  go_enter Try.func11, Try.ntmps11
  go_wp2_with (first
      | (go_at_call 25; refine (list_at _ _ _ t.c4).mono ?_; rintro e w' ⟨rfl, rfl⟩)
      | (go_at_call 27; refine (low_any _ _ (by omega)).mono ?_; rintro e w' ⟨rfl, rfl⟩)
      | (go_at_call 26; refine (there_any _ _ _ _ _ _ (by omega) (by omega) (by omega)).mono ?_; rintro e w' ⟨rfl, rfl⟩))
  obtain ⟨w', hrun, ho, hf⟩ := run_cp (E := u64s) w.drew 3 (t.own.fr ((Fr.refl No w).drew) (fun x => x)) T (xs.length - T) (c - T) N (cl - U) HR.out.drew
    (by rw [len_Us, HL.out]; exact (Nat.min_eq_left (by omega)).symm) (by rw [len_Us, len_Us, HL.out]; omega) (one_Us cs)
  have HO := hid ho; clear ho
  have h4' : w'.cell? ⟨p, 4, none⟩ = some (.slice (some ⟨q, 0, none⟩) xs.length c) := (hf.cell (p := ⟨p, 4, none⟩) t.blk.lt (fun h => hne h.symm)).trans h4
  go_region_held3 (fun W => W.cell? ⟨p, 4, none⟩ = some (.slice (some ⟨q, 0, none⟩) xs.length c)) (first | go_keep) (first
      | (go_at_call 27; refine (low_any _ _ (by omega)).mono ?_; rintro e w' ⟨rfl, rfl⟩))
  go_wp2
  go_ret
  have hsl : (splice xs T cs).length = xs.length := length_splice _ _ _ (by rw [HL.out]; omega)
  refine ⟨rfl, ⟨t.ne, ?_, ?_, by rw [hsl]; exact hl, t.lim⟩, (Fr.refl (One q) w).drew.trans hf (fun _ _ h => h)⟩
  · rw [hsl]; exact t.blk.drew.fr hf (fun h => hne h.symm)
  · have e1 : Us (splice xs T cs) = splice (Us xs) T (Us cs) := by simp [Us, splice]
    rw [e1]; exact HO.out

instance (n m : Nat) (a b c : Int) : Decidable (Fits n m a b c) := by unfold Fits; infer_instance
def initS (xs ys : List Int) (to at_ k : Int) : Int × List Int :=
  if Fits xs.length ys.length to at_ k then (0, splice xs (to % 4294967296).toNat ((ys.drop (at_ % 4294967296).toNat).take (k % 4294967296).toNat)) else (3, xs)

theorem init_any (t : TabAt w p q c e mn mx h xs) (A : Option Addr) (ys : List Int) (B cl : Nat) (to at_ k : Int) (h0 : 0 ≤ to) (h1 : 0 ≤ at_) (h2 : 0 ≤ k) (hm : ys.length ≤ 1048576) (hcl : ys.length ≤ cl)
    (hr : Rd w B A (Us ys)) :
    Calls Try.prog 11 #[.pointer (some ⟨p, 0, none⟩), .slice A ys.length cl, .int .u64 to, .int .u64 at_, .int .u64 k] w
      fun e' w' => e' = .returned (.int .i64 (initS xs ys to at_ k).1) ∧ TabAt w' p q c e mn mx h (initS xs ys to at_ k).2 ∧ Fr (One q) w w' := by
  unfold initS
  by_cases hf : Fits xs.length ys.length to at_ k
  · simp only [if_pos hf]
    by_cases hk : k % 4294967296 = 0
    · refine (init_zero t A _ cl to at_ k h0 h1 h2 hm hf hk).mono ?_
      rintro e w' ⟨rfl, rfl⟩
      refine ⟨rfl, ?_, Fr.refl _ _⟩
      have : splice xs (to % 4294967296).toNat ((ys.drop (at_ % 4294967296).toNat).take (k % 4294967296).toNat) = xs := by
        rw [hk]; simp [splice]
      rw [this]; exact t
    · obtain ⟨f1, f2⟩ := hf
      refine (init_pos t A ys B cl (to % 4294967296).toNat (at_ % 4294967296).toNat (k % 4294967296).toNat to at_ k h0 h1 h2 hm hcl hr (by omega) (by omega) (by omega) (by omega) (by omega) (by omega)).mono ?_
      rintro e w' ⟨rfl, ht, hfr⟩
      exact ⟨rfl, ht, hfr⟩
  · simp only [if_neg hf]
    refine (init_no t A _ cl to at_ k h0 h1 h2 hm hf).mono ?_
    rintro e w' ⟨rfl, rfl⟩
    exact ⟨rfl, t, Fr.refl _ _⟩

set_option maxHeartbeats 400000 in
theorem copy_at (t : TabAt w p q c e mn mx h xs) {p2 : Nat} (A : Option Addr) (ys : List Int) (B cl : Nat) (to at_ k : Int) (h0 : 0 ≤ to) (h1 : 0 ≤ at_) (h2 : 0 ≤ k) (hm : ys.length ≤ 1048576) (hcl : ys.length ≤ cl)
    (hr : Rd w B A (Us ys)) (h4 : w.cell? ⟨p2, 4, none⟩ = some (.slice A ys.length cl)) :
    Calls Try.prog 10 #[.pointer (some ⟨p, 0, none⟩), .pointer (some ⟨p2, 0, none⟩), .int .u64 to, .int .u64 at_, .int .u64 k] w
      fun e' w' => e' = .returned (.int .i64 (initS xs ys to at_ k).1) ∧ TabAt w' p q c e mn mx h (initS xs ys to at_ k).2 ∧ Fr (One q) w w' := by
  have HI := hid (init_any t A ys B cl to at_ k h0 h1 h2 hm hcl hr)
  go_enter Try.func10, Try.ntmps10
  go_wp2_with (first
      | (go_at_call 25; refine (list_at _ _ _ h4).mono ?_; rintro e w' ⟨rfl, rfl⟩)
      | (go_at_call 11; refine HI.out.mono ?_; rintro e w' ⟨rfl, hd⟩; have HD := hid hd; clear hd))
  go_ret
  exact ⟨rfl, HD.out⟩

set_option maxHeartbeats 400000 in
theorem copy_nil (t : TabAt w p q c e mn mx h xs) (to at_ k : Int) (h0 : 0 ≤ to) (h1 : 0 ≤ at_) (h2 : 0 ≤ k) :
    Calls Try.prog 10 #[.pointer (some ⟨p, 0, none⟩), .pointer none, .int .u64 to, .int .u64 at_, .int .u64 k] w
      fun e' w' => e' = .returned (.int .i64 (initS xs [] to at_ k).1) ∧ TabAt w' p q c e mn mx h (initS xs [] to at_ k).2 ∧ Fr (One q) w w' := by
  have HI := hid (init_any t none [] 0 0 to at_ k h0 h1 h2 (by simp) (by simp) (.inl rfl))
  go_enter Try.func10, Try.ntmps10
  go_wp2_with (first
      | (go_at_call 25; refine (list_nil _).mono ?_; rintro e w' ⟨rfl, rfl⟩)
      | (go_at_call 11; refine HI.out.mono ?_; rintro e w' ⟨rfl, hd⟩; have HD := hid hd; clear hd))
  go_ret
  exact ⟨rfl, HD.out⟩

def mostS (mx : Int) (h : Bool) : Int := if h then mx else 1024
def GrowTo (p q : Nat) (e mn mx : Int) (h : Bool) (xs : List Int) (w w' : World) : Prop :=
  ∃ q' c', TabAt w' p q' c' e mn mx h xs ∧ Fr (Two p q) w w' ∧ (q' = q ∨ w.heap.size ≤ q')

set_option maxHeartbeats 400000 in
theorem grow_no (t : TabAt w p q c e mn mx h xs) (n x : Int) (h0 : 0 ≤ n) (hi : mostS mx h < xs.length + n % 4294967296) :
    Calls Try.prog 16 #[.pointer (some ⟨p, 0, none⟩), .int .u64 n, .int .u64 x] w fun e' w' => e' = .returned (.int .u64 4294967295) ∧ w = w' := by
  have hl := t.len
  have h2 := t.c2
  have h3 := t.c3
  have h4 := t.c4
  have h5 := t.c5
  have hm := t.lim
  cases h
  all_goals
    simp [mostS] at hi
    simp at hm
    go_enter Try.func16, Try.ntmps16
    go_wp2_with (first
      | (go_at_call 27; refine (low_any _ _ (by omega)).mono ?_; rintro e w' ⟨rfl, rfl⟩))
    go_ret
    exact ⟨rfl, rfl⟩

set_option maxHeartbeats 400000 in
theorem grow_yes (t : TabAt w p q c e mn mx h xs) (n x : Int) (N : Nat) (h0 : 0 ≤ n) (eN : n % 4294967296 = N) (hi : xs.length + N ≤ mostS mx h) :
    Calls Try.prog 16 #[.pointer (some ⟨p, 0, none⟩), .int .u64 n, .int .u64 x] w fun e' w' => e' = .returned (.int .u64 xs.length) ∧ GrowTo p q e mn mx h (xs ++ List.replicate N x) w w' := by
  have hl := t.len
  have h2 := t.c2
  have h3 := t.c3
  have h4 := t.c4
  have h5 := t.c5
  have hm := t.lim
  have hi' : xs.length + N ≤ 1024 := by
    unfold mostS at hi
    cases h
    · simp at hi; omega
    · simp at hi hm; omega
  have HI := hid hi
  clear hi
  cases h
  all_goals
    simp at hm
    have hi := HI.out
    simp [mostS] at hi
    have hd : decide ((1024 : Int) < (xs.length : Int) + (N : Int)) = false := by simp; omega
    have hd2 : decide (mx < (xs.length : Int) + (N : Int)) = false ∨ True := by right; trivial
    first | (have hd' : decide (mx < (xs.length : Int) + (N : Int)) = false := by simp; omega) | skip
    clear hd2
    go_enter Try.func16, Try.ntmps16
    go_wp2_with (first
      | (go_at_call 27; refine (low_any _ _ (by omega)).mono ?_; rintro e w' ⟨rfl, rfl⟩))
    go_loopw [45] (fun i wr => ∃ k : Nat, k ≤ N ∧ i = .int .u64 k ∧ GrowTo p q e mn mx _ (xs ++ List.replicate k x) w wr) (fun i _ => N - (intOf i).toNat)
    case atStart => exact ⟨0, by omega, rfl, q, c, by simpa using t, Fr.refl _ _, .inl rfl⟩
    case round =>
      obtain ⟨k, hk, rfl, q', c', t', hf, hq⟩ := hrel
      clear h2 h3 h4 h5 hd HI
      by_cases hlt : k < N
      · have hln : (xs ++ List.replicate k x).length < 1024 := by simp; omega
        have hys : ∀ ys, ys = xs ++ List.replicate k x → Hid (ys ++ [x] = xs ++ List.replicate (k + 1) x) := by
          rintro _ rfl; simp [Hid, List.replicate_succ']
        generalize xs ++ List.replicate k x = ys at t' hln hys
        have hy := hys _ rfl
        clear hys
        have h4 := t'.c4
        have hz := t'.fz
        have hne : q' ≠ p := fun h => t'.ne h.symm
        go_wp2_with (at_builtin; refine wpList_push u64s rfl rfl rfl rfl t'.own (len_Us _) rfl (by omega) (by omega) ?_; intro q2 c2 w2 ho2 hf2 hq2; have hz2 := (hf2.frozen (p := ⟨p, 4, none⟩) t'.blk.lt (fun h => hne h.symm)).trans hz; have h42 := (hf2.cell (p := ⟨p, 4, none⟩) t'.blk.lt (fun h => hne h.symm)).trans h4)
        go_roundw
        case rel =>
          have hb2 := t'.blk.fr hf2 (fun h => hne h.symm)
          have hp2 : q2 ≠ p := by have := t'.blk.lt; rcases hq2 with rfl | h <;> omega
          refine ⟨k + 1, by omega, by go_num, q2, c2, ⟨fun h => hp2 h.symm, ?_, ?_, by rw [← hy.out]; simp; omega, t.lim⟩, ?_, ?_⟩
          · have := hb2.set_ 4 (.slice (some ⟨q2, 0, none⟩) (ys.length + 1) c2)
            rw [← hy.out]; simpa using this
          · have := ho2.fr ((Fr.refl (One p) _).setCell ⟨p, 4, none⟩ (.slice (some ⟨q2, 0, none⟩) (ys.length + 1) c2) (fun _ => rfl)) hp2
            rw [← hy.out]; simpa [Us] using this
          · refine (hf.trans hf2 ?_).setCell _ _ (fun _ => .inl rfl)
            intro i hi h
            have h : i = q' := h
            rcases hq with rfl | hq
            · exact .inr h
            · omega
          · have := hf.size
            rcases hq2 with rfl | h2
            · exact hq
            · exact .inr (by omega)
        case measure => simp [intOf]; omega
      · go_wp2
        go_ret
        obtain rfl : k = N := by omega
        exact ⟨rfl, q', c', t', hf, hq⟩
end
end Go.Proofs.Ytndhbamfgihncaa
