/- Chapter 28: loads of the program and of the reference. -/
import Derived.Test.YtpmnijjfadhocaaMmB
import Derived.Laws.Shifts
namespace Go.Proofs.Ytpmnijjfadhocaa
open Go.RowKit

abbrev tB : Ty Int := Ty.int .u8
theorem wf_u8 {n : Int} (h : (Lit.int .u8 n).wf = true) : 0 ≤ n ∧ n ≤ 255 := by
  simpa [Lit.wf, IntKind.min, IntKind.max, IntKind.signed, IntKind.bits] using h
def Bts (l : List Int) : Prop := ∀ b ∈ l, 0 ≤ b ∧ b ≤ 255
theorem els_bts {w : World} {S : Nat → Prop} {A : Option Addr} {l : List Int} (h : tB.els w S A l) : Bts l := by
  intro b hb
  obtain ⟨i, hi, rfl⟩ := List.getElem_of_mem hb
  obtain ⟨_, _, _, _, _, hw⟩ := ints_at h i hi
  exact wf_u8 hw
/-- The number whose bytes these are, the lowest first. -/
def leI : List Int → Int
  | [] => 0
  | b :: l => b + 256 * leI l
set_option maxRecDepth 100000 in
theorem leI_append (l : List Int) (b : Int) : leI (l ++ [b]) = leI l + b * 256 ^ l.length := by
  induction l with
  | nil => simp [leI]
  | cons a l ih =>
    simp only [List.cons_append, leI, ih, List.length_cons, Int.pow_succ]
    rw [Int.mul_add, ← Int.add_assoc]
    congr 1
    rw [← Int.mul_assoc, Int.mul_comm 256 b, Int.mul_assoc, Int.mul_comm 256]
theorem leI_take {l : List Int} {k : Nat} (hk : k < l.length) : leI (l.take (k + 1)) = leI (l.take k) + l[k] * 256 ^ k := by
  rw [List.take_succ_eq_append_getElem hk, leI_append, List.length_take, Nat.min_eq_left (Nat.le_of_lt hk)]
set_option maxRecDepth 100000 in
theorem leI_lt {l : List Int} (h : Bts l) : 0 ≤ leI l ∧ leI l < 256 ^ l.length := by
  induction l with
  | nil => simp [leI]
  | cons a l ih =>
    have h1 := h a (List.mem_cons_self ..)
    have h2 := ih (fun b hb => h b (List.mem_cons_of_mem _ hb))
    simp only [leI, List.length_cons, Int.pow_succ]
    omega
theorem or_add (n b k : Nat) (h : n < 2 ^ k) : n ||| b * 2 ^ k = n + b * 2 ^ k := by
  rw [Nat.or_comm, Nat.mul_comm b, ← Nat.two_pow_add_eq_or_of_lt h, Nat.add_comm]
set_option maxRecDepth 100000 in
theorem shl_byte (v : Int) (k : Nat) (hv : 0 ≤ v ∧ v ≤ 255) (hk : k < 8) : IntKind.u64.wrap (v * 2 ^ (8 * k)) = v * 256 ^ k := by
  rw [IntKind.wrap_u64]
  have hh : k = 0 ∨ k = 1 ∨ k = 2 ∨ k = 3 ∨ k = 4 ∨ k = 5 ∨ k = 6 ∨ k = 7 := by omega
  rcases hh with rfl | rfl | rfl | rfl | rfl | rfl | rfl | rfl <;> simp <;> omega
set_option maxRecDepth 100000 in
theorem or_byte (u v : Int) (k : Nat) (hu : 0 ≤ u ∧ u < 256 ^ k) (hv : 0 ≤ v ∧ v ≤ 255) (hk : k < 8) : bits .or .u64 u (v * 256 ^ k) = u + v * 256 ^ k := by
  obtain ⟨n, rfl⟩ : ∃ n : Nat, u = n := ⟨u.toNat, by omega⟩
  obtain ⟨m, rfl⟩ : ∃ m : Nat, v = m := ⟨v.toNat, by omega⟩
  have hh : k = 0 ∨ k = 1 ∨ k = 2 ∨ k = 3 ∨ k = 4 ∨ k = 5 ∨ k = 6 ∨ k = 7 := by omega
  have hp : (256 : Nat) ^ k = 2 ^ (8 * k) := by rw [Nat.pow_mul]
  have hn : n < 256 ^ k := by have := hu.2; exact_mod_cast this
  have h2 : m * 256 ^ k < 18446744073709551616 := by
    rcases hh with rfl | rfl | rfl | rfl | rfl | rfl | rfl | rfl <;> simp <;> omega
  have h3 : n < 18446744073709551616 := by
    rcases hh with rfl | rfl | rfl | rfl | rfl | rfl | rfl | rfl <;> simp at hn <;> omega
  have h := bits_or_u64_nat n (m * 256 ^ k) h3 h2
  have hn2 : n < 2 ^ (8 * k) := by rw [← hp]; exact hn
  have h4 := or_add n m (8 * k) hn2
  rw [← hp] at h4
  rw [h4] at h
  push_cast at h
  exact h
theorem rt_tup {a b : Int} (h : a = b) : Ending.returned (.tuple #[.int .u64 a, .bool true]) = .returned (.tuple #[.int .u64 b, .bool true]) := by rw [h]
/-- What a load makes of the bytes. -/
def ldV (op : Int) (l : List Int) : Int :=
  let n := leI l
  if op = 44 then (if n < 128 then n else n + 4294967040) else if op = 46 then (if n < 32768 then n else n + 4294901760) else if op = 48 then (if n < 128 then n else n + 18446744073709551360)
  else if op = 50 then (if n < 32768 then n else n + 18446744073709486080) else if op = 52 then (if n < 2147483648 then n else n + 18446744069414584320) else n
def ldD (op : Int) (l : List Int) : Int × Bool := if wid op = 0 ∨ l.length ≠ wid op then (0, false) else (ldV op l, true)
set_option maxRecDepth 100000 in
set_option maxHeartbeats 1600000 in
theorem aload_any (A : Option Addr) (l : List Int) (c : Nat) (op : Int) (S : Nat → Prop) (w : World) (h : tB.els w S A l) (hl : l.length ≤ 140737488355328) :
    Calls Try.prog 29 #[.int .i64 op, .slice A l.length c] w fun e w' => e = .returned (.tuple #[.int .u64 (ldD op l).1, .bool (ldD op l).2]) ∧ w = w' := by
  have hr := hid (reads_any op w)
  have hb := els_bts h
  by_cases h0 : wid op = 0
  · rw [ldD, if_pos (.inl h0)]
    rw [h0] at hr
    clear h hb h0
    go_enter Try.func29, Try.ntmps29
    go_wp2_with fail
    refine hr.out.mono ?_
    rintro e w' ⟨rfl, rfl⟩
    go_wp2
    go_ret2
    exact ⟨rfl, rfl⟩
  · by_cases h1 : l.length = wid op
    · rw [ldD, if_neg (by simp [h0, h1])]
      have h8 : wid op = 1 ∨ wid op = 2 ∨ wid op = 4 ∨ wid op = 8 := by
        unfold wid at h0 ⊢
        split at h0
        · simp [*]
        · split at h0
          · simp [*]
          · split at h0
            · simp [*]
            · split at h0
              · simp [*]
              · exact absurd rfl h0
      have HO := hid (rfl : wid op = wid op)
      generalize hm : wid op = m at *
      have hm := hid hm
      have HB := hid hb
      have HH := hid h
      subst h1
      generalize hn : l.length = n at *
      have hn := hid hn
      generalize hV : ldV op l = V at *
      have HV := hid hV
      clear hV
      have z1 : decide ((n : Int) = 0) = false := decide_eq_false (by omega)
      have z2 : ((n : Int) == 0) = false := by simpa using z1
      have HL : Hid (n = 1 ∨ n = 2 ∨ n = 4 ∨ n = 8) := h8
      clear h hb h0 hl h8
      go_enter Try.func29, Try.ntmps29
      go_wp2_with fail
      refine hr.out.mono ?_
      rintro e w' ⟨rfl, rfl⟩
      go_wp2_with fail
      refine hr.out.mono ?_
      rintro e w' ⟨rfl, rfl⟩
      go_wp2
      go_loop [6, 21] (fun x j => ∃ k : Nat, k ≤ n ∧ j = .int .i64 k ∧ x = .int .u64 (leI (l.take k))) (fun _ j => n - (intOf j).toNat)
      case atStart => exact ⟨0, by omega, rfl, rfl⟩
      case round =>
        obtain ⟨k, hk, rfl, rfl⟩ := hrel
        by_cases hkn : k < n
        · have hkl : k < l.length := by have := hn.out; omega
          obtain ⟨b, o, rfl, hbS, y0, hwf⟩ := ints_at HH.out k hkl
          have hby := wf_u8 hwf
          have i0 : (0 : Int) ≤ k := by omega
          have i1 : (k : Int) < n := by omega
          have HT := hid (leI_take hkl)
          have hle := leI_lt (l := l.take k) (fun b hb => HB.out b (List.mem_of_mem_take hb))
          generalize l[k] = v at *
          generalize leI (l.take k) = u at *
          have i3 : (0 : Int) ≤ 8 * k := by omega
          clear hbS
          have hk8 : k < 8 := by have := HL.out; omega
          rw [List.length_take, Nat.min_eq_left (Nat.le_of_lt hkl)] at hle
          have hs1 := shl_byte v k hby hk8
          have hs2 := or_byte u v k hle hby hk8
          clear hle hwf
          go_wp2
          go_round
          case rel => exact ⟨k + 1, by omega, by go_num, by rw [HT.out]⟩
          case measure => simp [intOf]; omega
        · have hke : k = n := by omega
          subst hke
          have hT : l.take k = l := List.take_of_length_le (by have := hn.out; omega)
          rw [hT]
          have hle := leI_lt HB.out
          have h0 := hle.1
          have hlt : leI l < 256 ^ k := by have := hle.2; rwa [hn.out] at this
          have HU := hid hlt
          clear hT hle hlt
          have hV := HV.out
          unfold ldV at hV
          generalize leI l = u at *
          have hi1 : ¬ ((k : Int) < k) := by omega
          have HD := hid hV
          clear hV HV
          have hmm := hm.out
          have HD0 := HD
          by_cases o1 : op = 44
          · subst o1
            obtain rfl : 1 = k := hmm
            have hu : u < 256 := HU.out
            have hw := hid (fun x hx => word_any x w hx)
            clear hr hm HU HD0 HL
            go_wp2_with fail
            refine (hw.out _ (by simp only [IntKind.wrap_u64]; omega)).mono ?_
            rintro e w' ⟨rfl, rfl⟩
            go_wp2
            go_ret2
            exact ⟨rt_tup (by have := HD.out; simp at this; simp only [IntKind.wrap, IntKind.signed, IntKind.bits, wrap64, wrap32]; simp; split at this <;> omega), rfl⟩
          · skip
            by_cases o2 : op = 46
            · subst o2
              obtain rfl : 2 = k := hmm
              have hu : u < 65536 := HU.out
              have hw := hid (fun x hx => word_any x w hx)
              clear hr hm HU HD0 HL
              go_wp2_with fail
              refine (hw.out _ (by simp only [IntKind.wrap_u64]; omega)).mono ?_
              rintro e w' ⟨rfl, rfl⟩
              go_wp2
              go_ret2
              exact ⟨rt_tup (by have := HD.out; simp at this; simp only [IntKind.wrap, IntKind.signed, IntKind.bits, wrap64, wrap32]; simp; split at this <;> omega), rfl⟩
            · skip
              by_cases o3 : op = 48
              · subst o3
                obtain rfl : 1 = k := hmm
                have hu : u < 256 := HU.out
                clear hr hm HU HD0 HL
                go_wp2
                go_ret2
                exact ⟨rt_tup (by have := HD.out; simp at this; simp only [IntKind.wrap, IntKind.signed, IntKind.bits, wrap64, wrap32]; simp; split at this <;> omega), rfl⟩
              · skip
                by_cases o4 : op = 50
                · subst o4
                  obtain rfl : 2 = k := hmm
                  have hu : u < 65536 := HU.out
                  clear hr hm HU HD0 HL
                  go_wp2
                  go_ret2
                  exact ⟨rt_tup (by have := HD.out; simp at this; simp only [IntKind.wrap, IntKind.signed, IntKind.bits, wrap64, wrap32]; simp; split at this <;> omega), rfl⟩
                · skip
                  by_cases o5 : op = 52
                  · subst o5
                    obtain rfl : 4 = k := hmm
                    have hu : u < 4294967296 := HU.out
                    clear hr hm HU HD0 HL
                    go_wp2
                    go_ret2
                    exact ⟨rt_tup (by have := HD.out; simp at this; simp only [IntKind.wrap, IntKind.signed, IntKind.bits, wrap64, wrap32]; simp; split at this <;> omega), rfl⟩
                  · skip
                    clear hr hm HU HD0 HL
                    go_wp2
                    go_ret2
                    exact ⟨rt_tup (by have := HD.out; rw [if_neg o1, if_neg o2, if_neg o3, if_neg o4, if_neg o5] at this; exact this), rfl⟩
    · rw [ldD, if_pos (.inr h1)]
      have hne : ((l.length : Int) != (wid op : Int)) = true := by simp; omega
      have hne2 : ((wid op : Int) == 0) = false := by simp; omega
      have hne3 : ¬ ((l.length : Int) = (wid op : Int)) := by omega
      have hne4 : ¬ ((wid op : Int) = 0) := by omega
      clear h hb h0 h1 hl
      generalize wid op = n at *
      generalize l.length = q at *
      go_enter Try.func29, Try.ntmps29
      go_wp2_with fail
      refine hr.out.mono ?_
      rintro e w' ⟨rfl, rfl⟩
      go_wp2_with fail
      refine hr.out.mono ?_
      rintro e w' ⟨rfl, rfl⟩
      go_wp2
      go_ret2
      exact ⟨rfl, rfl⟩
end Go.Proofs.Ytpmnijjfadhocaa
