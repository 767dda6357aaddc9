/- Chapter 28: loads of the reference. -/
import Derived.Test.YtpmnijjfadhocaaMmC
namespace Go.Proofs.Ytpmnijjfadhocaa
open Go.RowKit

theorem leI_drop {l : List Int} {k : Nat} (hk : k < l.length) : leI (l.drop k) = l[k] + 256 * leI (l.drop (k + 1)) := by
  rw [List.drop_eq_getElem_cons hk, leI]
theorem bts_drop {l : List Int} (h : Bts l) (k : Nat) : Bts (l.drop k) := fun b hb => h b (List.mem_of_mem_drop hb)
set_option maxRecDepth 100000 in
theorem pow256_le {a b : Nat} (h : a ≤ b) : (256 : Int) ^ a ≤ 256 ^ b := by
  have : (256 : Nat) ^ a ≤ 256 ^ b := Nat.pow_le_pow_right (by omega) h
  exact_mod_cast this
theorem wid_lt {op : Int} (h : wid op ≠ 0) : op < 54 := by
  unfold wid at h
  split at h
  · omega
  · split at h
    · omega
    · split at h
      · omega
      · split at h
        · omega
        · exact absurd rfl h
theorem wst_ge {op : Int} (h : wst op ≠ 0) : 54 ≤ op := by
  unfold wst at h
  split at h
  · omega
  · split at h
    · omega
    · split at h
      · omega
      · split at h
        · omega
        · exact absurd rfl h
theorem wid_form {op : Int} (h : wid op ≠ 0) : wid op = 1 ∨ wid op = 2 ∨ wid op = 4 ∨ wid op = 8 := by
  unfold wid at h ⊢
  split at h
  · simp [*]
  · split at h
    · simp [*]
    · split at h
      · simp [*]
      · split at h
        · simp [*]
        · exact absurd rfl h
set_option maxRecDepth 100000 in
set_option maxHeartbeats 1600000 in
theorem rload_any (A : Option Addr) (l : List Int) (c : Nat) (op : Int) (S : Nat → Prop) (w : World) (h : tB.els w S A l) (hl : l.length ≤ 140737488355328) :
    Calls Try.prog 39 #[.int .i64 op, .slice A l.length c] w fun e w' => e = .returned (.tuple #[.int .u64 (ldD op l).1, .bool (ldD op l).2]) ∧ Fr No w w' := by
  have hr := hid (width4_any op w)
  have hb := els_bts h
  by_cases h0 : wid op = 0
  · rw [ldD, if_pos (.inl h0)]
    have hw : wall op = wst op := by rw [wall, if_pos h0]
    rw [hw] at hr
    by_cases h1 : wst op = 0
    · rw [h1] at hr
      clear h hb h0 hw h1
      go_enter Try.func39, Try.ntmps39
      go_wp2_with fail
      refine hr.out.mono ?_
      rintro e w' ⟨rfl, rfl⟩
      go_wp2
      go_ret2
      exact ⟨rfl, Fr.refl _ _⟩
    · have hge := wst_ge h1
      have z2 : ((wst op : Int) == 0) = false := by simp; omega
      generalize wst op = n at *
      clear h hb h0 hw
      go_enter Try.func39, Try.ntmps39
      go_wp2_with fail
      refine hr.out.mono ?_
      rintro e w' ⟨rfl, rfl⟩
      go_wp2
      go_ret2
      exact ⟨rfl, Fr.refl _ _⟩
  · have hlt := wid_lt h0
    have hw : wall op = wid op := by rw [wall, if_neg h0]
    rw [hw] at hr
    have hf := wid_form h0
    by_cases h1 : l.length = wid op
    · rw [ldD, if_neg (by simp [h0, h1])]
      generalize hV : ldV op l = V at *
      have HV := hid hV
      clear hV
      generalize hm : wid op = m at *
      have hm := hid hm
      have HB := hid hb
      have HH := hid h
      subst h1
      generalize hn : l.length = n at *
      have hn := hid hn
      have z2 : ((n : Int) == 0) = false := by simp; omega
      have HL : Hid (n = 1 ∨ n = 2 ∨ n = 4 ∨ n = 8) := hf
      clear h hb h0 hl hf hw
      go_enter Try.func39, Try.ntmps39
      go_wp2_with fail
      refine hr.out.mono ?_
      rintro e w' ⟨rfl, rfl⟩
      go_wp2_with fail
      refine hr.out.mono ?_
      rintro e w' ⟨rfl, rfl⟩
      have hn8 : n ≤ 8 := by have := HL.out; omega
      go_wp2
      go_loop [6, 7] (fun x j => ∃ k : Nat, k ≤ n ∧ j = .int .i64 ((k : Int) - 1) ∧ x = .int .u64 (leI (l.drop k))) (fun _ j => (intOf j + 1).toNat)
      case atStart => exact ⟨n, by omega, by go_num, by rw [List.drop_eq_nil_of_le (by have := hn.out; omega)]; rfl⟩
      case round =>
        obtain ⟨k, hk, rfl, rfl⟩ := hrel
        by_cases hk0 : k = 0
        · subst hk0
          rw [List.drop_zero]
          have hle := leI_lt HB.out
          have h0 := hle.1
          have hlt : leI l < 256 ^ n := by have := hle.2; rwa [hn.out] at this
          have HU := hid hlt
          clear hle hlt
          have hV := HV.out
          unfold ldV at hV
          generalize leI l = u at *
          have HD := hid hV
          clear hV HV
          have hmm := hm.out
          by_cases o1 : op = 44
          · subst o1
            obtain rfl : 1 = n := hmm
            have hu : u < 256 := HU.out
            have hs := hid (signed_any u 8 w (by omega) (by decide))
            clear hr hm HU HL
            go_wp2_with fail
            refine hs.out.mono ?_
            rintro e w2 ⟨rfl, f⟩
            have F := hid f
            clear f
            go_wp2_with fail
            refine (cut_any _ 32 w2 (by simp only [IntKind.wrap_u64]; omega) (by decide)).mono ?_
            rintro e w3 ⟨rfl, rfl⟩
            go_wp2
            go_ret2
            exact ⟨rt_tup (by have := HD.out; simp at this; simp only [sgn, IntKind.wrap, IntKind.signed, IntKind.bits, wrap64, wrap32, Nat.reduceSub, Int.reducePow]; simp; split at this <;> split <;> omega), F.out⟩
          · skip
            by_cases o2 : op = 46
            · subst o2
              obtain rfl : 2 = n := hmm
              have hu : u < 65536 := HU.out
              have hs := hid (signed_any u 16 w (by omega) (by decide))
              clear hr hm HU HL
              go_wp2_with fail
              refine hs.out.mono ?_
              rintro e w2 ⟨rfl, f⟩
              have F := hid f
              clear f
              go_wp2_with fail
              refine (cut_any _ 32 w2 (by simp only [IntKind.wrap_u64]; omega) (by decide)).mono ?_
              rintro e w3 ⟨rfl, rfl⟩
              go_wp2
              go_ret2
              exact ⟨rt_tup (by have := HD.out; simp at this; simp only [sgn, IntKind.wrap, IntKind.signed, IntKind.bits, wrap64, wrap32, Nat.reduceSub, Int.reducePow]; simp; split at this <;> split <;> omega), F.out⟩
            · skip
              by_cases o3 : op = 48
              · subst o3
                obtain rfl : 1 = n := hmm
                have hu : u < 256 := HU.out
                have hs := hid (signed_any u 8 w (by omega) (by decide))
                clear hr hm HU HL
                go_wp2_with fail
                refine hs.out.mono ?_
                rintro e w2 ⟨rfl, f⟩
                have F := hid f
                clear f
                go_wp2
                go_ret2
                exact ⟨rt_tup (by have := HD.out; simp at this; simp only [sgn, IntKind.wrap, IntKind.signed, IntKind.bits, wrap64, wrap32, Nat.reduceSub, Int.reducePow]; simp; split at this <;> split <;> omega), F.out⟩
              · skip
                by_cases o4 : op = 50
                · subst o4
                  obtain rfl : 2 = n := hmm
                  have hu : u < 65536 := HU.out
                  have hs := hid (signed_any u 16 w (by omega) (by decide))
                  clear hr hm HU HL
                  go_wp2_with fail
                  refine hs.out.mono ?_
                  rintro e w2 ⟨rfl, f⟩
                  have F := hid f
                  clear f
                  go_wp2
                  go_ret2
                  exact ⟨rt_tup (by have := HD.out; simp at this; simp only [sgn, IntKind.wrap, IntKind.signed, IntKind.bits, wrap64, wrap32, Nat.reduceSub, Int.reducePow]; simp; split at this <;> split <;> omega), F.out⟩
                · skip
                  by_cases o5 : op = 52
                  · subst o5
                    obtain rfl : 4 = n := hmm
                    have hu : u < 4294967296 := HU.out
                    have hs := hid (signed_any u 32 w (by omega) (by decide))
                    clear hr hm HU HL
                    go_wp2_with fail
                    refine hs.out.mono ?_
                    rintro e w2 ⟨rfl, f⟩
                    have F := hid f
                    clear f
                    go_wp2
                    go_ret2
                    exact ⟨rt_tup (by have := HD.out; simp at this; simp only [sgn, IntKind.wrap, IntKind.signed, IntKind.bits, wrap64, wrap32, Nat.reduceSub, Int.reducePow]; simp; split at this <;> split <;> omega), F.out⟩
                  · skip
                    clear hr hm HU HL
                    go_wp2
                    go_ret2
                    exact ⟨rt_tup (by have := HD.out; rw [if_neg o1, if_neg o2, if_neg o3, if_neg o4, if_neg o5] at this; exact this), Fr.refl _ _⟩
        · obtain ⟨q, rfl⟩ : ∃ q, k = q + 1 := ⟨k - 1, by omega⟩
          have hkl : q < l.length := by have := hn.out; omega
          obtain ⟨b, o, rfl, hbS, y0, hwf⟩ := ints_at HH.out q hkl
          have hby := wf_u8 hwf
          have i0 : (0 : Int) ≤ q := by omega
          have i1 : (q : Int) < n := by omega
          have e1 : (((q + 1 : Nat) : Int) - 1) = q := by omega
          rw [e1]
          have HT := hid (leI_drop hkl)
          have hle := leI_lt (bts_drop HB.out (q + 1))
          have hu : leI (l.drop (q + 1)) < 72057594037927936 := by
            have h1 := hle.2
            have h2 : (l.drop (q + 1)).length ≤ 7 := by rw [List.length_drop]; have := hn.out; omega
            have h3 := pow256_le h2
            have h4 : (256 : Int) ^ 7 = 72057594037927936 := by decide
            rw [h4] at h3
            omega
          have hu0 := hle.1
          generalize l[q] = v at *
          generalize leI (l.drop (q + 1)) = u at *
          have hs1 : IntKind.u64.wrap (u * 256) = u * 256 := by rw [IntKind.wrap_u64]; omega
          clear hbS hle hwf e1
          go_wp2
          go_round
          case rel => exact ⟨q, by omega, by go_num, by rw [HT.out]; congr 1; omega⟩
          case measure => simp [intOf] <;> omega
    · rw [ldD, if_pos (.inr h1)]
      have hne : ((l.length : Int) != (wid op : Int)) = true := by simp; omega
      have hne2 : ((wid op : Int) == 0) = false := by simp; omega
      have hne3 : ¬ ((l.length : Int) = (wid op : Int)) := by omega
      have hne4 : ¬ ((wid op : Int) = 0) := by omega
      clear h hb h0 h1 hl hw hf
      generalize wid op = n at *
      generalize l.length = q at *
      go_enter Try.func39, Try.ntmps39
      go_wp2_with fail
      refine hr.out.mono ?_
      rintro e w' ⟨rfl, rfl⟩
      go_wp2_with fail
      refine hr.out.mono ?_
      rintro e w' ⟨rfl, rfl⟩
      go_wp2
      go_ret2
      exact ⟨rfl, Fr.refl _ _⟩
end Go.Proofs.Ytpmnijjfadhocaa
