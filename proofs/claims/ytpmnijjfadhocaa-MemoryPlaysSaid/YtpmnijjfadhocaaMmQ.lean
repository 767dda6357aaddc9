/- Chapter 28: the program's memory: Fill. -/
import Derived.Test.YtpmnijjfadhocaaMmP
namespace Go.Proofs.Ytpmnijjfadhocaa
open Go.RowKit

theorem splice_set_in {α : Type} (B L : List α) (t k : Nat) (v : α) (h : t + L.length ≤ B.length) (hk : k < L.length) : (splice B t L).set (t + k) v = splice B t (L.set k v) := by
  apply List.ext_getElem?
  intro i
  rw [List.getElem?_set, splice_get? _ _ _ h, splice_get? _ _ _ (by simpa using h), length_splice _ _ _ h, List.length_set, List.getElem?_set]
  by_cases h1 : i < t
  · rw [if_neg (by omega), if_pos h1, if_pos h1]
  · by_cases h2 : t + k = i
    · subst h2
      rw [if_pos rfl, if_pos (by omega), if_neg h1, if_pos (by omega), if_pos (by omega), if_pos (by omega)]
    · rw [if_neg h2, if_neg h1, if_neg h1]
      by_cases h3 : i < t + L.length
      · rw [if_pos h3, if_pos h3, if_neg (by omega)]
      · rw [if_neg h3, if_neg h3]
theorem fill_step (n k : Nat) (v : Int) (hk : k < n) : (List.replicate k v ++ List.replicate (n - k) 0).set k v = List.replicate (k + 1) v ++ List.replicate (n - (k + 1)) (0 : Int) := by
  have e : n - k = (n - (k + 1)) + 1 := by omega
  rw [e, List.replicate_succ, List.set_append, if_neg (by simp)]
  simp [List.replicate_succ']
theorem fill_len (n k : Nat) (v : Int) (hk : k ≤ n) : (List.replicate k v ++ List.replicate (n - k) 0).length = n := by simp; omega
theorem fill_bts (n k : Nat) (v : Int) (hv : 0 ≤ v ∧ v ≤ 255) : Bts (List.replicate k v ++ List.replicate (n - k) 0) := fun b hb => by
  rw [List.mem_append, List.mem_replicate, List.mem_replicate] at hb
  rcases hb with ⟨_, h⟩ | ⟨_, h⟩ <;> rw [h] <;> omega
theorem Mo.setb {w : World} {p q c k : Nat} {l : Lim} {B : List Int} {v : Int} (h : Mo w p q c l B) (hk : k < B.length) (hv : 0 ≤ v ∧ v ≤ 255) : Mo (w.setCell ⟨q, k, none⟩ (.int .u8 v)) p q c l (B.set k v) := by
  refine ⟨?_, ?_, fun b hb => ?_⟩
  · have := h.hp.far (p := ⟨q, k, none⟩) h.ne (.int .u8 v)
    rwa [List.length_set]
  · have := h.own.set_ k (.int .u8 v)
    rw [show (Ks .u8 B).set k (.int .u8 v) = Ks .u8 (B.set k v) by simp [Ks]] at this
    exact this
  · rcases List.mem_or_eq_of_mem_set hb with hb | hb
    · exact h.bts b hb
    · rw [hb]; exact hv
theorem zU8 : ∀ w, (zeroValue 5).run Try.prog w = .ok (.int .u8 0) w := fun _ => by kernel_rfl
set_option maxRecDepth 100000 in
set_option maxHeartbeats 3200000 in
theorem mfill_any (p q c : Nat) (l : Lim) (B : List Int) (xt x xn : Int) (w : World) (hM : Mo w p q c l B) (hn : B.length ≤ 100000) (h1 : 0 ≤ xt ∧ xt < 18446744073709551616) (h2 : 0 ≤ x ∧ x < 18446744073709551616) (h3 : 0 ≤ xn ∧ xn < 18446744073709551616) :
    Calls Try.prog 21 #[.pointer (some ⟨p, 0, none⟩), .int .u64 xt, .int .u64 x, .int .u64 xn] w (MoTo p q c l (fillR B (lo xt) x (lo xn)).1 (fillR B (lo xt) x (lo xn)).2 w) := by
  have HT := hid (fun W => lo_any xt W h1)
  have HN := hid (fun W => lo_any xn W h3)
  have HM := hid hM
  have b1 := lo_lt xt
  have b3 := lo_lt xn
  generalize lo xt = t at *
  generalize lo xn = n at *
  have HR := hid (fun W => lfit_any B.length t n W (by omega) b1 b3)
  have c3 := hM.hp.cell 3
  have hcap := hM.cap
  clear hM h1 h3
  unfold fillR
  by_cases e2 : t + n ≤ B.length
  · rw [if_pos e2]
    rw [decide_eq_true e2] at HR
    by_cases hn0 : n = 0
    · subst hn0
      rw [List.replicate_zero, splice_nil']
      have hcl := fun (W : World) (ty : TypeId) (A : Option Addr) (d : Nat) => run_clear_zero (P := Try.prog) W 26 5 ty (.int .u8 0) Try.underlying26 zU8 A d
      by_cases hct : c = t
      · subst hct
        go_enter Try.func21, Try.ntmps21
        go_wp2_with fail
        refine (HT.out _).mono ?_
        rintro e w' ⟨rfl, rfl⟩
        go_wp2_with fail
        refine (HN.out _).mono ?_
        rintro e w' ⟨rfl, rfl⟩
        go_wp2_with fail
        refine (HR.out _).mono ?_
        rintro e w' ⟨rfl, rfl⟩
        go_wp2
        all_goals first
          | (go_ret; exact ⟨rfl, HM.out, Fr.refl _ _⟩)
          | (go_loopw [41] (fun j wr => j = .int .i64 0 ∧ wr = w) (fun _ _ => 0)
             case atStart => exact ⟨rfl, rfl⟩
             case round =>
               obtain ⟨rfl, rfl⟩ := hrel
               go_wp2
               go_ret
               exact ⟨rfl, HM.out, Fr.refl _ _⟩)
      · skip
        go_enter Try.func21, Try.ntmps21
        go_wp2_with fail
        refine (HT.out _).mono ?_
        rintro e w' ⟨rfl, rfl⟩
        go_wp2_with fail
        refine (HN.out _).mono ?_
        rintro e w' ⟨rfl, rfl⟩
        go_wp2_with fail
        refine (HR.out _).mono ?_
        rintro e w' ⟨rfl, rfl⟩
        go_wp2
        all_goals first
          | (go_ret; exact ⟨rfl, HM.out, Fr.refl _ _⟩)
          | (go_loopw [41] (fun j wr => j = .int .i64 0 ∧ wr = w) (fun _ _ => 0)
             case atStart => exact ⟨rfl, rfl⟩
             case round =>
               obtain ⟨rfl, rfl⟩ := hrel
               go_wp2
               go_ret
               exact ⟨rfl, HM.out, Fr.refl _ _⟩)
    · have hct : ¬ c = t := by omega
      have hv : 0 ≤ x % 256 ∧ x % 256 ≤ 255 := by omega
      have hcl := fun (ty : TypeId) => Go.Lib.run_clear_slice (P := Try.prog) w 26 5 ty (.int .u8 0) Try.underlying26 zU8 rfl rfl q t n (c - t) (by omega)
        (fun j hj => by have := HM.out.own.cell (t + j) (by simp; omega); rw [this]; rfl) (fun j hj => HM.out.own.frozen (t + j))
      have hM1 : Mo (w.setCells q t (List.replicate n (.int .u8 0))) p q c l (splice B t (List.replicate n 0)) := by
        have ho := own_setCells (List.replicate n (.int .u8 0)) t w (Ks .u8 B) HM.out.own (by simp; omega)
        have e : List.replicate n (Value.int .u8 0) = Ks .u8 (List.replicate n 0) := by simp [Ks]
        rw [e] at ho ⊢
        exact Mo.put HM.out (fr_setCells _ _ _ _ (Fr.refl _ w) (fun _ => rfl)) ho (zeros_bts n) (by simpa using e2)
      have HM1 := hid hM1
      have F1 := hid (fr_setCells (M := One q) (List.replicate n (.int .u8 0)) t w w (Fr.refl _ w) (fun _ => rfl))
      clear hM1
      go_enter Try.func21, Try.ntmps21
      go_wp2_with fail
      refine (HT.out _).mono ?_
      rintro e w' ⟨rfl, rfl⟩
      go_wp2_with fail
      refine (HN.out _).mono ?_
      rintro e w' ⟨rfl, rfl⟩
      go_wp2_with fail
      refine (HR.out _).mono ?_
      rintro e w' ⟨rfl, rfl⟩
      by_cases hv0 : x % 256 = 0
      · have hv1 : (x % 256 == 0) = true := by simpa using hv0
        go_wp2
        go_ret
        exact ⟨rfl, by rw [hv0]; exact HM1.out, F1.out⟩
      · have hv1 : (x % 256 == 0) = false := by simpa using hv0
        generalize hxv : x % 256 = v at *
        go_wp2
        clear hcl
        generalize w.setCells q t (List.replicate n (.int .u8 0)) = W1 at *
        have HM2 : Hid (Mo W1 p q c l (splice B t (List.replicate 0 v ++ List.replicate (n - 0) 0))) := by
          rw [Hid, List.replicate_zero, List.nil_append, Nat.sub_zero]; exact HM1.out
        clear HM1
        go_loopw [41] (fun j wr => ∃ k : Nat, k ≤ n ∧ j = .int .i64 k ∧ Hid (Mo wr p q c l (splice B t (List.replicate k v ++ List.replicate (n - k) 0))) ∧ Hid (Fr (One q) w wr)) (fun j _ => n - (intOf j).toNat)
        case atStart => exact ⟨0, by omega, rfl, HM2, F1⟩
        case round =>
          obtain ⟨k, hk, rfl, HK, FK⟩ := hrel
          clear HM2 F1
          by_cases hkn : k < n
          · have i0 : (0 : Int) ≤ k := by omega
            have i1 : (k : Int) < n := by omega
            have hlen : (splice B t (List.replicate k v ++ List.replicate (n - k) 0)).length = B.length := splice_len (by rw [fill_len n k v hk]; exact e2)
            have y0 := HK.out.own.cell (t + k) (by rw [len_Ks, hlen]; omega)
            rw [Ks_at _ _ _ (by rw [hlen]; omega)] at y0
            have q0 := HK.out.own.frozen (t + k)
            have hset := splice_set_in B (List.replicate k v ++ List.replicate (n - k) 0) t k v (by rw [fill_len n k v hk]; exact e2) (by rw [fill_len n k v hk]; exact hkn)
            rw [fill_step n k v hkn] at hset
            have HS := hid hset
            have hm := HK.out.setb (k := t + k) (v := v) (by rw [hlen]; omega) hv
            rw [hset] at hm
            have HMN := hid hm
            clear hset hm
            generalize (splice B t (List.replicate k v ++ List.replicate (n - k) 0))[t + k] = u at *
            clear hlen
            go_wp2
            exact ⟨⟨k + 1, by omega, by go_num, HMN, FK.out.setCell _ _ (fun _ => rfl)⟩, by simp [intOf]; omega⟩
          · have hke : k = n := by omega
            subst hke
            have hi1 : ¬ ((k : Int) < k) := by omega
            have hm := HK.out
            rw [Nat.sub_self, List.replicate_zero, List.append_nil] at hm
            have HM3 := hid hm
            clear hm HK
            go_wp2
            go_ret
            exact ⟨rfl, HM3.out, FK.out⟩
  · rw [if_neg e2]
    rw [decide_eq_false e2] at HR
    go_enter Try.func21, Try.ntmps21
    go_wp2_with fail
    refine (HT.out _).mono ?_
    rintro e w' ⟨rfl, rfl⟩
    go_wp2_with fail
    refine (HN.out _).mono ?_
    rintro e w' ⟨rfl, rfl⟩
    go_wp2_with fail
    refine (HR.out _).mono ?_
    rintro e w' ⟨rfl, rfl⟩
    go_wp2
    go_ret
    exact ⟨rfl, HM.out, Fr.refl _ _⟩
end Go.Proofs.Ytpmnijjfadhocaa
