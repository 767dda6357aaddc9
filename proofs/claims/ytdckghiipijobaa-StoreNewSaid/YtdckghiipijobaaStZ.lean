/- The walk of StoreNew. -/
import Derived.Test.YtdckghiipijobaaStY
namespace Go.Proofs.Ytdckghiipijobaa
open Go.RowKit

theorem b_at {w : World} {S : Nat → Prop} {A : Option Addr} {l : List Int} (h : tB.els w S A l) (i : Nat) (hi : i < l.length) : ∃ (b o : Nat), A = some ⟨b, o, none⟩ ∧ S b ∧ w.cell? ⟨b, o + i, none⟩ = some (.int .u8 l[i]) ∧ (Lit.int .u8 l[i]).wf = true := by
  obtain ⟨b, o, ds, rfl, hb, hc, hr⟩ := h.at_ i hi
  obtain ⟨rfl, hw⟩ := hr
  have := hc 0 _ rfl
  have e : tB.size = 1 := rfl
  rw [e, Nat.mul_one, Nat.add_zero] at this
  exact ⟨b, o, rfl, hb, this, hw⟩
theorem wrapU_wf (n : Int) : (Lit.int .u64 (IntKind.u64.wrap n)).wf = true := by
  simp only [Lit.wf, IntKind.wrap, IntKind.min, IntKind.max, Bool.and_eq_true, decide_eq_true_eq]
  constructor <;> simp [IntKind.bits, IntKind.signed] <;> omega
theorem wrapB_wf (n : Int) : (Lit.int .u8 (IntKind.u8.wrap n)).wf = true := by
  simp only [Lit.wf, IntKind.wrap, IntKind.min, IntKind.max, Bool.and_eq_true, decide_eq_true_eq]
  constructor <;> simp [IntKind.bits, IntKind.signed] <;> omega
def xN (refs bs : List Int) : Rx := ⟨[], [], [], [], [], [], [], [⟨refs, false⟩], [⟨bs, false⟩], []⟩
def xN1 (refs : List Int) : Rx := ⟨[], [], [], [], [], [], [], [⟨refs, false⟩], [], []⟩
set_option maxRecDepth 100000 in
set_option maxHeartbeats 12800000 in
theorem snew_any (A B : Option Addr) (c d : Nat) (refs bs : List Int) (w : World) (ha : tU.els w (· < w.heap.size) A refs) (hb : tB.els w (· < w.heap.size) B bs) (hl : refs.length ≤ 140737488351232) (hm : bs.length ≤ 140737488351232) :
    Calls Try.prog 3 #[.slice A refs.length c, .slice B bs.length d] w fun e w' => e = .returned (.bool true) ∧ Fr No w w' := by
  by_cases h1 : 300 < refs.length
  · have hd1 : decide ((300 : Int) < (refs.length : Int)) = true := by simp; omega
    clear ha hb
    go_enter Try.func3, Try.ntmps3
    go_wp2_with (go_at_call 5; refine (alive_any _).mono ?_; rintro e w1 ⟨rfl, f1⟩; have F1 := hid f1; clear f1)
    go_ret
    exact ⟨rfl, F1.out⟩
  have hd1 : decide ((300 : Int) < (refs.length : Int)) = false := by simp; omega
  by_cases h2 : 300 < bs.length
  · have hd2 : decide ((300 : Int) < (bs.length : Int)) = true := by simp; omega
    clear ha hb
    go_enter Try.func3, Try.ntmps3
    go_wp2_with (go_at_call 5; refine (alive_any _).mono ?_; rintro e w1 ⟨rfl, f1⟩; have F1 := hid f1; clear f1)
    go_ret
    exact ⟨rfl, F1.out⟩
  have hd2 : decide ((300 : Int) < (bs.length : Int)) = false := by simp; omega
  have hn : refs.length ≤ 300 := by omega
  have hm3 : bs.length ≤ 300 := by omega
  obtain ⟨css, kc, kr⟩ := els_flat ha (B := w.heap.size) (fun _ h => h)
  obtain ⟨dss, jc, jr⟩ := els_flat hb (B := w.heap.size) (fun _ h => h)
  have HA := hid ha
  have HB := hid hb
  have KC := hid (And.intro kc kr)
  have JC := hid (And.intro jc jr)
  have B0 := hid ((Blk.new w 51 #[.slice none 0 0, .slice none 0 0, .slice none 0 0, .slice none 0 0, .slice none 0 0, .slice none 0 0, .slice none 0 0, .slice none 0 0, .slice none 0 0, .slice none 0 0]).alloc (.cells #[] 54))
  have F0 := hid (((Fr.refl No w).alloc (.cells #[.slice none 0 0, .slice none 0 0, .slice none 0 0, .slice none 0 0, .slice none 0 0, .slice none 0 0, .slice none 0 0, .slice none 0 0, .slice none 0 0, .slice none 0 0] 51)).alloc (.cells #[] 54))
  have R0 := hid (Ty.row.lit (t := tU) (S := Emp) (base := w.heap.size + 1) (css := []) (xs := []) (Blk.new1 w (.cells #[.slice none 0 0, .slice none 0 0, .slice none 0 0, .slice none 0 0, .slice none 0 0, .slice none 0 0, .slice none 0 0, .slice none 0 0, .slice none 0 0, .slice none 0 0] 51) 54 #[]) (Nat.le_refl _) Css.nil (by decide))
  clear ha hb kc kr jc jr h1 h2
  go_enter Try.func3, Try.ntmps3
  go_upto_region 5 with (at_builtin; refine wpList_appC (t := tU) (P := Try.prog) (base := w.heap.size + 1) (S := Emp) (xs := []) (ys := refs) (dss := css) (B2 := w.heap.size) elU64 rfl rfl rfl rfl R0.out (KC.out.1 _ _) (KC.out.2.frNo F0.out) rfl (by simp; omega) (by simp; omega) (fun _ h => h.elim) (by simp) ?_; intro v1 w2 hr1 fr1 hv1; have F1 : Hid (Fr No w w2) := (F0.out.trans fr1 (fun i hi e => by have e : some i = some (w.heap.size + 1) := e; injection e with e; omega)); have B1 : Hid (Blk w2 w.heap.size 51 #[.slice none 0 0, .slice none 0 0, .slice none 0 0, .slice none 0 0, .slice none 0 0, .slice none 0 0, .slice none 0 0, .slice none 0 0, .slice none 0 0, .slice none 0 0]) := (B0.out.fr fr1 (fun e => by have e : some w.heap.size = some (w.heap.size + 1) := e; injection e with e; omega)); have HR1 : Hid (tU.row w2 (w.heap.size + 1) Emp 54 v1 refs) := hr1; clear hr1 fr1 hv1 B0 R0 F0)
  obtain ⟨A1, c1, e, -, -, -⟩ := HR1.out.els (S' := fun _ => True) (fun _ _ => trivial) (fun _ _ => trivial)
  subst e
  have R0 := hid (Ty.row.lit (t := tB) (S := Emp) (base := w2.heap.size) (css := []) (xs := []) (Blk.new w2 5 #[]) (Nat.le_refl _) Css.nil (by decide))
  have F0 := hid ((Fr.refl No w2).alloc (.cells #[] 5))
  go_upto_region 6 with (at_builtin; refine wpList_appC (t := tB) (P := Try.prog) (base := w2.heap.size) (S := Emp) (xs := []) (ys := bs) (dss := dss) (B2 := w.heap.size) elBs rfl rfl rfl rfl R0.out (JC.out.1 _ _) (JC.out.2.frNo (F1.out.trans F0.out (fun _ _ h => h))) rfl (by simp; omega) (by simp; omega) (fun _ h => h.elim) F0.out.size ?_; intro v2 w3 hr2 fr2 hv2; have F2 : Hid (Fr No w2 w3) := (F0.out.trans fr2 (fun i hi e => by have e : some i = some w2.heap.size := e; injection e with e; omega)); have HR2 : Hid (tB.row w3 w2.heap.size Emp 5 v2 bs) := hr2; clear hr2 fr2 hv2 R0 F0)
  obtain ⟨A2, c2, e, -, -, -⟩ := HR2.out.els (S' := fun _ => True) (fun _ _ => trivial) (fun _ _ => trivial)
  subst e
  obtain ⟨P, hP⟩ : ∃ P, P = w.heap.size := ⟨_, rfl⟩
  rw [← hP] at B1 HR1
  rw [← hP]
  have HP := hid hP
  clear hP
  have L1 : Hid (∀ k, (Value.slice A1 refs.length c1).ownBlock = some k → P < k ∧ k < w2.heap.size) := fun k hk => by obtain ⟨h1, _, h2⟩ := HR1.out.own hk; exact ⟨h1, h2.lt⟩
  have L2 : Hid (∀ k, (Value.slice A2 bs.length c2).ownBlock = some k → w2.heap.size ≤ k ∧ k < w3.heap.size) := fun k hk => by obtain ⟨h1, _, h2⟩ := HR2.out.own hk; exact ⟨h1, h2.lt⟩
  have LP : Hid (P < w2.heap.size) := B1.out.lt
  have S23 : Hid (w2.heap.size ≤ w3.heap.size) := F2.out.size
  have HR1 : Hid (tU.row w3 (P + 1) Emp 54 (.slice A1 refs.length c1) refs) := HR1.out.fr F2.out (fun _ h => h.elim) (fun _ _ x => x)
  have K0 : Hid (StIn w3 (fun k => k = P ∨ (Value.slice A1 refs.length c1).ownBlock = some k ∨ (Value.slice A2 bs.length c2).ownBlock = some k) (zPl P) sto00) :=
    StIn.zero (B1.out.fr F2.out (fun x => x)) (.inl rfl) (fun k hk => by
      have h1 := LP.out
      have h2 := S23.out
      have h1 : P < w2.heap.size := h1
      have h2 : w2.heap.size ≤ w3.heap.size := h2
      rcases hk with e | e | e
      · omega
      · have := (L1.out k e).2; omega
      · exact (L2.out k e).2)
  go_wp2_with fail
  have HC := addElem_any K0.out A1 c1 refs (· < w3.heap.size) (HR1.out.els' (fun _ h => h.elim) (fun k hk => Nat.lt_of_lt_of_le (L1.out k hk).2 S23.out)) (fun _ h => h) (by omega) (by decide)
  rw [show (sto00.elems.length : Int) = 0 from rfl] at HC
  refine HC.mono ?_
  rintro e w4 ⟨V4, R4, rfl, k4, g4⟩
  have K4 : Hid (StIn w4 R4 V4 (xN1 refs)) := k4
  have G4 := hid g4
  have P4 : V4.P = P := g4.P
  have NP : Hid (∀ k, P < k → ¬ (zPl P).own k) := fun k hk o => by have := zPl_own.1 o; omega
  clear HC k4 g4
  go_wp2_with fail
  have HC := addData_any K4.out A2 c2 bs (· < w4.heap.size) ((HR2.out.fr G4.out.fr (fun _ h => h.elim) (fun k hk => NP.out k (Nat.lt_of_lt_of_le LP.out (L2.out k hk).1))).els' (fun _ h => h.elim) (fun k hk => Nat.lt_of_lt_of_le (L2.out k hk).2 G4.out.fr.size)) (fun _ h => h) (by omega) (Nat.zero_le _)
  rw [show ((xN1 refs).datas.length : Int) = 0 from rfl, P4] at HC
  refine HC.mono ?_
  rintro e w5 ⟨V5, R5, rfl, k5, g5⟩
  have K5 : Hid (StIn w5 R5 V5 (xN refs bs)) := k5
  have G5 := hid (G4.out.trans g5)
  have P5 : Hid (V5.P = P) := g5.P.trans P4
  clear HC k5 g5 P4 G4 K4
  have HR1 : Hid (tU.row w5 (P + 1) Emp 54 (.slice A1 refs.length c1) refs) := HR1.out.fr G5.out.fr (fun _ h => h.elim) (fun k hk => NP.out k (L1.out k hk).1)
  have HR2 : Hid (tB.row w5 w2.heap.size Emp 5 (.slice A2 bs.length c2) bs) := HR2.out.fr G5.out.fr (fun _ h => h.elim) (fun k hk => NP.out k (Nat.lt_of_lt_of_le LP.out (L2.out k hk).1))
  have F5 : Hid (Fr No w w5) := G5.out.no (F1.out.trans F2.out (fun _ _ h => h)) (fun k hk => by rw [zPl_own.1 hk, HP.out]; exact Nat.le_refl _)
  have N1 : Hid (∀ k, (Value.slice A1 refs.length c1).ownBlock = some k → R5 k ∧ ¬ V5.own k) := fun k hk => ⟨G5.out.keep k (.inr (.inl hk)), fun o => by
    have h1 := L1.out k hk
    have h2 := S23.out
    have h2 : w2.heap.size ≤ w3.heap.size := h2
    rcases G5.out.own k o with e | e
    · exact NP.out k h1.1 e
    · omega⟩
  have N2 : Hid (∀ k, (Value.slice A2 bs.length c2).ownBlock = some k → R5 k ∧ ¬ V5.own k) := fun k hk => ⟨G5.out.keep k (.inr (.inr hk)), fun o => by
    have h1 := L2.out k hk
    rcases G5.out.own k o with e | e
    · exact NP.out k (Nat.lt_of_lt_of_le LP.out h1.1) e
    · omega⟩
  have NW : Hid (∀ k, (Value.slice A1 refs.length c1).ownBlock = some k ∨ (Value.slice A2 bs.length c2).ownBlock = some k → w.heap.size ≤ k) := fun k hk => by
    have h3 := HP.out
    have h3 : P = w.heap.size := h3
    have h4 := LP.out
    have h4 : P < w2.heap.size := h4
    rcases hk with e | e
    · have := (L1.out k e).1; omega
    · have := (L2.out k e).1; omega
  clear K0 B1
  go_wp2_with fail
  go_loopw [8] (fun i wr => ∃ (k : Nat) (ys : List Int), k ≤ refs.length ∧ i = .int .i64 k ∧ ys.length = refs.length ∧ Hid (tU.row wr (P + 1) Emp 54 (.slice A1 refs.length c1) ys) ∧ Hid (Fr (fun b => (Value.slice A1 refs.length c1).ownBlock = some b) w5 wr)) (fun i _ => refs.length - (intOf i).toNat)
  case atStart => exact ⟨0, refs, by omega, rfl, rfl, HR1.out, Fr.refl _ _⟩
  case round =>
    obtain ⟨k, ys, hk, rfl, hy, I, F⟩ := hrel
    by_cases hlt : k < refs.length
    · have hlk : k < ys.length := by omega
      obtain ⟨g, c9, hv, hgb⟩ := row_some I.out (by omega)
      have I2 := hid I.out
      rw [hv] at I2
      have F := hid F.out
      have hv2 := hid hv
      injection hv with e1 e2 e3
      have HE := hid (Ty.row.els' (S' := fun _ => True) I2.out (fun _ _ => trivial) (fun _ _ => trivial))
      obtain ⟨b9, o9, e9, _, hcell, hwf⟩ := u_at HE.out k hlk
      injection e9 with e9
      injection e9 with e9 e10 _
      subst e9 e10
      rw [Nat.zero_add] at hcell
      have hfz : wr.frozen? ⟨g, k, none⟩ = false := by
        obtain ⟨css, _, ho⟩ := I2.out
        exact own_frozen ho k
      have hA : A1 = some ⟨g, 0, none⟩ := e1
      obtain ⟨y, hyk⟩ : ∃ y, y = ys[k] := ⟨_, rfl⟩
      rw [← hyk] at hcell hwf
      have HW := hid hwf
      have hwf2 : (Lit.int .u64 (IntKind.u64.wrap (y + 1))).wf = true := wrapU_wf _
      have i0 : (0 : Int) ≤ k := by omega
      have i1 : (k : Int) < refs.length := by omega
      clear hyk e1 e2 e3 HE hwf
      go_wp2
      go_roundw
      case rel =>
        refine ⟨k + 1, ys.set k (IntKind.u64.wrap (y + 1)), by omega, by go_num, by rw [List.length_set]; exact hy, ?_, ?_⟩
        · rw [hv2.out]
          exact I2.out.set (ds := [.int .u64 (IntKind.u64.wrap (y + 1))]) k hlk (int_mk hwf2) (fun p hp => hp.elim) (fun cur hb => by
            rw [show tU.size = 1 from rfl, Nat.mul_one]
            exact hb.set_ k _)
        · exact F.out.setCell _ _ (fun _ => by rw [hA]; rfl)
      case measure => simp [intOf]; omega
    · have hkn : k = refs.length := by omega
      subst hkn
      have HF := hid F.out
      have HR := hid I.out
      have K6 := hid (K5.out.fr HF.out (fun k _ hk => N1.out k hk) (fun _ _ h => h) (fun _ h => h) (fun k hk => Nat.lt_of_lt_of_le (K5.out.low k hk) HF.out.size))
      have HR2 : Hid (tB.row wr w2.heap.size Emp 5 (.slice A2 bs.length c2) bs) := HR2.out.fr HF.out (fun _ h => h.elim) (fun k hk e => by have := (L1.out k e).2; have := (L2.out k hk).1; omega)
      have F6 : Hid (Fr No w wr) := F5.out.trans HF.out (fun k hk e => by have := NW.out k (.inl e); omega)
      clear HF HR I F hlt hk hy
      obtain ⟨w6, hw6⟩ : ∃ W, W = wr := ⟨_, rfl⟩
      subst hw6
      go_wp2_with fail
      go_loopw [9] (fun i wr => ∃ (k : Nat) (ys : List Int), k ≤ bs.length ∧ i = .int .i64 k ∧ ys.length = bs.length ∧ Hid (tB.row wr w2.heap.size Emp 5 (.slice A2 bs.length c2) ys) ∧ Hid (Fr (fun b => (Value.slice A2 bs.length c2).ownBlock = some b) w6 wr)) (fun i _ => bs.length - (intOf i).toNat)
      case atStart => exact ⟨0, bs, by omega, rfl, rfl, HR2.out, Fr.refl _ _⟩
      case round =>
        obtain ⟨k, ys, hk, rfl, hy, I, F⟩ := hrel
        by_cases hlt : k < bs.length
        · have hlk : k < ys.length := by omega
          obtain ⟨g, c9, hv, hgb⟩ := row_some I.out (by omega)
          have I2 := hid I.out
          rw [hv] at I2
          have F := hid F.out
          have hv2 := hid hv
          injection hv with e1 e2 e3
          have HE := hid (Ty.row.els' (S' := fun _ => True) I2.out (fun _ _ => trivial) (fun _ _ => trivial))
          obtain ⟨b9, o9, e9, _, hcell, hwf⟩ := b_at HE.out k hlk
          injection e9 with e9
          injection e9 with e9 e10 _
          subst e9 e10
          rw [Nat.zero_add] at hcell
          have hfz : wr.frozen? ⟨g, k, none⟩ = false := by
            obtain ⟨css, _, ho⟩ := I2.out
            exact own_frozen ho k
          have hA : A2 = some ⟨g, 0, none⟩ := e1
          obtain ⟨y, hyk⟩ : ∃ y, y = ys[k] := ⟨_, rfl⟩
          rw [← hyk] at hcell hwf
          have HW := hid hwf
          have hwf2 : (Lit.int .u8 (IntKind.u8.wrap (y + 1))).wf = true := wrapB_wf _
          have i0 : (0 : Int) ≤ k := by omega
          have i1 : (k : Int) < bs.length := by omega
          clear hyk e1 e2 e3 HE hwf
          go_wp2
          go_roundw
          case rel =>
            refine ⟨k + 1, ys.set k (IntKind.u8.wrap (y + 1)), by omega, by go_num, by rw [List.length_set]; exact hy, ?_, ?_⟩
            · rw [hv2.out]
              exact I2.out.set (ds := [.int .u8 (IntKind.u8.wrap (y + 1))]) k hlk (int_mk hwf2) (fun p hp => hp.elim) (fun cur hb => by
                rw [show tB.size = 1 from rfl, Nat.mul_one]
                exact hb.set_ k _)
            · exact F.out.setCell _ _ (fun _ => by rw [hA]; rfl)
          case measure => simp [intOf]; omega
        · have hkn : k = bs.length := by omega
          subst hkn
          have HF := hid F.out
          have HR := hid I.out
          have K7 := hid (K6.out.fr HF.out (fun k _ hk => N2.out k hk) (fun _ _ h => h) (fun _ h => h) (fun k hk => Nat.lt_of_lt_of_le (K6.out.low k hk) HF.out.size))
          have F7 : Hid (Fr No w wr) := F6.out.trans HF.out (fun k hk e => by have := NW.out k (.inr e); omega)
          clear HF HR I F hlt hk hy K6 F6
          obtain ⟨w7, hw7⟩ : ∃ W, W = wr := ⟨_, rfl⟩
          subst hw7
          go_wp2_with fail
          have HC := elem_any K7.out ((0 : Nat) : Int) (by show 1 ≤ 1000000; omega) (by intro a ha; rw [List.mem_singleton.1 ha]; show refs.length * 8 ≤ _; omega)
          rw [show atD zRs (xN refs bs).elems ((0 : Nat) : Int) = (⟨refs, false⟩, true) from atD_yes (k := 0) (by show 0 < 1; omega), P5.out] at HC
          change Calls _ _ _ _ (CopyOk tU 54 refs true w7) at HC
          refine HC.mono ?_
          rintro e w8 ⟨Am, cm, rfl, hm8, f8⟩
          have HM : Hid (tU.row w8 w7.heap.size Emp 54 (.slice Am refs.length cm) refs) := hm8
          have F8 := hid f8
          have LM : Hid (∀ k, (Value.slice Am refs.length cm).ownBlock = some k → w7.heap.size ≤ k ∧ k < w8.heap.size) := fun k hk => by obtain ⟨h1, _, h2⟩ := HM.out.own hk; exact ⟨h1, h2.lt⟩
          clear HC hm8 f8
          go_wp2_with fail
          have HC := data_any (K7.out.frNo F8.out) ((0 : Nat) : Int) (by show 1 ≤ 1000000; omega) (by intro a ha; rw [List.mem_singleton.1 ha]; show bs.length * 1 ≤ _; omega)
          rw [show atD zRb (xN refs bs).datas ((0 : Nat) : Int) = (⟨bs, false⟩, true) from atD_yes (k := 0) (by show 0 < 1; omega), P5.out] at HC
          change Calls _ _ _ _ (CopyOk tB 5 bs true w8) at HC
          refine HC.mono ?_
          rintro e w9 ⟨Ad, cd, rfl, hm9, f9⟩
          have HD : Hid (tB.row w9 w8.heap.size Emp 5 (.slice Ad bs.length cd) bs) := hm9
          have F9 := hid f9
          have LD : Hid (∀ k, (Value.slice Ad bs.length cd).ownBlock = some k → w8.heap.size ≤ k ∧ k < w9.heap.size) := fun k hk => by obtain ⟨h1, _, h2⟩ := HD.out.own hk; exact ⟨h1, h2.lt⟩
          have HM : Hid (tU.row w9 w7.heap.size Emp 54 (.slice Am refs.length cm) refs) := HM.out.fr f9 (fun _ h => h.elim) (fun _ _ x => x)
          clear HC hm9 f9
          have HRF := hid (fun X (f : Fr No w X) (g : tU.row X w7.heap.size Emp 54 (.slice Am refs.length cm) refs) => refs_any Am A refs refs cm c (fun _ => True) (fun _ => True) X (g.els' (fun _ _ => trivial) (fun _ _ => trivial)) ((fr_els HA.out f (fun _ h => h)).more (fun _ _ => trivial)) hl hl)
          have F99 : Hid (Fr No w w9) := (F7.out.trans F8.out (fun _ _ h => h)).trans F9.out (fun _ _ h => h)
          have hdt : decide (refs = refs) = true := by simp
          go_wp2_with (go_at_call 10; refine (HRF.out _ F99.out HM.out).mono ?_; rintro e wx ⟨rfl, nn, rfl⟩; have hcv1 := (conv_els (w := w9.drewN nn) cd (HD.out.els' (S' := fun _ => True) (fun _ _ => trivial) (fun _ _ => trivial))).1; have hcv2 := (conv_els (w := w9.drewN nn) d ((fr_els HB.out (F99.out.drewN nn) (fun _ h => h)).more (S' := fun _ => True) (fun _ _ => trivial))).1; rw [hdt])
          clear hcv1 hcv2
          have KA := hid ((K7.out.frNo F8.out).frNo (F9.out.drewN nn))
          have HM : Hid (tU.row (w9.drewN nn) w7.heap.size Emp 54 (.slice Am refs.length cm) refs) := HM.out.fr ((Fr.refl No w9).drewN nn) (fun _ h => h.elim) (fun _ _ x => x)
          have HD : Hid (tB.row (w9.drewN nn) w8.heap.size Emp 5 (.slice Ad bs.length cd) bs) := HD.out.fr ((Fr.refl No w9).drewN nn) (fun _ h => h.elim) (fun _ _ x => x)
          have FA : Hid (Fr No w (w9.drewN nn)) := F99.out.drewN nn
          have S78 : Hid (w7.heap.size ≤ w8.heap.size ∧ w8.heap.size ≤ w9.heap.size ∧ w.heap.size ≤ w7.heap.size) := ⟨F8.out.size, F9.out.size, F7.out.size⟩
          have KB : Hid (StIn (w9.drewN nn) (fun k => R5 k ∨ (Value.slice Am refs.length cm).ownBlock = some k ∨ (Value.slice Ad bs.length cd).ownBlock = some k) V5 (xN refs bs)) :=
            K7.out.fr ((F8.out.trans F9.out (fun _ _ h => h)).drewN nn) (fun _ _ m => m.elim) (fun k hk r => by
              have h1 := S78.out.1
              rcases r with r | r | r
              · exact r
              · have := (LM.out k r).1; omega
              · have := (LD.out k r).1; omega) (fun _ r => .inl r) (fun k r => by
              have h1 := S78.out.1
              have h2 := S78.out.2.1
              show k < w9.heap.size
              rcases r with r | r | r
              · have := K7.out.low k r; omega
              · have := (LM.out k r).2; omega
              · exact (LD.out k r).2)
          have NM : Hid (∀ k, (Value.slice Am refs.length cm).ownBlock = some k ∨ (Value.slice Ad bs.length cd).ownBlock = some k → ¬ V5.own k) := fun k hk o => by
            have h0 := K7.out.lt o
            have h1 := S78.out.1
            rcases hk with r | r
            · have := (LM.out k r).1; omega
            · have := (LD.out k r).1; omega
          generalize w9.drewN nn = wA at *
          clear KA K7 K5 HR1 HR2 G5 N1 N2 L1 L2 S23 LP NP F5 F7 F1 F2
          go_wp2_with fail
          go_loopw [14] (fun i wr => ∃ (k : Nat) (ys : List Int), k ≤ refs.length ∧ i = .int .i64 k ∧ ys.length = refs.length ∧ Hid (tU.row wr w7.heap.size Emp 54 (.slice Am refs.length cm) ys) ∧ Hid (Fr (fun b => (Value.slice Am refs.length cm).ownBlock = some b) wA wr)) (fun i _ => refs.length - (intOf i).toNat)
          case atStart => exact ⟨0, refs, by omega, rfl, rfl, HM.out, Fr.refl _ _⟩
          case round =>
            obtain ⟨k, ys, hk, rfl, hy, I, F⟩ := hrel
            by_cases hlt : k < refs.length
            · have hlk : k < ys.length := by omega
              obtain ⟨g, c9, hv, hgb⟩ := row_some I.out (by omega)
              have I2 := hid I.out
              rw [hv] at I2
              have F := hid F.out
              have hv2 := hid hv
              injection hv with e1 e2 e3
              have HE := hid (Ty.row.els' (S' := fun _ => True) I2.out (fun _ _ => trivial) (fun _ _ => trivial))
              obtain ⟨b9, o9, e9, _, hcell, hwf⟩ := u_at HE.out k hlk
              injection e9 with e9
              injection e9 with e9 e10 _
              subst e9 e10
              rw [Nat.zero_add] at hcell
              have hfz : wr.frozen? ⟨g, k, none⟩ = false := by
                obtain ⟨css, _, ho⟩ := I2.out
                exact own_frozen ho k
              have hA : Am = some ⟨g, 0, none⟩ := e1
              obtain ⟨y, hyk⟩ : ∃ y, y = ys[k] := ⟨_, rfl⟩
              rw [← hyk] at hcell hwf
              have HW := hid hwf
              have hwf2 : (Lit.int .u64 (0)).wf = true := rfl
              have i0 : (0 : Int) ≤ k := by omega
              have i1 : (k : Int) < refs.length := by omega
              clear hyk e1 e2 e3 HE hwf
              go_wp2
              go_roundw
              case rel =>
                refine ⟨k + 1, ys.set k (0), by omega, by go_num, by rw [List.length_set]; exact hy, ?_, ?_⟩
                · rw [hv2.out]
                  exact I2.out.set (ds := [.int .u64 (0)]) k hlk (int_mk hwf2) (fun p hp => hp.elim) (fun cur hb => by
                    rw [show tU.size = 1 from rfl, Nat.mul_one]
                    exact hb.set_ k _)
                · exact F.out.setCell _ _ (fun _ => by rw [hA]; rfl)
              case measure => simp [intOf]; omega
            · have hkn : k = refs.length := by omega
              subst hkn
              have HF := hid F.out
              have HR := hid I.out
              have KC2 := hid (KB.out.fr HF.out (fun k _ hk => ⟨.inr (.inl hk), NM.out k (.inl hk)⟩) (fun _ _ h => h) (fun _ h => h) (fun k hk => Nat.lt_of_lt_of_le (KB.out.low k hk) HF.out.size))
              have HD : Hid (tB.row wr w8.heap.size Emp 5 (.slice Ad bs.length cd) bs) := HD.out.fr HF.out (fun _ h => h.elim) (fun k hk e => by have := (LM.out k e).2; have := (LD.out k hk).1; omega)
              have FB : Hid (Fr No w wr) := FA.out.trans HF.out (fun k hk e => by have := (LM.out k e).1; have h1 := S78.out.2.2; omega)
              clear HF HR I F hlt hk hy
              obtain ⟨wB, hwB⟩ : ∃ W, W = wr := ⟨_, rfl⟩
              subst hwB
              go_wp2_with fail
              go_loopw [15] (fun i wr => ∃ (k : Nat) (ys : List Int), k ≤ bs.length ∧ i = .int .i64 k ∧ ys.length = bs.length ∧ Hid (tB.row wr w8.heap.size Emp 5 (.slice Ad bs.length cd) ys) ∧ Hid (Fr (fun b => (Value.slice Ad bs.length cd).ownBlock = some b) wB wr)) (fun i _ => bs.length - (intOf i).toNat)
              case atStart => exact ⟨0, bs, by omega, rfl, rfl, HD.out, Fr.refl _ _⟩
              case round =>
                obtain ⟨k, ys, hk, rfl, hy, I, F⟩ := hrel
                by_cases hlt : k < bs.length
                · have hlk : k < ys.length := by omega
                  obtain ⟨g, c9, hv, hgb⟩ := row_some I.out (by omega)
                  have I2 := hid I.out
                  rw [hv] at I2
                  have F := hid F.out
                  have hv2 := hid hv
                  injection hv with e1 e2 e3
                  have HE := hid (Ty.row.els' (S' := fun _ => True) I2.out (fun _ _ => trivial) (fun _ _ => trivial))
                  obtain ⟨b9, o9, e9, _, hcell, hwf⟩ := b_at HE.out k hlk
                  injection e9 with e9
                  injection e9 with e9 e10 _
                  subst e9 e10
                  rw [Nat.zero_add] at hcell
                  have hfz : wr.frozen? ⟨g, k, none⟩ = false := by
                    obtain ⟨css, _, ho⟩ := I2.out
                    exact own_frozen ho k
                  have hA : Ad = some ⟨g, 0, none⟩ := e1
                  obtain ⟨y, hyk⟩ : ∃ y, y = ys[k] := ⟨_, rfl⟩
                  rw [← hyk] at hcell hwf
                  have HW := hid hwf
                  have hwf2 : (Lit.int .u8 (0)).wf = true := rfl
                  have i0 : (0 : Int) ≤ k := by omega
                  have i1 : (k : Int) < bs.length := by omega
                  clear hyk e1 e2 e3 HE hwf
                  go_wp2
                  go_roundw
                  case rel =>
                    refine ⟨k + 1, ys.set k (0), by omega, by go_num, by rw [List.length_set]; exact hy, ?_, ?_⟩
                    · rw [hv2.out]
                      exact I2.out.set (ds := [.int .u8 (0)]) k hlk (int_mk hwf2) (fun p hp => hp.elim) (fun cur hb => by
                        rw [show tB.size = 1 from rfl, Nat.mul_one]
                        exact hb.set_ k _)
                    · exact F.out.setCell _ _ (fun _ => by rw [hA]; rfl)
                  case measure => simp [intOf]; omega
                · have hkn : k = bs.length := by omega
                  subst hkn
                  have HF := hid F.out
                  have HR := hid I.out
                  have KD := hid (KC2.out.fr HF.out (fun k _ hk => ⟨.inr (.inr hk), NM.out k (.inr hk)⟩) (fun _ _ h => h) (fun _ h => h) (fun k hk => Nat.lt_of_lt_of_le (KC2.out.low k hk) HF.out.size))
                  have FC : Hid (Fr No w wr) := FB.out.trans HF.out (fun k hk e => by have h0 := (LD.out k e).1; have h1 := S78.out; have h2 := h1.1; have h3 := h1.2.2; omega)
                  clear HF HR I F hlt hk hy KC2 FB
                  obtain ⟨wC, hwC⟩ : ∃ W, W = wr := ⟨_, rfl⟩
                  subst hwC
                  go_wp2_with fail
                  have HC := elem_any KD.out ((0 : Nat) : Int) (by show 1 ≤ 1000000; omega) (by intro a ha; rw [List.mem_singleton.1 ha]; show refs.length * 8 ≤ _; omega)
                  rw [show atD zRs (xN refs bs).elems ((0 : Nat) : Int) = (⟨refs, false⟩, true) from atD_yes (k := 0) (by show 0 < 1; omega), P5.out] at HC
                  change Calls _ _ _ _ (CopyOk tU 54 refs true wC) at HC
                  refine HC.mono ?_
                  rintro e wD ⟨An, cn, rfl, hmD, fD⟩
                  have HN : Hid (tU.row wD wC.heap.size Emp 54 (.slice An refs.length cn) refs) := hmD
                  have FD := hid fD
                  clear HC hmD fD
                  go_wp2_with fail
                  have HC := data_any (KD.out.frNo FD.out) ((0 : Nat) : Int) (by show 1 ≤ 1000000; omega) (by intro a ha; rw [List.mem_singleton.1 ha]; show bs.length * 1 ≤ _; omega)
                  rw [show atD zRb (xN refs bs).datas ((0 : Nat) : Int) = (⟨bs, false⟩, true) from atD_yes (k := 0) (by show 0 < 1; omega), P5.out] at HC
                  change Calls _ _ _ _ (CopyOk tB 5 bs true wD) at HC
                  refine HC.mono ?_
                  rintro e wE ⟨Ae, ce, rfl, hmE, fE⟩
                  have HE : Hid (tB.row wE wD.heap.size Emp 5 (.slice Ae bs.length ce) bs) := hmE
                  have HN : Hid (tU.row wE wC.heap.size Emp 54 (.slice An refs.length cn) refs) := HN.out.fr fE (fun _ h => h.elim) (fun _ _ x => x)
                  have FE : Hid (Fr No w wE) := (FC.out.trans FD.out (fun _ _ h => h)).trans fE (fun _ _ h => h)
                  clear HC hmE fE
                  have HRN := hid (refs_any An A refs refs cn c (fun _ => True) (fun _ => True) wE (HN.out.els' (fun _ _ => trivial) (fun _ _ => trivial)) ((fr_els HA.out FE.out (fun _ h => h)).more (fun _ _ => trivial)) hl hl)
                  go_wp2_with (first
                    | (go_at_call 10; refine HRN.out.mono ?_; rintro e wx ⟨rfl, n2, rfl⟩; have hcv1 := (conv_els (w := wE.drewN n2) ce (HE.out.els' (S' := fun _ => True) (fun _ _ => trivial) (fun _ _ => trivial))).1; have hcv2 := (conv_els (w := wE.drewN n2) d ((fr_els HB.out (FE.out.drewN n2) (fun _ h => h)).more (S' := fun _ => True) (fun _ _ => trivial))).1; rw [hdt])
                    | (go_at_call 5; refine (alive_any _).mono ?_; rintro e wF ⟨rfl, fF⟩; have FF := hid fF; clear fF))
                  go_ret
                  exact ⟨rfl, (FE.out.drewN n2).trans FF.out (fun _ _ h => h)⟩
theorem storeNew_walk (w : World) (v0 v1 : Value) (x0 x1 : List Int) (y0 : (Ty.int .u64).slice.rd w (· < w.heap.size) v0.cells.toList x0) (y1 : (Ty.int .u8).slice.rd w (· < w.heap.size) v1.cells.toList x1)
    (u0 : (Ty.int .u64).slice.lw 140737488351232 x0) (u1 : (Ty.int .u8).slice.lw 140737488351232 x1) (hv0 : ∃ A l c, v0 = .slice A l c) (hv1 : ∃ A l c, v1 = .slice A l c) :
    Calls Try.prog 3 #[v0, v1] w fun e w' => e = .returned (.bool true) ∧ Below w.heap.size w w' := by
  obtain ⟨A, l, c, rfl⟩ := hv0
  obtain ⟨B, m, d, rfl⟩ := hv1
  obtain ⟨A', c', e, _, _, h0⟩ := y0
  obtain ⟨B', d', e', _, _, h1⟩ := y1
  have e : [Value.slice A l c] = [.slice A' x0.length c'] := e
  have e' : [Value.slice B m d] = [.slice B' x1.length d'] := e'
  injection e with e
  injection e' with e'
  rw [e, e']
  exact (snew_any A' B' c' d' x0 x1 w h0 h1 u0.1 u1.1).mono fun e w' ⟨a, b⟩ => ⟨a, b.below⟩
end Go.Proofs.Ytdckghiipijobaa
