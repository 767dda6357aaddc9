/- TablesNobody: the walk in one case. -/
import Derived.Test.YtndhbamfgihncaaTabNb
namespace Go.Proofs.Ytndhbamfgihncaa
open Go.RowKit

set_option maxHeartbeats 6400000 in
set_option maxRecDepth 100000 in
theorem nobody_e (kind to at_ n ref : Int) (oth : Bool) (ys : List Int) (A : Option Addr) (cl ln T U N : Nat) (w : World) (hln : Hid (ys.length = ln)) (hn : ln ≤ 60) (hcl : ln ≤ cl) (hr : Rd w w.heap.size A (Us ys))
    (hfew : Hid (∀ W B2 C2 c', tAct.els W B2 C2 [⟨kind, oth, to, at_, n, ref, ys⟩] → Calls Try.prog 20 #[.slice C2 1 c'] W fun e w' => e = .returned (.bool true) ∧ W = w'))
    (hact : Hid (∀ W, Fr No w W → tAct.rd W w.heap.size [.int .u8 kind, .bool oth, .int .u64 to, .int .u64 at_, .int .u64 n, .int .u64 ref, .slice A ln cl] ⟨kind, oth, to, at_, n, ref, ys⟩))
    (h0 : 0 ≤ to) (h1 : 0 ≤ at_) (h2 : 0 ≤ n) (eT : bits .and .u64 to 4294967295 = T) (eU : bits .and .u64 at_ 4294967295 = U) (eN : bits .and .u64 n 4294967295 = N)
    (mT : Hid (to % 4294967296 = T)) (mU : Hid (at_ % 4294967296 = U)) (mN : Hid (n % 4294967296 = N)) (cN : N = 0) (cT : ¬ T = 0) (cU : ¬ U = 0) :
    Calls Try.prog 7 #[.agg #[.int .u8 kind, .bool oth, .int .u64 to, .int .u64 at_, .int .u64 n, .int .u64 ref, .slice A ln cl]] w fun e' w' => e' = .returned (.bool true) ∧ Fr No w w' := by
  have dN : ((N : Int) == 0) = true := by rw [beq_iff_eq]; omega
  have dT : ((T : Int) == 0) = false := by rw [beq_eq_false_iff_ne]; omega
  have dU : ((U : Int) == 0) = false := by rw [beq_eq_false_iff_ne]; omega
  have gf : ∀ (W : World) (pv : Value), Nobody W pv → Hid (Calls Try.prog 24 #[pv, .int .u64 to, .int .u64 ref, .int .u64 n] W fun e' w' => e' = .returned (.int .i64 3) ∧ W = w') := by
    intro W pv hp
    have := nfill hp to ref n h0 h2
    rw [show decide (to % 4294967296 + n % 4294967296 ≤ 0) = false from by rw [mT.out, mN.out]; simp; omega] at this
    exact this
  have gc : ∀ (W : World) (pv : Value), Nobody W pv → Hid (Calls Try.prog 10 #[pv, .pointer none, .int .u64 to, .int .u64 at_, .int .u64 n] W fun e' w' => e' = .returned (.int .i64 3) ∧ W = w') := by
    intro W pv hp
    have := ncopy hp to at_ n h0 h1 h2
    rw [show decide (to % 4294967296 + n % 4294967296 ≤ 0 ∧ at_ % 4294967296 ≤ ((0 : Nat) : Int)) = false from by rw [mT.out, mN.out, mU.out]; simp; omega] at this
    exact this
  have gi : ∀ (W : World) (pv : Value), Nobody W pv → Hid (Calls Try.prog 11 #[pv, .slice A ln cl, .int .u64 to, .int .u64 at_, .int .u64 n] W fun e' w' => e' = .returned (.int .i64 3) ∧ W = w') := by
    intro W pv hp
    have := ninit hp A ln cl to at_ n h0 h1 h2 (by omega)
    rw [show decide (to % 4294967296 + n % 4294967296 ≤ 0 ∧ at_ % 4294967296 ≤ (ln : Int)) = false from by rw [mT.out, mN.out, mU.out]; simp; omega] at this
    exact this
  have gt : Hid (initS ys [] to at_ n = (3, ys)) := by
    have hfit : ¬ Fits ys.length ([] : List Int).length to at_ n := fun h => by obtain ⟨h1, h2⟩ := h; rw [mT.out, mN.out, hln.out] at h1; rw [mU.out, mN.out] at h2; simp at h2; omega
    unfold initS Hid
    rw [if_neg hfit]
  have GF := hid gf
  have GC := hid gc
  have GI := hid gi
  clear gf gc gi
  go_enter Try.func7, Try.ntmps7
  go_wp2_with fail
  have f0 : Fr No w ((w.alloc (.cells #[.int .u8 kind, .bool oth, .int .u64 to, .int .u64 at_, .int .u64 n, .int .u64 ref, .slice A ln cl] 55)).alloc (.cells #[.int .u8 kind, .bool oth, .int .u64 to, .int .u64 at_, .int .u64 n, .int .u64 ref, .slice A ln cl] 55)) := ((Fr.refl No w).alloc _).alloc _
  refine (hfew.out _ (w.heap.size + 2) _ _ ?hel).mono ?_
  case hel =>
    refine .inr ⟨w.heap.size + 1, 0, rfl, by omega, fun i x hx => ?_⟩
    have hi : i = 0 := by have := (List.getElem?_eq_some_iff.1 hx).1; simp at this; exact this
    subst hi
    simp at hx
    subst hx
    refine ⟨[.int .u8 kind, .bool oth, .int .u64 to, .int .u64 at_, .int .u64 n, .int .u64 ref, .slice A ln cl], fun j u hu => ?_, ?_⟩
    · rw [(Blk.new1 w _ 55 #[.int .u8 kind, .bool oth, .int .u64 to, .int .u64 at_, .int .u64 n, .int .u64 ref, .slice A ln cl]).cell]
      simpa using hu
    · exact tAct_more (hact.out _ f0) (by omega)
  rintro e w1 ⟨rfl, rfl⟩
  go_wp2_with fail
  have hB0 := hid ((((Blk.new w 55 #[.int .u8 kind, .bool oth, .int .u64 to, .int .u64 at_, .int .u64 n, .int .u64 ref, .slice A ln cl]).alloc (.cells #[.int .u8 kind, .bool oth, .int .u64 to, .int .u64 at_, .int .u64 n, .int .u64 ref, .slice A ln cl] 55)).alloc (.cells #[.int .i64 0, .int .i64 0, .int .i64 0, .bool false, .slice none 0 0, .bool false] 60)).alloc (.cells #[.pointer none, .pointer (some ⟨w.heap.size + 2, 0, none⟩)] 25))
  have hB1 := hid ((show Blk (((w.alloc (.cells #[.int .u8 kind, .bool oth, .int .u64 to, .int .u64 at_, .int .u64 n, .int .u64 ref, .slice A ln cl] 55)).alloc (.cells #[.int .u8 kind, .bool oth, .int .u64 to, .int .u64 at_, .int .u64 n, .int .u64 ref, .slice A ln cl] 55)).alloc (.cells #[.int .i64 0, .int .i64 0, .int .i64 0, .bool false, .slice none 0 0, .bool false] 60)) (w.heap.size + 2) 60 #[.int .i64 0, .int .i64 0, .int .i64 0, .bool false, .slice none 0 0, .bool false] from by have := Blk.new1 (w.alloc (.cells #[.int .u8 kind, .bool oth, .int .u64 to, .int .u64 at_, .int .u64 n, .int .u64 ref, .slice A ln cl] 55)) (.cells #[.int .u8 kind, .bool oth, .int .u64 to, .int .u64 at_, .int .u64 n, .int .u64 ref, .slice A ln cl] 55) 60 #[.int .i64 0, .int .i64 0, .int .i64 0, .bool false, .slice none 0 0, .bool false]; simpa using this).alloc (.cells #[.pointer none, .pointer (some ⟨w.heap.size + 2, 0, none⟩)] 25))
  have hB2 := hid (show Blk ((((w.alloc (.cells #[.int .u8 kind, .bool oth, .int .u64 to, .int .u64 at_, .int .u64 n, .int .u64 ref, .slice A ln cl] 55)).alloc (.cells #[.int .u8 kind, .bool oth, .int .u64 to, .int .u64 at_, .int .u64 n, .int .u64 ref, .slice A ln cl] 55)).alloc (.cells #[.int .i64 0, .int .i64 0, .int .i64 0, .bool false, .slice none 0 0, .bool false] 60)).alloc (.cells #[.pointer none, .pointer (some ⟨w.heap.size + 2, 0, none⟩)] 25)) (w.heap.size + 3) 25 #[.pointer none, .pointer (some ⟨w.heap.size + 2, 0, none⟩)] from by have := Blk.new1 ((w.alloc (.cells #[.int .u8 kind, .bool oth, .int .u64 to, .int .u64 at_, .int .u64 n, .int .u64 ref, .slice A ln cl] 55)).alloc (.cells #[.int .u8 kind, .bool oth, .int .u64 to, .int .u64 at_, .int .u64 n, .int .u64 ref, .slice A ln cl] 55)) (.cells #[.int .i64 0, .int .i64 0, .int .i64 0, .bool false, .slice none 0 0, .bool false] 60) 25 #[.pointer none, .pointer (some ⟨w.heap.size + 2, 0, none⟩)]; simpa using this)
  have F0 := hid ((((((Fr.refl No w).alloc (.cells #[.int .u8 kind, .bool oth, .int .u64 to, .int .u64 at_, .int .u64 n, .int .u64 ref, .slice A ln cl] 55)).alloc (.cells #[.int .u8 kind, .bool oth, .int .u64 to, .int .u64 at_, .int .u64 n, .int .u64 ref, .slice A ln cl] 55)).alloc (.cells #[.int .i64 0, .int .i64 0, .int .i64 0, .bool false, .slice none 0 0, .bool false] 60)).alloc (.cells #[.pointer none, .pointer (some ⟨w.heap.size + 2, 0, none⟩)] 25)))
  generalize (((w.alloc (Obj.cells #[.int .u8 kind, .bool oth, .int .u64 to, .int .u64 at_, .int .u64 n, .int .u64 ref, .slice A ln cl] 55)).alloc (Obj.cells #[.int .u8 kind, .bool oth, .int .u64 to, .int .u64 at_, .int .u64 n, .int .u64 ref, .slice A ln cl] 55)).alloc (Obj.cells #[.int .i64 0, .int .i64 0, .int .i64 0, .bool false, .slice none 0 0, .bool false] 60)).alloc (Obj.cells #[.pointer none, .pointer (some ⟨w.heap.size + 2, 0, none⟩)] 25) = W at *
  clear f0
  have box : ∀ X, Fr No W X → X.cell? ⟨w.heap.size, 2, none⟩ = some (.int .u64 to) ∧ X.cell? ⟨w.heap.size, 3, none⟩ = some (.int .u64 at_) ∧ X.cell? ⟨w.heap.size, 4, none⟩ = some (.int .u64 n) ∧ X.cell? ⟨w.heap.size, 5, none⟩ = some (.int .u64 ref) ∧ X.cell? ⟨w.heap.size, 6, none⟩ = some (.slice A ln cl) := by
    intro X hX
    have hb := hB0.out.fr hX (fun x => x)
    exact ⟨by rw [hb.cell]; rfl, by rw [hb.cell]; rfl, by rw [hb.cell]; rfl, by rw [hb.cell]; rfl, by rw [hb.cell]; rfl⟩
  have pvs : ∀ X (k : Nat), Fr No W X → k < 2 → ∃ pv, X.cell? ⟨w.heap.size + 3, k, none⟩ = some pv ∧ Nobody X pv := by
    intro X k hX hk
    have hb := hB2.out.fr hX (fun x => x)
    match k, hk with
    | 0, _ => exact ⟨.pointer none, by rw [hb.cell]; rfl, .inl rfl⟩
    | 1, _ => exact ⟨_, by rw [hb.cell]; rfl, .inr ⟨w.heap.size + 2, rfl, hB1.out.fr hX (fun x => x)⟩⟩
  have hWs : w.heap.size < W.heap.size := hB0.out.lt
  have BOX := hid box
  have PVS := hid pvs
  clear box pvs hB0 hB1 hB2
  go_loopw [6] (fun i wr => ∃ k : Nat, k ≤ 2 ∧ i = .int .i64 k ∧ Fr No W wr) (fun i _ => 2 - (intOf i).toNat)
  case atStart => exact ⟨0, by omega, rfl, Fr.refl _ _⟩
  case round =>
    obtain ⟨k, hk, rfl, f'⟩ := hrel
    obtain ⟨x2, x3, x4, x5, x6⟩ := BOX.out wr f'
    by_cases hlt : k < 2
    · obtain ⟨pv, hpv, nb⟩ := PVS.out wr k f' hlt
      have NB := hid nb
      have i0 : (0 : Int) ≤ k := by omega
      have i1 : (k : Int) < 2 := by omega
      clear nb
      go_wp2_with fail
      refine (nget NB.out to h0).mono ?_
      rintro e wx ⟨rfl, rfl⟩
      go_wp2_with fail
      refine (nset NB.out to ref h0).mono ?_
      rintro e wx ⟨rfl, rfl⟩
      go_wp2_with fail
      refine (ngrow NB.out n ref).mono ?_
      rintro e wx ⟨rfl, rfl⟩
      go_wp2_with fail
      refine (nsize NB.out).mono ?_
      rintro e wx ⟨rfl, rfl⟩
      go_wp2_with fail
      refine (nall NB.out).mono ?_
      rintro e wx ⟨rfl, rfl⟩
      go_wp2_with fail
      refine (ntype NB.out).mono ?_
      rintro e w2 ⟨rfl, f2⟩
      have f3 := f'.trans f2 (fun _ _ h => h)
      have NB2 := hid (NB.out.fr f2 (fun _ _ h => h))
      clear x2 x3 x4 x5 x6
      obtain ⟨x2, x3, x4, x5, x6⟩ := BOX.out w2 f3
      have G1 := GF.out w2 pv NB2.out
      have G2 := GC.out w2 pv NB2.out
      have G3 := GI.out w2 pv NB2.out
      clear hpv NB
      go_wp2_with (first
        | (go_at_call 24; refine G1.out.mono ?_; rintro e wx ⟨rfl, rfl⟩)
        | (go_at_call 10; refine G2.out.mono ?_; rintro e wx ⟨rfl, rfl⟩)
        | (go_at_call 11; refine G3.out.mono ?_; rintro e wx ⟨rfl, rfl⟩))
      exact ⟨⟨k + 1, by omega, by go_num, f3⟩, by simp [intOf]; omega⟩
    · have FW : Fr No w wr := F0.out.trans f' (fun _ _ h => h)
      have hfl := filled_any A ys _ cl wr (hr.frNo FW) (by rw [hln.out]; omega) (by rw [hln.out]; exact hcl)
      rw [hln.out] at hfl
      have HFL := hid hfl
      clear hfl
      go_wp2_with fail
      refine HFL.out.mono ?_
      rintro e w4 ⟨p, q, c, rfl, t4, hp, hq, f4⟩
      have T4 := hid (t4.fr ((Fr.refl No w4).drew) (fun x => x) (fun x => x))
      have F4 := f'.trans f4 (fun _ _ h => h)
      have FW4 := FW.trans f4 (fun _ _ h => h)
      clear x2 x3 x4 x5 x6 t4
      obtain ⟨x2, x3, x4, x5, x6⟩ := BOX.out w4 F4
      have sz := F0.out.size
      have sz2 := f'.size
      have ct := copy_nil T4.out to at_ n h0 h1 h2
      rw [gt.out] at ct
      have CT := hid ct
      clear ct
      have BX : Hid (∀ X, Fr (One q) w4.drew X → X.cell? ⟨w.heap.size, 2, none⟩ = some (.int .u64 to) ∧ X.cell? ⟨w.heap.size, 3, none⟩ = some (.int .u64 at_) ∧ X.cell? ⟨w.heap.size, 4, none⟩ = some (.int .u64 n) ∧ X.cell? ⟨w.heap.size, 5, none⟩ = some (.int .u64 ref) ∧ X.cell? ⟨w.heap.size, 6, none⟩ = some (.slice A ln cl)) := by
        intro X hX
        have hlt0 := World.block_lt_of_cell? _ _ x2
        have hlt0 : w.heap.size < w4.heap.size := hlt0
        have hne : ¬ One q w.heap.size := fun h => by have h : w.heap.size = q := h; omega
        exact ⟨(hX.cell (p := ⟨_, 2, none⟩) hlt0 hne).trans x2, (hX.cell (p := ⟨_, 3, none⟩) hlt0 hne).trans x3, (hX.cell (p := ⟨_, 4, none⟩) hlt0 hne).trans x4, (hX.cell (p := ⟨_, 5, none⟩) hlt0 hne).trans x5, (hX.cell (p := ⟨_, 6, none⟩) hlt0 hne).trans x6⟩
      have wln : IntKind.u64.wrap (ln : Int) = ln := IntWalk.u64_in _ (by omega)
      have hlen60 : ys.length ≤ 1048576 := by rw [hln.out]; omega
      go_wp2_with fail
      refine wp_region_ord (fun X => X.cell? ⟨w.heap.size, 2, none⟩ = some (.int .u64 to) ∧ X.cell? ⟨w.heap.size, 3, none⟩ = some (.int .u64 at_) ∧ X.cell? ⟨w.heap.size, 4, none⟩ = some (.int .u64 n) ∧ X.cell? ⟨w.heap.size, 6, none⟩ = some (.slice A ln cl)) [] [(0, true), (1, true), (2, true), (3, true), (4, true), (5, true), (6, true), (9, true), (10, true), (11, true), (12, true), (13, true), (7, false), (8, true), (14, true), (15, true), (16, true), (17, true), (18, true), (19, true), (20, true), (21, true), (22, true), (23, true), (24, true), (25, true), (26, true), (27, true), (28, true), (29, true), (30, true), (31, true), (32, true), (33, true), (34, true), (36, true), (37, true), (35, false), (38, false), (39, true), (40, true), (41, false), (42, true), (43, true)] (by kernel_rfl) (by kernel_rfl) (by kernel_rfl) rfl ⟨x2, x3, x4, x6⟩ ?_
      repeat (first
        | (refine wpO_skip rfl rfl ?_; simp only [List.getElem_toArray, List.getElem_cons_succ, List.getElem_cons_zero, Act.put, List.setIfInBounds_toArray, List.set_cons_zero, List.set_cons_succ])
        | (refine wpO_read rfl rfl ?_; simp only [List.getElem_toArray, List.getElem_cons_succ, List.getElem_cons_zero]; apply Exists.intro; refine ⟨fun X hX => ?_, ?_⟩
           · (obtain ⟨s1, s2, s3, s4⟩ := hX; go_simp; exact rfl)
           simp only [Act.put, List.setIfInBounds_toArray, List.set_cons_zero, List.set_cons_succ]))
      refine wpO_eff rfl rfl (fun K hK => ?_)
      simp only [List.getElem_toArray, List.getElem_cons_succ, List.getElem_cons_zero]
      go_simp
      refine CT.out.mono ?_
      rintro e w5 ⟨rfl, t5, f5⟩
      have T5 := hid t5
      obtain ⟨y2, y3, y4, y5, y6⟩ := BX.out w5 f5
      refine hK _ _ (fun _ => ⟨y2, y3, y4, y6⟩) ?_
      clear hK K t5 x2 x3 x4 x5 x6
      repeat (first
        | (refine wpO_skip rfl rfl ?_; simp only [List.getElem_toArray, List.getElem_cons_succ, List.getElem_cons_zero, Act.put, List.setIfInBounds_toArray, List.set_cons_zero, List.set_cons_succ])
        | (refine wpO_read rfl rfl ?_; simp only [List.getElem_toArray, List.getElem_cons_succ, List.getElem_cons_zero]; apply Exists.intro; refine ⟨fun X hX => ?_, ?_⟩
           · (obtain ⟨s1, s2, s3, s4⟩ := hX; go_simp; exact rfl)
           simp only [Act.put, List.setIfInBounds_toArray, List.set_cons_zero, List.set_cons_succ]))
      refine wpO_eff rfl rfl (fun K hK => ?_)
      simp only [List.getElem_toArray, List.getElem_cons_succ, List.getElem_cons_zero]
      go_simp
      refine (all_any T5.out).mono ?_
      rintro e w6 ⟨q6, c6, rfl, ho6, hq6, f6⟩
      have O6 := hid ho6
      obtain ⟨u2, u3, u4, u5, u6⟩ := BX.out w6 (f5.trans f6 (fun _ _ h => h.elim))
      refine hK _ _ (fun _ => ⟨u2, u3, u4, u6⟩) ?_
      clear hK K ho6 y2 y3 y4 y5 y6
      repeat (first
        | (refine wpO_skip rfl rfl ?_; simp only [List.getElem_toArray, List.getElem_cons_succ, List.getElem_cons_zero, Act.put, List.setIfInBounds_toArray, List.set_cons_zero, List.set_cons_succ])
        | (refine wpO_read rfl rfl ?_; simp only [List.getElem_toArray, List.getElem_cons_succ, List.getElem_cons_zero]; apply Exists.intro; refine ⟨fun X hX => ?_, ?_⟩
           · (obtain ⟨s1, s2, s3, s4⟩ := hX; go_simp; exact rfl)
           simp only [Act.put, List.setIfInBounds_toArray, List.set_cons_zero, List.set_cons_succ]))
      refine wpO_eff rfl rfl (fun K hK => ?_)
      simp only [List.getElem_toArray, List.getElem_cons_succ, List.getElem_cons_zero]
      go_simp
      refine (same_at _ _ ys ys _ _ _ _ _ _ _ rfl hln.out (O6.out.rd O6.out.lt) (((hr.frNo FW4).drew.fr f5 (fun j hj h => by have h : j = q := h; omega)).frNo f6) (by omega) (by omega)).mono ?_
      rintro e w7 ⟨rfl, n7, rfl⟩
      refine hK _ _ (fun _ => ⟨u2, u3, u4, u6⟩) ?_
      clear hK K
      simp only [decide_true]
      repeat (first
        | (refine wpO_skip rfl rfl ?_; simp only [List.getElem_toArray, List.getElem_cons_succ, List.getElem_cons_zero, Act.put, List.setIfInBounds_toArray, List.set_cons_zero, List.set_cons_succ])
        | (refine wpO_read rfl rfl ?_; simp only [List.getElem_toArray, List.getElem_cons_succ, List.getElem_cons_zero]; apply Exists.intro; refine ⟨fun X hX => ?_, ?_⟩
           · (obtain ⟨s1, s2, s3, s4⟩ := hX; go_simp; exact rfl)
           simp only [Act.put, List.setIfInBounds_toArray, List.set_cons_zero, List.set_cons_succ]))
      refine wpO_eff rfl rfl (fun K hK => ?_)
      simp only [List.getElem_toArray, List.getElem_cons_succ, List.getElem_cons_zero]
      go_simp
      refine (alive_any _).mono ?_
      rintro e w8 ⟨rfl, f8⟩
      obtain ⟨z2, z3, z4, z5, z6⟩ := BX.out w8 (((f5.trans f6 (fun _ _ h => h.elim)).drewN n7).trans f8 (fun _ _ h => h.elim))
      refine hK _ _ (fun _ => ⟨z2, z3, z4, z6⟩) ?_
      clear hK K
      repeat (first
        | (refine wpO_skip rfl rfl ?_; simp only [List.getElem_toArray, List.getElem_cons_succ, List.getElem_cons_zero, Act.put, List.setIfInBounds_toArray, List.set_cons_zero, List.set_cons_succ])
        | (refine wpO_read rfl rfl ?_; simp only [List.getElem_toArray, List.getElem_cons_succ, List.getElem_cons_zero]; apply Exists.intro; refine ⟨fun X hX => ?_, ?_⟩
           · (obtain ⟨s1, s2, s3, s4⟩ := hX; go_simp; exact rfl)
           simp only [Act.put, List.setIfInBounds_toArray, List.set_cons_zero, List.set_cons_succ]))
      refine wpO_nil ?_
      go_wp2
      go_ret
      exact ⟨rfl, ((FW4.drew.trans f5 (fun i hi h => by have h : i = q := h; omega)).trans f6 (fun _ _ h => h)).drewN n7 |>.trans f8 (fun _ _ h => h)⟩
end Go.Proofs.Ytndhbamfgihncaa
