/- Chapter 28: the law MemoryKeeps. -/
import Derived.Test.YtpmnijjfadhocaaMnG
namespace Go.Proofs.Ytpmnijjfadhocaa
open Go.RowKit

theorem row_fresh {w : World} {base c : Nat} {A : Option Addr} {B : List Int} (h : tB.row w base Emp 5 (.slice A B.length c) B) {r o : Nat} (e : A = some ⟨r, o, none⟩) : base ≤ r := by
  subst e; exact (h.own (g := r) rfl).1
theorem rm_at {w : World} {A : Option Addr} {c : Nat} {B : List Int} (h : RmIn w A c B) (hne : 0 < B.length) : ∃ b o, A = some ⟨b, o, none⟩ ∧ b < w.heap.size ∧ ∀ (i : Nat) (hi : i < B.length), w.cell? ⟨b, o + i, none⟩ = some (.int .u8 B[i]) := by
  obtain ⟨b, o, e, hb, _⟩ := Ks_rd h.rd 0 hne
  refine ⟨b, o, e, hb, fun i hi => ?_⟩
  obtain ⟨b', o', e', _, hc⟩ := Ks_rd h.rd i hi
  rw [e] at e'
  injection e' with e'
  injection e' with e1 e2 _
  rw [e1, e2]; exact hc
set_option maxRecDepth 100000 in
set_option maxHeartbeats 3200000 in
theorem keeps_t (bs : List Int) (a : Ac) (D Ab : Option Addr) (d cb : Nat) (w : World) (hD : SrcIn w D d bs) (hla : bs.length ≤ 140737488351232)
    (f0 : (Lit.int .i64 a.call).wf = true) (f1 : (Lit.int .i64 a.op).wf = true) (f2 : (Lit.int .u64 a.to_).wf = true) (f3 : (Lit.int .u64 a.at_).wf = true) (f4 : (Lit.int .u64 a.n).wf = true) (f5 : (Lit.int .u64 a.x).wf = true) (f6 : a.b.length ≤ cb) (f7 : cb ≤ maxLen) (f8 : tB.els w (· < w.heap.size) Ab a.b) (hlb : a.b.length ≤ 140737488351232) :
    Calls Try.prog 5 #[.slice D bs.length d, .agg #[.int .i64 a.call, .int .i64 a.op, .int .u64 a.to_, .int .u64 a.at_, .int .u64 a.n, .int .u64 a.x, .slice Ab a.b.length cb]] w fun e w' => e = .returned (.bool true) ∧ Fr No w w' := by
  have F := hid ((Fr.refl No w).alloc (.cells #[.int .i64 a.call, .int .i64 a.op, .int .u64 a.to_, .int .u64 a.at_, .int .u64 a.n, .int .u64 a.x, .slice Ab a.b.length cb] 44))
  have G := hid (Blk.new w 44 #[.int .i64 a.call, .int .i64 a.op, .int .u64 a.to_, .int .u64 a.at_, .int .u64 a.n, .int .u64 a.x, .slice Ab a.b.length cb])
  have HD := hid hD
  have HE := hid f8
  have HW := hid (And.intro f0 (And.intro f1 (And.intro f2 (And.intro f3 (And.intro f4 f5)))))
  clear hD f8 f0 f1 f2 f3 f4 f5
  have HN := hid (fun W => new_any lOne W)
  unfold NewTo at HN
  rw [lOne_valid] at HN
  simp only [if_true] at HN
  obtain ⟨n, hn⟩ : ∃ n, bs.length = n := ⟨_, rfl⟩
  have HNN := hid hn
  rw [hn] at hla ⊢
  clear hn
  by_cases hbig : 256 < n
  · go_enter Try.func5, Try.ntmps5
    go_wp2_with fail
    all_goals first
      | omega
      | (refine (alive_any _).mono ?_
         rintro e w2 ⟨rfl, f⟩
         replace F := hid (F.out.trans f (fun _ _ h => h))
         clear f
         go_wp2
         go_ret
         exact ⟨rfl, F.out⟩)
  · go_enter Try.func5, Try.ntmps5
    go_wp2_with fail
    refine (few_any (some ⟨w.heap.size + 1, 0, none⟩) 1 [a] (fun k => k < w.heap.size ∨ k = w.heap.size + 1) _ ?_ ?_ ?_ (by simp)).mono ?_
    · refine blk_els (css := [_]) (Blk.new1 w _ _ _) (.inr rfl) (Css.one (Ac_mk HW.out.1 HW.out.2.1 HW.out.2.2.1 HW.out.2.2.2.1 HW.out.2.2.2.2.1 HW.out.2.2.2.2.2 f6 f7 ?_))
      exact (Ty.els.fr HE.out (F.out.alloc _) (fun k hk => ⟨hk, fun x => x⟩)).more (fun k hk => .inl hk)
    · intro k hk
      simp
      omega
    · intro x hx
      rw [List.mem_singleton] at hx
      subst hx; exact hlb
    rintro e w1 ⟨⟨b, rfl, hfew⟩, f⟩
    replace F := hid ((F.out.alloc _).trans f (fun _ _ h => h))
    replace G := hid ((G.out.alloc _).fr f (fun x => x))
    clear f
    cases b with
    | false =>
      go_wp2_with fail
      refine (alive_any _).mono ?_
      rintro e w2 ⟨rfl, f⟩
      replace F := hid (F.out.trans f (fun _ _ h => h))
      clear f
      go_wp2
      go_ret
      exact ⟨rfl, F.out⟩
    | true =>
      have h300 : a.b.length ≤ 300 := hfew rfl a (by simp)
      clear hfew
      have HK := hid (fun (B : List Int) (hB : B.length = 256) => keeps_law (l := lOne) (B := B) a ⟨wf_u64 HW.out.2.2.1, wf_u64 HW.out.2.2.2.1, wf_u64 HW.out.2.2.2.2.1, wf_u64 HW.out.2.2.2.2.2, by omega⟩ hB)
      have HOA : Hid (Oka a) := hid ⟨wf_u64 HW.out.2.2.1, wf_u64 HW.out.2.2.2.1, wf_u64 HW.out.2.2.2.2.1, wf_u64 HW.out.2.2.2.2.2, by omega⟩
      go_wp2_with fail
      refine (HN.out _).mono ?_
      rintro e w2 ⟨p, q, c, rfl, hm, hp, hq, f⟩
      have HPQ := hid (And.intro hp hq)
      have hs1 := G.out.lt
      replace F := hid (F.out.trans f (fun _ _ h => h))
      replace G := hid (G.out.fr f (fun x => x))
      have HM := hid hm
      clear f hm hp hq
      rw [show lOne.min.toNat * 256 = 256 from rfl] at HM
      have HI := hid (minit_any p q c lOne (List.replicate 256 0) bs D d 0 0 bs.length w2 HM.out (HD.out.fr F.out) (by simp) (by have := HNN.out; omega) (by decide) (by decide) (by have := HNN.out; omega))
      have HI0 : Hid ((initR (List.replicate 256 0) bs (lo 0) (lo 0) (lo (bs.length : Int))).2 = 0) := hid (init_all (by have := HNN.out; omega))
      have hB1 := len_init (List.replicate 256 0) bs (lo 0) (lo 0) (lo (bs.length : Int))
      rw [List.length_replicate] at hB1
      unfold MoTo at HI
      rw [HI0.out] at HI
      generalize (initR (List.replicate 256 0) bs (lo 0) (lo 0) (lo (bs.length : Int))).1 = B1 at *
      rw [HNN.out] at HI
      clear HI0
      go_wp2_with fail
      refine HI.out.mono ?_
      clear HI HM
      rintro e w3 ⟨rfl, hm, f⟩
      have hw2 := G.out.lt
      have F3 := hid (F.out.trans f (fun i hi h => by have := HPQ.out.2; unfold One at h; omega))
      replace G := hid (G.out.fr f (fun h => by have := HPQ.out.2; unfold One at h; omega))
      clear F
      have F := F3
      clear F3
      have HM := hid hm
      clear f hm
      go_wp2_with fail
      refine (bytes_any p c (some ⟨q, 0, none⟩) B1 w3 (HM.out.hp.cell 3) HM.out.hp.lt (own_els HM.out) (by omega)).mono ?_
      rintro e w4 ⟨A1, c1, rfl, hrow, f⟩
      have HA := hid (fun r o (e : A1 = some ⟨r, o, none⟩) => row_fresh hrow e)
      have HR := hid (rmIn_of_row hrow)
      replace F := hid (F.out.trans f (fun _ _ h => h))
      replace G := hid (G.out.fr f (fun x => x))
      have hp3 := HM.out.hp.lt
      have hq3 := HM.out.own.lt
      replace HM := hid (HM.out.frNo f)
      clear f hrow
      have y0 := G.out.cell 0
      have y1 := G.out.cell 1
      have y2 := G.out.cell 2
      have y3 := G.out.cell 3
      have y4 := G.out.cell 4
      have y5 := G.out.cell 5
      have y6 := G.out.cell 6
      rw [hB1]
      have hw1 := hs1
      have hpq := HPQ.out
      have HP := hid (plays_any p q c lOne ⟨0, 0, false⟩ A1 c1 B1 a Ab cb w4 HM.out HR.out (fun _ r o e => by have := HA.out r o e; constructor <;> omega) (okm_len (okm_new lOne_valid) (by rw [hB1]; rfl)) rfl HOA.out (els_src (c := cb) ((Ty.els.fr HE.out F.out (fun k hk => ⟨hk, fun x => x⟩)).more (fun k (hk : k < w.heap.size) => Nat.lt_of_lt_of_le hk F.out.size)) f6) (fun hne r o e => by have := els_blk HE.out hne e; constructor <;> omega) (wf_i64 HW.out.1))
      rw [hB1] at HP
      have HK1 := hid (HK.out B1 hB1)
      have hK2 := okm_play (l := lOne) (B := B1) (okm_len (okm_new lOne_valid) (by rw [hB1]; rfl)) a HOA.out
      have hl1 := HK1.out.len
      have hl2 := hK2.len
      clear hK2 HK HM HE HD
      generalize playR lOne B1 a = B2 at *
      go_wp2_with fail
      refine HP.out.mono ?_
      clear HP y0 y1 y2 y3 y4 y5 y6
      rintro e w5 ⟨q2, c2, A2, cx2, rfl, hm, _, _, _, _, f⟩
      replace F := hid (F.out.trans f (fun i hi h => by unfold Two at h; omega))
      replace G := hid (G.out.fr f (fun h => by unfold Two at h; omega))
      replace HR := hid (HR.out.frM f (fun hne r o e h => by have := HA.out r o e; unfold Two at h; omega))
      have HM := hid hm
      clear f hm HA HPQ
      go_wp2_with fail
      refine (bytes_any p c2 (some ⟨q2, 0, none⟩) B2 w5 (HM.out.hp.cell 3) HM.out.hp.lt (own_els HM.out) (by omega)).mono ?_
      rintro e w6 ⟨A3, c3, rfl, hrow, f⟩
      have HR3 := hid (rmIn_of_row hrow)
      replace F := hid (F.out.trans f (fun _ _ h => h))
      replace G := hid (G.out.fr f (fun x => x))
      replace HR := hid (HR.out.fr f)
      clear f hrow HM
      obtain ⟨m, hmm⟩ : ∃ m, B2.length = m := ⟨_, rfl⟩
      rw [hmm] at hl1 hl2 ⊢
      have HMM := hid hmm
      clear hmm
      have d1 : decide ((m : Int) < 256) = false := decide_eq_false (by omega)
      clear h300 hla hpq hp3 hq3 hw1 hw2 hs1 HN f6 f7 hlb HNN
      go_wp2_with fail
      have HXW : Hid (∀ X, Fr No w6 X → X.cell? ⟨w.heap.size, 0, none⟩ = some (.int .i64 a.call) ∧ X.cell? ⟨w.heap.size, 2, none⟩ = some (.int .u64 a.to_) ∧ X.cell? ⟨w.heap.size, 3, none⟩ = some (.int .u64 a.at_) ∧ X.cell? ⟨w.heap.size, 4, none⟩ = some (.int .u64 a.n)) := hid fun X f => by
        have hg := G.out.fr f (fun x => x)
        exact ⟨hg.cell 0, hg.cell 2, hg.cell 3, hg.cell 4⟩
      refine wp_region_ort (Fr No w6) (.rd 0 (.rd 1 (.rd 2 (.rd 3 (.rd 4 (.rd 5 (.rd 6 (.rd 7 (.rd 8 (.rd 9 .nil)))))))))) (by kernel_rfl) (by kernel_rfl) (by kernel_rfl) rfl (Fr.refl _ w6).drew ?_
      repeat (first
        | (refine wpT_skip rfl rfl ?_; simp only [List.getElem_toArray, List.getElem_cons_succ, List.getElem_cons_zero, Act.put, List.setIfInBounds_toArray, List.set_cons_zero, List.set_cons_succ])
        | (refine wpT_call rfl rfl ?_; simp only [List.getElem_toArray, List.getElem_cons_succ, List.getElem_cons_zero]; apply Exists.intro; refine ⟨fun X hX => ?_, ?_⟩
           · (obtain ⟨s0, s1, s2, s3⟩ := HXW.out X hX; go_simp; exact stillUpon_value)
           simp only [Act.put, List.setIfInBounds_toArray, List.set_cons_zero, List.set_cons_succ]))
      refine wpT_nil ?_
      have e1 : IntKind.i64.wrap (bits BinOp.and IntKind.u64 a.to_ 4294967295) = ((lo a.to_ : Nat) : Int) := by
        rw [and_low _ HOA.out.to_, IntKind.wrap_i64]
        unfold lo; omega
      have e2 : IntKind.i64.wrap (bits BinOp.and IntKind.u64 a.n 4294967295) = ((lo a.n : Nat) : Int) := by
        rw [and_low _ HOA.out.n, IntKind.wrap_i64]
        unfold lo; omega
      rw [e1, e2]
      clear e1 e2
      have FD := (Fr.refl No w6).drew
      have hcells := HXW.out _ FD
      generalize w6.drew = wd at *
      clear HXW
      obtain ⟨y0, y2, y3, y4⟩ := hcells
      have hlo := lo_lt a.to_
      have hat := HOA.out.at_
      have EF : Hid (fromA a = if a.call = 2 ∧ a.at_ < 256 then lo a.to_ + a.at_.toNat else lo a.to_) := hid rfl
      have EN : Hid (numA a = if a.call = 2 then 8 else lo a.n) := hid rfl
      have EW : Hid (wrA a = (decide (a.call = 2) || decide (a.call = 4) || decide (a.call = 5) || decide (a.call = 6))) := hid rfl
      have hfn : fromA a + numA a < 10000000000 := by
        have := lo_lt a.n
        rw [EF.out, EN.out]; split <;> split <;> omega
      have HKO : Hid (∀ i : Nat, i < 256 → B2[i]? ≠ B1[i]? → wrA a = true ∧ fromA a ≤ i ∧ i < fromA a + numA a) := hid HK1.out.old
      generalize fromA a = fr at *
      generalize numA a = nu at *
      generalize wrA a = wr_ at *
      go_upto_if 66 with fail
      go_cut [8, 9] (fun v8 v9 wx => v8 = .int .i64 (fr : Nat) ∧ v9 = .int .i64 (nu : Nat) ∧ wx = wd)
      case first =>
        by_cases h2 : a.call = 2
        · have d2 : (a.call == 2) = true := by simpa using h2
          have H2 := hid h2
          clear h2
          by_cases h3 : a.at_ < 256
          · have d3 : decide (a.at_ < 256) = true := decide_eq_true h3
            have H3 := hid h3
            clear h3
            go_wp2_with fail
            go_meet
            case rel =>
              have h3 := H3.out
              exact ⟨by rw [EF.out, if_pos ⟨H2.out, H3.out⟩]; congr 1; first | omega | (rw [IntKind.wrap_i64]; omega) | (unfold wrap64; omega), by rw [EN.out, if_pos H2.out]; rfl, rfl⟩
          · have d3 : decide (a.at_ < 256) = false := decide_eq_false h3
            have H3 := hid h3
            clear h3
            go_wp2_with fail
            go_meet
            case rel => exact ⟨by rw [EF.out, if_neg (fun h => by have := H3.out; have := h.2; omega)], by rw [EN.out, if_pos H2.out]; rfl, rfl⟩
        · have d2 : (a.call == 2) = false := by simpa using h2
          have H2 := hid h2
          clear h2
          go_wp2_with fail
          go_meet
          case rel => exact ⟨by rw [EF.out, if_neg (fun h => H2.out h.1)], by rw [EN.out, if_neg H2.out], rfl⟩
      case rest =>
        obtain ⟨rfl, rfl, rfl⟩ := hcut
        go_upto_region 16 with fail
        go_cut [10] (fun v10 wx => v10 = .bool wr_ ∧ wx = wc)
        case first =>
          by_cases h2 : a.call = 2
          · have d2 : (a.call == 2) = true := by simpa using h2
            clear h2
            go_wp2_with fail
            go_meet
            case rel => exact ⟨by rw [EW.out]; first | rfl | (congr 1; rw [show decide (a.call = 2) = true from d2]; rfl), rfl⟩
          · have d2 : (a.call == 2) = false := by simpa using h2
            clear h2
            by_cases h4 : a.call = 4
            · have d4 : (a.call == 4) = true := by simpa using h4
              clear h4
              go_wp2_with fail
              go_meet
              case rel => exact ⟨by rw [EW.out]; first | rfl | (rw [show decide (a.call = 2) = false from d2, show decide (a.call = 4) = true from d4]; rfl), rfl⟩
            · have d4 : (a.call == 4) = false := by simpa using h4
              clear h4
              by_cases h5 : a.call = 5
              · have d5 : (a.call == 5) = true := by simpa using h5
                clear h5
                go_wp2_with fail
                go_meet
                case rel => exact ⟨by rw [EW.out]; first | rfl | (rw [show decide (a.call = 2) = false from d2, show decide (a.call = 4) = false from d4, show decide (a.call = 5) = true from d5]; rfl), rfl⟩
              · have d5 : (a.call == 5) = false := by simpa using h5
                clear h5
                go_wp2_with fail
                go_meet
                case rel => exact ⟨by first | (rw [EW.out]; rfl) | (rw [EW.out, show decide (a.call = 2) = false from d2, show decide (a.call = 4) = false from d4, show decide (a.call = 5) = false from d5]; rfl), rfl⟩
        case rest =>
          obtain ⟨rfl, rfl⟩ := hcut
          clear y0 y2 y3 y4 EF EN EW hlo hat HOA HW d1
          obtain ⟨b1, o1, rfl, hb1, hc1⟩ := rm_at HR.out (by omega)
          obtain ⟨b3, o3, rfl, hb3, hc3⟩ := rm_at HR3.out (by have := HMM.out; omega)
          have HC1 := hid hc1
          have HC3 := hid hc3
          clear hc1 hc3 HR HR3
          go_wp2_with fail
          go_loopw [11] (fun i wr => ∃ k : Nat, k ≤ 256 ∧ i = .int .i64 k ∧ Hid (Fr No w6 wr)) (fun i _ => 256 - (intOf i).toNat)
          case atStart => exact ⟨0, by omega, rfl, hid FD⟩
          case round =>
            obtain ⟨k, hk, rfl, HF⟩ := hrel
            by_cases hgo : k < 256
            · have hk1 : k < B1.length := by omega
              have hk3 : k < B2.length := by have := HMM.out; omega
              have HOLD := hid (HKO.out k hgo)
              rw [List.getElem?_eq_getElem hk1, List.getElem?_eq_getElem hk3] at HOLD
              have HXB : Hid (∀ X, Fr No wr X → X.cell? ⟨b3, o3 + k, none⟩ = some (.int .u8 B2[k]) ∧ X.cell? ⟨b1, o1 + k, none⟩ = some (.int .u8 B1[k])) := hid fun X f => by
                have f' := HF.out.trans f (fun _ _ h => h)
                exact ⟨(f'.cell (p := ⟨b3, o3 + k, none⟩) hb3 (fun x => x)).trans (HC3.out k hk3), (f'.cell (p := ⟨b1, o1 + k, none⟩) hb1 (fun x => x)).trans (HC1.out k hk1)⟩
              generalize B2[k] = x2 at *
              generalize B1[k] = x1 at *
              have i0 : (0 : Int) ≤ k := by omega
              have i1 : (k : Int) < 256 := by omega
              have i2 : (k : Int) < m := by omega
              clear hk1 hk3
              by_cases heq : x2 = x1
              · subst heq
                clear HOLD
                go_wp2_with fail
                refine wp_region_ort (Fr No wr) (.rd 0 (.rd 1 (.rd 2 (.rd 3 (.rd 4 (.rd 5 (.rd 6 (.rd 7 (.rd 8 (.rd 9 (.rd 10 (.rd 11 (.rd 12 (.rd 13 (.rd 14 (.rd 15 (.rd 16 (.rd 17 (.rd 18 (.rd 19 (.rd 20 (.rd 21 (.rd 22 (.rd 23 (.rd 24 .nil))))))))))))))))))))))))) (by kernel_rfl) (by kernel_rfl) (by kernel_rfl) rfl (Fr.refl _ wr).drew ?_
                repeat (first
                  | (refine wpT_skip rfl rfl ?_; simp only [List.getElem_toArray, List.getElem_cons_succ, List.getElem_cons_zero, Act.put, List.setIfInBounds_toArray, List.set_cons_zero, List.set_cons_succ])
                  | (refine wpT_call rfl rfl ?_; simp only [List.getElem_toArray, List.getElem_cons_succ, List.getElem_cons_zero]; apply Exists.intro; refine ⟨fun X hX => ?_, ?_⟩
                     · (obtain ⟨s0, s1⟩ := HXB.out X hX; go_simp; exact stillUpon_value)
                     simp only [Act.put, List.setIfInBounds_toArray, List.set_cons_zero, List.set_cons_succ]))
                refine wpT_nil ?_
                have HFD := hid (HF.out.trans (Fr.refl No wr).drew (fun _ _ h => h))
                generalize wr.drew = wz at *
                go_wp2
                go_round
                case rel => exact ⟨k + 1, by omega, by go_num, HFD⟩
                case measure => simp [intOf]; omega
              · have ho := HOLD.out (by simpa using heq)
                obtain ⟨ho0, ho1, ho2⟩ := ho
                subst ho0
                have dne : (x2 == x1) = false := by simpa using heq
                have dnb : (x2 != x1) = true := by simpa using heq
                have dnc : (!decide (x2 = x1)) = true := by simpa using heq
                have dnd : (decide (x2 = x1)) = false := by simpa using heq
                have hw1 : IntKind.i64.wrap ((fr : Int) + nu) = fr + nu := by rw [IntKind.wrap_i64]; omega
                have dg1 : decide ((fr : Int) ≤ k) = true := decide_eq_true (by omega)
                have dg2 : decide ((k : Int) < (fr : Int) + nu) = true := decide_eq_true (by omega)
                have g1 : (fr : Int) ≤ k := by omega
                have g2 : (k : Int) < (fr : Int) + nu := by omega
                clear HOLD heq
                go_wp2_with fail
                refine wp_region_ort (Fr No wr) (.rd 0 (.rd 1 (.rd 2 (.rd 3 (.rd 4 (.rd 5 (.rd 6 (.rd 7 (.rd 8 (.rd 9 (.rd 10 (.rd 11 (.rd 12 (.rd 13 (.rd 14 (.rd 15 (.rd 16 (.rd 17 (.rd 18 (.rd 19 (.rd 20 (.rd 21 (.rd 22 (.rd 23 (.rd 24 .nil))))))))))))))))))))))))) (by kernel_rfl) (by kernel_rfl) (by kernel_rfl) rfl (Fr.refl _ wr).drew ?_
                repeat (first
                  | (refine wpT_skip rfl rfl ?_; simp only [List.getElem_toArray, List.getElem_cons_succ, List.getElem_cons_zero, Act.put, List.setIfInBounds_toArray, List.set_cons_zero, List.set_cons_succ])
                  | (refine wpT_call rfl rfl ?_; simp only [List.getElem_toArray, List.getElem_cons_succ, List.getElem_cons_zero]; apply Exists.intro; refine ⟨fun X hX => ?_, ?_⟩
                     · (obtain ⟨s0, s1⟩ := HXB.out X hX; go_simp; exact stillUpon_value)
                     simp only [Act.put, List.setIfInBounds_toArray, List.set_cons_zero, List.set_cons_succ]))
                refine wpT_nil ?_
                have HFD := hid (HF.out.trans (Fr.refl No wr).drew (fun _ _ h => h))
                generalize wr.drew = wz at *
                go_wp2
                go_round
                case rel => exact ⟨k + 1, by omega, by go_num, HFD⟩
                case measure => simp [intOf]; omega
            · have hkn : k = 256 := by omega
              subst hkn
              clear hgo
              go_wp2_with fail
              go_loopw [12] (fun i wr => ∃ k : Nat, 256 ≤ k ∧ k ≤ m ∧ i = .int .i64 k ∧ Hid (Fr No w6 wr)) (fun i _ => m - (intOf i).toNat)
              case atStart => exact ⟨256, by omega, by omega, rfl, HF⟩
              case round =>
                clear HF
                obtain ⟨k, hk0, hk, rfl, HF⟩ := hrel
                by_cases hgo : k < m
                · have hk3 : k < B2.length := by have := HMM.out; omega
                  have hz := HK1.out.new k hk0 hk3
                  rw [List.getElem?_eq_getElem hk3] at hz
                  injection hz with hz
                  have hc := (HF.out.cell (p := ⟨b3, o3 + k, none⟩) hb3 (fun x => x)).trans (HC3.out k hk3)
                  rw [hz] at hc
                  have i0 : (0 : Int) ≤ k := by omega
                  have i2 : (k : Int) < m := by omega
                  clear hz hk3
                  go_wp2_with fail
                  go_round
                  case rel => exact ⟨k + 1, by omega, by omega, by go_num, HF⟩
                  case measure => simp [intOf]; omega
                · have hkn : k = m := by omega
                  subst hkn
                  clear hgo
                  go_wp2_with fail
                  refine (alive_any _).mono ?_
                  rintro e w7 ⟨rfl, f⟩
                  have FZ := hid ((F.out.trans HF.out (fun _ _ h => h)).trans f (fun _ _ h => h))
                  clear f
                  go_wp2
                  go_ret
                  exact ⟨rfl, FZ.out⟩
theorem memoryKeeps_walk (w : World) (v0 v1 : Value) (x0 : List Int) (x1 : Ac) (y0 : (Ty.int .u8).slice.rd w (· < w.heap.size) v0.cells.toList x0) (y1 : tAc.rd w (· < w.heap.size) v1.cells.toList x1) (u0 : (Ty.int .u8).slice.lw 140737488351232 x0) (u1 : tAc.lw 140737488351232 x1) (hv0 : ∃ A l c, v0 = .slice A l c) (hv1 : ∃ cs, v1 = .agg cs) :
    Calls Try.prog 5 #[v0, v1] w fun e w' => e = .returned (.bool true) ∧ Below w.heap.size w w' := by
  obtain ⟨A, n, c, rfl⟩ := hv0
  obtain ⟨cs, rfl⟩ := hv1
  obtain ⟨A', c', he, h1, h2, h3⟩ := y0
  have he' : [Value.slice A n c] = [Value.slice A' x0.length c'] := he
  injection he' with he' _
  injection he' with e1 e2 e3
  subst e1 e2 e3
  obtain ⟨Ab, cb, hc, f0, f1, f2, f3, f4, f5, f6, f7, f8⟩ := Ac_cells y1
  have hcb : cs = #[.int .i64 x1.call, .int .i64 x1.op, .int .u64 x1.to_, .int .u64 x1.at_, .int .u64 x1.n, .int .u64 x1.x, .slice Ab x1.b.length cb] := by
    have : cs.toList = _ := hc
    rw [← Array.toArray_toList (xs := cs), this]
  subst hcb
  exact (keeps_t x0 x1 A Ab c cb w (els_src h3 h1) u0.1 f0 f1 f2 f3 f4 f5 f6 f7 f8 u1.2.2.2.2.2.2.1).mono fun e w' ⟨a, b⟩ => ⟨a, b.below⟩
end Go.Proofs.Ytpmnijjfadhocaa
