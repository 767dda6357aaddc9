/- Chapter 28: the law MemoryPlays. -/
import Derived.Test.YtpmnijjfadhocaaMnE
namespace Go.Proofs.Ytpmnijjfadhocaa
open Go.RowKit

/-- The state of the loop: the program's memory at p, the reference's in the block g. -/
structure Pl (w0 : World) (w : World) (p g : Nat) (l : Lim) (q c : Nat) (A : Option Addr) (cx : Nat) (B : List Int) : Prop where
  mo : Mo w p q c l B
  ok : Okm l B
  gb : Blk w g 28 #[.int .i64 l.min, .int .i64 l.max, .bool l.has, .slice A B.length cx]
  rm : RmIn w A cx B
  sep : Sep p q A B
  gs : B ≠ [] → ∀ r o, A = some ⟨r, o, none⟩ → r ≠ g
  gp : p ≠ g
  gq : q ≠ g
  p0 : w0.heap.size < p
  q0 : w0.heap.size < q
  g0 : w0.heap.size < g
  fr : Fr No w0 w
  lb : Blk w w0.heap.size 23 #[.int .i64 l.min, .int .i64 l.max, .bool l.has]
def toB (B : List Int) : List UInt8 := B.map fun i => UInt8.ofNat i.toNat
def strB (B : List Int) : ByteArray := ⟨(toB B).toArray⟩
theorem bs_of {B : List Int} (h : Bts B) : Bs (toB B) = B := by
  rw [Bs, toB, List.map_map]
  conv => rhs; rw [← List.map_id B]
  refine List.map_congr_left (fun b hb => ?_)
  have := h b hb
  simp only [Function.comp_apply, id]
  rw [UInt8.toNat_ofNat']
  omega
theorem conv_B {w : World} {A : Option Addr} {B : List Int} {N : Nat} (c : Nat) (h : Rd w N A (Ks .u8 B)) (hb : Bts B) : (convert 26 9 (.slice A B.length c)).run Try.prog w = .ok (.string (strB B)) w := by
  have e := bs_of hb
  have h2 : Rd w N A (Ks .u8 (Bs (toB B))) := by rw [e]; exact h
  have := conv_bytes (P := Try.prog) (w := w) 26 9 5 c Try.underlying26 Try.underlying5 Try.underlying9 h2
  rwa [show (toB B).length = B.length by simp [toB]] at this
theorem Pl.frNo {w0 w w' : World} {p g q c cx : Nat} {l : Lim} {A : Option Addr} {B : List Int} (h : Pl w0 w p g l q c A cx B) (f : Fr No w w') : Pl w0 w' p g l q c A cx B :=
  ⟨h.mo.frNo f, h.ok, h.gb.fr f (fun x => x), h.rm.fr f, h.sep, h.gs, h.gp, h.gq, h.p0, h.q0, h.g0, h.fr.trans f (fun _ _ h => h), h.lb.fr f (fun x => x)⟩
/-- The state behind a call: the new value of the reference in the block h. -/
structure Pl2 (w0 : World) (w : World) (p g h : Nat) (l : Lim) (q c : Nat) (A : Option Addr) (cx : Nat) (B : List Int) (A0 : Option Addr) (n0 cx0 : Nat) : Prop where
  mo : Mo w p q c l B
  ok : Okm l B
  hb : Blk w h 28 #[.int .i64 l.min, .int .i64 l.max, .bool l.has, .slice A B.length cx]
  gb : Blk w g 28 #[.int .i64 l.min, .int .i64 l.max, .bool l.has, .slice A0 n0 cx0]
  rm : RmIn w A cx B
  sep : Sep p q A B
  gs : B ≠ [] → ∀ r o, A = some ⟨r, o, none⟩ → r ≠ g
  gp : p ≠ g
  gq : q ≠ g
  gh : h ≠ g
  p0 : w0.heap.size < p
  q0 : w0.heap.size < q
  g0 : w0.heap.size < g
  fr : Fr No w0 w
  lb : Blk w w0.heap.size 23 #[.int .i64 l.min, .int .i64 l.max, .bool l.has]
theorem pl2_mk {w0 wr w2 w3 : World} {p g h q c cx q2 c2 cx2 : Nat} {l : Lim} {A A2 : Option Addr} {B B2 : List Int} (HP : Pl w0 wr p g l q c A cx B) (hok : Okm l B2) (hm : Mo w2 p q2 c2 l B2) (hr : RmIn w2 A2 cx2 B2) (hs : Sep p q2 A2 B2) (hq : q2 = q ∨ wr.heap.size ≤ q2) (ho : (A2 = A ∧ B2 = B) ∨ ∀ r o, A2 = some ⟨r, o, none⟩ → wr.heap.size ≤ r) (f : Fr (Two p q) wr w2) (f2 : Fr (One h) w2 w3)
    (hh : Blk w3 h 28 #[.int .i64 l.min, .int .i64 l.max, .bool l.has, .slice A2 B2.length cx2]) (hw : wr.heap.size ≤ h) (hp : h ≠ p) (hq2 : h ≠ q2) (hA : B2 ≠ [] → ∀ r o, A2 = some ⟨r, o, none⟩ → r ≠ h) : Pl2 w0 w3 p g h l q2 c2 A2 cx2 B2 A B.length cx := by
  have g1 := HP.gb.lt
  have g2 := HP.lb.lt
  have e1 := HP.p0
  have e2 := HP.q0
  have e3 := HP.g0
  have e4 := HP.gp
  have e5 := HP.gq
  have e6 := HP.fr.size
  have ff : Fr (Two p q) wr w3 := f.trans f2 (fun i hi h => by unfold One at h; omega)
  refine ⟨hm.fr f2 (fun h => hp h.symm) (fun h => hq2 h.symm), hok, hh, HP.gb.fr ff (fun h => by unfold Two at h; omega), hr.frM f2 (fun hne r o e h => hA hne r o e h), hs, ?_, HP.gp, by omega, by omega, HP.p0, by omega, HP.g0, HP.fr.trans ff (fun i hi h => by unfold Two at h; omega), HP.lb.fr ff (fun h => by unfold Two at h; omega)⟩
  intro hne r o e
  rcases ho with ⟨rfl, rfl⟩ | ho
  · exact HP.gs hne r o e
  · have := ho r o e; omega
theorem Pl2.store {w0 w w' : World} {p g h q c cx n0 cx0 : Nat} {l : Lim} {A A0 : Option Addr} {B : List Int} (H : Pl2 w0 w p g h l q c A cx B A0 n0 cx0) (f : Fr (One g) w w') (hg : Blk w' g 28 #[.int .i64 l.min, .int .i64 l.max, .bool l.has, .slice A B.length cx]) : Pl w0 w' p g l q c A cx B :=
  ⟨H.mo.fr f H.gp H.gq, H.ok, hg, H.rm.frM f (fun hne r o e h => H.gs hne r o e h), H.sep, H.gs, H.gp, H.gq, H.p0, H.q0, H.g0, H.fr.trans f (fun i hi h => by have := H.g0; unfold One at h; omega), H.lb.fr f (fun h => by have := H.g0; unfold One at h; omega)⟩
theorem els_blk {w : World} {S : Nat → Prop} {A : Option Addr} {B : List Int} (h : tB.els w S A B) (hne : B ≠ []) {r o : Nat} (e : A = some ⟨r, o, none⟩) : S r := by
  rcases h with h | ⟨b, o', rfl, hb, _⟩
  · exact absurd h hne
  · injection e with e
    injection e with e1 _ _
    rw [← e1]; exact hb
theorem okm_new {l : Lim} (h : validB l = true) : Okm l (List.replicate (l.min.toNat * 256) 0) := by
  obtain ⟨h1, h2, h3, h4⟩ := of_decide_eq_true h
  have h5 : l.min ≤ most l ∧ most l ≤ 256 := by
    unfold most
    cases hh : l.has with
    | true => have := h3 hh; simp; omega
    | false => simp; omega
  refine ⟨?_, ?_, ?_, h5.2⟩ <;> simp only [List.length_replicate] <;> omega
set_option maxRecDepth 100000 in
set_option maxHeartbeats 3200000 in
theorem plays_t (l : Lim) (acts : List Ac) (A0 : Option Addr) (c0 : Nat) (w : World) (hl : -9223372036854775808 ≤ l.min ∧ l.min ≤ 9223372036854775807) (hA : tAc.els w (· < w.heap.size) A0 acts) (hb : ∀ a ∈ acts, a.b.length ≤ 140737488351232) (hn : acts.length ≤ 140737488351232) :
    Calls Try.prog 6 #[.agg #[.int .i64 l.min, .int .i64 l.max, .bool l.has], .slice A0 acts.length c0] w fun e w' => e = .returned (.bool true) ∧ Fr No w w' := by
  have F := hid ((Fr.refl No w).alloc (.cells #[.int .i64 l.min, .int .i64 l.max, .bool l.has] 23))
  have G := hid (Blk.new w 23 #[.int .i64 l.min, .int .i64 l.max, .bool l.has])
  have HA := hid hA
  have HFEW := hid (few_any A0 c0 acts (· < w.heap.size) _ (hA.fr F.out (fun k hk => ⟨hk, fun x => x⟩)) (fun k hk => Nat.lt_of_lt_of_le hk F.out.size) hb hn)
  have HN := hid (fun W => new_any l W)
  unfold NewTo at HN
  have HR := hid (fun W => rnew_any l W)
  unfold RnTo at HR
  have HB := hid (fun (h : validB l = true) => (of_decide_eq_true h : 0 ≤ l.min ∧ l.min ≤ 256 ∧ _))
  obtain ⟨n, hnn⟩ : ∃ n, acts.length = n := ⟨_, rfl⟩
  have HNN := hid hnn
  rw [hnn] at hn HFEW ⊢
  clear hA hb hnn
  go_enter Try.func6, Try.ntmps6
  go_wp2_with fail
  generalize w.alloc (.cells #[.int .i64 l.min, .int .i64 l.max, .bool l.has] 23) = W at *
  refine HFEW.out.mono ?_
  clear HFEW
  rintro e w1 ⟨⟨b, rfl, hb⟩, f⟩
  have HS := hid hb
  replace F := hid (F.out.trans f (fun _ _ h => h))
  replace G := hid (G.out.fr f (fun x => x))
  clear f hb
  have y0 := G.out.cell 0
  have y1 := G.out.cell 1
  have y2 := G.out.cell 2
  cases b with
  | false =>
    go_wp2_with fail
    refine (alive_any _).mono ?_
    rintro e w2 ⟨rfl, f⟩
    replace F := hid (F.out.trans f (fun _ _ h => h))
    clear f y0 y1 y2
    go_wp2
    go_ret
    exact ⟨rfl, F.out⟩
  | true =>
    replace HS := HS.out rfl
    by_cases h3 : 3 < l.min
    · go_wp2_with fail
      all_goals first
        | omega
        | (refine (alive_any _).mono ?_
           rintro e w2 ⟨rfl, f⟩
           replace F := hid (F.out.trans f (fun _ _ h => h))
           clear f y0 y1 y2
           go_wp2
           go_ret
           exact ⟨rfl, F.out⟩)
    · go_wp2_with fail
      refine (HN.out _).mono ?_
      intro e w2 hnew
      clear y0 y1 y2
      cases hv : validB l with
      | false =>
        rw [hv] at hnew
        simp only [Bool.false_eq_true, if_false] at hnew
        obtain ⟨rfl, f⟩ := hnew
        simp only [hv, Bool.false_eq_true, if_false] at HR
        replace F := hid (F.out.trans f (fun _ _ h => h))
        replace G := hid (G.out.fr f (fun x => x))
        clear f
        have y0 := G.out.cell 0
        have y1 := G.out.cell 1
        have y2 := G.out.cell 2
        go_wp2_with fail
        refine (HR.out _).mono ?_
        rintro e w3 ⟨rfl, f⟩
        replace F := hid ((F.out.trans f (fun _ _ h => h)).alloc (.cells #[.int .i64 0, .int .i64 0, .bool false, .slice none 0 0] 28))
        clear f y0 y1 y2
        go_wp2_with fail
        refine (alive_any _).mono ?_
        rintro e w4 ⟨rfl, f⟩
        have FZ := hid (F.out.trans f (fun _ _ h => h))
        clear f
        go_wp2
        go_ret
        exact ⟨rfl, FZ.out⟩
      | true =>
        rw [hv] at hnew
        simp only [if_true] at hnew
        obtain ⟨p, q, c, rfl, hmo, hp, hq, f⟩ := hnew
        simp only [hv, if_true] at HR
        have HPQ := hid (And.intro hp hq)
        have hs1 := G.out.lt
        replace F := hid (F.out.trans f (fun _ _ h => h))
        replace G := hid (G.out.fr f (fun x => x))
        have HMO := hid hmo
        clear f hmo hp hq
        have y0 := G.out.cell 0
        have y1 := G.out.cell 1
        have y2 := G.out.cell 2
        go_wp2_with fail
        refine (HR.out _).mono ?_
        rintro e w3 ⟨A, cx, rfl, hrm, hfr, f⟩
        have hp2 := HMO.out.hp.lt
        have hq2 := HMO.out.own.lt
        replace F := hid (F.out.trans f (fun _ _ h => h))
        replace G := hid (G.out.fr f (fun x => x))
        replace HMO := hid (HMO.out.frNo f)
        have HRM := hid hrm
        have HFR := hid hfr
        have hp3 := HMO.out.hp.lt
        have hq3 := HMO.out.own.lt
        have hs3 := G.out.lt
        clear f hrm hfr y0 y1 y2
        have HPL : Hid (Pl w (w3.alloc (.cells #[.int .i64 l.min, .int .i64 l.max, .bool l.has, .slice A (l.min.toNat * 256) cx] 28)) p w3.heap.size l q c A cx (List.replicate (l.min.toNat * 256) 0)) := by
          have fa := (Fr.refl No w3).alloc (.cells #[.int .i64 l.min, .int .i64 l.max, .bool l.has, .slice A (l.min.toNat * 256) cx] 28)
          have hpq := HPQ.out
          have hfz := fun (hne : List.replicate (l.min.toNat * 256) (0 : Int) ≠ []) r o (e : A = some ⟨r, o, none⟩) => (⟨HFR.out r o e, HRM.out.blk hne e⟩ : w2.heap.size ≤ r ∧ r < w3.heap.size)
          refine ⟨HMO.out.frNo fa, okm_new hv, by simpa using Blk.new w3 _ _, HRM.out.fr fa, (fun hne r o e => by have h1 := hfz hne r o e; constructor <;> omega), (fun hne r o e => by have h1 := hfz hne r o e; omega), by omega, by omega, by omega, by omega, by omega, F.out.trans fa (fun _ _ h => h), G.out.fr fa (fun x => x)⟩
        generalize List.replicate (l.min.toNat * 256) (0 : Int) = B at *
        clear HFR HRM HMO HPQ HB HN HR F G
        go_wp2_with fail
        generalize hlen : l.min.toNat * 256 = bl at *
        generalize w3.alloc (.cells #[.int .i64 l.min, .int .i64 l.max, .bool l.has, .slice A bl cx] 28) = W3 at *
        generalize w3.heap.size = g at *
        go_loopw [8] (fun i wr => ∃ (k q c : Nat) (A : Option Addr) (cx : Nat) (B : List Int), k ≤ n ∧ i = .int .i64 k ∧ Hid (Pl w wr p g l q c A cx B)) (fun i _ => n - (intOf i).toNat)
        case atStart => exact ⟨0, q, c, A, cx, B, by omega, rfl, HPL⟩
        case round =>
          obtain ⟨k, q, c, A, cx, B, hk, rfl, HP⟩ := hrel
          clear HPL
          by_cases hgo : k < n
          · have hlk : k < acts.length := by have := HNN.out; omega
            have HX := hid (Ac_at HA.out k hlk)
            have HS3 := HS _ (List.getElem_mem hlk)
            obtain ⟨b, o, Ab, cb, rfl, hb, c0, c1, c2, c3, c4, c5, c6, f0, f1, f2, f3, f4, f5, f6, f7, f8⟩ := HX.out
            have HOA : Hid (Oka acts[k]) := hid ⟨wf_u64 f2, wf_u64 f3, wf_u64 f4, wf_u64 f5, by omega⟩
            have hcall := hid (wf_i64 f0)
            have HSR := hid (fun X (f : Fr No w X) => els_src (c := cb) ((Ty.els.fr f8 f (fun k hk => ⟨hk, fun x => x⟩)).more (fun k (hk : k < w.heap.size) => Nat.lt_of_lt_of_le hk f.size)) f6)
            have HAS := hid (fun (X : World) (f : Fr No w X) (hne : acts[k].b ≠ []) r o (e : Ab = some ⟨r, o, none⟩) => (els_blk f8 hne e : r < w.heap.size))
            have HXW : Hid (∀ X, Fr (Two p q) wr X → X.cell? ⟨g, 0, none⟩ = some (.int .i64 l.min) ∧ X.cell? ⟨g, 1, none⟩ = some (.int .i64 l.max) ∧ X.cell? ⟨g, 2, none⟩ = some (.bool l.has) ∧ X.cell? ⟨g, 3, none⟩ = some (.slice A B.length cx) ∧ X.cell? ⟨b, o + k * 7, none⟩ = some (.int .i64 acts[k].call) ∧ X.cell? ⟨b, o + k * 7 + 1, none⟩ = some (.int .i64 acts[k].op) ∧ X.cell? ⟨b, o + k * 7 + 2, none⟩ = some (.int .u64 acts[k].to_) ∧ X.cell? ⟨b, o + k * 7 + 3, none⟩ = some (.int .u64 acts[k].at_) ∧ X.cell? ⟨b, o + k * 7 + 4, none⟩ = some (.int .u64 acts[k].n) ∧ X.cell? ⟨b, o + k * 7 + 5, none⟩ = some (.int .u64 acts[k].x) ∧ X.cell? ⟨b, o + k * 7 + 6, none⟩ = some (.slice Ab acts[k].b.length cb)) := fun X f => by
              have hP := HP.out
              have hgg := hP.gb.fr f (fun h => by rcases h with h | h; exact hP.gp h.symm; exact hP.gq h.symm)
              have f' : Fr No w X := hP.fr.trans f (fun i hi h => by have h1 := hP.p0; have h2 := hP.q0; unfold Two at h; omega)
              have hc := fun i => f'.cell (p := ⟨b, o + k * 7 + i, none⟩) hb (fun x => x)
              exact ⟨hgg.cell 0, hgg.cell 1, hgg.cell 2, hgg.cell 3, (hc 0).trans c0, (hc 1).trans c1, (hc 2).trans c2, (hc 3).trans c3, (hc 4).trans c4, (hc 5).trans c5, (hc 6).trans c6⟩
            clear c0 c1 c2 c3 c4 c5 c6 f0 f1 f2 f3 f4 f5 f6 f7 f8 HX
            generalize acts[k] = a at *
            have HPLAY := hid (fun X (f : Fr No wr X) => plays_any p q c l l A cx B a Ab cb X (HP.out.mo.frNo f) (HP.out.rm.fr f) HP.out.sep HP.out.ok rfl HOA.out (HSR.out X (HP.out.fr.trans f (fun _ _ h => h))) (fun hne r o e => by have h1 := HAS.out X (HP.out.fr.trans f (fun _ _ h => h)) hne r o e; have h2 := HP.out.p0; have h3 := HP.out.q0; constructor <;> omega) hcall.out)
            have HOK := hid (okm_play HP.out.ok a HOA.out)
            generalize playR l B a = B2 at *
            have i0 : (0 : Int) ≤ k := by omega
            have i1 : (k : Int) < n := by omega
            clear hgo hlk HSR HAS HOA hcall HS3
            go_wp2_with fail
            go_cut [9, 10] (fun t b wx => ∃ (h q c : Nat) (A : Option Addr) (cx : Nat) (A0 : Option Addr) (n0 cx0 : Nat), t = .pointer (some ⟨h, 0, none⟩) ∧ b = .bool true ∧ Hid (Pl2 w wx p g h l q c A cx B2 A0 n0 cx0))
            case first => as_aux_lemma =>
              refine wp_region_ort (Fr (Two p q) wr) (.rd 0 (.rd 1 (.rd 2 (.rd 3 (.rd 4 (.rd 5 (.alt 6 (.rd 7 (.rd 8 (.rd 9 (.eff 10 (.eff 11 (.rd 12 .nil)))))) 10 (.eff 6 (.rd 7 (.rd 8 (.rd 9 (.eff 11 (.rd 12 .nil)))))))))))))  (by kernel_rfl) (by kernel_rfl) (by kernel_rfl) rfl (Fr.refl _ wr).drew ?_
              repeat (first
                | (refine wpT_skip rfl rfl ?_; simp only [List.getElem_toArray, List.getElem_cons_succ, List.getElem_cons_zero, Act.put, List.setIfInBounds_toArray, List.set_cons_zero, List.set_cons_succ])
                | (refine wpT_call rfl rfl ?_; simp only [List.getElem_toArray, List.getElem_cons_succ, List.getElem_cons_zero]; apply Exists.intro; refine ⟨fun X hX => ?_, ?_⟩
                   · (obtain ⟨s0, s1, s2, s3, s4, s5, s6, s7, s8, s9, s10⟩ := HXW.out X hX; go_simp; exact stillUpon_value)
                   simp only [Act.put, List.setIfInBounds_toArray, List.set_cons_zero, List.set_cons_succ]))
              refine wpT_alt ?_ ?_
              · skip
                refine wpT_eff rfl rfl (fun K hK => ?_)
                simp only [List.getElem_toArray, List.getElem_cons_succ, List.getElem_cons_zero]
                go_simp
                refine (HPLAY.out _ (Fr.refl No wr).drew).mono ?_
                rintro e w2 ⟨q2, c2, A2, cx2, rfl, hm2, hr2, hs2, hq2, ho2, f2⟩
                have F2 := hid ((Fr.refl (Two p q) wr).drew.trans f2 (fun _ _ h => h))
                have H2 := hid (And.intro hm2 (And.intro hr2 (And.intro hs2 (And.intro hq2 ho2))))
                clear f2 hm2 hr2 hs2 hq2 ho2
                refine hK _ _ (F2.out) ?_
                clear hK K
                repeat (first
                  | (refine wpT_skip rfl rfl ?_; simp only [List.getElem_toArray, List.getElem_cons_succ, List.getElem_cons_zero, Act.put, List.setIfInBounds_toArray, List.set_cons_zero, List.set_cons_succ])
                  | (refine wpT_call rfl rfl ?_; simp only [List.getElem_toArray, List.getElem_cons_succ, List.getElem_cons_zero]; apply Exists.intro; refine ⟨fun X hX => ?_, ?_⟩
                     · (obtain ⟨s0, s1, s2, s3, s4, s5, s6, s7, s8, s9, s10⟩ := HXW.out X hX; go_simp; exact stillUpon_value)
                     simp only [Act.put, List.setIfInBounds_toArray, List.set_cons_zero, List.set_cons_succ]))
                refine wpT_eff rfl rfl (fun K hK => ?_)
                simp only [List.getElem_toArray, List.getElem_cons_succ, List.getElem_cons_zero]
                go_simp
                refine hK _ _ ((F2.out.alloc _)) ?_
                clear hK K
                have HB := hid (Blk.new w2 28 #[.int .i64 0, .int .i64 0, .bool false, .slice none 0 0])
                have FA := hid ((Fr.refl No w2).alloc (.cells #[.int .i64 0, .int .i64 0, .bool false, .slice none 0 0] 28))
                obtain ⟨h, hh⟩ : ∃ h, w2.heap.size = h := ⟨_, rfl⟩
                have HH := hid hh
                rw [hh] at HB ⊢
                clear hh
                generalize w2.alloc (.cells #[.int .i64 0, .int .i64 0, .bool false, .slice none 0 0] 28) = Y at *
                have z0 := HB.out.cell 0
                have z1 := HB.out.cell 1
                have z2 := HB.out.cell 2
                have z3 := HB.out.cell 3
                have zq0 := HB.out.frozen 0
                have zq1 := HB.out.frozen 1
                have zq2 := HB.out.frozen 2
                have zq3 := HB.out.frozen 3
                have hlt := HB.out.lt
                refine wpT_eff rfl rfl (fun K hK => ?_)
                simp only [List.getElem_toArray, List.getElem_cons_succ, List.getElem_cons_zero]
                go_simp
                have FS := hid (((((Fr.refl (One h) Y).setCell ⟨h, 0, none⟩ (.int .i64 l.min) (fun _ => rfl)).setCell ⟨h, 1, none⟩ (.int .i64 l.max) (fun _ => rfl)).setCell ⟨h, 2, none⟩ (.bool l.has) (fun _ => rfl)).setCell ⟨h, 3, none⟩ (.slice A2 B2.length cx2) (fun _ => rfl))
                have HBS : Hid (Blk _ h 28 _) := hid ((((HB.out.set_ 0 (.int .i64 l.min)).set_ 1 (.int .i64 l.max)).set_ 2 (.bool l.has)).set_ 3 (.slice A2 B2.length cx2))
                clear z0 z1 z2 z3 zq0 zq1 zq2 zq3
                refine hK _ _ (((F2.out.trans FA.out (fun _ _ h => h.elim)).trans FS.out (fun i hi h => by have := HH.out; have := F2.out.size; unfold One at h; omega))) ?_
                clear hK K
                repeat (first
                  | (refine wpT_skip rfl rfl ?_; simp only [List.getElem_toArray, List.getElem_cons_succ, List.getElem_cons_zero, Act.put, List.setIfInBounds_toArray, List.set_cons_zero, List.set_cons_succ])
                  | (refine wpT_call rfl rfl ?_; simp only [List.getElem_toArray, List.getElem_cons_succ, List.getElem_cons_zero]; apply Exists.intro; refine ⟨fun X hX => ?_, ?_⟩
                     · (obtain ⟨s0, s1, s2, s3, s4, s5, s6, s7, s8, s9, s10⟩ := HXW.out X hX; go_simp; exact stillUpon_value)
                     simp only [Act.put, List.setIfInBounds_toArray, List.set_cons_zero, List.set_cons_succ]))
                refine wpT_nil ?_
                go_wp2
                go_meet
                case rel => exact ⟨h, q2, c2, A2, cx2, A, B.length, cx, rfl, rfl, pl2_mk HP.out HOK.out H2.out.1 H2.out.2.1 H2.out.2.2.1 (H2.out.2.2.2.1) (H2.out.2.2.2.2) F2.out (FA.out.mono (M := One h) (fun _ _ h => h.elim) |>.trans FS.out (fun _ _ h => h)) HBS.out (by have := HH.out; have := F2.out.size; omega) (by have := HH.out; have := H2.out.1.hp.lt; omega) (by have := HH.out; have := H2.out.1.own.lt; omega) (fun hne r o e => by have := HH.out; have := H2.out.2.1.blk hne e; omega)⟩
              · skip
                refine wpT_eff rfl rfl (fun K hK => ?_)
                simp only [List.getElem_toArray, List.getElem_cons_succ, List.getElem_cons_zero]
                go_simp
                have HB := hid (Blk.new wr 28 #[.int .i64 0, .int .i64 0, .bool false, .slice none 0 0]).drew
                have FA := hid (((Fr.refl No wr).alloc (.cells #[.int .i64 0, .int .i64 0, .bool false, .slice none 0 0] 28)).drew)
                obtain ⟨h, hh⟩ : ∃ h, wr.heap.size = h := ⟨_, rfl⟩
                have HH := hid hh
                rw [hh] at HB ⊢
                clear hh
                generalize (wr.alloc (.cells #[.int .i64 0, .int .i64 0, .bool false, .slice none 0 0] 28)).drew = Y at *
                have hY := HB.out.lt
                have HPB : Hid (p < h ∧ q < h ∧ (B ≠ [] → ∀ r o, A = some ⟨r, o, none⟩ → r < h)) := hid (by have := HH.out; have h1 := HP.out.mo.hp.lt; have h2 := HP.out.mo.own.lt; exact ⟨by omega, by omega, fun hne r o e => by have := HP.out.rm.blk hne e; omega⟩)
                refine hK _ _ ((FA.out.mono (fun _ _ h => h.elim))) ?_
                clear hK K
                repeat (first
                  | (refine wpT_skip rfl rfl ?_; simp only [List.getElem_toArray, List.getElem_cons_succ, List.getElem_cons_zero, Act.put, List.setIfInBounds_toArray, List.set_cons_zero, List.set_cons_succ])
                  | (refine wpT_call rfl rfl ?_; simp only [List.getElem_toArray, List.getElem_cons_succ, List.getElem_cons_zero]; apply Exists.intro; refine ⟨fun X hX => ?_, ?_⟩
                     · (obtain ⟨s0, s1, s2, s3, s4, s5, s6, s7, s8, s9, s10⟩ := HXW.out X hX; go_simp; exact stillUpon_value)
                     simp only [Act.put, List.setIfInBounds_toArray, List.set_cons_zero, List.set_cons_succ]))
                refine wpT_eff rfl rfl (fun K hK => ?_)
                simp only [List.getElem_toArray, List.getElem_cons_succ, List.getElem_cons_zero]
                go_simp
                refine (HPLAY.out _ FA.out).mono ?_
                rintro e w2 ⟨q2, c2, A2, cx2, rfl, hm2, hr2, hs2, hq2, ho2, f2⟩
                replace HB := hid (HB.out.fr f2 (fun h => by have := HPB.out; unfold Two at h; omega))
                have F2 := hid ((FA.out.mono (M := Two p q) (fun _ _ h => h.elim)).trans f2 (fun _ _ h => h))
                have H2 := hid (And.intro hm2 (And.intro hr2 (And.intro hs2 (And.intro hq2 ho2))))
                clear f2 hm2 hr2 hs2 hq2 ho2
                refine hK _ _ (F2.out) ?_
                clear hK K
                repeat (first
                  | (refine wpT_skip rfl rfl ?_; simp only [List.getElem_toArray, List.getElem_cons_succ, List.getElem_cons_zero, Act.put, List.setIfInBounds_toArray, List.set_cons_zero, List.set_cons_succ])
                  | (refine wpT_call rfl rfl ?_; simp only [List.getElem_toArray, List.getElem_cons_succ, List.getElem_cons_zero]; apply Exists.intro; refine ⟨fun X hX => ?_, ?_⟩
                     · (obtain ⟨s0, s1, s2, s3, s4, s5, s6, s7, s8, s9, s10⟩ := HXW.out X hX; go_simp; exact stillUpon_value)
                     simp only [Act.put, List.setIfInBounds_toArray, List.set_cons_zero, List.set_cons_succ]))
                have z0 := HB.out.cell 0
                have z1 := HB.out.cell 1
                have z2 := HB.out.cell 2
                have z3 := HB.out.cell 3
                have zq0 := HB.out.frozen 0
                have zq1 := HB.out.frozen 1
                have zq2 := HB.out.frozen 2
                have zq3 := HB.out.frozen 3
                have hlt := HB.out.lt
                refine wpT_eff rfl rfl (fun K hK => ?_)
                simp only [List.getElem_toArray, List.getElem_cons_succ, List.getElem_cons_zero]
                go_simp
                have FS := hid (((((Fr.refl (One h) w2).setCell ⟨h, 0, none⟩ (.int .i64 l.min) (fun _ => rfl)).setCell ⟨h, 1, none⟩ (.int .i64 l.max) (fun _ => rfl)).setCell ⟨h, 2, none⟩ (.bool l.has) (fun _ => rfl)).setCell ⟨h, 3, none⟩ (.slice A2 B2.length cx2) (fun _ => rfl))
                have HBS : Hid (Blk _ h 28 _) := hid ((((HB.out.set_ 0 (.int .i64 l.min)).set_ 1 (.int .i64 l.max)).set_ 2 (.bool l.has)).set_ 3 (.slice A2 B2.length cx2))
                clear z0 z1 z2 z3 zq0 zq1 zq2 zq3
                refine hK _ _ ((F2.out.trans FS.out (fun i hi h => by have := HH.out; unfold One at h; omega))) ?_
                clear hK K
                repeat (first
                  | (refine wpT_skip rfl rfl ?_; simp only [List.getElem_toArray, List.getElem_cons_succ, List.getElem_cons_zero, Act.put, List.setIfInBounds_toArray, List.set_cons_zero, List.set_cons_succ])
                  | (refine wpT_call rfl rfl ?_; simp only [List.getElem_toArray, List.getElem_cons_succ, List.getElem_cons_zero]; apply Exists.intro; refine ⟨fun X hX => ?_, ?_⟩
                     · (obtain ⟨s0, s1, s2, s3, s4, s5, s6, s7, s8, s9, s10⟩ := HXW.out X hX; go_simp; exact stillUpon_value)
                     simp only [Act.put, List.setIfInBounds_toArray, List.set_cons_zero, List.set_cons_succ]))
                refine wpT_nil ?_
                go_wp2
                go_meet
                case rel =>
                  have hpb := HPB.out
                  have hh := HH.out
                  have h24 := H2.out.2.2.2.1
                  have h25 := H2.out.2.2.2.2
                  exact ⟨h, q2, c2, A2, cx2, A, B.length, cx, rfl, rfl, pl2_mk HP.out HOK.out H2.out.1 H2.out.2.1 H2.out.2.2.1 (by omega) (h25.imp id (fun k r o e => by have := k r o e; omega)) F2.out FS.out HBS.out (by omega) (by omega) (by omega) (fun hne r o e => by
                    rcases h25 with ⟨rfl, rfl⟩ | k
                    · have := hpb.2.2 hne r o e; omega
                    · have := k r o e; omega)⟩
            case rest =>
              obtain ⟨h, q2, c2, A2, cx2, A0, n0, cx0, rfl, rfl, HP2⟩ := hcut
              have u0 := HP2.out.hb.cell 0
              have u1 := HP2.out.hb.cell 1
              have u2 := HP2.out.hb.cell 2
              have u3 := HP2.out.hb.cell 3
              have z0 := HP2.out.gb.cell 0
              have z1 := HP2.out.gb.cell 1
              have z2 := HP2.out.gb.cell 2
              have z3 := HP2.out.gb.cell 3
              have zq0 := HP2.out.gb.frozen 0
              have zq1 := HP2.out.gb.frozen 1
              have zq2 := HP2.out.gb.frozen 2
              have zq3 := HP2.out.gb.frozen 3
              have hlt := HP2.out.gb.lt
              clear HXW HPLAY HP
              go_wp2_with fail
              have FS := hid (((((Fr.refl (One g) wc).setCell ⟨g, 0, none⟩ (.int .i64 l.min) (fun _ => rfl)).setCell ⟨g, 1, none⟩ (.int .i64 l.max) (fun _ => rfl)).setCell ⟨g, 2, none⟩ (.bool l.has) (fun _ => rfl)).setCell ⟨g, 3, none⟩ (.slice A2 B2.length cx2) (fun _ => rfl))
              have HGS : Hid (Blk _ g 28 _) := hid ((((HP2.out.gb.set_ 0 (.int .i64 l.min)).set_ 1 (.int .i64 l.max)).set_ 2 (.bool l.has)).set_ 3 (.slice A2 B2.length cx2))
              have HP := hid (HP2.out.store FS.out HGS.out)
              clear FS HGS HP2 u0 u1 u2 u3 z0 z1 z2 z3 zq0 zq1 zq2 zq3
              generalize (((wc.setCell ⟨g, 0, none⟩ (.int .i64 l.min)).setCell ⟨g, 1, none⟩ (.int .i64 l.max)).setCell ⟨g, 2, none⟩ (.bool l.has)).setCell ⟨g, 3, none⟩ (.slice A2 B2.length cx2) = wz at *
              have HXW : Hid (∀ X, Fr No wz X → X.cell? ⟨g, 0, none⟩ = some (.int .i64 l.min) ∧ X.cell? ⟨g, 1, none⟩ = some (.int .i64 l.max) ∧ X.cell? ⟨g, 2, none⟩ = some (.bool l.has) ∧ X.cell? ⟨g, 3, none⟩ = some (.slice A2 B2.length cx2)) := fun X f => by
                have hg := (HP.out.frNo f).gb
                exact ⟨hg.cell 0, hg.cell 1, hg.cell 2, hg.cell 3⟩
              have HPG := hid (fun X (f : Fr No wz X) => pages_any p (some ⟨q2, 0, none⟩) B2.length c2 X ((HP.out.frNo f).mo.hp.cell 3) (by have := HOK.out.len; omega))
              have HPR := hid (fun X => rpages_any l A2 B2.length cx2 X (by have := HOK.out.len; omega))
              unfold rmv at HPR
              have hpg : B2.length / 256 ≤ 256 := by have := HOK.out.len; omega
              generalize B2.length / 256 = pg at *
              refine wp_region_ort (Fr No wz) (.rd 0 (.rd 1 (.rd 2 (.rd 3 (.rd 5 (.eff 4 (.eff 6 (.rd 7 (.rd 8 .nil))))))))) (by kernel_rfl) (by kernel_rfl) (by kernel_rfl) rfl (Fr.refl _ wz).drew ?_
              repeat (first
                | (refine wpT_skip rfl rfl ?_; simp only [List.getElem_toArray, List.getElem_cons_succ, List.getElem_cons_zero, Act.put, List.setIfInBounds_toArray, List.set_cons_zero, List.set_cons_succ])
                | (refine wpT_call rfl rfl ?_; simp only [List.getElem_toArray, List.getElem_cons_succ, List.getElem_cons_zero]; apply Exists.intro; refine ⟨fun X hX => ?_, ?_⟩
                   · (obtain ⟨s0, s1, s2, s3⟩ := HXW.out X hX; go_simp; exact stillUpon_value)
                   simp only [Act.put, List.setIfInBounds_toArray, List.set_cons_zero, List.set_cons_succ]))
              refine wpT_eff rfl rfl (fun K hK => ?_)
              simp only [List.getElem_toArray, List.getElem_cons_succ, List.getElem_cons_zero]
              go_simp
              refine (HPG.out _ (Fr.refl No wz).drew).mono ?_
              rintro e w' ⟨rfl, rfl⟩
              refine hK _ _ ((Fr.refl No wz).drew) ?_
              clear hK K
              repeat (first
                | (refine wpT_skip rfl rfl ?_; simp only [List.getElem_toArray, List.getElem_cons_succ, List.getElem_cons_zero, Act.put, List.setIfInBounds_toArray, List.set_cons_zero, List.set_cons_succ])
                | (refine wpT_call rfl rfl ?_; simp only [List.getElem_toArray, List.getElem_cons_succ, List.getElem_cons_zero]; apply Exists.intro; refine ⟨fun X hX => ?_, ?_⟩
                   · (obtain ⟨s0, s1, s2, s3⟩ := HXW.out X hX; go_simp; exact stillUpon_value)
                   simp only [Act.put, List.setIfInBounds_toArray, List.set_cons_zero, List.set_cons_succ]))
              refine wpT_eff rfl rfl (fun K hK => ?_)
              simp only [List.getElem_toArray, List.getElem_cons_succ, List.getElem_cons_zero]
              go_simp
              refine (HPR.out _).mono ?_
              rintro e w5 ⟨rfl, f⟩
              have F5 := hid ((Fr.refl No wz).drew.trans f (fun _ _ h => h))
              clear f
              refine hK _ _ (F5.out) ?_
              clear hK K
              repeat (first
                | (refine wpT_skip rfl rfl ?_; simp only [List.getElem_toArray, List.getElem_cons_succ, List.getElem_cons_zero, Act.put, List.setIfInBounds_toArray, List.set_cons_zero, List.set_cons_succ])
                | (refine wpT_call rfl rfl ?_; simp only [List.getElem_toArray, List.getElem_cons_succ, List.getElem_cons_zero]; apply Exists.intro; refine ⟨fun X hX => ?_, ?_⟩
                   · (obtain ⟨s0, s1, s2, s3⟩ := HXW.out X hX; go_simp; exact stillUpon_value)
                   simp only [Act.put, List.setIfInBounds_toArray, List.set_cons_zero, List.set_cons_succ]))
              refine wpT_nil ?_
              replace HP := hid (HP.out.frNo F5.out)
              clear HXW HPG HPR F5
              go_wp2
              go_round
              case rel => exact ⟨k + 1, q2, c2, A2, cx2, B2, by omega, by go_num, HP⟩
              case measure => simp [intOf]; omega
          · have hkn : k = n := by omega
            subst hkn
            clear hgo
            go_wp2_with fail
            have HXW : Hid (∀ X, Fr No wr X → X.cell? ⟨g, 3, none⟩ = some (.slice A B.length cx) ∧ X.cell? ⟨w.heap.size, 0, none⟩ = some (.int .i64 l.min) ∧ X.cell? ⟨w.heap.size, 1, none⟩ = some (.int .i64 l.max) ∧ X.cell? ⟨w.heap.size, 2, none⟩ = some (.bool l.has) ∧ (convert 26 9 (.slice A B.length cx)).run Try.prog X = .ok (.string (strB B)) X ∧ (binOp .eql 23 (.agg #[.int .i64 l.min, .int .i64 l.max, .bool l.has]) (.agg #[.int .i64 l.min, .int .i64 l.max, .bool l.has])).run Try.prog X = .ok (.bool true) X) := fun X f => by
              have hp := HP.out.frNo f
              exact ⟨hp.gb.cell 3, hp.lb.cell 0, hp.lb.cell 1, hp.lb.cell 2, conv_B cx hp.rm.rd hp.rm.bts, eql_Lim l X⟩
            have HBY := hid (fun X (f : Fr No wr X) => bytes_any p c (some ⟨q, 0, none⟩) B X ((HP.out.frNo f).mo.hp.cell 3) (HP.out.frNo f).mo.hp.lt (own_els (HP.out.frNo f).mo) (by have := HP.out.ok.len; omega))
            have HLI := hid (fun X (f : Fr No wr X) => limits_any p l _ X (HP.out.frNo f).mo.hp)
            refine wp_region_ort (Fr No wr) (.rd 0 (.rd 3 (.rd 4 (.rd 5 (.eff 1 (.eff 2 (.rd 6 (.rd 7 (.rd 8 (.rd 10 (.eff 9 (.rd 11 (.rd 12 (.rd 13 (.eff 14 (.rd 15 (.rd 16 .nil))))))))))))))))) (by kernel_rfl) (by kernel_rfl) (by kernel_rfl) rfl (Fr.refl _ wr).drew ?_
            repeat (first
              | (refine wpT_skip rfl rfl ?_; simp only [List.getElem_toArray, List.getElem_cons_succ, List.getElem_cons_zero, Act.put, List.setIfInBounds_toArray, List.set_cons_zero, List.set_cons_succ])
              | (refine wpT_call rfl rfl ?_; simp only [List.getElem_toArray, List.getElem_cons_succ, List.getElem_cons_zero]; apply Exists.intro; refine ⟨fun X hX => ?_, ?_⟩
                 · (obtain ⟨s0, s1, s2, s3, s4, s5⟩ := HXW.out X hX; go_simp; exact stillUpon_value)
                 simp only [Act.put, List.setIfInBounds_toArray, List.set_cons_zero, List.set_cons_succ]))
            refine wpT_eff rfl rfl (fun K hK => ?_)
            simp only [List.getElem_toArray, List.getElem_cons_succ, List.getElem_cons_zero]
            go_simp
            refine (HBY.out _ (Fr.refl No wr).drew).mono ?_
            rintro e w4 ⟨A4, c4, rfl, hrow, f⟩
            have F4 := hid ((Fr.refl No wr).drew.trans f (fun _ _ h => h))
            have hrm4 := rmIn_of_row hrow
            have hcv := conv_B (w := w4) c4 hrm4.rd hrm4.bts
            clear hrow f hrm4
            refine hK _ _ (F4.out) ?_
            clear hK K
            refine wpT_eff rfl rfl (fun K hK => ?_)
            simp only [List.getElem_toArray, List.getElem_cons_succ, List.getElem_cons_zero]
            go_simp
            clear hcv
            refine hK _ _ (F4.out) ?_
            clear hK K
            repeat (first
              | (refine wpT_skip rfl rfl ?_; simp only [List.getElem_toArray, List.getElem_cons_succ, List.getElem_cons_zero, Act.put, List.setIfInBounds_toArray, List.set_cons_zero, List.set_cons_succ])
              | (refine wpT_call rfl rfl ?_; simp only [List.getElem_toArray, List.getElem_cons_succ, List.getElem_cons_zero]; apply Exists.intro; refine ⟨fun X hX => ?_, ?_⟩
                 · (obtain ⟨s0, s1, s2, s3, s4, s5⟩ := HXW.out X hX; go_simp; exact stillUpon_value)
                 simp only [Act.put, List.setIfInBounds_toArray, List.set_cons_zero, List.set_cons_succ]))
            refine wpT_eff rfl rfl (fun K hK => ?_)
            simp only [List.getElem_toArray, List.getElem_cons_succ, List.getElem_cons_zero]
            go_simp
            refine (HLI.out _ F4.out).mono ?_
            rintro e w5 ⟨rfl, f⟩
            have F5 := hid (F4.out.trans f (fun _ _ h => h))
            clear f
            refine hK _ _ (F5.out) ?_
            clear hK K
            repeat (first
              | (refine wpT_skip rfl rfl ?_; simp only [List.getElem_toArray, List.getElem_cons_succ, List.getElem_cons_zero, Act.put, List.setIfInBounds_toArray, List.set_cons_zero, List.set_cons_succ])
              | (refine wpT_call rfl rfl ?_; simp only [List.getElem_toArray, List.getElem_cons_succ, List.getElem_cons_zero]; apply Exists.intro; refine ⟨fun X hX => ?_, ?_⟩
                 · (obtain ⟨s0, s1, s2, s3, s4, s5⟩ := HXW.out X hX; go_simp; exact stillUpon_value)
                 simp only [Act.put, List.setIfInBounds_toArray, List.set_cons_zero, List.set_cons_succ]))
            refine wpT_eff rfl rfl (fun K hK => ?_)
            simp only [List.getElem_toArray, List.getElem_cons_succ, List.getElem_cons_zero]
            go_simp
            refine (alive_any _).mono ?_
            rintro e w6 ⟨rfl, f⟩
            have F6 := hid (F5.out.trans f (fun _ _ h => h))
            clear f
            refine hK _ _ (F6.out) ?_
            clear hK K
            repeat (first
              | (refine wpT_skip rfl rfl ?_; simp only [List.getElem_toArray, List.getElem_cons_succ, List.getElem_cons_zero, Act.put, List.setIfInBounds_toArray, List.set_cons_zero, List.set_cons_succ])
              | (refine wpT_call rfl rfl ?_; simp only [List.getElem_toArray, List.getElem_cons_succ, List.getElem_cons_zero]; apply Exists.intro; refine ⟨fun X hX => ?_, ?_⟩
                 · (obtain ⟨s0, s1, s2, s3, s4, s5⟩ := HXW.out X hX; go_simp; exact stillUpon_value)
                 simp only [Act.put, List.setIfInBounds_toArray, List.set_cons_zero, List.set_cons_succ]))
            refine wpT_nil ?_
            have FZ := hid (HP.out.fr.trans F6.out (fun _ _ h => h))
            clear HXW HBY HLI HP
            go_wp2
            go_ret
            exact ⟨rfl, FZ.out⟩
theorem memoryPlays_walk (w : World) (v0 v1 : Value) (x0 : Lim) (x1 : List Ac) (y0 : tLim.rd w (· < w.heap.size) v0.cells.toList x0) (y1 : (tAc.slice).rd w (· < w.heap.size) v1.cells.toList x1) (_u0 : tLim.lw 140737488351232 x0) (u1 : (tAc.slice).lw 140737488351232 x1) (hv0 : ∃ cs, v0 = .agg cs) (hv1 : ∃ A l c, v1 = .slice A l c) :
    Calls Try.prog 6 #[v0, v1] w fun e w' => e = .returned (.bool true) ∧ Below w.heap.size w w' := by
  obtain ⟨cs, rfl⟩ := hv0
  obtain ⟨A, n, c, rfl⟩ := hv1
  obtain ⟨hc, hm, _⟩ := Lim_cells y0
  have hcb : cs = #[.int .i64 x0.min, .int .i64 x0.max, .bool x0.has] := by
    have : cs.toList = _ := hc
    rw [← Array.toArray_toList (xs := cs), this]
  subst hcb
  obtain ⟨A', c', he, h1, h2, h3⟩ := y1
  have he' : [Value.slice A n c] = [Value.slice A' x1.length c'] := he
  injection he' with he' _
  injection he' with e1 e2 e3
  subst e1 e2 e3
  exact (plays_t x0 x1 A c w (wf_i64 hm) h3 (fun a ha => (u1.2.2 a ha).2.2.2.2.2.2.1) u1.1).mono fun e w' ⟨a, b⟩ => ⟨a, b.below⟩
end Go.Proofs.Ytpmnijjfadhocaa
