/- The walk of HostPlain. -/
import Derived.Test.YtklkgfmcdoifpaaHosT
import Derived.Test.YtklkgfmcdoifpaaElr
namespace Go.Proofs.Ytklkgfmcdoifpaa
open Go.RowKit

def restB (h : Ho) : Bool := fnB h.ty && (nameB h.mod && nameB h.name)
def allK (h : Ho) (k : Nat) : Bool := decide (k = 0) || (restB h && allUp (actAt h) k)
theorem allUp_all {h : Ho} : allUp (actAt h) h.acts.length = h.acts.all (fun a => actB a h.ty.results) := by
  rw [Bool.eq_iff_iff, allUp_iff, List.all_eq_true]
  constructor
  · intro k a ha
    obtain ⟨i, hi, rfl⟩ := List.getElem_of_mem ha
    simpa [actAt, hi] using k i hi
  · intro k i hi
    simpa [actAt, hi] using k _ (List.getElem_mem hi)
theorem hoB_eq (h : Ho) : hoB h = (restB h && (decide (h.acts.length ≠ 0) && h.acts.all (fun a => actB a h.ty.results))) := by
  rw [hoB, allUp_all, restB]
  simp only [Bool.and_assoc]
theorem allK_end {h : Ho} (h0 : h.acts.length ≠ 0) : allK h h.acts.length = hoB h := by
  rw [hoB_eq, allK, allUp_all]
  have : h.acts ≠ [] := by intro e; simp [e] at h0
  simp [this]
theorem allK_step {h : Ho} {k : Nat} (hk : k < h.acts.length) : allK h (k + 1) = (allK h k && hoB ⟨h.mod, h.name, h.ty, [h.acts[k]]⟩) := by
  rw [hoB_eq]
  simp only [allK, restB, List.length_cons, List.length_nil, List.all_cons, List.all_nil, Bool.and_true]
  have e : actAt h k = actB h.acts[k] h.ty.results := by simp [actAt, hk]
  cases hr : (fnB h.ty && (nameB h.mod && nameB h.name)) with
  | false => simp
  | true =>
    cases ha : allUp (actAt h) k with
    | false =>
      have : allUp (actAt h) (k + 1) = false := by
        rw [← Bool.not_eq_true, allUp_iff]
        intro q
        rw [← Bool.not_eq_true, allUp_iff] at ha
        exact ha fun i hi => q i (by omega)
      have hk0 : k ≠ 0 := by rintro rfl; cases ha
      simp [this, hk0]
    | true =>
      cases hb : actB h.acts[k] h.ty.results with
      | false => simp [allUp_stop (Nat.lt_succ_self k) (e.trans hb)]
      | true => simp [allUp_step ha (e.trans hb)]
theorem hoB_rev (h : Ho) : hoB ⟨h.mod, h.name, h.ty, h.acts.reverse⟩ = hoB h := by
  rw [hoB_eq, hoB_eq]
  simp [restB]
theorem hoB_none (h : Ho) : hoB ⟨h.mod, h.name, h.ty, []⟩ = false := by
  rw [hoB_eq]
  simp
theorem HoOk.acts_ {w : World} {B : Nat} {h : Ho} {A1 A2 A3 A : Option Addr} {l : List Ac} (ok : HoOk w B h A1 A2 A3) (ha : tAc.els w B A l) (hl : l.length ≤ 50) (hv : ∀ a ∈ l, a.vals.length ≤ 500) : HoOk w B ⟨h.mod, h.name, h.ty, l⟩ A1 A2 A :=
  ⟨ok.p, ok.r, ha, ok.lp, ok.lr, hl, ok.lm, ok.ln, hv⟩
theorem rev_step {l : List Ac} {k : Nat} (hk : k < l.length) : [l[k]] ++ (l.take k).reverse = (l.take (k + 1)).reverse := by
  rw [List.take_succ_eq_append_getElem hk, List.reverse_append]; rfl

theorem wf_of64 {n : Int} (h : -9223372036854775808 ≤ n ∧ n ≤ 9223372036854775807) : (Lit.int .i64 n).wf = true := by
  simpa [Lit.wf, IntKind.min, IntKind.max, IntKind.signed, IntKind.bits] using h
theorem wf_of8 {n : Int} (h : 0 ≤ n ∧ n ≤ 255) : (Lit.int .u8 n).wf = true := by
  simpa [Lit.wf, IntKind.min, IntKind.max, IntKind.signed, IntKind.bits] using h
set_option maxHeartbeats 3200000 in
set_option maxRecDepth 100000 in
theorem plain_t (h : Ho) (A1 A2 A3 : Option Addr) (c1 c2 c3 n : Nat) (w : World) (hi : Hid (HoIn w h A1 A2 A3 c1 c2 c3)) (hn : Hid (h.acts.length = n)) :
    Calls Try.prog 7 #[.agg #[.string h.mod, .string h.name, .slice A1 h.ty.params.length c1, .slice A2 h.ty.results.length c2, .slice A3 n c3]] w fun e w' => e = .returned (.bool true) ∧ Fr No w w' := by
  have F0 := hid ((Fr.refl No w).alloc (.cells #[.string h.mod, .string h.name, .slice A1 h.ty.params.length c1, .slice A2 h.ty.results.length c2, .slice A3 n c3] 27))
  have lW : w.heap.size < (w.alloc (.cells #[.string h.mod, .string h.name, .slice A1 h.ty.params.length c1, .slice A2 h.ty.results.length c2, .slice A3 n c3] 27)).heap.size := by simp
  have HX : Hid (∀ X, Fr No (w.alloc (.cells #[.string h.mod, .string h.name, .slice A1 h.ty.params.length c1, .slice A2 h.ty.results.length c2, .slice A3 n c3] 27)) X → X.cell? ⟨w.heap.size, 0, none⟩ = some (.string h.mod) ∧ X.cell? ⟨w.heap.size, 1, none⟩ = some (.string h.name) ∧ X.cell? ⟨w.heap.size, 2, none⟩ = some (.slice A1 h.ty.params.length c1) ∧ X.cell? ⟨w.heap.size, 3, none⟩ = some (.slice A2 h.ty.results.length c2) ∧ X.cell? ⟨w.heap.size, 4, none⟩ = some (.slice A3 n c3)) := fun X f => five_box f
  have HFW := hid (few_any h A1 A2 A3 c1 c2 c3 w.heap.size _ F0.out.size (hi.out.a.fr (Nat.le_refl _) F0.out (fun _ _ x => x)) hi.out.la hi.out.lv hi.out.lp hi.out.lr hi.out.lm hi.out.ln)
  rw [hn.out] at HFW
  go_enter Try.func7, Try.ntmps7
  go_wp2_with fail
  generalize w.alloc (.cells #[.string h.mod, .string h.name, .slice A1 h.ty.params.length c1, .slice A2 h.ty.results.length c2, .slice A3 n c3] 27) = W at *
  refine HFW.out.mono ?_
  clear HFW
  rintro e w1 ⟨r, rfl, hf, f1⟩
  have F1 := hid f1
  have HF := hid hf
  have s1 : w.heap.size < w1.heap.size := Nat.lt_of_lt_of_le lW f1.size
  clear f1 hf
  obtain ⟨x0, x1, x2, x3, x4⟩ := HX.out _ F1.out
  cases r
  · go_wp2_with fail
    refine (alive_any _).mono ?_
    rintro e w2 ⟨rfl, f2⟩
    go_wp2_with fail
    go_ret
    exact ⟨rfl, F0.out.trans (F1.out.trans f2 (fun _ _ h => h)) (fun _ _ h => h)⟩
  by_cases h0 : n = 0
  · subst h0
    go_wp2_with fail
    refine (alive_any _).mono ?_
    rintro e w2 ⟨rfl, f2⟩
    go_wp2_with fail
    go_ret
    exact ⟨rfl, F0.out.trans (F1.out.trans f2 (fun _ _ h => h)) (fun _ _ h => h)⟩
  have ok := hid (hi.out.ok (HF.out rfl))
  have hl5 : n ≤ 50 := by rw [← hn.out]; exact ok.out.la
  clear HF
  have e0 : (((n : Nat) : Int) == 0) = false := by simpa using h0
  go_wp2_with fail
  go_loopw [3, 4, 5] (fun av bv iv wr => ∃ k : Nat, iv = .int .i64 k ∧ k ≤ n ∧ av = .bool (allK h k) ∧ Hid (Fr No W wr) ∧ Hid (tAc.row wr W.heap.size w.heap.size 32 bv (h.acts.take k).reverse)) (fun _ _ iv _ => n - (intOf iv).toNat)
  case atStart => exact ⟨0, rfl, by omega, rfl, F1.out, Ty.row.nil _ _ _ _⟩
  case round =>
    obtain ⟨k, rfl, hk, rfl, HFr, HRow⟩ := hrel
    clear x0 x1 x2 x3 x4
    obtain ⟨x0, x1, x2, x3, x4⟩ := HX.out _ HFr.out
    have sr : W.heap.size ≤ wr.heap.size := HFr.out.size
    by_cases hlt : k < n
    · have hlt' : k < h.acts.length := by rw [hn.out]; exact hlt
      obtain ⟨b, o, LA, c, rfl, hb, y0, y1, y2, y3, y4, hc, hcm, hv, j0, j1, j2, j3, j4⟩ := ac_at ok.out.a k hlt'
      have i0 : (0 : Int) ≤ k := by omega
      have i1 : (k : Int) < n := by omega
      have HST := hid (allK_step hlt')
      have HRV := hid (rev_step hlt')
      have HL := hid (ok.out.lv _ (List.getElem_mem hlt'))
      have HM : Hid (∀ X, Fr No w X → tAc.rd X w.heap.size [.int .i64 h.acts[k].kind, .slice LA h.acts[k].vals.length c, .int .i64 h.acts[k].mem, .int .i64 h.acts[k].at_, .int .u8 h.acts[k].byte] h.acts[k]) := fun X f =>
        ac_mk (wf_of64 j0) (wf_of64 j1) (wf_of64 j2) (wf_of8 ⟨j3, j4⟩) hc hcm (hv.fr (Nat.le_refl _) f (fun _ _ x => x))
      have HY : Hid (∀ X, Fr No w X → X.cell? ⟨b, o + k * 5, none⟩ = some (.int .i64 h.acts[k].kind) ∧ X.cell? ⟨b, o + k * 5 + 1, none⟩ = some (.slice LA h.acts[k].vals.length c) ∧ X.cell? ⟨b, o + k * 5 + 2, none⟩ = some (.int .i64 h.acts[k].mem) ∧
          X.cell? ⟨b, o + k * 5 + 3, none⟩ = some (.int .i64 h.acts[k].at_) ∧ X.cell? ⟨b, o + k * 5 + 4, none⟩ = some (.int .u8 h.acts[k].byte)) := fun X f =>
        ⟨(f.cell (p := ⟨b, _, none⟩) hb (fun x => x)).trans y0, (f.cell (p := ⟨b, _, none⟩) hb (fun x => x)).trans y1, (f.cell (p := ⟨b, _, none⟩) hb (fun x => x)).trans y2, (f.cell (p := ⟨b, _, none⟩) hb (fun x => x)).trans y3, (f.cell (p := ⟨b, _, none⟩) hb (fun x => x)).trans y4⟩
      clear hc hcm hv j0 j1 j2 j3 j4 y0 y1 y2 y3 y4
      generalize h.acts[k] = x at *
      have hlr : (h.acts.take k).reverse.length = k := by simp; omega
      obtain ⟨Ab, cb, rfl, _, _, _, _⟩ := HRow.out.els (show w.heap.size ≤ wr.heap.size by omega)
      rw [hlr] at HRow
      rw [hlr]
      have HLR := hid hlr
      clear hlr
      have q0 : w.heap.size < wr.heap.size := by omega
      have q1 : b < wr.heap.size := by omega
      obtain ⟨y0, y1, y2, y3, y4⟩ := HY.out wr (F0.out.trans HFr.out (fun _ _ h => h))
      have F2 := hid ((HFr.out.alloc (.cells #[.string h.mod, .string h.name, .slice A1 h.ty.params.length c1, .slice A2 h.ty.results.length c2, .slice (some ⟨wr.heap.size + 1, 0, none⟩) 1 1] 27)).alloc (.cells #[.int .i64 x.kind, .slice LA x.vals.length c, .int .i64 x.mem, .int .i64 x.at_, .int .u8 x.byte] 32))
      have GR := hid (Blk.new1 wr (.cells #[.string h.mod, .string h.name, .slice A1 h.ty.params.length c1, .slice A2 h.ty.results.length c2, .slice (some ⟨wr.heap.size + 1, 0, none⟩) 1 1] 27) 32 #[.int .i64 x.kind, .slice LA x.vals.length c, .int .i64 x.mem, .int .i64 x.at_, .int .u8 x.byte])
      have FR := hid (((Fr.refl No wr).alloc (.cells #[.string h.mod, .string h.name, .slice A1 h.ty.params.length c1, .slice A2 h.ty.results.length c2, .slice (some ⟨wr.heap.size + 1, 0, none⟩) 1 1] 27)).alloc (.cells #[.int .i64 x.kind, .slice LA x.vals.length c, .int .i64 x.mem, .int .i64 x.at_, .int .u8 x.byte] 32))
      cases hak : allK h k
      · have HAK := hid hak
        clear hak
        have t0 : w.heap.size < ((wr.alloc (.cells #[.string h.mod, .string h.name, .slice A1 h.ty.params.length c1, .slice A2 h.ty.results.length c2, .slice (some ⟨wr.heap.size + 1, 0, none⟩) 1 1] 27)).alloc (.cells #[.int .i64 x.kind, .slice LA x.vals.length c, .int .i64 x.mem, .int .i64 x.at_, .int .u8 x.byte] 32)).heap.size := by simp; omega
        have RL : Hid (tAc.row (((wr.alloc (.cells #[.string h.mod, .string h.name, .slice A1 h.ty.params.length c1, .slice A2 h.ty.results.length c2, .slice (some ⟨wr.heap.size + 1, 0, none⟩) 1 1] 27)).alloc (.cells #[.int .i64 x.kind, .slice LA x.vals.length c, .int .i64 x.mem, .int .i64 x.at_, .int .u8 x.byte] 32)).alloc (.cells #[.int .i64 x.kind, .slice LA x.vals.length c, .int .i64 x.mem, .int .i64 x.at_, .int .u8 x.byte] 32)) W.heap.size w.heap.size 32 (.slice (some ⟨wr.heap.size + 1 + 1, 0, none⟩) 1 1) [x]) := by
          have hb0 := Blk.new ((wr.alloc (.cells #[.string h.mod, .string h.name, .slice A1 h.ty.params.length c1, .slice A2 h.ty.results.length c2, .slice (some ⟨wr.heap.size + 1, 0, none⟩) 1 1] 27)).alloc (.cells #[.int .i64 x.kind, .slice LA x.vals.length c, .int .i64 x.mem, .int .i64 x.at_, .int .u8 x.byte] 32)) 32 #[.int .i64 x.kind, .slice LA x.vals.length c, .int .i64 x.mem, .int .i64 x.at_, .int .u8 x.byte]
          rw [show ((wr.alloc (.cells #[.string h.mod, .string h.name, .slice A1 h.ty.params.length c1, .slice A2 h.ty.results.length c2, .slice (some ⟨wr.heap.size + 1, 0, none⟩) 1 1] 27)).alloc (.cells #[.int .i64 x.kind, .slice LA x.vals.length c, .int .i64 x.mem, .int .i64 x.at_, .int .u8 x.byte] 32)).heap.size = wr.heap.size + 1 + 1 by simp] at hb0
          exact Ty.row.lit (css := [[.int .i64 x.kind, .slice LA x.vals.length c, .int .i64 x.mem, .int .i64 x.at_, .int .u8 x.byte]]) hb0 (by omega) (Css.one (HM.out _ ((F0.out.trans F2.out (fun _ _ h => h)).alloc _))) (by simp [maxLen])
        have RS := hid (HRow.out.fr (by omega) (FR.out.alloc (.cells #[.int .i64 x.kind, .slice LA x.vals.length c, .int .i64 x.mem, .int .i64 x.at_, .int .u8 x.byte] 32)) (fun _ _ x => x) (fun _ _ x => x))
        have HSZ : Hid (W.heap.size ≤ (((wr.alloc (.cells #[.string h.mod, .string h.name, .slice A1 h.ty.params.length c1, .slice A2 h.ty.results.length c2, .slice (some ⟨wr.heap.size + 1, 0, none⟩) 1 1] 27)).alloc (.cells #[.int .i64 x.kind, .slice LA x.vals.length c, .int .i64 x.mem, .int .i64 x.at_, .int .u8 x.byte] 32)).alloc (.cells #[.int .i64 x.kind, .slice LA x.vals.length c, .int .i64 x.mem, .int .i64 x.at_, .int .u8 x.byte] 32)).heap.size) := by have := F2.out.size; rw [Hid, World.size_alloc]; omega
        go_wp2_with (at_builtin; refine wpList_appR (t := tAc) (base := W.heap.size) (base2 := W.heap.size) (B := w.heap.size) (xs := [x]) (ys := (h.acts.take k).reverse) elAc rfl rfl rfl rfl RL.out RS.out HLR.out (by simp; omega) (by simp; omega) (by omega) HSZ.out ?_)
        intro v' w3 hr fr _
        have FZ := hid ((F2.out.alloc (.cells #[.int .i64 x.kind, .slice LA x.vals.length c, .int .i64 x.mem, .int .i64 x.at_, .int .u8 x.byte] 32)).trans fr (fun i hi h => by simp only [Value.ownBlock, Option.some.injEq] at h; have := F2.out.size; omega))
        have HR := hid hr
        clear hr fr
        go_wp2
        go_roundw
        case rel => exact ⟨k + 1, by go_num, by omega, by rw [HST.out, HAK.out]; rfl, FZ.out, by rw [← HRV.out]; exact HR.out⟩
        case measure => simp [intOf]; omega
      have HAK := hid hak
      clear hak
      go_wp2_with fail
      generalize (wr.alloc (.cells #[.string h.mod, .string h.name, .slice A1 h.ty.params.length c1, .slice A2 h.ty.results.length c2, .slice (some ⟨wr.heap.size + 1, 0, none⟩) 1 1] 27)).alloc (.cells #[.int .i64 x.kind, .slice LA x.vals.length c, .int .i64 x.mem, .int .i64 x.at_, .int .u8 x.byte] 32) = W2 at *
      have hgr : wr.heap.size + 1 < W2.heap.size := GR.out.lt
      have hoa := hright_any ⟨h.mod, h.name, h.ty, [x]⟩ A1 A2 (some ⟨wr.heap.size + 1, 0, none⟩) c1 c2 1 W2.heap.size W2 (Nat.le_refl _) (((ok.out.fr (Nat.le_refl _) (F0.out.trans F2.out (fun _ _ h => h))).more (by omega)).acts_
        (blk_els (css := [[.int .i64 x.kind, .slice LA x.vals.length c, .int .i64 x.mem, .int .i64 x.at_, .int .u8 x.byte]]) GR.out hgr (Css.one (TyMore.more _ _ _ _ _ (HM.out _ (F0.out.trans F2.out (fun _ _ h => h))) (by omega)))) (by simp) (by intro a ha; simp only [List.mem_singleton] at ha; subst ha; exact HL.out))
      refine hoa.mono ?_
      clear hoa
      rintro e w2 ⟨rfl, f2⟩
      generalize hoB ⟨h.mod, h.name, h.ty, [x]⟩ = hbx at *
      have F3 := hid (F2.out.trans f2 (fun _ _ h => h))
      have FR2 := hid (FR.out.trans f2 (fun _ _ h => h))
      have t0 : w.heap.size < w2.heap.size := by have := f2.size; omega
      have t1 : b < w2.heap.size := by have := f2.size; omega
      have t2 : W.heap.size ≤ w2.heap.size := F3.out.size
      clear y0 y1 y2 y3 y4 f2 GR
      clear x0 x1 x2 x3 x4
      obtain ⟨x0, x1, x2, x3, x4⟩ := HX.out _ F3.out
      obtain ⟨y0, y1, y2, y3, y4⟩ := HY.out w2 (F0.out.trans F3.out (fun _ _ h => h))
      have RL : Hid (tAc.row (w2.alloc (.cells #[.int .i64 x.kind, .slice LA x.vals.length c, .int .i64 x.mem, .int .i64 x.at_, .int .u8 x.byte] 32)) W.heap.size w.heap.size 32 (.slice (some ⟨w2.heap.size, 0, none⟩) 1 1) [x]) := by
        have hb0 := Blk.new w2 32 #[.int .i64 x.kind, .slice LA x.vals.length c, .int .i64 x.mem, .int .i64 x.at_, .int .u8 x.byte]
        skip
        exact Ty.row.lit (css := [[.int .i64 x.kind, .slice LA x.vals.length c, .int .i64 x.mem, .int .i64 x.at_, .int .u8 x.byte]]) hb0 (by omega) (Css.one (HM.out _ ((F0.out.trans F3.out (fun _ _ h => h)).alloc _))) (by simp [maxLen])
      have RS := hid (HRow.out.fr (by omega) (FR2.out.alloc (.cells #[.int .i64 x.kind, .slice LA x.vals.length c, .int .i64 x.mem, .int .i64 x.at_, .int .u8 x.byte] 32)) (fun _ _ x => x) (fun _ _ x => x))
      have HSZ : Hid (W.heap.size ≤ (w2.alloc (.cells #[.int .i64 x.kind, .slice LA x.vals.length c, .int .i64 x.mem, .int .i64 x.at_, .int .u8 x.byte] 32)).heap.size) := by have := F3.out.size; rw [Hid, World.size_alloc]; omega
      go_wp2_with (at_builtin; refine wpList_appR (t := tAc) (base := W.heap.size) (base2 := W.heap.size) (B := w.heap.size) (xs := [x]) (ys := (h.acts.take k).reverse) elAc rfl rfl rfl rfl RL.out RS.out HLR.out (by simp; omega) (by simp; omega) (by omega) HSZ.out ?_)
      intro v' w3 hr fr _
      have FZ := hid ((F3.out.alloc (.cells #[.int .i64 x.kind, .slice LA x.vals.length c, .int .i64 x.mem, .int .i64 x.at_, .int .u8 x.byte] 32)).trans fr (fun i hi h => by simp only [Value.ownBlock, Option.some.injEq] at h; have := F3.out.size; omega))
      have HR := hid hr
      clear hr fr
      go_wp2
      go_roundw
      case rel => exact ⟨k + 1, by go_num, by omega, by rw [HST.out, HAK.out]; simp, FZ.out, by rw [← HRV.out]; exact HR.out⟩
      case measure => simp [intOf]; omega
    · obtain rfl : k = n := by omega
      have hak : allK h k = hoB h := by rw [← hn.out]; exact allK_end (by rw [hn.out]; exact h0)
      rw [hak]
      have htk : (h.acts.take k).reverse = h.acts.reverse := by rw [List.take_of_length_le (by rw [hn.out]; exact Nat.le_refl _)]
      rw [htk] at HRow
      obtain ⟨Ab, cb, rfl, _, _, hel, _⟩ := HRow.out.els (show w.heap.size ≤ wr.heap.size by omega)
      have hlr : h.acts.reverse.length = k := by rw [List.length_reverse, hn.out]
      rw [hlr]
      have HLR := hid hlr
      have HEL := hid hel
      clear hlr hel htk hak
      have q0 : w.heap.size < wr.heap.size := by omega
      have F2 := hid ((HFr.out.alloc (.cells #[.string h.mod, .string h.name, .slice A1 h.ty.params.length c1, .slice A2 h.ty.results.length c2, .slice Ab k cb] 27)).alloc (.cells #[.string h.mod, .string h.name, .slice A1 h.ty.params.length c1, .slice A2 h.ty.results.length c2, .slice none 0 0] 27))
      have FR := hid (((Fr.refl No wr).alloc (.cells #[.string h.mod, .string h.name, .slice A1 h.ty.params.length c1, .slice A2 h.ty.results.length c2, .slice Ab k cb] 27)).alloc (.cells #[.string h.mod, .string h.name, .slice A1 h.ty.params.length c1, .slice A2 h.ty.results.length c2, .slice none 0 0] 27))
      have G7 := hid ((Blk.new wr 27 #[.string h.mod, .string h.name, .slice A1 h.ty.params.length c1, .slice A2 h.ty.results.length c2, .slice Ab k cb]).alloc (.cells #[.string h.mod, .string h.name, .slice A1 h.ty.params.length c1, .slice A2 h.ty.results.length c2, .slice none 0 0] 27))
      have G8 := hid (Blk.new1 wr (.cells #[.string h.mod, .string h.name, .slice A1 h.ty.params.length c1, .slice A2 h.ty.results.length c2, .slice Ab k cb] 27) 27 #[.string h.mod, .string h.name, .slice A1 h.ty.params.length c1, .slice A2 h.ty.results.length c2, .slice none 0 0])
      have HR1 := hid (fun V hB ok => hright_any h A1 A2 A3 c1 c2 c3 w.heap.size V hB ok)
      have HR2 := hid (fun V B hB ok => hright_any ⟨h.mod, h.name, h.ty, h.acts.reverse⟩ A1 A2 Ab c1 c2 cb B V hB ok)
      simp only [HLR.out, hn.out, hoB_rev] at HR1 HR2
      go_wp2_with fail
      clear x0 x1 x2 x3 x4
      generalize (wr.alloc (.cells #[.string h.mod, .string h.name, .slice A1 h.ty.params.length c1, .slice A2 h.ty.results.length c2, .slice Ab k cb] 27)).alloc (.cells #[.string h.mod, .string h.name, .slice A1 h.ty.params.length c1, .slice A2 h.ty.results.length c2, .slice none 0 0] 27) = V2 at *
      have t0 : wr.heap.size + 1 < V2.heap.size := G8.out.lt
      refine (HR1.out V2 (by omega) (ok.out.fr (Nat.le_refl _) (F0.out.trans F2.out (fun _ _ h => h)))).mono ?_
      rintro e w2 ⟨rfl, f2⟩
      have F3 := hid (F2.out.trans f2 (fun _ _ h => h))
      have HEL2 := hid ((HEL.out.fr (Nat.le_refl _) (FR.out.trans f2 (fun _ _ h => h)) (fun _ _ x => x)).more (show wr.heap.size ≤ w2.heap.size by have := f2.size; omega))
      obtain ⟨z0, z1, z2, z3, z4⟩ := blk_act (G7.out.fr f2 (fun x => x))
      have G9 := hid (G8.out.fr f2 (fun x => x))
      clear f2 G8 G7
      have HG : Hid (hoB h = hoB h) := rfl
      generalize hoB h = hb at *
      go_wp2_with fail
      refine (HR2.out w2 w2.heap.size (Nat.le_refl _) (((ok.out.fr (Nat.le_refl _) (F0.out.trans F3.out (fun _ _ h => h))).more (by have := F3.out.size; omega)).acts_ HEL2.out (by rw [HLR.out]; exact hl5) (by intro a ha; exact ok.out.lv a (by simpa using ha)))).mono ?_
      rintro e w3 ⟨rfl, f3⟩
      have F4 := hid (F3.out.trans f3 (fun _ _ h => h))
      clear z0 z1 z2 z3 z4
      obtain ⟨z0, z1, z2, z3, z4⟩ := blk_act (G9.out.fr f3 (fun x => x))
      clear f3 G9
      go_wp2_with fail
      have HN := hright_any ⟨h.mod, h.name, h.ty, []⟩ A1 A2 none c1 c2 0 w3.heap.size w3 (Nat.le_refl _) (((ok.out.fr (Nat.le_refl _) (F0.out.trans F4.out (fun _ _ h => h))).more (by have := F4.out.size; omega)).acts_ (.inl rfl) (by simp) (by simp))
      rw [hoB_none] at HN
      refine HN.mono ?_
      rintro e w4 ⟨rfl, f4⟩
      have F5 := hid (F4.out.trans f4 (fun _ _ h => h))
      clear f4 HN z0 z1 z2 z3 z4
      go_wp2_with fail
      refine (alive_any _).mono ?_
      rintro e w5 ⟨rfl, f5⟩
      go_wp2_with fail
      go_ret
      exact ⟨rfl, F0.out.trans (F5.out.trans f5 (fun _ _ h => h)) (fun _ _ h => h)⟩
theorem hostPlain_walk (w : World) (v0 : Value) (x0 : Ho) (y0 : tHo.rd w w.heap.size v0.cells.toList x0) (u0 : tHo.le 140737488351232 x0) (hv0 : ∃ cs, v0 = .agg cs) :
    Calls Try.prog 7 #[v0] w fun e w' => e = .returned (.bool true) ∧ Below w.heap.size w w' := by
  obtain ⟨cs, rfl⟩ := hv0
  obtain ⟨A1, A2, A3, c1, c2, c3, hcs, hi⟩ := ho_in y0 u0
  have hcs' : cs = #[.string x0.mod, .string x0.name, .slice A1 x0.ty.params.length c1, .slice A2 x0.ty.results.length c2, .slice A3 x0.acts.length c3] := by
    have : cs.toList = _ := hcs
    rw [← Array.toArray_toList (xs := cs), this]
  subst hcs'
  exact (plain_t x0 A1 A2 A3 c1 c2 c3 x0.acts.length w hi rfl).mono fun e w' ⟨h1, h2⟩ => ⟨h1, h2.below⟩
end Go.Proofs.Ytklkgfmcdoifpaa
