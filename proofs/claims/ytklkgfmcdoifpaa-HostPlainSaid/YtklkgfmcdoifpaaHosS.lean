/- The walk of HostActs. -/
import Derived.Test.YtklkgfmcdoifpaaHosR
namespace Go.Proofs.Ytklkgfmcdoifpaa
open Go.RowKit

def ActRes (x : Ac) (ok : Bool) (w : World) (e : Ending) (w' : World) : Prop :=
  ∃ (A : Option Addr) (c : Nat), e = .returned (.tuple #[.agg #[.int .i64 x.kind, .slice A x.vals.length c, .int .i64 x.mem, .int .i64 x.at_, .int .u8 x.byte], .bool ok]) ∧ tVl.els w' w'.heap.size A x.vals ∧ Fr No w w'
def AnsRes (l : List Vl) (p : Int) (w : World) (e : Ending) (w' : World) : Prop :=
  ∃ (A : Option Addr) (c : Nat), e = .returned (.tuple #[.slice A l.length c, .int .i64 p]) ∧ tVl.els w' w'.heap.size A l ∧ Fr No w w'
theorem tmod_lt {n : Int} {L : Nat} (h0 : 0 ≤ n) (hL : 0 < L) : ∃ k : Nat, k < L ∧ n.tmod L = k := by
  rw [Int.tmod_eq_emod_of_nonneg h0]
  have h1 := Int.emod_nonneg n (show (L : Int) ≠ 0 by omega)
  have h2 := Int.emod_lt_of_pos n (show (0 : Int) < L by omega)
  exact ⟨(n % L).toNat, by omega, by omega⟩

/-- Both return the act x, and ok. -/
structure ActBoth (h : Ho) (A1 A2 A3 : Option Addr) (c1 c2 c3 : Nat) (n : Int) (B : Nat) (x : Ac) (ok : Bool) : Prop where
  one : ∀ w, B ≤ w.heap.size → HoOk w B h A1 A2 A3 → Calls Try.prog 12 #[.agg #[.string h.mod, .string h.name, .slice A1 h.ty.params.length c1, .slice A2 h.ty.results.length c2, .slice A3 h.acts.length c3], .int .i64 n] w (ActRes x ok w)
  two : ∀ w, B ≤ w.heap.size → HoOk w B h A1 A2 A3 → Calls Try.prog 13 #[.agg #[.string h.mod, .string h.name, .slice A1 h.ty.params.length c1, .slice A2 h.ty.results.length c2, .slice A3 h.acts.length c3], .int .i64 n] w (ActRes x ok w)
theorem both_some (h : Ho) (A1 A2 A3 : Option Addr) (c1 c2 c3 : Nat) (n : Int) (B k : Nat) (hn : 0 ≤ n) (hn' : n ≤ 9223372036854775807) (hk : k < h.acts.length) (hnk : n.tmod h.acts.length = k) : ActBoth h A1 A2 A3 c1 c2 c3 n B h.acts[k] true :=
  ⟨fun w hB ok => act_some h A1 A2 A3 c1 c2 c3 B n k w hB ok.a ok.la hn hn' hk hnk (ok.lv _ (List.getElem_mem hk)), fun w hB ok => ract_some h A1 A2 A3 c1 c2 c3 B n k w hB ok.a ok.la hn hn' hk hnk (ok.lv _ (List.getElem_mem hk))⟩
theorem both_none (h : Ho) (A1 A2 A3 : Option Addr) (c1 c2 c3 : Nat) (n : Int) (B : Nat) (hn : n < 0 ∨ h.acts.length = 0) : ActBoth h A1 A2 A3 c1 c2 c3 n B ⟨0, [], 0, 0, 0⟩ false :=
  ⟨fun w _ _ => (act_none h A1 A2 A3 c1 c2 c3 n w hn).mono fun e w' ⟨h1, h2⟩ => ⟨none, 0, h1, .inl rfl, h2⟩, fun w _ _ => (ract_none h A1 A2 A3 c1 c2 c3 n w hn).mono fun e w' ⟨h1, h2⟩ => ⟨none, 0, h1, .inl rfl, h2⟩⟩
theorem both_any (h : Ho) (A1 A2 A3 : Option Addr) (c1 c2 c3 : Nat) (n : Int) (B : Nat) (hn' : n ≤ 9223372036854775807) (hv : ∀ a ∈ h.acts, a.vals.length ≤ 500) : ∃ x ok, x.vals.length ≤ 500 ∧ ActBoth h A1 A2 A3 c1 c2 c3 n B x ok := by
  by_cases h0 : n < 0 ∨ h.acts.length = 0
  · exact ⟨_, _, by simp, both_none h A1 A2 A3 c1 c2 c3 n B h0⟩
  · obtain ⟨k, hk, e⟩ := tmod_lt (n := n) (L := h.acts.length) (by omega) (by omega)
    exact ⟨_, _, hv _ (List.getElem_mem hk), both_some h A1 A2 A3 c1 c2 c3 n B k (by omega) hn' hk e⟩

structure AnsBoth (a : Ac) (np : Nat) (rs : List Int) (A A1 A2 : Option Addr) (c c1 c2 : Nat) (l : List Vl) (p : Int) : Prop where
  one : ∀ w B, B ≤ w.heap.size → tVl.els w B A a.vals → (Ty.int .i64).els w B A2 rs → Calls Try.prog 14 #[.agg #[.int .i64 a.kind, .slice A a.vals.length c, .int .i64 a.mem, .int .i64 a.at_, .int .u8 a.byte], .agg #[.slice A1 np c1, .slice A2 rs.length c2]] w (AnsRes l p w)
  two : ∀ w B, B ≤ w.heap.size → tVl.els w B A a.vals → (Ty.int .i64).els w B A2 rs → Calls Try.prog 15 #[.agg #[.int .i64 a.kind, .slice A a.vals.length c, .int .i64 a.mem, .int .i64 a.at_, .int .u8 a.byte], .agg #[.slice A1 np c1, .slice A2 rs.length c2]] w (AnsRes l p w)
theorem ans_yes (a : Ac) (np : Nat) (rs : List Int) (A A1 A2 : Option Addr) (c c1 c2 : Nat) (l1 : a.vals.length ≤ 500) (l2 : rs.length ≤ 50) (h : ansB a rs = true) : AnsBoth a np rs A A1 A2 c c1 c2 a.vals 0 := by
  simp only [ansB, Bool.and_eq_true, Bool.or_eq_true, decide_eq_true_eq] at h
  exact ⟨fun w B hB h1 h2 => hans_yes a.kind a.mem a.at_ a.byte a.vals np rs A A1 A2 c c1 c2 B w hB h1 h2 l1 (by omega) h.1 h.2, fun w B hB h1 h2 => rans_yes a.kind a.mem a.at_ a.byte a.vals np rs A A1 A2 c c1 c2 B w hB h1 h2 l1 (by omega) h.1 h.2⟩
theorem ans_no (a : Ac) (np : Nat) (rs : List Int) (A A1 A2 : Option Addr) (c c1 c2 : Nat) (l1 : a.vals.length ≤ 500) (l2 : rs.length ≤ 50) (h : ansB a rs = false) : AnsBoth a np rs A A1 A2 c c1 c2 [] 11 := by
  by_cases hk : a.kind = 0 ∨ a.kind = 2
  · have hf : fitB a.vals rs = false := by
      rcases hk with hk | hk <;> simpa [ansB, hk] using h
    exact ⟨fun w B hB h1 h2 => (hans_no a.kind a.mem a.at_ a.byte a.vals np rs A A1 A2 c c1 c2 B w hB h1 h2 l1 (by omega) hk hf).mono fun e w' ⟨h1, h2⟩ => ⟨none, 0, h1, .inl rfl, h2⟩,
      fun w B hB h1 h2 => (rans_no a.kind a.mem a.at_ a.byte a.vals np rs A A1 A2 c c1 c2 B w hB h1 h2 l1 (by omega) hk hf).mono fun e w' ⟨h1, h2⟩ => ⟨none, 0, h1, .inl rfl, h2⟩⟩
  · exact ⟨fun w B hB h1 h2 => (hans_not a.kind a.mem a.at_ a.byte a.vals np rs A A1 A2 c c1 c2 B w hB h1 h2 l1 (by omega) (by omega) (by omega)).mono fun e w' ⟨h1, h2⟩ => ⟨none, 0, h1, .inl rfl, h2⟩,
      fun w B hB h1 h2 => (rans_not a.kind a.mem a.at_ a.byte a.vals np rs A A1 A2 c c1 c2 B w hB h1 h2 l1 (by omega) (by omega) (by omega)).mono fun e w' ⟨h1, h2⟩ => ⟨none, 0, h1, .inl rfl, h2⟩⟩
theorem ans_any (a : Ac) (np : Nat) (rs : List Int) (A A1 A2 : Option Addr) (c c1 c2 : Nat) (l1 : a.vals.length ≤ 500) (l2 : rs.length ≤ 50) : ∃ l p, l.length ≤ 500 ∧ AnsBoth a np rs A A1 A2 c c1 c2 l p := by
  cases h : ansB a rs with
  | true => exact ⟨_, _, l1, ans_yes a np rs A A1 A2 c c1 c2 l1 l2 h⟩
  | false => exact ⟨_, _, by simp, ans_no a np rs A A1 A2 c c1 c2 l1 l2 h⟩

theorem blk_act {w1 : World} {q : Nat} {t : TypeId} {a b c d e : Value} (h : Blk w1 q t #[a, b, c, d, e]) : w1.cell? ⟨q, 0, none⟩ = some a ∧ w1.cell? ⟨q, 1, none⟩ = some b ∧ w1.cell? ⟨q, 2, none⟩ = some c ∧ w1.cell? ⟨q, 3, none⟩ = some d ∧ w1.cell? ⟨q, 4, none⟩ = some e :=
  ⟨h.cell 0, h.cell 1, h.cell 2, h.cell 3, h.cell 4⟩

set_option maxHeartbeats 3200000 in
set_option maxRecDepth 100000 in
theorem acts_t (h : Ho) (A1 A2 A3 : Option Addr) (c1 c2 c3 : Nat) (n : Int) (kind mem at_ byte : Int) (vals : List Vl) (A : Option Addr) (c : Nat) (np nr nv : Nat) (rs : List Int) (R1 R2 : Option Addr) (d1 d2 : Nat) (w : World)
    (hi : Hid (HoIn w h A1 A2 A3 c1 c2 c3)) (hn : n ≤ 9223372036854775807) (hv : Hid (tVl.els w w.heap.size A vals)) (hr : Hid ((Ty.int .i64).els w w.heap.size R2 rs)) (ln : Hid (vals.length = nv)) (lr : Hid (rs.length = nr)) (hnv : nv ≤ 140737488351232) (hnr : nr ≤ 140737488351232) :
    Calls Try.prog 4 #[.agg #[.string h.mod, .string h.name, .slice A1 h.ty.params.length c1, .slice A2 h.ty.results.length c2, .slice A3 h.acts.length c3], .int .i64 n, .agg #[.int .i64 kind, .slice A nv c, .int .i64 mem, .int .i64 at_, .int .u8 byte], .agg #[.slice R1 np d1, .slice R2 nr d2]] w fun e w' => e = .returned (.bool true) ∧ Fr No w w' := by
  have F0 := hid ((((Fr.refl No w).alloc (.cells #[.string h.mod, .string h.name, .slice A1 h.ty.params.length c1, .slice A2 h.ty.results.length c2, .slice A3 h.acts.length c3] 27)).alloc (.cells #[.int .i64 kind, .slice A nv c, .int .i64 mem, .int .i64 at_, .int .u8 byte] 32)).alloc (.cells #[.slice R1 np d1, .slice R2 nr d2] 24))
  have G0 := hid (((Blk.new w 27 #[.string h.mod, .string h.name, .slice A1 h.ty.params.length c1, .slice A2 h.ty.results.length c2, .slice A3 h.acts.length c3]).alloc (.cells #[.int .i64 kind, .slice A nv c, .int .i64 mem, .int .i64 at_, .int .u8 byte] 32)).alloc (.cells #[.slice R1 np d1, .slice R2 nr d2] 24))
  have G1 := hid ((Blk.new1 w (.cells #[.string h.mod, .string h.name, .slice A1 h.ty.params.length c1, .slice A2 h.ty.results.length c2, .slice A3 h.acts.length c3] 27) 32 #[.int .i64 kind, .slice A nv c, .int .i64 mem, .int .i64 at_, .int .u8 byte]).alloc (.cells #[.slice R1 np d1, .slice R2 nr d2] 24))
  have G2 : Hid (Blk (((w.alloc (.cells #[.string h.mod, .string h.name, .slice A1 h.ty.params.length c1, .slice A2 h.ty.results.length c2, .slice A3 h.acts.length c3] 27)).alloc (.cells #[.int .i64 kind, .slice A nv c, .int .i64 mem, .int .i64 at_, .int .u8 byte] 32)).alloc (.cells #[.slice R1 np d1, .slice R2 nr d2] 24)) (w.heap.size + 1 + 1) 24 #[.slice R1 np d1, .slice R2 nr d2]) := by
    have := Blk.new1 (w.alloc (.cells #[.string h.mod, .string h.name, .slice A1 h.ty.params.length c1, .slice A2 h.ty.results.length c2, .slice A3 h.acts.length c3] 27)) (.cells #[.int .i64 kind, .slice A nv c, .int .i64 mem, .int .i64 at_, .int .u8 byte] 32) 24 #[.slice R1 np d1, .slice R2 nr d2]
    have e : (w.alloc (.cells #[.string h.mod, .string h.name, .slice A1 h.ty.params.length c1, .slice A2 h.ty.results.length c2, .slice A3 h.acts.length c3] 27)).heap.size = w.heap.size + 1 := by simp
    rw [e] at this
    exact this
  go_enter Try.func4, Try.ntmps4
  go_wp2_with fail
  generalize ((w.alloc (.cells #[.string h.mod, .string h.name, .slice A1 h.ty.params.length c1, .slice A2 h.ty.results.length c2, .slice A3 h.acts.length c3] 27)).alloc (.cells #[.int .i64 kind, .slice A nv c, .int .i64 mem, .int .i64 at_, .int .u8 byte] 32)).alloc (.cells #[.slice R1 np d1, .slice R2 nr d2] 24) = W at *
  have HX : Hid (∀ X, Fr No W X → (X.cell? ⟨w.heap.size, 0, none⟩ = some (.string h.mod) ∧ X.cell? ⟨w.heap.size, 1, none⟩ = some (.string h.name) ∧ X.cell? ⟨w.heap.size, 2, none⟩ = some (.slice A1 h.ty.params.length c1) ∧ X.cell? ⟨w.heap.size, 3, none⟩ = some (.slice A2 h.ty.results.length c2) ∧ X.cell? ⟨w.heap.size, 4, none⟩ = some (.slice A3 h.acts.length c3)) ∧
      (X.cell? ⟨w.heap.size + 1, 0, none⟩ = some (.int .i64 kind) ∧ X.cell? ⟨w.heap.size + 1, 1, none⟩ = some (.slice A nv c) ∧ X.cell? ⟨w.heap.size + 1, 2, none⟩ = some (.int .i64 mem) ∧ X.cell? ⟨w.heap.size + 1, 3, none⟩ = some (.int .i64 at_) ∧ X.cell? ⟨w.heap.size + 1, 4, none⟩ = some (.int .u8 byte)) ∧
      X.cell? ⟨w.heap.size + 1 + 1, 0, none⟩ = some (.slice R1 np d1) ∧ X.cell? ⟨w.heap.size + 1 + 1, 1, none⟩ = some (.slice R2 nr d2)) := fun X f =>
    ⟨blk_act (G0.out.fr f (fun x => x)), blk_act (G1.out.fr f (fun x => x)), (G2.out.fr f (fun x => x)).cell 0, (G2.out.fr f (fun x => x)).cell 1⟩
  have lW : w.heap.size + 1 + 1 < W.heap.size := G2.out.lt
  clear G0 G1 G2
  refine (few_any h A1 A2 A3 c1 c2 c3 w.heap.size W F0.out.size (hi.out.a.fr (Nat.le_refl _) F0.out (fun _ _ x => x)) hi.out.la hi.out.lv hi.out.lp hi.out.lr hi.out.lm hi.out.ln).mono ?_
  rintro e w1 ⟨r, rfl, hf, f1⟩
  have F1 := hid f1
  have HF := hid hf
  clear f1 hf
  obtain ⟨⟨x0, x1, x2, x3, x4⟩, ⟨y0, y1, y2, y3, y4⟩, z0, z1⟩ := HX.out _ F1.out
  have FW1 := hid (F0.out.trans F1.out (fun _ _ h => h))
  by_cases hyes : r = true ∧ nv ≤ 50 ∧ nr ≤ 50
  · obtain ⟨rfl, hv5, hr5⟩ := hyes
    have OK := hid (hi.out.ok (HF.out rfl))
    clear HF
    obtain ⟨x, ok, hx5, HB⟩ := both_any h A1 A2 A3 c1 c2 c3 n w.heap.size hn OK.out.lv
    obtain ⟨l, p, hl5, HA⟩ := ans_any ⟨kind, vals, mem, at_, byte⟩ np rs A R1 R2 c d1 d2 (by show vals.length ≤ 500; have := ln.out; omega) (by have := lr.out; omega)
    have HA1 := hid HA.one
    have HA2 := hid HA.two
    simp only [ln.out, lr.out] at HA1 HA2
    have HBO := hid HB
    clear HB HA
    go_wp2_with fail
    refine (HBO.out.one w1 FW1.out.size (OK.out.fr (Nat.le_refl _) FW1.out)).mono ?_
    rintro e w2 ⟨Q1, e1, rfl, hq1, f2⟩
    clear x0 x1 x2 x3 x4 y0 y1 y2 y3 y4 z0 z1
    have F2 := hid (F1.out.trans f2 (fun _ _ h => h))
    have HQ1 := hid hq1
    have s2 : w.heap.size + 1 + 1 < w2.heap.size := Nat.lt_of_lt_of_le lW F2.out.size
    have s1 : w.heap.size + 1 < w2.heap.size := by omega
    have s0 : w.heap.size < w2.heap.size := by omega
    clear hq1 f2
    obtain ⟨⟨x0, x1, x2, x3, x4⟩, ⟨y0, y1, y2, y3, y4⟩, z0, z1⟩ := HX.out _ F2.out
    go_wp2_with fail
    have K1 := hid (Blk.new w2 32 #[.int .i64 x.kind, .slice Q1 x.vals.length e1, .int .i64 x.mem, .int .i64 x.at_, .int .u8 x.byte])
    have F3 := hid (F2.out.alloc (.cells #[.int .i64 x.kind, .slice Q1 x.vals.length e1, .int .i64 x.mem, .int .i64 x.at_, .int .u8 x.byte] 32))
    have HQ1' := hid ((HQ1.out.fr (Nat.le_refl _) ((Fr.refl No w2).alloc (.cells #[.int .i64 x.kind, .slice Q1 x.vals.length e1, .int .i64 x.mem, .int .i64 x.at_, .int .u8 x.byte] 32)) (fun _ _ x => x)))
    clear x0 x1 x2 x3 x4 y0 y1 y2 y3 y4 z0 z1
    generalize w2.alloc (.cells #[.int .i64 x.kind, .slice Q1 x.vals.length e1, .int .i64 x.mem, .int .i64 x.at_, .int .u8 x.byte] 32) = W2 at *
    have hg2 : w2.heap.size < W2.heap.size := K1.out.lt
    generalize w2.heap.size = g2 at *
    clear F2 HQ1
    refine (HBO.out.two W2 (Nat.le_trans F0.out.size F3.out.size) (OK.out.fr (Nat.le_refl _) (F0.out.trans F3.out (fun _ _ h => h)))).mono ?_
    rintro e w3 ⟨Q2, e2, rfl, hq2, f3⟩
    have F4 := hid (F3.out.trans f3 (fun _ _ h => h))
    have K2 := hid (K1.out.fr f3 (fun x => x))
    have HQ1 := hid (HQ1'.out.fr (Nat.le_of_lt hg2) f3 (fun _ _ x => x))
    have HQ2 := hid hq2
    have hg3 : g2 < w3.heap.size := Nat.lt_of_lt_of_le hg2 f3.size
    clear hq2 f3 HQ1' K1 F3
    obtain ⟨⟨x0, x1, x2, x3, x4⟩, ⟨y0, y1, y2, y3, y4⟩, z0, z1⟩ := HX.out _ F4.out
    have s3 : w.heap.size < w3.heap.size := by omega
    have s4 : w.heap.size + 1 < w3.heap.size := by omega
    have s5 : w.heap.size + 1 + 1 < w3.heap.size := by omega
    go_wp2_with fail
    have K3 := hid (Blk.new w3 32 #[.int .i64 x.kind, .slice Q2 x.vals.length e2, .int .i64 x.mem, .int .i64 x.at_, .int .u8 x.byte])
    have K4 := hid (K2.out.alloc (.cells #[.int .i64 x.kind, .slice Q2 x.vals.length e2, .int .i64 x.mem, .int .i64 x.at_, .int .u8 x.byte] 32))
    have F5 := hid (F4.out.alloc (.cells #[.int .i64 x.kind, .slice Q2 x.vals.length e2, .int .i64 x.mem, .int .i64 x.at_, .int .u8 x.byte] 32))
    have HQ1' := hid ((HQ1.out.fr (Nat.le_of_lt hg3) ((Fr.refl No w3).alloc (.cells #[.int .i64 x.kind, .slice Q2 x.vals.length e2, .int .i64 x.mem, .int .i64 x.at_, .int .u8 x.byte] 32)) (fun _ _ x => x)))
    have HQ2' := hid ((HQ2.out.fr (Nat.le_refl _) ((Fr.refl No w3).alloc (.cells #[.int .i64 x.kind, .slice Q2 x.vals.length e2, .int .i64 x.mem, .int .i64 x.at_, .int .u8 x.byte] 32)) (fun _ _ x => x)))
    clear x0 x1 x2 x3 x4 y0 y1 y2 y3 y4 z0 z1
    generalize w3.alloc (.cells #[.int .i64 x.kind, .slice Q2 x.vals.length e2, .int .i64 x.mem, .int .i64 x.at_, .int .u8 x.byte] 32) = W3 at *
    have hg4 : w3.heap.size < W3.heap.size := K3.out.lt
    generalize w3.heap.size = g3 at *
    clear F4 HQ1 HQ2 K2
    refine (HA1.out W3 w.heap.size (Nat.le_trans F0.out.size F5.out.size) (hv.out.fr (Nat.le_refl _) (F0.out.trans F5.out (fun _ _ h => h)) (fun _ _ x => x)) (hr.out.fr (Nat.le_refl _) (F0.out.trans F5.out (fun _ _ h => h)) (fun _ _ x => x))).mono ?_
    rintro e w4 ⟨Q3, e3, rfl, hq3, f4⟩
    have F6 := hid (F5.out.trans f4 (fun _ _ h => h))
    have K5 := hid (K3.out.fr f4 (fun x => x))
    have K6 := hid (K4.out.fr f4 (fun x => x))
    have HQ1 := hid (HQ1'.out.fr (by omega) f4 (fun _ _ x => x))
    have HQ2 := hid (HQ2'.out.fr (by omega) f4 (fun _ _ x => x))
    have HQ3 := hid hq3
    have s6 := f4.size
    clear hq3 f4 HQ1' HQ2' K3 K4 F5
    obtain ⟨⟨x0, x1, x2, x3, x4⟩, ⟨y0, y1, y2, y3, y4⟩, z0, z1⟩ := HX.out _ F6.out
    go_wp2_with fail
    clear x0 x1 x2 x3 x4 y0 y1 y2 y3 y4 z0 z1
    refine (HA2.out w4 w.heap.size (Nat.le_trans F0.out.size F6.out.size) (hv.out.fr (Nat.le_refl _) (F0.out.trans F6.out (fun _ _ h => h)) (fun _ _ x => x)) (hr.out.fr (Nat.le_refl _) (F0.out.trans F6.out (fun _ _ h => h)) (fun _ _ x => x))).mono ?_
    rintro e w5 ⟨Q4, e4, rfl, hq4, f5⟩
    have F7 := hid (F6.out.trans f5 (fun _ _ h => h))
    have K7 := hid (K5.out.fr f5 (fun x => x))
    have K8 := hid (K6.out.fr f5 (fun x => x))
    have HQ1' := hid (HQ1.out.fr (by omega) f5 (fun _ _ x => x))
    have HQ2' := hid (HQ2.out.fr (by omega) f5 (fun _ _ x => x))
    have HQ3' := hid (HQ3.out.fr (Nat.le_refl _) f5 (fun _ _ x => x))
    have HQ4 := hid hq4
    have s7 := f5.size
    clear hq4 f5 HQ1 HQ2 HQ3 K5 K6 F6
    obtain ⟨x0, x1, x2, x3, x4⟩ := blk_act K7.out
    obtain ⟨y0, y1, y2, y3, y4⟩ := blk_act K8.out
    go_wp2_with fail
    refine (same_yes x.kind x.mem x.at_ x.byte x.vals Q1 Q2 e1 e2 _ _ w5 (show g2 ≤ w5.heap.size by omega) (show g3 ≤ w5.heap.size by omega) HQ1'.out HQ2'.out hx5).mono ?_
    rintro e w6 ⟨rfl, f6⟩
    have F8 := hid (F7.out.trans f6 (fun _ _ h => h))
    have HQ3 := hid (HQ3'.out.fr (by omega) f6 (fun _ _ x => x))
    have HQ4' := hid (HQ4.out.fr (Nat.le_refl _) f6 (fun _ _ x => x))
    clear f6
    go_wp2_with fail
    refine (r27same_any Q3 Q4 l l e3 e4 _ _ w6 HQ3.out HQ4'.out (by omega) (by omega)).mono ?_
    rintro e w7 ⟨rfl, nq, rfl⟩
    rw [show decide (l = l) = true from by simp]
    go_wp2_with fail
    refine (alive_any _).mono ?_
    rintro e w8 ⟨rfl, f8⟩
    go_wp2_with fail
    go_ret
    exact ⟨rfl, F0.out.trans ((F8.out.drewN nq).trans f8 (fun _ _ h => h)) (fun _ _ h => h)⟩
  · have HN := hid hyes
    clear hyes
    cases r with
    | false =>
      go_wp2_with fail
      refine (alive_any _).mono ?_
      rintro e w2 ⟨rfl, f2⟩
      go_wp2_with fail
      go_ret
      exact ⟨rfl, F0.out.trans (F1.out.trans f2 (fun _ _ h => h)) (fun _ _ h => h)⟩
    | true =>
      by_cases hv5 : 50 < nv
      · go_wp2_with fail
        refine (alive_any _).mono ?_
        rintro e w2 ⟨rfl, f2⟩
        go_wp2_with fail
        go_ret
        exact ⟨rfl, F0.out.trans (F1.out.trans f2 (fun _ _ h => h)) (fun _ _ h => h)⟩
      · have hr5 : 50 < nr := by
          rcases Nat.lt_or_ge 50 nr with h | h
          · exact h
          · exact absurd ⟨rfl, by omega, h⟩ HN.out
        go_wp2_with fail
        refine (alive_any _).mono ?_
        rintro e w2 ⟨rfl, f2⟩
        go_wp2_with fail
        go_ret
        exact ⟨rfl, F0.out.trans (F1.out.trans f2 (fun _ _ h => h)) (fun _ _ h => h)⟩
theorem hostActs_walk (w : World) (v0 v1 v2 v3 : Value) (x0 : Ho) (x1 : Int) (x2 : Ac) (x3 : Fn) (y0 : tHo.rd w w.heap.size v0.cells.toList x0) (y1 : (Ty.int .i64).rd w w.heap.size v1.cells.toList x1) (y2 : tAc.rd w w.heap.size v2.cells.toList x2) (y3 : tFn.rd w w.heap.size v3.cells.toList x3)
    (u0 : tHo.le 140737488351232 x0) (u1 : (Ty.int .i64).le 140737488351232 x1) (u2 : tAc.le 140737488351232 x2) (u3 : tFn.le 140737488351232 x3) (hv0 : ∃ cs, v0 = .agg cs) (hv1 : ∃ n, v1 = .int .i64 n) (hv2 : ∃ cs, v2 = .agg cs) (hv3 : ∃ cs, v3 = .agg cs) :
    Calls Try.prog 4 #[v0, v1, v2, v3] w fun e w' => e = .returned (.bool true) ∧ Below w.heap.size w w' := by
  obtain ⟨cs0, rfl⟩ := hv0
  obtain ⟨n, rfl⟩ := hv1
  obtain ⟨cs2, rfl⟩ := hv2
  obtain ⟨cs3, rfl⟩ := hv3
  obtain ⟨A1, A2, A3, c1, c2, c3, hcs, hi⟩ := ho_in y0 u0
  obtain ⟨A, c, hcs2, _, _, hel, j0, j1, j2, j3, j4⟩ := ac_cells y2
  obtain ⟨R1, d1, R2, d2, hcs3, _, _, _, _, _, hel3⟩ := fn_cells y3
  obtain ⟨hn, hw⟩ := y1
  simp only [Value.cells, List.cons.injEq, Value.int.injEq, true_and, and_true] at hn
  subst hn
  have e0 : cs0 = #[.string x0.mod, .string x0.name, .slice A1 x0.ty.params.length c1, .slice A2 x0.ty.results.length c2, .slice A3 x0.acts.length c3] := by
    have : cs0.toList = _ := hcs
    rw [← Array.toArray_toList (xs := cs0), this]
  have e2 : cs2 = #[.int .i64 x2.kind, .slice A x2.vals.length c, .int .i64 x2.mem, .int .i64 x2.at_, .int .u8 x2.byte] := by
    have : cs2.toList = _ := hcs2
    rw [← Array.toArray_toList (xs := cs2), this]
  have e3 : cs3 = #[.slice R1 x3.params.length d1, .slice R2 x3.results.length d2] := by
    have : cs3.toList = _ := hcs3
    rw [← Array.toArray_toList (xs := cs3), this]
  subst e0 e2 e3
  exact (acts_t x0 A1 A2 A3 c1 c2 c3 n x2.kind x2.mem x2.at_ x2.byte x2.vals A c x3.params.length x3.results.length x2.vals.length x3.results R1 R2 d1 d2 w hi (wf_i64 hw).2 hel hel3 rfl rfl u2.2.1.1 u3.2.1).mono fun e w' ⟨h1, h2⟩ => ⟨h1, h2.below⟩
end Go.Proofs.Ytklkgfmcdoifpaa
