/- Merged: ShG ShH ShJ ShK ShL. -/
import Derived.Test.YthggdemiddjlgaaGh
import Derived.Test.YthggdemiddjlgaaUtC
import Derived.Test.YthggdemiddjlgaaTsM
import Derived.Test.YthggdemiddjlgaaStB
import Derived.IntWalk

namespace Go.Proofs.Ythggdemiddjlgaa
open Go.RowKit

def nameB (s : ByteArray) : Bool := decide (s.size ≤ 64) && (runes s.data.toList).isSome

set_option maxHeartbeats 400000 in
theorem name_any (s : ByteArray) (w : World) (hs : s.size ≤ maxLen) :
    Calls Try.prog 24 #[.string s] w fun e w' => e = .returned (.bool (nameB s)) ∧ Fr No w w' := by
  by_cases h : s.size ≤ 64
  · go_enter Try.func24, Try.ntmps24
    go_wp2_with (go_at_call 44; refine (valid_any _ _ (by omega)).mono ?_; rintro e w' ⟨rfl, hf⟩)
    go_ret
    exact ⟨rt_bool (by simp [nameB, h]), hf⟩
  · have h' : 64 < s.size := by omega
    unfold maxLen at hs
    go_enter Try.func24, Try.ntmps24
    go_wp2
    go_ret
    exact ⟨rt_bool (by simp [nameB]; omega), Fr.refl _ _⟩
end Go.Proofs.Ythggdemiddjlgaa

namespace Go.Proofs.Ythggdemiddjlgaa
open Go.RowKit

instance : TyMore tVl := by unfold tVl tVl0; infer_instance
instance : TyMore tAc := by unfold tAc tAc0; infer_instance
structure HoOk (w : World) (B : Nat) (h : Ho) (A1 A2 A3 : Option Addr) : Prop where
  p : (Ty.int .i64).els w (· < B) A1 h.ty.params
  r : (Ty.int .i64).els w (· < B) A2 h.ty.results
  a : tAc.els w (· < B) A3 h.acts
  lp : h.ty.params.length ≤ 140737488351232
  lr : h.ty.results.length ≤ 140737488351232
  la : h.acts.length ≤ 140737488351232
  lm : h.mod.size ≤ maxLen
  ln : h.name.size ≤ maxLen
  lv : ∀ a ∈ h.acts, a.vals.length ≤ 140737488351232
theorem HoOk.frB {w w' : World} {B : Nat} {h : Ho} {A1 A2 A3 : Option Addr} (o : HoOk w B h A1 A2 A3) (hB : B ≤ w.heap.size) (f : Fr No w w') : HoOk w' B h A1 A2 A3 :=
  ⟨o.p.frB hB f (fun _ _ x => x), o.r.frB hB f (fun _ _ x => x), o.a.frB hB f (fun _ _ x => x), o.lp, o.lr, o.la, o.lm, o.ln, o.lv⟩
theorem HoOk.moreB {w : World} {B B' : Nat} {h : Ho} {A1 A2 A3 : Option Addr} (o : HoOk w B h A1 A2 A3) (hB : B ≤ B') : HoOk w B' h A1 A2 A3 :=
  ⟨o.p.moreB hB, o.r.moreB hB, o.a.moreB hB, o.lp, o.lr, o.la, o.lm, o.ln, o.lv⟩
theorem five_box {w w1 : World} {a b c d e : Value} {t : TypeId} (f : Fr No (w.alloc (.cells #[a, b, c, d, e] t)) w1) :
    w1.cell? ⟨w.heap.size, 0, none⟩ = some a ∧ w1.cell? ⟨w.heap.size, 1, none⟩ = some b ∧ w1.cell? ⟨w.heap.size, 2, none⟩ = some c ∧ w1.cell? ⟨w.heap.size, 3, none⟩ = some d ∧ w1.cell? ⟨w.heap.size, 4, none⟩ = some e := by
  have h := (Blk.new w t #[a, b, c, d, e]).fr f (fun x => x)
  exact ⟨h.cell 0, h.cell 1, h.cell 2, h.cell 3, h.cell 4⟩
def actAt (h : Ho) (i : Nat) : Bool := match h.acts[i]? with | some a => actB a h.ty.results | none => false
def hoB (h : Ho) : Bool := fnB h.ty && (nameB h.mod && (nameB h.name && (decide (h.acts.length ≠ 0) && allUp (actAt h) h.acts.length)))
theorem hoB_yes {h : Ho} (h1 : fnB h.ty = true) (h2 : nameB h.mod = true) (h3 : nameB h.name = true) (h4 : h.acts.length ≠ 0) (h5 : allUp (actAt h) h.acts.length = true) : hoB h = true := by simp [hoB, h1, h2, h3, h5]; intro e; simp [e] at h4
theorem hoB_no1 {h : Ho} (h1 : fnB h.ty = false) : hoB h = false := by simp [hoB, h1]
theorem hoB_no2 {h : Ho} (h1 : nameB h.mod = false) : hoB h = false := by simp [hoB, h1]
theorem hoB_no3 {h : Ho} (h1 : nameB h.name = false) : hoB h = false := by simp [hoB, h1]
theorem hoB_no4 {h : Ho} (h1 : h.acts.length = 0) : hoB h = false := by simp [hoB, h1]
theorem hoB_no5 {h : Ho} {k : Nat} (hk : k < h.acts.length) (h1 : actAt h k = false) : hoB h = false := by simp [hoB, allUp_stop hk h1]

set_option maxHeartbeats 1600000 in
theorem hright_no1 (h : Ho) (A1 A2 A3 : Option Addr) (c1 c2 c3 B : Nat) (w : World) (hB : B ≤ w.heap.size) (ok : HoOk w B h A1 A2 A3) (H1 : Hid (fnB h.ty = false)) :
    Calls Try.prog 13 #[.agg #[.string h.mod, .string h.name, .slice A1 h.ty.params.length c1, .slice A2 h.ty.results.length c2, .slice A3 h.acts.length c3]] w fun e w' => e = .returned (.bool (hoB h)) ∧ Fr No w w' := by
  have F0 := hid ((Fr.refl No w).alloc (.cells #[.string h.mod, .string h.name, .slice A1 h.ty.params.length c1, .slice A2 h.ty.results.length c2, .slice A3 h.acts.length c3] 99))
  have OK := hid (ok.frB hB F0.out)
  have HB := hid (Nat.le_trans hB F0.out.size)
  have HX : Hid (∀ X, Fr No (w.alloc (.cells #[.string h.mod, .string h.name, .slice A1 h.ty.params.length c1, .slice A2 h.ty.results.length c2, .slice A3 h.acts.length c3] 99)) X → X.cell? ⟨w.heap.size, 0, none⟩ = some (.string h.mod) ∧ X.cell? ⟨w.heap.size, 1, none⟩ = some (.string h.name) ∧ X.cell? ⟨w.heap.size, 2, none⟩ = some (.slice A1 h.ty.params.length c1) ∧ X.cell? ⟨w.heap.size, 3, none⟩ = some (.slice A2 h.ty.results.length c2) ∧ X.cell? ⟨w.heap.size, 4, none⟩ = some (.slice A3 h.acts.length c3)) := fun X f => five_box f
  clear ok hB
  go_enter Try.func13, Try.ntmps13
  go_wp2_with fail
  generalize w.alloc (.cells #[.string h.mod, .string h.name, .slice A1 h.ty.params.length c1, .slice A2 h.ty.results.length c2, .slice A3 h.acts.length c3] 99) = W at *
  generalize w.heap.size = g at *
  refine (tright_any h.ty _ _ _ _ _ _ HB.out OK.out.p OK.out.r OK.out.lp OK.out.lr).mono ?_
  rintro e w1 ⟨rfl, f1⟩
  rw [H1.out]
  have F1 := hid f1
  clear f1
  obtain ⟨x0, x1, x2, x3, x4⟩ := HX.out _ F1.out
  go_wp2
  go_ret
  exact ⟨rt_bool (hoB_no1 H1.out).symm, F0.out.trans F1.out (fun _ _ h => h)⟩

set_option maxHeartbeats 1600000 in
theorem hright_no2 (h : Ho) (A1 A2 A3 : Option Addr) (c1 c2 c3 B : Nat) (w : World) (hB : B ≤ w.heap.size) (ok : HoOk w B h A1 A2 A3) (H1 : Hid (fnB h.ty = true)) (H2 : Hid (nameB h.mod = false)) :
    Calls Try.prog 13 #[.agg #[.string h.mod, .string h.name, .slice A1 h.ty.params.length c1, .slice A2 h.ty.results.length c2, .slice A3 h.acts.length c3]] w fun e w' => e = .returned (.bool (hoB h)) ∧ Fr No w w' := by
  have F0 := hid ((Fr.refl No w).alloc (.cells #[.string h.mod, .string h.name, .slice A1 h.ty.params.length c1, .slice A2 h.ty.results.length c2, .slice A3 h.acts.length c3] 99))
  have OK := hid (ok.frB hB F0.out)
  have HB := hid (Nat.le_trans hB F0.out.size)
  have HX : Hid (∀ X, Fr No (w.alloc (.cells #[.string h.mod, .string h.name, .slice A1 h.ty.params.length c1, .slice A2 h.ty.results.length c2, .slice A3 h.acts.length c3] 99)) X → X.cell? ⟨w.heap.size, 0, none⟩ = some (.string h.mod) ∧ X.cell? ⟨w.heap.size, 1, none⟩ = some (.string h.name) ∧ X.cell? ⟨w.heap.size, 2, none⟩ = some (.slice A1 h.ty.params.length c1) ∧ X.cell? ⟨w.heap.size, 3, none⟩ = some (.slice A2 h.ty.results.length c2) ∧ X.cell? ⟨w.heap.size, 4, none⟩ = some (.slice A3 h.acts.length c3)) := fun X f => five_box f
  clear ok hB
  go_enter Try.func13, Try.ntmps13
  go_wp2_with fail
  generalize w.alloc (.cells #[.string h.mod, .string h.name, .slice A1 h.ty.params.length c1, .slice A2 h.ty.results.length c2, .slice A3 h.acts.length c3] 99) = W at *
  generalize w.heap.size = g at *
  refine (tright_any h.ty _ _ _ _ _ _ HB.out OK.out.p OK.out.r OK.out.lp OK.out.lr).mono ?_
  rintro e w1 ⟨rfl, f1⟩
  rw [H1.out]
  have F1 := hid f1
  clear f1
  obtain ⟨x0, x1, x2, x3, x4⟩ := HX.out _ F1.out
  go_wp2_with fail
  refine (name_any h.mod _ OK.out.lm).mono ?_
  rintro e w2 ⟨rfl, f2⟩
  rw [H2.out]
  have F2 := hid (F1.out.trans f2 (fun _ _ h => h))
  clear f2 x0 x1 x2 x3 x4
  obtain ⟨x0, x1, x2, x3, x4⟩ := HX.out _ F2.out
  go_wp2
  go_ret
  exact ⟨rt_bool (hoB_no2 H2.out).symm, F0.out.trans F2.out (fun _ _ h => h)⟩

set_option maxHeartbeats 1600000 in
theorem hright_no3 (h : Ho) (A1 A2 A3 : Option Addr) (c1 c2 c3 B : Nat) (w : World) (hB : B ≤ w.heap.size) (ok : HoOk w B h A1 A2 A3) (H1 : Hid (fnB h.ty = true)) (H2 : Hid (nameB h.mod = true)) (H3 : Hid (nameB h.name = false)) :
    Calls Try.prog 13 #[.agg #[.string h.mod, .string h.name, .slice A1 h.ty.params.length c1, .slice A2 h.ty.results.length c2, .slice A3 h.acts.length c3]] w fun e w' => e = .returned (.bool (hoB h)) ∧ Fr No w w' := by
  have F0 := hid ((Fr.refl No w).alloc (.cells #[.string h.mod, .string h.name, .slice A1 h.ty.params.length c1, .slice A2 h.ty.results.length c2, .slice A3 h.acts.length c3] 99))
  have OK := hid (ok.frB hB F0.out)
  have HB := hid (Nat.le_trans hB F0.out.size)
  have HX : Hid (∀ X, Fr No (w.alloc (.cells #[.string h.mod, .string h.name, .slice A1 h.ty.params.length c1, .slice A2 h.ty.results.length c2, .slice A3 h.acts.length c3] 99)) X → X.cell? ⟨w.heap.size, 0, none⟩ = some (.string h.mod) ∧ X.cell? ⟨w.heap.size, 1, none⟩ = some (.string h.name) ∧ X.cell? ⟨w.heap.size, 2, none⟩ = some (.slice A1 h.ty.params.length c1) ∧ X.cell? ⟨w.heap.size, 3, none⟩ = some (.slice A2 h.ty.results.length c2) ∧ X.cell? ⟨w.heap.size, 4, none⟩ = some (.slice A3 h.acts.length c3)) := fun X f => five_box f
  clear ok hB
  go_enter Try.func13, Try.ntmps13
  go_wp2_with fail
  generalize w.alloc (.cells #[.string h.mod, .string h.name, .slice A1 h.ty.params.length c1, .slice A2 h.ty.results.length c2, .slice A3 h.acts.length c3] 99) = W at *
  generalize w.heap.size = g at *
  refine (tright_any h.ty _ _ _ _ _ _ HB.out OK.out.p OK.out.r OK.out.lp OK.out.lr).mono ?_
  rintro e w1 ⟨rfl, f1⟩
  rw [H1.out]
  have F1 := hid f1
  clear f1
  obtain ⟨x0, x1, x2, x3, x4⟩ := HX.out _ F1.out
  go_wp2_with fail
  refine (name_any h.mod _ OK.out.lm).mono ?_
  rintro e w2 ⟨rfl, f2⟩
  rw [H2.out]
  have F2 := hid (F1.out.trans f2 (fun _ _ h => h))
  clear f2 x0 x1 x2 x3 x4
  obtain ⟨x0, x1, x2, x3, x4⟩ := HX.out _ F2.out
  go_wp2_with fail
  refine (name_any h.name _ OK.out.ln).mono ?_
  rintro e w3 ⟨rfl, f3⟩
  rw [H3.out]
  have F3 := hid (F2.out.trans f3 (fun _ _ h => h))
  clear f3 x0 x1 x2 x3 x4
  obtain ⟨x0, x1, x2, x3, x4⟩ := HX.out _ F3.out
  go_wp2
  go_ret
  exact ⟨rt_bool (hoB_no3 H3.out).symm, F0.out.trans F3.out (fun _ _ h => h)⟩

set_option maxHeartbeats 1600000 in
theorem hright_no4 (h : Ho) (A1 A2 A3 : Option Addr) (c1 c2 c3 B : Nat) (w : World) (hB : B ≤ w.heap.size) (ok : HoOk w B h A1 A2 A3) (H1 : Hid (fnB h.ty = true)) (H2 : Hid (nameB h.mod = true)) (H3 : Hid (nameB h.name = true)) (h4 : h.acts.length = 0) :
    Calls Try.prog 13 #[.agg #[.string h.mod, .string h.name, .slice A1 h.ty.params.length c1, .slice A2 h.ty.results.length c2, .slice A3 h.acts.length c3]] w fun e w' => e = .returned (.bool (hoB h)) ∧ Fr No w w' := by
  have H4 := hid h4
  have e4 : (((h.acts.length : Nat) : Int) == 0) = true := by simp [h4]
  clear h4
  have F0 := hid ((Fr.refl No w).alloc (.cells #[.string h.mod, .string h.name, .slice A1 h.ty.params.length c1, .slice A2 h.ty.results.length c2, .slice A3 h.acts.length c3] 99))
  have OK := hid (ok.frB hB F0.out)
  have HB := hid (Nat.le_trans hB F0.out.size)
  have HX : Hid (∀ X, Fr No (w.alloc (.cells #[.string h.mod, .string h.name, .slice A1 h.ty.params.length c1, .slice A2 h.ty.results.length c2, .slice A3 h.acts.length c3] 99)) X → X.cell? ⟨w.heap.size, 0, none⟩ = some (.string h.mod) ∧ X.cell? ⟨w.heap.size, 1, none⟩ = some (.string h.name) ∧ X.cell? ⟨w.heap.size, 2, none⟩ = some (.slice A1 h.ty.params.length c1) ∧ X.cell? ⟨w.heap.size, 3, none⟩ = some (.slice A2 h.ty.results.length c2) ∧ X.cell? ⟨w.heap.size, 4, none⟩ = some (.slice A3 h.acts.length c3)) := fun X f => five_box f
  clear ok hB
  go_enter Try.func13, Try.ntmps13
  go_wp2_with fail
  generalize w.alloc (.cells #[.string h.mod, .string h.name, .slice A1 h.ty.params.length c1, .slice A2 h.ty.results.length c2, .slice A3 h.acts.length c3] 99) = W at *
  generalize w.heap.size = g at *
  refine (tright_any h.ty _ _ _ _ _ _ HB.out OK.out.p OK.out.r OK.out.lp OK.out.lr).mono ?_
  rintro e w1 ⟨rfl, f1⟩
  rw [H1.out]
  have F1 := hid f1
  clear f1
  obtain ⟨x0, x1, x2, x3, x4⟩ := HX.out _ F1.out
  go_wp2_with fail
  refine (name_any h.mod _ OK.out.lm).mono ?_
  rintro e w2 ⟨rfl, f2⟩
  rw [H2.out]
  have F2 := hid (F1.out.trans f2 (fun _ _ h => h))
  clear f2 x0 x1 x2 x3 x4
  obtain ⟨x0, x1, x2, x3, x4⟩ := HX.out _ F2.out
  go_wp2_with fail
  refine (name_any h.name _ OK.out.ln).mono ?_
  rintro e w3 ⟨rfl, f3⟩
  rw [H3.out]
  have F3 := hid (F2.out.trans f3 (fun _ _ h => h))
  clear f3 x0 x1 x2 x3 x4
  obtain ⟨x0, x1, x2, x3, x4⟩ := HX.out _ F3.out
  go_wp2
  go_ret
  exact ⟨rt_bool (hoB_no4 H4.out).symm, F0.out.trans F3.out (fun _ _ h => h)⟩

set_option maxHeartbeats 1600000 in
theorem hright_yes (h : Ho) (A1 A2 A3 : Option Addr) (c1 c2 c3 B : Nat) (w : World) (hB : B ≤ w.heap.size) (ok : HoOk w B h A1 A2 A3) (H1 : Hid (fnB h.ty = true)) (H2 : Hid (nameB h.mod = true)) (H3 : Hid (nameB h.name = true)) (h4 : h.acts.length ≠ 0) :
    Calls Try.prog 13 #[.agg #[.string h.mod, .string h.name, .slice A1 h.ty.params.length c1, .slice A2 h.ty.results.length c2, .slice A3 h.acts.length c3]] w fun e w' => e = .returned (.bool (hoB h)) ∧ Fr No w w' := by
  have H4 := hid h4
  have e4 : (((h.acts.length : Nat) : Int) == 0) = false := by simp; intro e; simp [e] at h4
  clear h4
  have F0 := hid ((Fr.refl No w).alloc (.cells #[.string h.mod, .string h.name, .slice A1 h.ty.params.length c1, .slice A2 h.ty.results.length c2, .slice A3 h.acts.length c3] 99))
  have OK := hid (ok.frB hB F0.out)
  have HB := hid (Nat.le_trans hB F0.out.size)
  have HX : Hid (∀ X, Fr No (w.alloc (.cells #[.string h.mod, .string h.name, .slice A1 h.ty.params.length c1, .slice A2 h.ty.results.length c2, .slice A3 h.acts.length c3] 99)) X → X.cell? ⟨w.heap.size, 0, none⟩ = some (.string h.mod) ∧ X.cell? ⟨w.heap.size, 1, none⟩ = some (.string h.name) ∧ X.cell? ⟨w.heap.size, 2, none⟩ = some (.slice A1 h.ty.params.length c1) ∧ X.cell? ⟨w.heap.size, 3, none⟩ = some (.slice A2 h.ty.results.length c2) ∧ X.cell? ⟨w.heap.size, 4, none⟩ = some (.slice A3 h.acts.length c3)) := fun X f => five_box f
  clear ok hB
  go_enter Try.func13, Try.ntmps13
  go_wp2_with fail
  generalize w.alloc (.cells #[.string h.mod, .string h.name, .slice A1 h.ty.params.length c1, .slice A2 h.ty.results.length c2, .slice A3 h.acts.length c3] 99) = W at *
  generalize w.heap.size = g at *
  refine (tright_any h.ty _ _ _ _ _ _ HB.out OK.out.p OK.out.r OK.out.lp OK.out.lr).mono ?_
  rintro e w1 ⟨rfl, f1⟩
  rw [H1.out]
  have F1 := hid f1
  clear f1
  obtain ⟨x0, x1, x2, x3, x4⟩ := HX.out _ F1.out
  go_wp2_with fail
  refine (name_any h.mod _ OK.out.lm).mono ?_
  rintro e w2 ⟨rfl, f2⟩
  rw [H2.out]
  have F2 := hid (F1.out.trans f2 (fun _ _ h => h))
  clear f2 x0 x1 x2 x3 x4
  obtain ⟨x0, x1, x2, x3, x4⟩ := HX.out _ F2.out
  go_wp2_with fail
  refine (name_any h.name _ OK.out.ln).mono ?_
  rintro e w3 ⟨rfl, f3⟩
  rw [H3.out]
  have F3 := hid (F2.out.trans f3 (fun _ _ h => h))
  clear f3 x0 x1 x2 x3 x4
  obtain ⟨x0, x1, x2, x3, x4⟩ := HX.out _ F3.out
  have hn : h.acts.length ≤ 140737488351232 := OK.out.la
  go_wp2
  go_loopw [29] (fun i wr => ∃ k : Nat, k ≤ h.acts.length ∧ i = .int .i64 k ∧ Hid (Fr No W wr) ∧ Hid (allUp (actAt h) k = true)) (fun i _ => h.acts.length - (intOf i).toNat)
  case atStart => exact ⟨0, by omega, rfl, F3.out, rfl⟩
  case round =>
    obtain ⟨k, hk, rfl, HF, HQ⟩ := hrel
    clear F1 F2 F3 x0 x1 x2 x3 x4 e4
    by_cases hlt : k < h.acts.length
    · obtain ⟨b, o, LA, c, rfl, hb, y0, y1, y2, y3, y4, hc, hcm, hv, j0, j1, j2, j3, j4⟩ := ac_at OK.out.a k hlt
      have i0 : (0 : Int) ≤ k := by omega
      have i1 : (k : Int) < h.acts.length := by omega
      have HY : Hid (∀ X, Fr No W X → X.cell? ⟨b, o + k * 5, none⟩ = some (.int .i64 h.acts[k].kind) ∧ X.cell? ⟨b, o + k * 5 + 1, none⟩ = some (.slice LA h.acts[k].vals.length c) ∧ X.cell? ⟨b, o + k * 5 + 2, none⟩ = some (.int .i64 h.acts[k].mem) ∧
          X.cell? ⟨b, o + k * 5 + 3, none⟩ = some (.int .i64 h.acts[k].at_) ∧ X.cell? ⟨b, o + k * 5 + 4, none⟩ = some (.int .u8 h.acts[k].byte) ∧ X.cell? ⟨g, 2, none⟩ = some (.slice A1 h.ty.params.length c1) ∧ X.cell? ⟨g, 3, none⟩ = some (.slice A2 h.ty.results.length c2) ∧ X.cell? ⟨g, 4, none⟩ = some (.slice (some ⟨b, o, none⟩) h.acts.length c3)) := fun X f => by
        obtain ⟨_, _, x2, x3, x4⟩ := HX.out X f
        have hbW : b < W.heap.size := Nat.lt_of_lt_of_le hb HB.out
        exact ⟨(f.cell (p := ⟨b, _, none⟩) hbW (fun x => x)).trans y0, (f.cell (p := ⟨b, _, none⟩) hbW (fun x => x)).trans y1, (f.cell (p := ⟨b, _, none⟩) hbW (fun x => x)).trans y2, (f.cell (p := ⟨b, _, none⟩) hbW (fun x => x)).trans y3, (f.cell (p := ⟨b, _, none⟩) hbW (fun x => x)).trans y4, x2, x3, x4⟩
      have HV := hid hv
      have HL := hid (OK.out.lv _ (List.getElem_mem hlt))
      have HA : Hid (actAt h k = actB h.acts[k] h.ty.results) := by simp [Hid, actAt, hlt]
      clear y0 y1 y2 y3 y4 hv j0 j1 j2 j3 j4 hc hcm
      generalize h.acts[k] = act at *
      obtain ⟨kind, vals, mem, at_, byte⟩ := act
      simp only at HY HV HL
      obtain ⟨s0, s1, s2, s3, s4, s5, s6, s7⟩ := HY.out _ HF.out
      go_wp2
      refine wp_region_ord (fun X => X.cell? ⟨b, o + k * 5, none⟩ = some (.int .i64 kind) ∧ X.cell? ⟨b, o + k * 5 + 1, none⟩ = some (.slice LA vals.length c) ∧ X.cell? ⟨b, o + k * 5 + 2, none⟩ = some (.int .i64 mem) ∧
          X.cell? ⟨b, o + k * 5 + 3, none⟩ = some (.int .i64 at_) ∧ X.cell? ⟨b, o + k * 5 + 4, none⟩ = some (.int .u8 byte) ∧ X.cell? ⟨g, 2, none⟩ = some (.slice A1 h.ty.params.length c1) ∧ X.cell? ⟨g, 3, none⟩ = some (.slice A2 h.ty.results.length c2) ∧ X.cell? ⟨g, 4, none⟩ = some (.slice (some ⟨b, o, none⟩) h.acts.length c3)) [] [(0, true), (1, true), (2, true), (3, true), (4, true), (5, true), (6, true), (7, false), (8, true)] (by kernel_rfl) (by kernel_rfl) (by kernel_rfl) rfl (HY.out _ HF.out.drew) ?_
      clear s0 s1 s2 s3 s4 s5 s6 s7
      repeat (first
        | (refine wpO_skip rfl rfl ?_; simp only [List.getElem_toArray, List.getElem_cons_succ, List.getElem_cons_zero, Act.put, List.setIfInBounds_toArray, List.set_cons_zero, List.set_cons_succ])
        | (refine wpO_call rfl rfl ?_; simp only [List.getElem_toArray, List.getElem_cons_succ, List.getElem_cons_zero]; apply Exists.intro; refine ⟨fun X hX => ?_, ?_⟩
           · (have s0 := hX.1; have s1 := hX.2.1; have s2 := hX.2.2.1; have s3 := hX.2.2.2.1; have s4 := hX.2.2.2.2.1; have s5 := hX.2.2.2.2.2.1; have s6 := hX.2.2.2.2.2.2.1; have s7 := hX.2.2.2.2.2.2.2; go_simp; exact stillUpon_value)
           simp only [Act.put, List.setIfInBounds_toArray, List.set_cons_zero, List.set_cons_succ]))
      refine wpO_eff rfl rfl (fun K hK => ?_)
      simp only [List.getElem_toArray, List.getElem_cons_succ, List.getElem_cons_zero]
      go_simp
      refine (may_any kind mem at_ byte vals h.ty.params.length h.ty.results _ _ _ _ _ _ B _ (Nat.le_trans HB.out HF.out.drew.size) (HV.out.frB HB.out HF.out.drew (fun _ _ x => x)) (OK.out.r.frB HB.out HF.out.drew (fun _ _ x => x)) HL.out OK.out.lr).mono ?_
      rintro e w4 ⟨rfl, f4⟩
      have F4 := hid (HF.out.drew.trans f4 (fun _ _ h => h))
      clear f4
      refine hK _ _ (fun _ => HY.out _ F4.out) ?_
      clear hK K
      cases hq : actB ⟨kind, vals, mem, at_, byte⟩ h.ty.results with
      | true =>
        have HR := hid (HA.out.trans hq)
        clear hq
        repeat (first
          | (refine wpO_skip rfl rfl ?_; simp only [List.getElem_toArray, List.getElem_cons_succ, List.getElem_cons_zero, Act.put, List.setIfInBounds_toArray, List.set_cons_zero, List.set_cons_succ])
          | (refine wpO_call rfl rfl ?_; simp only [List.getElem_toArray, List.getElem_cons_succ, List.getElem_cons_zero]; apply Exists.intro; refine ⟨fun X hX => ?_, ?_⟩
             · (have s0 := hX.1; have s1 := hX.2.1; have s2 := hX.2.2.1; have s3 := hX.2.2.2.1; have s4 := hX.2.2.2.2.1; have s5 := hX.2.2.2.2.2.1; have s6 := hX.2.2.2.2.2.2.1; have s7 := hX.2.2.2.2.2.2.2; go_simp; exact stillUpon_value)
             simp only [Act.put, List.setIfInBounds_toArray, List.set_cons_zero, List.set_cons_succ]))
        refine wpO_nil ?_
        go_wp2
        go_roundw
        case rel => exact ⟨k + 1, by omega, by go_num, F4.out, allUp_step HQ.out HR.out⟩
        case measure => simp [intOf]; omega
      | false =>
        have HR := hid (HA.out.trans hq)
        clear hq
        repeat (first
          | (refine wpO_skip rfl rfl ?_; simp only [List.getElem_toArray, List.getElem_cons_succ, List.getElem_cons_zero, Act.put, List.setIfInBounds_toArray, List.set_cons_zero, List.set_cons_succ])
          | (refine wpO_call rfl rfl ?_; simp only [List.getElem_toArray, List.getElem_cons_succ, List.getElem_cons_zero]; apply Exists.intro; refine ⟨fun X hX => ?_, ?_⟩
             · (have s0 := hX.1; have s1 := hX.2.1; have s2 := hX.2.2.1; have s3 := hX.2.2.2.1; have s4 := hX.2.2.2.2.1; have s5 := hX.2.2.2.2.2.1; have s6 := hX.2.2.2.2.2.2.1; have s7 := hX.2.2.2.2.2.2.2; go_simp; exact stillUpon_value)
             simp only [Act.put, List.setIfInBounds_toArray, List.set_cons_zero, List.set_cons_succ]))
        refine wpO_nil ?_
        go_wp2
        go_ret
        exact ⟨rt_bool (hoB_no5 hlt HR.out).symm, F0.out.trans F4.out (fun _ _ h => h)⟩
    · go_wp2
      go_ret
      obtain rfl : k = h.acts.length := by omega
      exact ⟨rt_bool (hoB_yes H1.out H2.out H3.out H4.out HQ.out).symm, F0.out.trans HF.out (fun _ _ h => h)⟩

theorem hright_any (h : Ho) (A1 A2 A3 : Option Addr) (c1 c2 c3 B : Nat) (w : World) (hB : B ≤ w.heap.size) (ok : HoOk w B h A1 A2 A3) :
    Calls Try.prog 13 #[.agg #[.string h.mod, .string h.name, .slice A1 h.ty.params.length c1, .slice A2 h.ty.results.length c2, .slice A3 h.acts.length c3]] w fun e w' => e = .returned (.bool (hoB h)) ∧ Fr No w w' := by
  cases h1 : fnB h.ty with
  | false => exact hright_no1 h A1 A2 A3 c1 c2 c3 B w hB ok h1
  | true =>
    cases h2 : nameB h.mod with
    | false => exact hright_no2 h A1 A2 A3 c1 c2 c3 B w hB ok h1 h2
    | true =>
      cases h3 : nameB h.name with
      | false => exact hright_no3 h A1 A2 A3 c1 c2 c3 B w hB ok h1 h2 h3
      | true =>
        by_cases h4 : h.acts.length = 0
        · exact hright_no4 h A1 A2 A3 c1 c2 c3 B w hB ok h1 h2 h3 h4
        · exact hright_yes h A1 A2 A3 c1 c2 c3 B w hB ok h1 h2 h3 h4

end Go.Proofs.Ythggdemiddjlgaa

namespace Go.Proofs.Ythggdemiddjlgaa
open Go.RowKit

instance : TyFlat tVl := by unfold tVl tVl0; infer_instance
/-- The act a, as a value whose list lies where it may. -/
def ActTo (a : Ac) (w : World) (e : Ending) (w' : World) : Prop :=
  ∃ (A : Option Addr) (c : Nat), e = .returned (.tuple #[.agg #[.int .i64 a.kind, .slice A a.vals.length c, .int .i64 a.mem, .int .i64 a.at_, .int .u8 a.byte], .bool true]) ∧ a.vals.length ≤ c ∧ tVl.els w' (fun k => w.heap.size ≤ k ∧ k < w'.heap.size) A a.vals ∧ Fr No w w'
/-- The same, the list where the host function has it. -/
def RactTo (a : Ac) (S : Nat → Prop) (w : World) (e : Ending) (w' : World) : Prop :=
  ∃ (A : Option Addr) (c : Nat), e = .returned (.tuple #[.agg #[.int .i64 a.kind, .slice A a.vals.length c, .int .i64 a.mem, .int .i64 a.at_, .int .u8 a.byte], .bool true]) ∧ a.vals.length ≤ c ∧ tVl.els w' S A a.vals ∧ Fr No w w'
def ActNo (w : World) (e : Ending) (w' : World) : Prop :=
  e = .returned (.tuple #[.agg #[.int .i64 0, .slice none 0 0, .int .i64 0, .int .i64 0, .int .u8 0], .bool false]) ∧ Fr No w w'

end Go.Proofs.Ythggdemiddjlgaa

namespace Go.Proofs.Ythggdemiddjlgaa
open Go.RowKit

end Go.Proofs.Ythggdemiddjlgaa

namespace Go.Proofs.Ythggdemiddjlgaa
open Go.RowKit

def AnsTo (vals : List Vl) (w : World) (e : Ending) (w' : World) : Prop :=
  ∃ (A : Option Addr) (c : Nat), e = .returned (.tuple #[.slice A vals.length c, .int .i64 0]) ∧ vals.length ≤ c ∧ tVl.els w' (fun k => w.heap.size ≤ k ∧ k < w'.heap.size) A vals ∧ Fr No w w'
def RansTo (vals : List Vl) (S : Nat → Prop) (w : World) (e : Ending) (w' : World) : Prop :=
  ∃ (A : Option Addr) (c : Nat), e = .returned (.tuple #[.slice A vals.length c, .int .i64 0]) ∧ vals.length ≤ c ∧ tVl.els w' S A vals ∧ Fr No w w'
def AnsNo (w : World) (e : Ending) (w' : World) : Prop := e = .returned (.tuple #[.slice none 0 0, .int .i64 11]) ∧ Fr No w w'
def ansB (a : Ac) (rs : List Int) : Bool := (decide (a.kind = 0) || decide (a.kind = 2)) && fitB a.vals rs

end Go.Proofs.Ythggdemiddjlgaa
