/- Chapter 28: the reference's stores. -/
import Derived.Test.YtpmnijjfadhocaaMmH
import Derived.Test.YtpmnijjfadhocaaList
import Derived.Deep.DeepCutAuto
namespace Go.Proofs.Ytpmnijjfadhocaa
open Go.RowKit

theorem rd_of_els {w : World} {S : Nat → Prop} {A : Option Addr} {B : List Int} {n : Nat} (h : tB.els w S A B) (hS : ∀ k, S k → k < n) : Rd w n A (Ks .u8 B) := by
  rcases h with h | ⟨q, o, rfl, hq, h⟩
  · rw [h]; exact Rd.nil
  · refine .inr ⟨q, o, rfl, hS q hq, fun k u hu => ?_⟩
    rw [Ks, List.getElem?_map] at hu
    cases hx : B[k]? with
    | none => rw [hx] at hu; cases hu
    | some x =>
      rw [hx] at hu
      simp only [Option.map_some, Option.some.injEq] at hu
      obtain ⟨ds, h1, h2, _⟩ := h k x hx
      subst h2
      have := h1 0 _ rfl
      have e : tB.size = 1 := rfl
      rw [e, Nat.mul_one, Nat.add_zero] at this
      rw [this, hu]
theorem Rd.take_ {w : World} {n : Nat} {A : Option Addr} {xs : List Value} (h : Rd w n A xs) (k : Nat) : Rd w n A (xs.take k) := by
  rcases h with h | ⟨q, o, rfl, hq, h⟩
  · rw [h]; simp; exact Rd.nil
  · exact .inr ⟨q, o, rfl, hq, fun j u hu => by
      rw [List.getElem?_take] at hu
      split at hu
      · exact h j u hu
      · cases hu⟩
theorem Rd.drop_ {w : World} {n q o : Nat} {xs : List Value} (h : Rd w n (some ⟨q, o, none⟩) xs) (k : Nat) : Rd w n (some ⟨q, o + k, none⟩) (xs.drop k) := by
  rcases h with h | ⟨q', o', e, hq, h⟩
  · rw [h]; simp; exact Rd.nil
  · cases e
    exact .inr ⟨_, _, rfl, hq, fun j u hu => by
      rw [List.getElem?_drop] at hu
      have := h _ u hu
      rw [Nat.add_assoc]; exact this⟩
theorem Ks_take (k : IntKind) (xs : List Int) (n : Nat) : (Ks k xs).take n = Ks k (xs.take n) := by simp [Ks]
theorem Ks_drop (k : IntKind) (xs : List Int) (n : Nat) : (Ks k xs).drop n = Ks k (xs.drop n) := by simp [Ks]
def WrTo (l : List Int) (w : World) (e : Ending) (w' : World) : Prop :=
  ∃ (A : Option Addr) (c : Nat), e = .returned (.slice A l.length c) ∧ tB.row w' w.heap.size Emp 5 (.slice A l.length c) l ∧ Fr No w w'
theorem Bts.drop_ {l : List Int} (h : Bts l) (k : Nat) : Bts (l.drop k) := fun b hb => h b (List.mem_of_mem_drop hb)
theorem Bts.app {l m : List Int} (h : Bts l) (k : Bts m) : Bts (l ++ m) := fun b hb => (List.mem_append.1 hb).elim (h b) (k b)
theorem own_frame {w w' : World} {base : Nat} {v : Value} {l : List Int} (h : tB.row w base Emp 5 v l) {w0 : World} (F : Fr No w0 w) (f : Fr (fun k => some k = v.ownBlock) w w') (hb : w0.heap.size ≤ base) : Fr No w0 w' :=
  F.trans f (fun i hi hh => by have := (h.own hh.symm).1; omega)
set_option maxRecDepth 100000 in
set_option maxHeartbeats 1600000 in
theorem written_any (A D : Option Addr) (c c' a : Nat) (B bs : List Int) (w : World) (hB : Rd w w.heap.size A (Ks .u8 B)) (hA : A = none → B = []) (hD : Rd w w.heap.size D (Ks .u8 bs)) (b1 : Bts B) (b2 : Bts bs) (ha : a + bs.length ≤ B.length) (hc : B.length ≤ c) (hn : B.length ≤ 100000) (hspot : ∀ ad, A = some ad → ∃ q o, ad = ⟨q, o, none⟩) :
    Calls Try.prog 44 #[.slice A B.length c, .int .i64 a, .slice D bs.length c'] w (WrTo (splice B a bs) w) := by
  cases A with
  | none =>
    have hB0 := hA rfl
    subst hB0
    simp only [List.length_nil] at ha
    have ha0 : a = 0 := by omega
    have hbs : bs = [] := List.eq_nil_of_length_eq_zero (by omega)
    subst ha0 hbs
    go_enter Try.func44, Try.ntmps44
    go_upto_region 3 with (at_builtin; refine wpList_appC (t := tB) (base := w.heap.size) (S := Emp) (xs := []) (ys := []) (dss := []) (B2 := w.heap.size) elBs rfl rfl rfl rfl (Ty.row.nil _ _ _ _) Css.nil Rd.nil rfl (by simp) (by simp) (fun _ h => h.elim) (Nat.le_refl _) ?_; intro v1 w1 hr1 fr1 hv1; have F1 := hid (fr1.mono (N := fun k => some k = (Value.slice none 0 0).ownBlock) (M := No) (fun _ _ h => by simp [Value.ownBlock] at h)); have R1 := hid hr1; clear hr1 fr1 hv1)
    go_upto_region 4 with (at_builtin; refine wpList_appC (t := tB) (base := w.heap.size) (S := Emp) (v := v1) (xs := [] ++ []) (ys := []) (dss := []) (B2 := w.heap.size) elBs rfl rfl rfl rfl R1.out Css.nil Rd.nil rfl (by simp) (by simp) (fun _ h => h.elim) F1.out.size ?_; intro v2 w2 hr2 fr2 hv2; have F2 := hid (own_frame R1.out F1.out fr2 (Nat.le_refl _)); have R2 := hid hr2; clear hr2 fr2 hv2)
    go_wp2_with (at_builtin; refine wpList_appC (t := tB) (base := w.heap.size) (S := Emp) (v := v2) (xs := [] ++ [] ++ []) (ys := []) (dss := []) (B2 := w.heap.size) elBs rfl rfl rfl rfl R2.out Css.nil Rd.nil rfl (by simp) (by simp) (fun _ h => h.elim) F2.out.size ?_; intro v3 w3 hr3 fr3 hv3; have F3 := hid (own_frame R2.out F2.out fr3 (Nat.le_refl _)); have R3 := hid hr3; clear hr3 fr3 hv3)
    all_goals
      obtain ⟨A3, c3, e3, _, _, _⟩ := R3.out.els (S' := fun _ => True) (fun _ _ => trivial) (fun _ _ => trivial)
      subst e3
      go_ret
      exact ⟨A3, c3, rfl, R3.out, F3.out⟩
  | some ad =>
    obtain ⟨q, o, rfl⟩ := hspot ad rfl
    have hlen : (splice B a bs).length = B.length := by simp [splice]; omega
    have HB := hid hB
    have HD := hid hD
    have B1 := hid b1
    have B2 := hid b2
    have j0 : (0 : Int) ≤ a := by omega
    have j1 : (a : Int) ≤ B.length := by omega
    have j2 : (a : Int) + bs.length ≤ B.length := by omega
    clear hB hD b1 b2 hA hspot
    by_cases hce : c = a + bs.length
    · subst hce
      go_enter Try.func44, Try.ntmps44
      go_upto_region 4 with (first | (at_builtin; refine wpList_appC (t := tB) (base := w.heap.size) (S := Emp) (xs := []) (ys := B.take a) (dss := (B.take a).map fun b => [.int .u8 b]) (B2 := w.heap.size) elBs rfl rfl rfl rfl (Ty.row.nil _ _ _ _) (css_bts (B1.out.take a)) (by rw [flat_bts, ← Ks_take]; exact HB.out.take_ a) (by rw [List.length_take]; omega) (by simp; omega) (by simp; omega) (fun _ h => h.elim) (Nat.le_refl _) ?_; intro v1 w1 hr1 fr1 hv1; have F1 := hid (fr1.mono (N := fun k => some k = (Value.slice none 0 0).ownBlock) (M := No) (fun _ _ h => by simp [Value.ownBlock] at h)); have R1 := hid hr1; clear hr1 fr1 hv1) | (at_builtin; refine wpList_appC (t := tB) (base := w.heap.size) (S := Emp) (v := v1) (xs := [] ++ B.take a) (ys := bs) (dss := (bs).map fun b => [.int .u8 b]) (B2 := w.heap.size) elBs rfl rfl rfl rfl R1.out (css_bts B2.out) (by rw [flat_bts]; exact HD.out.fr F1.out (fun _ _ x => x)) rfl (by simp; omega) (by simp; omega) (fun _ h => h.elim) F1.out.size ?_; intro v2 w2 hr2 fr2 hv2; have F2 := hid (own_frame R1.out F1.out fr2 (Nat.le_refl _)); have R2 := hid hr2; clear hr2 fr2 hv2))
      go_wp2_with (at_builtin; refine wpList_appC (t := tB) (base := w.heap.size) (S := Emp) (v := v2) (xs := [] ++ B.take a ++ bs) (ys := B.drop (a + bs.length)) (dss := (B.drop (a + bs.length)).map fun b => [.int .u8 b]) (B2 := w.heap.size) elBs rfl rfl rfl rfl R2.out (css_bts (B1.out.drop_ _)) (by rw [flat_bts, List.drop_eq_nil_of_le (by omega)]; exact Rd.nil) (by simp only [List.length_drop]) (by simp; omega) (by simp; omega) (fun _ h => h.elim) F2.out.size ?_; intro v3 w3 hr3 fr3 hv3; have F3 := hid (own_frame R2.out F2.out fr3 (Nat.le_refl _)); have R3 := hid hr3; clear hr3 fr3 hv3)
      all_goals
        obtain ⟨A3, c3, e3, _, _, _⟩ := R3.out.els (S' := fun _ => True) (fun _ _ => trivial) (fun _ _ => trivial)
        subst e3
        go_ret
        have hs : [] ++ B.take a ++ bs ++ B.drop (a + bs.length) = splice B a bs := by simp [splice]
        have hR := R3.out
        rw [hs] at hR
        exact ⟨A3, c3, by rw [hs]; rfl, hR, F3.out⟩
    · skip
      go_enter Try.func44, Try.ntmps44
      go_upto_region 4 with (first | (at_builtin; refine wpList_appC (t := tB) (base := w.heap.size) (S := Emp) (xs := []) (ys := B.take a) (dss := (B.take a).map fun b => [.int .u8 b]) (B2 := w.heap.size) elBs rfl rfl rfl rfl (Ty.row.nil _ _ _ _) (css_bts (B1.out.take a)) (by rw [flat_bts, ← Ks_take]; exact HB.out.take_ a) (by rw [List.length_take]; omega) (by simp; omega) (by simp; omega) (fun _ h => h.elim) (Nat.le_refl _) ?_; intro v1 w1 hr1 fr1 hv1; have F1 := hid (fr1.mono (N := fun k => some k = (Value.slice none 0 0).ownBlock) (M := No) (fun _ _ h => by simp [Value.ownBlock] at h)); have R1 := hid hr1; clear hr1 fr1 hv1) | (at_builtin; refine wpList_appC (t := tB) (base := w.heap.size) (S := Emp) (v := v1) (xs := [] ++ B.take a) (ys := bs) (dss := (bs).map fun b => [.int .u8 b]) (B2 := w.heap.size) elBs rfl rfl rfl rfl R1.out (css_bts B2.out) (by rw [flat_bts]; exact HD.out.fr F1.out (fun _ _ x => x)) rfl (by simp; omega) (by simp; omega) (fun _ h => h.elim) F1.out.size ?_; intro v2 w2 hr2 fr2 hv2; have F2 := hid (own_frame R1.out F1.out fr2 (Nat.le_refl _)); have R2 := hid hr2; clear hr2 fr2 hv2))
      go_wp2_with (at_builtin; refine wpList_appC (t := tB) (base := w.heap.size) (S := Emp) (v := v2) (xs := [] ++ B.take a ++ bs) (ys := B.drop (a + bs.length)) (dss := (B.drop (a + bs.length)).map fun b => [.int .u8 b]) (B2 := w.heap.size) elBs rfl rfl rfl rfl R2.out (css_bts (B1.out.drop_ _)) (by rw [flat_bts, ← Ks_drop]; exact (HB.out.fr F2.out (fun _ _ x => x)).drop_ (a + bs.length)) (by simp only [List.length_drop]) (by simp; omega) (by simp; omega) (fun _ h => h.elim) F2.out.size ?_; intro v3 w3 hr3 fr3 hv3; have F3 := hid (own_frame R2.out F2.out fr3 (Nat.le_refl _)); have R3 := hid hr3; clear hr3 fr3 hv3)
      all_goals
        obtain ⟨A3, c3, e3, _, _, _⟩ := R3.out.els (S' := fun _ => True) (fun _ _ => trivial) (fun _ _ => trivial)
        subst e3
        go_ret
        have hs : [] ++ B.take a ++ bs ++ B.drop (a + bs.length) = splice B a bs := by simp [splice]
        have hR := R3.out
        rw [hs] at hR
        exact ⟨A3, c3, by rw [hs]; rfl, hR, F3.out⟩
end Go.Proofs.Ytpmnijjfadhocaa
