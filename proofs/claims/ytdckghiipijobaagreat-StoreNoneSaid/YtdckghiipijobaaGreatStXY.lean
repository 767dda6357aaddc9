/- Merged: StX StY. -/
import Derived.Test.YtdckghiipijobaaGreatStL
import Derived.Test.YtdckghiipijobaaGreatStW

namespace Go.Proofs.YtdckghiipijobaaGreat
open Go.RowKit

theorem u_at {w : World} {S : Nat → Prop} {A : Option Addr} {l : List Int} (h : tU.els w S A l) (i : Nat) (hi : i < l.length) : ∃ (b o : Nat), A = some ⟨b, o, none⟩ ∧ S b ∧ w.cell? ⟨b, o + i, none⟩ = some (.int .u64 l[i]) ∧ (Lit.int .u64 l[i]).wf = true := by
  obtain ⟨b, o, ds, rfl, hb, hc, hr⟩ := h.at_ i hi
  obtain ⟨rfl, hw⟩ := hr
  have := hc 0 _ rfl
  have e : tU.size = 1 := rfl
  rw [e, Nat.mul_one, Nat.add_zero] at this
  exact ⟨b, o, rfl, hb, this, hw⟩
theorem bl_at {w : World} {S : Nat → Prop} {A : Option Addr} {l : List Bool} (h : Ty.bool.els w S A l) (i : Nat) (hi : i < l.length) : ∃ (b o : Nat), A = some ⟨b, o, none⟩ ∧ S b ∧ w.cell? ⟨b, o + i, none⟩ = some (.bool l[i]) := by
  obtain ⟨b, o, ds, rfl, hb, hc, hr⟩ := h.at_ i hi
  have hr : ds = [.bool l[i]] := hr
  subst hr
  have := hc 0 _ rfl
  have e : Ty.bool.size = 1 := rfl
  rw [e, Nat.mul_one, Nat.add_zero] at this
  exact ⟨b, o, rfl, hb, this⟩

set_option maxHeartbeats 800000 in
theorem refs_any (A B : Option Addr) (xs ys : List Int) (c d : Nat) (S T : Nat → Prop) (w : World) (ha : tU.els w S A xs) (hb : tU.els w T B ys) (h1 : xs.length ≤ 140737488351232) (h2 : ys.length ≤ 140737488351232) :
    Calls Tryz.prog 55 #[.slice A xs.length c, .slice B ys.length d] w fun e w' => e = .returned (.bool (decide (xs = ys))) ∧ ∃ n, w' = w.drewN n := by
  by_cases hl : xs.length = ys.length
  · have e1 : (((xs.length : Nat) : Int) != ((ys.length : Nat) : Int)) = false := by simp [hl]
    have hL := hid hl
    have hl1 : xs.length ≤ ys.length := by omega
    clear hl
    go_enter Tryz.func55, Tryz.ntmps55
    go_wp2
    go_loopw [5] (fun i wr => ∃ k m : Nat, k ≤ xs.length ∧ i = .int .i64 k ∧ wr = w.drewN m ∧ xs.take k = ys.take k) (fun i _ => xs.length - (intOf i).toNat)
    case atStart => exact ⟨0, 0, by omega, rfl, rfl, by simp⟩
    case round =>
      obtain ⟨k, m, hk, rfl, rfl, hq⟩ := hrel
      have HQ := hid hq
      clear hq e1
      by_cases hlt : k < xs.length
      · obtain ⟨b, o, rfl, _, c1, _⟩ := u_at ha k hlt
        obtain ⟨b', o', rfl, _, c2, _⟩ := u_at hb k (by omega)
        have i0 : (0 : Int) ≤ k := by omega
        have i1 : (k : Int) < xs.length := by omega
        have i2 : (k : Int) < ys.length := by omega
        generalize hx : xs[k] = x at c1
        generalize hy : ys[k] = y at c2
        have HX := hid hx
        have HY := hid hy
        clear hx hy ha hb
        by_cases hxy : x = y
        · have hn : (x != y) = false := by simp [hxy]
          have HXY := hid hxy
          clear hxy
          go_wp2
          go_quiet (fail)
          go_wp2
          go_roundw
          case rel =>
            refine ⟨k + 1, _, by omega, by go_num, rfl, ?_⟩
            rw [List.take_succ_eq_append_getElem hlt, List.take_succ_eq_append_getElem (by omega), HQ.out, HX.out, HY.out, HXY.out]
          case measure => simp [intOf]; omega
        · have hn : (x != y) = true := by simp [hxy]
          have HXY := hid hxy
          clear hxy
          go_wp2
          go_quiet (fail)
          go_wp2
          go_ret
          refine ⟨ret_bool ?_, m + nq, World.drewN_drewN _ _ _⟩
          symm
          rw [decide_eq_false_iff_not]
          rintro rfl
          exact HXY.out (HX.out.symm.trans HY.out)
      · go_wp2
        go_ret
        refine ⟨ret_bool ?_, _, rfl⟩
        symm
        rw [decide_eq_true_eq]
        have h := HQ.out
        have h' := hL.out
        rwa [List.take_of_length_le (by omega), List.take_of_length_le (by omega)] at h
  · have e1 : (((xs.length : Nat) : Int) != ((ys.length : Nat) : Int)) = true := by simp; omega
    have hL := hid hl
    clear hl
    go_enter Tryz.func55, Tryz.ntmps55
    go_wp2
    go_ret
    refine ⟨ret_bool ?_, 0, rfl⟩
    symm
    rw [decide_eq_false_iff_not]
    rintro rfl
    exact hL.out rfl

set_option maxHeartbeats 800000 in
theorem flags_any (A B : Option Addr) (xs ys : List Bool) (c d : Nat) (S T : Nat → Prop) (w : World) (ha : Ty.bool.els w S A xs) (hb : Ty.bool.els w T B ys) (h1 : xs.length ≤ 140737488351232) (h2 : ys.length ≤ 140737488351232) :
    Calls Tryz.prog 66 #[.slice A xs.length c, .slice B ys.length d] w fun e w' => e = .returned (.bool (decide (xs = ys))) ∧ ∃ n, w' = w.drewN n := by
  by_cases hl : xs.length = ys.length
  · have e1 : (((xs.length : Nat) : Int) != ((ys.length : Nat) : Int)) = false := by simp [hl]
    have hL := hid hl
    have hl1 : xs.length ≤ ys.length := by omega
    clear hl
    go_enter Tryz.func66, Tryz.ntmps66
    go_wp2
    go_loopw [5] (fun i wr => ∃ k m : Nat, k ≤ xs.length ∧ i = .int .i64 k ∧ wr = w.drewN m ∧ xs.take k = ys.take k) (fun i _ => xs.length - (intOf i).toNat)
    case atStart => exact ⟨0, 0, by omega, rfl, rfl, by simp⟩
    case round =>
      obtain ⟨k, m, hk, rfl, rfl, hq⟩ := hrel
      have HQ := hid hq
      clear hq e1
      by_cases hlt : k < xs.length
      · obtain ⟨b, o, rfl, _, c1⟩ := bl_at ha k hlt
        obtain ⟨b', o', rfl, _, c2⟩ := bl_at hb k (by omega)
        have i0 : (0 : Int) ≤ k := by omega
        have i1 : (k : Int) < xs.length := by omega
        have i2 : (k : Int) < ys.length := by omega
        generalize hx : xs[k] = x at c1
        generalize hy : ys[k] = y at c2
        have HX := hid hx
        have HY := hid hy
        clear hx hy ha hb
        cases x with
        | true =>
          cases y with
          | true =>
            go_wp2
            go_quiet (fail)
            go_wp2
            go_roundw
            case rel =>
              refine ⟨k + 1, _, by omega, by go_num, rfl, ?_⟩
              rw [List.take_succ_eq_append_getElem hlt, List.take_succ_eq_append_getElem (by omega), HQ.out, HX.out, HY.out]
            case measure => simp [intOf]; omega
          | false =>
            go_wp2
            go_quiet (fail)
            go_wp2
            go_ret
            refine ⟨ret_bool ?_, m + nq, World.drewN_drewN _ _ _⟩
            symm
            rw [decide_eq_false_iff_not]
            rintro rfl
            cases HX.out.symm.trans HY.out
        | false =>
          cases y with
          | true =>
            go_wp2
            go_quiet (fail)
            go_wp2
            go_ret
            refine ⟨ret_bool ?_, m + nq, World.drewN_drewN _ _ _⟩
            symm
            rw [decide_eq_false_iff_not]
            rintro rfl
            cases HX.out.symm.trans HY.out
          | false =>
            go_wp2
            go_quiet (fail)
            go_wp2
            go_roundw
            case rel =>
              refine ⟨k + 1, _, by omega, by go_num, rfl, ?_⟩
              rw [List.take_succ_eq_append_getElem hlt, List.take_succ_eq_append_getElem (by omega), HQ.out, HX.out, HY.out]
            case measure => simp [intOf]; omega
      · go_wp2
        go_ret
        refine ⟨ret_bool ?_, _, rfl⟩
        symm
        rw [decide_eq_true_eq]
        have h := HQ.out
        have h' := hL.out
        rwa [List.take_of_length_le (by omega), List.take_of_length_le (by omega)] at h
  · have e1 : (((xs.length : Nat) : Int) != ((ys.length : Nat) : Int)) = true := by simp; omega
    have hL := hid hl
    clear hl
    go_enter Tryz.func66, Tryz.ntmps66
    go_wp2
    go_ret
    refine ⟨ret_bool ?_, 0, rfl⟩
    symm
    rw [decide_eq_false_iff_not]
    rintro rfl
    exact hL.out rfl
end Go.Proofs.YtdckghiipijobaaGreat

namespace Go.Proofs.YtdckghiipijobaaGreat
open Go.RowKit

def sto00 : Rx := ⟨[], [], [], [], [], [], [], [], [], []⟩
def zPl (P : Nat) : Pl := ⟨P, .slice none 0 0, .slice none 0 0, .slice none 0 0, .slice none 0 0, .slice none 0 0, .slice none 0 0, .slice none 0 0, .slice none 0 0, .slice none 0 0, .slice none 0 0, [], []⟩
theorem zPl_own {P k : Nat} : (zPl P).own k ↔ k = P := by
  simp only [Pl.own, Pl.vs, zPl, List.mem_cons, List.not_mem_nil, or_false]
  constructor
  · rintro (hk | ⟨u, hu, hk⟩ | ⟨z, hz, _⟩ | ⟨z, hz, _⟩)
    · exact hk
    · rcases hu with rfl | rfl | rfl | rfl | rfl | rfl | rfl | rfl | rfl | rfl <;> simp [Value.ownBlock] at hk
    · exact hz.elim
    · exact hz.elim
  · exact .inl
theorem StIn.zero {w : World} {P : Nat} {R : Nat → Prop} (hb : Blk w P 135 #[.slice none 0 0, .slice none 0 0, .slice none 0 0, .slice none 0 0, .slice none 0 0, .slice none 0 0, .slice none 0 0, .slice none 0 0, .slice none 0 0, .slice none 0 0])
    (hP : R P) (hR : ∀ k, R k → k < w.heap.size) : StIn w R (zPl P) sto00 where
  blk := hb
  ho := Ty.row.nil _ _ _ _
  co := Ty.row.nil _ _ _ _
  ca := Ty.row.nil _ _ _ _
  fu := Ty.row.nil _ _ _ _
  ta := Ty.row.nil _ _ _ _
  me := Ty.row.nil _ _ _ _
  gl := Ty.row.nil _ _ _ _
  el := Ty.row.nil _ _ _ _
  da := Ty.row.nil _ _ _ _
  is := Ty.row.nil _ _ _ _
  tl := rfl
  tat := by intro i z t h1; simp [zPl] at h1
  tne := by intro i j a b h1; simp [zPl] at h1
  ml := rfl
  mat := by intro i z t h1; simp [zPl] at h1
  mne := by intro i j a b h1; simp [zPl] at h1
  own := by intro k hk; rw [zPl_own.1 hk]; exact hP
  low := hR

/-- Bytes as a string. -/
def toU8 (l : List Int) : List UInt8 := l.map fun n => UInt8.ofNat n.toNat
def strU (l : List Int) : ByteArray := ⟨(toU8 l).toArray⟩
theorem Bs_toU8 {l : List Int} (h : ∀ b ∈ l, 0 ≤ b ∧ b ≤ 255) : Bs (toU8 l) = l := by
  induction l with
  | nil => rfl
  | cons b l ih =>
    have hb := h b (by simp)
    have := ih (fun c hc => h c (by simp [hc]))
    simp only [toU8, List.map_cons, Bs] at this ⊢
    rw [this]
    congr 1
    simp only [UInt8.toNat_ofNat']
    omega
theorem strU_inj {l m : List Int} (h : ∀ b ∈ l, 0 ≤ b ∧ b ≤ 255) (k : ∀ b ∈ m, 0 ≤ b ∧ b ≤ 255) (e : strU l = strU m) : l = m := by
  have e : (toU8 l).toArray = (toU8 m).toArray := congrArg ByteArray.data e
  have e : toU8 l = toU8 m := by simpa using e
  rw [← Bs_toU8 h, ← Bs_toU8 k, e]
theorem css_u8 {w : World} {S : Nat → Prop} : ∀ {css : List (List Value)} {bs : List Int}, Css tB w S css bs → css.flatten = Ks .u8 bs ∧ ∀ b ∈ bs, 0 ≤ b ∧ b ≤ 255
  | [], [], _ => ⟨rfl, fun _ h => nomatch h⟩
  | [], _ :: _, h => nomatch h.1
  | _ :: _, [], h => nomatch h.1
  | c :: css, b :: bs, h => by
    obtain ⟨h1, h2⟩ := css_u8 (css := css) (bs := bs) ⟨by simpa using h.1, fun i c x e1 e2 => h.2 (i + 1) c x (by simpa using e1) (by simpa using e2)⟩
    obtain ⟨rfl, hw⟩ := h.2 0 c b rfl rfl
    refine ⟨by rw [List.flatten_cons, h1]; rfl, fun x hx => ?_⟩
    rcases List.mem_cons.1 hx with rfl | hx
    · exact wf_u8 hw
    · exact h2 x hx
theorem conv_els {w : World} {S : Nat → Prop} {A : Option Addr} {bs : List Int} (c : Nat) (h : tB.els w S A bs) : (convert 59 9 (.slice A bs.length c)).run Tryz.prog w = .ok (.string (strU bs)) w ∧ ∀ b ∈ bs, 0 ≤ b ∧ b ≤ 255 := by
  have h' : tB.els w (fun k => S k ∧ k < k + 1) A bs := h.more (fun k hk => ⟨hk, by omega⟩)
  rcases h with rfl | ⟨b, o, rfl, hb, hc⟩
  · refine ⟨?_, fun _ h => nomatch h⟩
    have := conv_bytes (P := Tryz.prog) (w := w) (B := 0) (A := A) (l := []) 59 9 5 c Tryz.underlying59 Tryz.underlying5 Tryz.underlying9 (.inl rfl)
    exact this
  · have h2 : tB.els w (fun k => k < b + 1) (some ⟨b, o, none⟩) bs := .inr ⟨b, o, rfl, by omega, fun i x hx => by obtain ⟨ds, h1, h2⟩ := hc i x hx; exact ⟨ds, h1, h2⟩⟩
    obtain ⟨css, k1, k2⟩ := els_rd (B := b + 1) h2 (fun k hk => hk)
    obtain ⟨e1, e2⟩ := css_u8 k1
    refine ⟨?_, e2⟩
    rw [e1] at k2
    have e3 := Bs_toU8 e2
    have := conv_bytes (P := Tryz.prog) (w := w) (B := b + 1) (A := some ⟨b, o, none⟩) (l := toU8 bs) 59 9 5 c Tryz.underlying59 Tryz.underlying5 Tryz.underlying9 (by rw [e3]; exact k2)
    rw [show (toU8 bs).length = bs.length by simp [toU8]] at this
    exact this
end Go.Proofs.YtdckghiipijobaaGreat
