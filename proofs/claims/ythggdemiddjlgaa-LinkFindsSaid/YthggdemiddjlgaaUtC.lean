/- Contracts of the functions of chapter 03, part 3: Runes, Valid, Same. -/
import Derived.Test.YthggdemiddjlgaaUtA
import Derived.Test.YthggdemiddjlgaaStr
import Derived.Lib.Strings
namespace Go.Proofs.Ythggdemiddjlgaa
open Go.RowKit

def hpB (s p : ByteArray) : Bool := Lib.hasPrefix s.data.toList p.data.toList

set_option maxHeartbeats 400000 in
theorem hp0_any (s p : ByteArray) (w : World) (_hs : s.size ≤ 1048576) (_hp : p.size ≤ 1048576) :
    Calls Try.prog 62 #[.string s, .string p] w fun e w' => e = .returned (.bool (hpB s p)) ∧ w = w' := by
  have hr : Hid ((decide (p.size ≤ s.size) && ((s.extract 0 p.size).toList == p.toList)) = hpB s p) := Lib.hasPrefix_raw s p
  by_cases h : p.size ≤ s.size
  · go_enter Try.func62, Try.ntmps62
    go_wp2
    go_ret
    refine ⟨ret_bool ?_, rfl⟩
    rw [← hr.out]
    simp [h]
  · go_enter Try.func62, Try.ntmps62
    go_wp2
    go_ret
    refine ⟨ret_bool ?_, rfl⟩
    rw [← hr.out]
    simp [h]

set_option maxHeartbeats 400000 in
theorem hp_any (s p : ByteArray) (w : World) (hs : s.size ≤ 1048576) (hp : p.size ≤ 1048576) :
    Calls Try.prog 61 #[.string s, .string p] w fun e w' => e = .returned (.bool (hpB s p)) ∧ w = w' := by
  go_enter Try.func61, Try.ntmps61
  go_wp2_with (go_at_call 62; refine (hp0_any _ _ _ (by omega) (by omega)).mono ?_; rintro e w' ⟨rfl, rfl⟩)
  go_ret
  exact ⟨rfl, rfl⟩

theorem decode_ok (s : ByteArray) (i : Nat) (hi : i < s.size) (h : (Utf8.decode s i).1 ≠ 65533) : ∃ n, dec (s.data.toList.drop i) = some ((Utf8.decode s i).1, n) ∧ (Utf8.decode s i).2 = n := by
  rw [decode_dec s i hi] at h ⊢
  cases hd : dec (s.data.toList.drop i) with
  | none => rw [hd] at h; exact absurd rfl h
  | some p => exact ⟨p.2, rfl, rfl⟩
theorem decode_bad (s : ByteArray) (i : Nat) (hi : i < s.size) (h : (Utf8.decode s i).1 = 65533) :
    (hpB (s.extract i s.size) ⟨#[239, 191, 189]⟩ = true ∧ dec (s.data.toList.drop i) = some (65533, (Utf8.decode s i).2)) ∨ (hpB (s.extract i s.size) ⟨#[239, 191, 189]⟩ = false ∧ dec (s.data.toList.drop i) = none) := by
  have e1 : (s.extract i s.size).data.toList = s.data.toList.drop i := by
    rw [Lib.extract_data, List.take_of_length_le (by simp)]
  have e2 : enc 65533 = [239, 191, 189] := by decide
  have hp : hpB (s.extract i s.size) ⟨#[239, 191, 189]⟩ = List.isPrefixOf [239, 191, 189] (s.data.toList.drop i) := by
    unfold hpB Lib.hasPrefix; rw [e1]
  rw [hp]
  cases hd : dec (s.data.toList.drop i) with
  | none =>
    right
    refine ⟨?_, rfl⟩
    cases hq : List.isPrefixOf [239, 191, 189] (s.data.toList.drop i) with
    | false => rfl
    | true =>
      obtain ⟨t, ht⟩ := List.isPrefixOf_iff_prefix.1 hq
      have := dec_enc 65533 t (by decide)
      rw [e2, ht, hd] at this
      cases this
  | some p =>
    left
    rw [decode_dec s i hi, hd] at h ⊢
    obtain ⟨c, n⟩ := p
    simp only [Option.getD_some] at h ⊢
    subst h
    refine ⟨List.isPrefixOf_iff_prefix.2 ?_, rfl⟩
    have := enc_dec hd
    rw [e2] at this
    rw [this]
    exact List.take_prefix _ _

/-- What Runes hands back. -/
def RunesTo (o : Option (List Int)) (w : World) (e : Ending) (w' : World) : Prop :=
  ∃ A c, e = .returned (.tuple #[.slice A (o.getD []).length c, .bool o.isSome]) ∧ Rd w' w'.heap.size A (Ks .i32 (o.getD [])) ∧ Fr No w w'

theorem i32s : ElemOk Try.prog 188 21 1 4 (.int .i32 0) := ElemOk.mk' Try.underlying188 (by kernel_rfl) rfl (by decide)

theorem runes_step {l : List UInt8} {c n : Nat} (hd : dec l = some (c, n)) : runes l = (runes (l.drop n)).map ((c : Int) :: ·) := by
  rw [runes_eq (dec_some_ne hd), hd]
theorem runes_stop {l : List UInt8} (h : l ≠ []) (hd : dec l = none) : runes l = none := by
  rw [runes_eq h, hd]

theorem row_snoc {w : World} {base n : Nat} {e : TypeId} {v : Value} {acc : List Int} {x : Int} {k : IntKind} (h : w.ownsRow base e 1 v n (Ks k acc ++ [.int k x])) : w.ownsRow base e 1 v n (Ks k (acc ++ [x])) := by
  rw [Ks_append]; exact h

theorem runes_round {s : ByteArray} {w wr W1 w2 : World} {i n c : Nat} {acc : List Int} {v v2 : Value} (hlt : i < s.size) (hk : acc.length ≤ i) (HC : runes s.data.toList = (runes (s.data.toList.drop i)).map (acc ++ ·))
    (hd : dec (s.data.toList.drop i) = some (c, n)) (I0 : It wr w.heap.size s i) (I1 : It W1 w.heap.size s (i + n)) (F1 : Fr No w W1) (O1 : W1.ownsRow (w.heap.size + 1) 21 1 v acc.length (Ks .i32 acc))
    (ho2 : w2.ownsRow (w.heap.size + 1) 21 1 v2 (acc.length + 1) (Ks .i32 acc ++ [.int .i32 (c : Int)])) (hf2 : Fr (fun k => some k = v.ownBlock) W1 w2) :
    (∃ (i : Nat) (acc : List Int), i ≤ s.size ∧ acc.length ≤ i ∧ It w2 w.heap.size s i ∧ Fr No w w2 ∧ w2.ownsRow (w.heap.size + 1) 21 1 v2 acc.length (Ks .i32 acc) ∧ Hid (runes s.data.toList = (runes (s.data.toList.drop i)).map (acc ++ ·))) ∧
      s.size - w2.iterPos w.heap.size < s.size - wr.iterPos w.heap.size := by
  have hnb : ∀ k, some k = v.ownBlock → w.heap.size + 1 ≤ k := fun k h => (O1.lt k h.symm).1
  obtain ⟨h1, h2, _⟩ := dec_bd hd
  simp at h2
  have I2 := I1.fr hf2 (fun h => by have := hnb _ h; omega)
  refine ⟨⟨i + n, acc ++ [(c : Int)], by omega, by simp; omega, I2, F1.trans hf2 (fun k hk h => by have := hnb _ h; omega), ?_, ?_⟩, ?_⟩
  · simpa using row_snoc ho2
  · rw [Hid, HC, runes_step hd, List.drop_drop, Option.map_map]
    congr 1
    funext x
    simp
  · rw [I2.pos_, I0.pos_]; omega

set_option maxHeartbeats 1600000 in
theorem runes_any (s : ByteArray) (w : World) (hs : s.size ≤ 1048576) :
    Calls Try.prog 60 #[.string s] w (RunesTo (runes s.data.toList) w) := by
  go_enter Try.func60, Try.ntmps60
  go_wp2
  go_loopw [4] (fun v wr => ∃ (i : Nat) (acc : List Int), i ≤ s.size ∧ acc.length ≤ i ∧ It wr w.heap.size s i ∧ Fr No w wr ∧ wr.ownsRow (w.heap.size + 1) 21 1 v acc.length (Ks .i32 acc) ∧ Hid (runes s.data.toList = (runes (s.data.toList.drop i)).map (acc ++ ·))) (fun _ wr => s.size - wr.iterPos w.heap.size)
  case atStart => exact ⟨0, [], by omega, by simp, It.new w s, (Fr.refl No w).iter s 0, World.ownsRow_nil _ _ _ _, by simp [Hid]⟩
  case round =>
    obtain ⟨i, acc, hi, hk, hit, hf, ho, HC⟩ := hrel
    by_cases hlt : i < s.size
    · have hn := fun ty => run_next_it (P := Try.prog) hit ty hlt
      have hne : Hid (s.data.toList.drop i ≠ []) := by unfold Hid; simp; omega
      have HW := hid (decode_wid s i hlt)
      have HB : Hid (1 ≤ wid (s.data.toList.drop i) ∧ i + wid (s.data.toList.drop i) ≤ s.size) := by
        obtain ⟨h1, h2, _⟩ := wid_bd _ hne.out
        simp at h2
        exact ⟨h1, by omega⟩
      have hle := decode_le s i
      have I1 := hid (hit.step (i + (Utf8.decode s i).2))
      have I0 := hid hit
      have F1 := hid (hf.stepIt w.heap.size s (i + (Utf8.decode s i).2) (fun h => by omega))
      have O1 := hid (row_fr ho ((Fr.refl (One w.heap.size) wr).stepIt w.heap.size s (i + (Utf8.decode s i).2) (fun _ => rfl)) (fun k hk h => by have := (ho.lt k hk).1; have h : k = w.heap.size := h; omega))
      have hsz : w.heap.size + 1 ≤ (stepIt wr w.heap.size s (i + (Utf8.decode s i).2)).heap.size := I1.out.lt
      clear hit ho hf
      by_cases hb : (Utf8.decode s i).1 = 65533
      · have hb' : (((Utf8.decode s i).1 : Int) == 65533) = true := by simp [hb]
        rcases decode_bad s i hlt hb with ⟨g1, g2⟩ | ⟨g1, g2⟩
        · have HD : Hid (dec (s.data.toList.drop i) = some ((Utf8.decode s i).1, (Utf8.decode s i).2)) := by rw [Hid, g2, hb]
          clear g2 hb
          go_wp2_with (first
            | (go_at_call 61; refine (hp_any _ _ _ (by have := Lib.size_eq (s.extract i s.size); rw [Lib.extract_data] at this; simp at this ⊢; omega) (by decide)).mono ?_; rintro e w' ⟨rfl, rfl⟩)
            | (at_builtin; refine wpList_pushR i32s rfl rfl rfl rfl O1.out rfl (by omega) (by omega) hsz ?_; intro v2 w2 ho2 hf2 hq2))
          exact runes_round hlt hk HC.out HD.out I0.out I1.out F1.out O1.out ho2 hf2
        · have HD := hid (runes_stop hne.out g2)
          clear g2 hb
          go_wp2_with (go_at_call 61; refine (hp_any _ _ _ (by have := Lib.size_eq (s.extract i s.size); rw [Lib.extract_data] at this; simp at this ⊢; omega) (by decide)).mono ?_; rintro e w' ⟨rfl, rfl⟩)
          go_ret2
          have e : runes s.data.toList = none := by rw [HC.out, HD.out]; rfl
          rw [e]
          exact ⟨none, 0, rfl, .inl rfl, F1.out⟩
      · obtain ⟨n, hd, hq⟩ := decode_ok s i hlt hb
        have HD : Hid (dec (s.data.toList.drop i) = some ((Utf8.decode s i).1, (Utf8.decode s i).2)) := by rw [Hid, hq]; exact hd
        have hb' : (((Utf8.decode s i).1 : Int) == 65533) = false := by simp; omega
        clear hd hq hb
        go_wp2_with (at_builtin; refine wpList_pushR i32s rfl rfl rfl rfl O1.out rfl (by omega) (by omega) hsz ?_; intro v2 w2 ho2 hf2 hq2)
        exact runes_round hlt hk HC.out HD.out I0.out I1.out F1.out O1.out ho2 hf2
    · have hn := fun ty => run_next_it_end (P := Try.prog) hit ty hlt
      obtain rfl : i = s.size := by omega
      obtain ⟨A, c, hv, hc, hr, _⟩ := row_form ho
      rw [len_Ks] at hv
      subst hv
      have HR := hid hr
      clear hit ho hr
      go_wp2
      go_ret2
      have e : runes s.data.toList = some acc := by rw [HC.out, List.drop_of_length_le (by simp), runes_nil]; simp
      rw [e]
      exact ⟨A, c, rfl, HR.out, hf⟩
set_option maxHeartbeats 400000 in
theorem valid_any (s : ByteArray) (w : World) (hs : s.size ≤ 1048576) :
    Calls Try.prog 44 #[.string s] w fun e w' => e = .returned (.bool (runes s.data.toList).isSome) ∧ Fr No w w' := by
  go_enter Try.func44, Try.ntmps44
  go_wp2_with (go_at_call 60; refine (runes_any _ _ (by omega)).mono ?_; rintro e w' ⟨A, c, rfl, hr, hf⟩)
  go_ret
  exact ⟨rfl, hf⟩
end Go.Proofs.Ythggdemiddjlgaa
