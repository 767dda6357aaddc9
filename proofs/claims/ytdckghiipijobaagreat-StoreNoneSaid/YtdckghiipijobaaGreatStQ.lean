/- Contracts: poke. -/
import Derived.Test.YtdckghiipijobaaGreatStP
namespace Go.Proofs.YtdckghiipijobaaGreat
open Go.RowKit

def MemsOk (x : Rx) : Prop := ∀ m ∈ x.mems, m.b.length ≤ 65536 ∧ m.b.length % 256 = 0
def pokeS (x : Rx) (a : Ac) : Rx × Bool :=
  match getI x.mems a.mem with
  | none => (x, false)
  | some m => if a.at_ < 0 ∨ (m.b.length : Int) ≤ a.at_ then (x, false) else ({ x with mems := x.mems.set a.mem.toNat ⟨m.lim, m.b.set a.at_.toNat a.byte⟩ }, true)
theorem getI_map {α β : Type} {l : List α} {f : α → β} (i : Int) : getI (l.map f) i = (getI l i).map f := by
  unfold getI
  split <;> simp
theorem getI_len {α β : Type} {l : List α} {m : List β} (h : l.length = m.length) (i : Int) : (getI l i).isNone = (getI m i).isNone := by
  unfold getI
  split
  · by_cases hi : i.toNat < l.length
    · simp [hi, h ▸ hi]
    · rw [List.getElem?_eq_none (by omega), List.getElem?_eq_none (by omega)]; rfl
  · rfl
theorem getI_some {α : Type} {l : List α} {i : Int} {a : α} (h : getI l i = some a) : 0 ≤ i ∧ l[i.toNat]? = some a := by
  unfold getI at h
  split at h
  · exact ⟨by assumption, h⟩
  · cases h
theorem splice_one {α : Type} (B : List α) (t : Nat) (b : α) (h : t < B.length) : splice B t [b] = B.set t b := by
  have := splice_set B [] t b (by simpa using h)
  rw [splice_nil] at this
  simpa using this.symm
theorem fill_one {B : List Int} {t : Nat} {b : Int} (ht : t < B.length) (hb : 0 ≤ b ∧ b ≤ 255) : fillR B t b 1 = (B.set t b, 0) := by
  have hm : b % 256 = b := by omega
  unfold fillR
  rw [if_pos (by omega), hm]
  simp only [List.replicate_succ, List.replicate_zero]
  rw [splice_one _ _ _ ht]
section
variable {w : World} {R : Nat → Prop} {V : Pl} {x : Rx}
set_option maxRecDepth 100000 in
set_option maxHeartbeats 3200000 in
theorem poke_any (h : StIn w R V x) (hok : MemsOk x) (a : Ac) (A : Option Addr) (c : Nat) (hn : x.mems.length ≤ 1000000) (ha : -9223372036854775808 ≤ a.at_ ∧ a.at_ ≤ 9223372036854775807) (hb : 0 ≤ a.byte ∧ a.byte ≤ 255) :
    Calls Tryz.prog 92 #[.pointer (some ⟨V.P, 0, none⟩), .agg #[.int .i64 a.kind, .slice A a.vals.length c, .int .i64 a.mem, .int .i64 a.at_, .int .u8 a.byte]] w (GrTo R V (.bool (pokeS x a).2) (pokeS x a).1 w) := by
  have F0 := hid ((Fr.refl No w).alloc (.cells #[.int .i64 a.kind, .slice A a.vals.length c, .int .i64 a.mem, .int .i64 a.at_, .int .u8 a.byte] 110))
  have G0 := hid (Blk.new w 110 #[.int .i64 a.kind, .slice A a.vals.length c, .int .i64 a.mem, .int .i64 a.at_, .int .u8 a.byte])
  have H := hid h
  have K0 := hid (h.frNo F0.out)
  clear h
  unfold pokeS
  obtain ⟨o, ho⟩ : ∃ o, o = getI x.mems a.mem := ⟨_, rfl⟩
  have hlen := getI_len (l := V.mp) (m := x.mems) H.out.ml a.mem
  rw [← ho] at hlen ⊢
  cases o with
  | none =>
    simp only [Option.isNone_none, Option.isNone_iff_eq_none] at hlen
    have HN : Hid (getI (V.mp.map (·.1)) a.mem = none) := by rw [Hid, getI_map, hlen]; rfl
    clear hlen ho
    go_enter Tryz.func92, Tryz.ntmps92
    go_wp2_with fail
    refine (mem_any K0.out a.mem hn).mono ?_
    rw [HN.out]
    rintro e w1 ⟨rfl, f1⟩
    have F1 := hid f1
    have G1 := hid (G0.out.fr f1 (fun x => x))
    clear f1
    simp only [ptrV]
    go_wp2_with fail
    have HX : Hid (∀ X, Fr No w1 X → X.cell? ⟨w.heap.size, 3, none⟩ = some (.int .i64 a.at_)) := fun X f => (G1.out.fr f (fun x => x)).cell 3
    refine wp_region_ord (fun X => X.cell? ⟨w.heap.size, 3, none⟩ = some (.int .i64 a.at_)) [] [(0, true), (1, true), (2, true), (3, true), (4, true), (5, true), (6, true), (7, true), (8, true), (9, true), (10, true), (11, false), (12, true), (13, true), (14, true)] (by kernel_rfl) (by kernel_rfl) (by kernel_rfl) rfl (HX.out _ (Fr.refl _ _).drew) ?_
    repeat (first
      | (refine wpO_skip rfl rfl ?_; simp only [List.getElem_toArray, List.getElem_cons_succ, List.getElem_cons_zero, Act.put, List.setIfInBounds_toArray, List.set_cons_zero, List.set_cons_succ])
      | (refine wpO_call rfl rfl ?_; simp only [List.getElem_toArray, List.getElem_cons_succ, List.getElem_cons_zero]; apply Exists.intro; refine ⟨fun X hX => ?_, ?_⟩
         · (have s0 := hX; go_simp; exact stillUpon_value)
         simp only [Act.put, List.setIfInBounds_toArray, List.set_cons_zero, List.set_cons_succ]))
    refine wpO_skipE rfl rfl (HX.out _ (Fr.refl _ _).drew) ?_
    simp only [List.getElem_toArray, List.getElem_cons_succ, List.getElem_cons_zero, Act.put, List.setIfInBounds_toArray, List.set_cons_zero, List.set_cons_succ]
    repeat (first
      | (refine wpO_skip rfl rfl ?_; simp only [List.getElem_toArray, List.getElem_cons_succ, List.getElem_cons_zero, Act.put, List.setIfInBounds_toArray, List.set_cons_zero, List.set_cons_succ])
      | (refine wpO_call rfl rfl ?_; simp only [List.getElem_toArray, List.getElem_cons_succ, List.getElem_cons_zero]; apply Exists.intro; refine ⟨fun X hX => ?_, ?_⟩
         · (have s0 := hX; go_simp; exact stillUpon_value)
         simp only [Act.put, List.setIfInBounds_toArray, List.set_cons_zero, List.set_cons_succ]))
    refine wpO_nil ?_
    go_wp2
    go_ret
    exact GrTo.no H.out (F0.out.trans F1.out.drew (fun _ _ h => h))
  | some m =>
    obtain ⟨hmem0, hmi⟩ := getI_some ho.symm
    obtain ⟨z, hz⟩ := get_pair H.out.ml hmi
    have HN : Hid (getI (V.mp.map (·.1)) a.mem = some z.1) := by
      rw [Hid, getI_map]
      unfold getI
      rw [if_pos hmem0, hz]; rfl
    obtain ⟨hm1, hm2⟩ := hok m (List.mem_of_getElem? hmi)
    have HMO := hid (H.out.mat _ z m hz hmi)
    have HZ := hid (And.intro hz hmi)
    clear hlen ho hok hz hmi
    have hwr : IntKind.i64.wrap ((m.b.length : Int) / 256 * 256) = m.b.length := by rw [IntWalk.i64_in _ (by omega)]; omega
    by_cases hneg : a.at_ < 0
    · have hd : decide (a.at_ < 0) = true := by simpa using hneg
      simp only [if_pos (Or.inl hneg : a.at_ < 0 ∨ (m.b.length : Int) ≤ a.at_)]
      clear hneg ha
      go_enter Tryz.func92, Tryz.ntmps92
      go_wp2_with fail
      refine (mem_any K0.out a.mem hn).mono ?_
      rw [HN.out]
      rintro e w1 ⟨rfl, f1⟩
      have F1 := hid f1
      have G1 := hid (G0.out.fr f1 (fun x => x))
      clear f1
      simp only [ptrV]
      go_wp2_with fail
      have HX : Hid (∀ X, Fr No w1 X → X.cell? ⟨w.heap.size, 3, none⟩ = some (.int .i64 a.at_)) := fun X f => (G1.out.fr f (fun x => x)).cell 3
      refine wp_region_ord (fun X => X.cell? ⟨w.heap.size, 3, none⟩ = some (.int .i64 a.at_)) [] [(0, true), (1, true), (2, true), (3, true), (4, true), (5, true), (6, true), (7, true), (8, true), (9, true), (10, true), (11, false), (12, true), (13, true), (14, true)] (by kernel_rfl) (by kernel_rfl) (by kernel_rfl) rfl (HX.out _ (Fr.refl _ _).drew) ?_
      repeat (first
        | (refine wpO_skip rfl rfl ?_; simp only [List.getElem_toArray, List.getElem_cons_succ, List.getElem_cons_zero, Act.put, List.setIfInBounds_toArray, List.set_cons_zero, List.set_cons_succ])
        | (refine wpO_call rfl rfl ?_; simp only [List.getElem_toArray, List.getElem_cons_succ, List.getElem_cons_zero]; apply Exists.intro; refine ⟨fun X hX => ?_, ?_⟩
           · (have s0 := hX; go_simp; exact stillUpon_value)
           simp only [Act.put, List.setIfInBounds_toArray, List.set_cons_zero, List.set_cons_succ]))
      refine wpO_skipE rfl rfl (HX.out _ (Fr.refl _ _).drew) ?_
      simp only [List.getElem_toArray, List.getElem_cons_succ, List.getElem_cons_zero, Act.put, List.setIfInBounds_toArray, List.set_cons_zero, List.set_cons_succ]
      repeat (first
        | (refine wpO_skip rfl rfl ?_; simp only [List.getElem_toArray, List.getElem_cons_succ, List.getElem_cons_zero, Act.put, List.setIfInBounds_toArray, List.set_cons_zero, List.set_cons_succ])
        | (refine wpO_call rfl rfl ?_; simp only [List.getElem_toArray, List.getElem_cons_succ, List.getElem_cons_zero]; apply Exists.intro; refine ⟨fun X hX => ?_, ?_⟩
           · (have s0 := hX; go_simp; exact stillUpon_value)
           simp only [Act.put, List.setIfInBounds_toArray, List.set_cons_zero, List.set_cons_succ]))
      refine wpO_nil ?_
      go_wp2
      go_ret
      exact GrTo.no H.out (F0.out.trans F1.out.drew (fun _ _ h => h))
    · have hd : decide (a.at_ < 0) = false := by simpa using hneg
      by_cases hge : (m.b.length : Int) ≤ a.at_
      · have hd2 : decide ((m.b.length : Int) ≤ a.at_) = true := by simpa using hge
        simp only [if_pos (Or.inr hge : a.at_ < 0 ∨ (m.b.length : Int) ≤ a.at_)]
        clear hneg ha hge
        go_enter Tryz.func92, Tryz.ntmps92
        go_wp2_with fail
        refine (mem_any K0.out a.mem hn).mono ?_
        rw [HN.out]
        rintro e w1 ⟨rfl, f1⟩
        have F1 := hid f1
        have G1 := hid (G0.out.fr f1 (fun x => x))
        have M1 := hid ((HMO.out.frNo F0.out).frNo f1)
        clear f1
        simp only [ptrV]
        go_wp2_with fail
        have HX : Hid (∀ X, Fr No w1 X → X.cell? ⟨w.heap.size, 3, none⟩ = some (.int .i64 a.at_)) := fun X f => (G1.out.fr f (fun x => x)).cell 3
        refine wp_region_ord (fun X => X.cell? ⟨w.heap.size, 3, none⟩ = some (.int .i64 a.at_)) [] [(0, true), (1, true), (2, true), (3, true), (4, true), (5, true), (6, true), (7, true), (8, true), (9, true), (10, true), (11, false), (12, true), (13, true), (14, true)] (by kernel_rfl) (by kernel_rfl) (by kernel_rfl) rfl (HX.out _ (Fr.refl _ _).drew) ?_
        repeat (first
          | (refine wpO_skip rfl rfl ?_; simp only [List.getElem_toArray, List.getElem_cons_succ, List.getElem_cons_zero, Act.put, List.setIfInBounds_toArray, List.set_cons_zero, List.set_cons_succ])
          | (refine wpO_call rfl rfl ?_; simp only [List.getElem_toArray, List.getElem_cons_succ, List.getElem_cons_zero]; apply Exists.intro; refine ⟨fun X hX => ?_, ?_⟩
             · (have s0 := hX; go_simp; exact stillUpon_value)
             simp only [Act.put, List.setIfInBounds_toArray, List.set_cons_zero, List.set_cons_succ]))
        refine wpO_eff rfl rfl (fun K hK => ?_)
        simp only [List.getElem_toArray, List.getElem_cons_succ, List.getElem_cons_zero]
        go_simp
        refine (pages_any z.1 (some ⟨z.2.1, 0, none⟩) m.b.length z.2.2 w1.drew (M1.out.hp.cell 3) (by omega)).mono ?_
        rintro e w2 ⟨rfl, rfl⟩
        refine hK _ _ (fun _ => HX.out _ (Fr.refl _ _).drew) ?_
        clear hK K
        repeat (first
          | (refine wpO_skip rfl rfl ?_; simp only [List.getElem_toArray, List.getElem_cons_succ, List.getElem_cons_zero, Act.put, List.setIfInBounds_toArray, List.set_cons_zero, List.set_cons_succ])
          | (refine wpO_call rfl rfl ?_; simp only [List.getElem_toArray, List.getElem_cons_succ, List.getElem_cons_zero]; apply Exists.intro; refine ⟨fun X hX => ?_, ?_⟩
             · (have s0 := hX; go_simp; exact stillUpon_value)
             simp only [Act.put, List.setIfInBounds_toArray, List.set_cons_zero, List.set_cons_succ]))
        refine wpO_nil ?_
        go_wp2
        go_ret
        exact GrTo.no H.out (F0.out.trans F1.out.drew (fun _ _ h => h))
      · have hd2 : decide ((m.b.length : Int) ≤ a.at_) = false := by simpa using hge
        simp only [if_neg (show ¬ (a.at_ < 0 ∨ (m.b.length : Int) ≤ a.at_) by omega)]
        obtain ⟨t, ht⟩ := Int.eq_ofNat_of_zero_le (by omega : 0 ≤ a.at_)
        have hlt : t < m.b.length := by omega
        have hto : a.at_.toNat = t := by omega
        have hc1 : IntKind.u64.wrap a.at_ = t := by rw [ht]; exact IntWalk.u64_in _ (by omega)
        have hc2 : IntKind.u64.wrap a.byte = a.byte := IntWalk.u64_in _ (by omega)
        rw [hto]
        clear hneg hge ht hto
        go_enter Tryz.func92, Tryz.ntmps92
        go_wp2_with fail
        refine (mem_any K0.out a.mem hn).mono ?_
        rw [HN.out]
        rintro e w1 ⟨rfl, f1⟩
        have F1 := hid f1
        have G1 := hid (G0.out.fr f1 (fun x => x))
        have K1 := hid (K0.out.frNo f1)
        have M1 := hid ((HMO.out.frNo F0.out).frNo f1)
        clear f1
        simp only [ptrV]
        go_wp2_with fail
        have HX : Hid (∀ X, Fr No w1 X → X.cell? ⟨w.heap.size, 3, none⟩ = some (.int .i64 a.at_)) := fun X f => (G1.out.fr f (fun x => x)).cell 3
        refine wp_region_ord (fun X => X.cell? ⟨w.heap.size, 3, none⟩ = some (.int .i64 a.at_)) [] [(0, true), (1, true), (2, true), (3, true), (4, true), (5, true), (6, true), (7, true), (8, true), (9, true), (10, true), (11, false), (12, true), (13, true), (14, true)] (by kernel_rfl) (by kernel_rfl) (by kernel_rfl) rfl (HX.out _ (Fr.refl _ _).drew) ?_
        repeat (first
          | (refine wpO_skip rfl rfl ?_; simp only [List.getElem_toArray, List.getElem_cons_succ, List.getElem_cons_zero, Act.put, List.setIfInBounds_toArray, List.set_cons_zero, List.set_cons_succ])
          | (refine wpO_call rfl rfl ?_; simp only [List.getElem_toArray, List.getElem_cons_succ, List.getElem_cons_zero]; apply Exists.intro; refine ⟨fun X hX => ?_, ?_⟩
             · (have s0 := hX; go_simp; exact stillUpon_value)
             simp only [Act.put, List.setIfInBounds_toArray, List.set_cons_zero, List.set_cons_succ]))
        refine wpO_eff rfl rfl (fun K hK => ?_)
        simp only [List.getElem_toArray, List.getElem_cons_succ, List.getElem_cons_zero]
        go_simp
        refine (pages_any z.1 (some ⟨z.2.1, 0, none⟩) m.b.length z.2.2 w1.drew (M1.out.hp.cell 3) (by omega)).mono ?_
        rintro e w2 ⟨rfl, rfl⟩
        refine hK _ _ (fun _ => HX.out _ (Fr.refl _ _).drew) ?_
        clear hK K
        repeat (first
          | (refine wpO_skip rfl rfl ?_; simp only [List.getElem_toArray, List.getElem_cons_succ, List.getElem_cons_zero, Act.put, List.setIfInBounds_toArray, List.set_cons_zero, List.set_cons_succ])
          | (refine wpO_call rfl rfl ?_; simp only [List.getElem_toArray, List.getElem_cons_succ, List.getElem_cons_zero]; apply Exists.intro; refine ⟨fun X hX => ?_, ?_⟩
             · (have s0 := hX; go_simp; exact stillUpon_value)
             simp only [Act.put, List.setIfInBounds_toArray, List.set_cons_zero, List.set_cons_succ]))
        refine wpO_nil ?_
        have y3 : w1.drew.cell? ⟨w.heap.size, 3, none⟩ = some (.int .i64 a.at_) := G1.out.cell 3
        have y4 : w1.drew.cell? ⟨w.heap.size, 4, none⟩ = some (.int .u8 a.byte) := G1.out.cell 4
        go_wp2_with fail
        refine (mfill_any z.1 z.2.1 z.2.2 m.lim m.b t a.byte 1 w1.drew (M1.out.frNo (Fr.refl No w1).drew) (by omega) (by omega) (by omega) (by omega)).mono ?_
        rintro e w3 ⟨rfl, hM, f3⟩
        have hlo1 : lo (t : Int) = t := by unfold lo; omega
        have hlo2 : lo (1 : Int) = 1 := by unfold lo; omega
        rw [hlo1, hlo2, fill_one hlt hb] at hM ⊢
        obtain ⟨s1, s2⟩ := (K1.out.frNo (Fr.refl No w1).drew).setMem (t' := ⟨m.lim, m.b.set t a.byte⟩) HZ.out.1 HZ.out.2 (f3.mono (fun _ _ h => .inr h)) hM (.inl rfl)
        have S1 := hid s1
        have S2 := hid s2
        clear s1 s2 hM f3
        go_wp2
        go_ret
        exact ⟨_, _, rfl, S1.out, (Grown.of_no (F0.out.trans F1.out.drew (fun _ _ h => h))).trans S2.out⟩
end
end Go.Proofs.YtdckghiipijobaaGreat
