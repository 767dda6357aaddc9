/- Chapter 28: the reference's Store. -/
import Derived.Test.YtpmnijjfadhocaaMmI
namespace Go.Proofs.Ytpmnijjfadhocaa
open Go.RowKit

/-- The bytes of a memory of the reference, as a slice. -/
structure RmIn (w : World) (A : Option Addr) (c : Nat) (B : List Int) : Prop where
  rd : Rd w w.heap.size A (Ks .u8 B)
  nil : A = none → B = []
  spot : ∀ ad, A = some ad → ∃ q o, ad = ⟨q, o, none⟩
  bts : Bts B
  cap : B.length ≤ c
theorem RmIn.fr {w w' : World} {A : Option Addr} {c : Nat} {B : List Int} (h : RmIn w A c B) (f : Fr No w w') : RmIn w' A c B :=
  ⟨(h.rd.fr f (fun _ _ x => x)).more f.size, h.nil, h.spot, h.bts, h.cap⟩
theorem RmIn.els {w : World} {A : Option Addr} {c : Nat} {B : List Int} (h : RmIn w A c B) : tB.els w (· < w.heap.size) A B := by
  rcases h.rd with hh | ⟨q, o, rfl, hq, hh⟩
  · have : B = [] := by cases B with
      | nil => rfl
      | cons _ _ => simp [Ks] at hh
    exact .inl this
  · exact css_els (S := Emp) (S' := (· < w.heap.size)) (css := B.map fun b => [.int .u8 b]) (css_bts h.bts) inferInstance (fun _ h => h.elim) hq o (fun k u hu => hh k u (by rwa [flat_bts] at hu))
theorem css_ks {w : World} {S : Nat → Prop} {css : List (List Value)} {B : List Int} (h : Css tB w S css B) : css.flatten = Ks .u8 B ∧ Bts B := by
  have e : css = B.map fun b => [.int .u8 b] := by
    apply List.ext_getElem?
    intro i
    rw [List.getElem?_map]
    cases hb : B[i]? with
    | none =>
      have : B.length ≤ i := List.getElem?_eq_none_iff.1 hb
      rw [List.getElem?_eq_none (by rw [h.1]; exact this)]; rfl
    | some b =>
      have hi : i < css.length := by rw [h.1]; exact (List.getElem?_eq_some_iff.1 hb).1
      have := (h.2 i css[i] b (List.getElem?_eq_getElem hi) hb).1
      rw [List.getElem?_eq_getElem hi, this]; rfl
  refine ⟨by rw [e, flat_bts], fun b hb => ?_⟩
  obtain ⟨i, hi, rfl⟩ := List.getElem_of_mem hb
  have hi' : i < css.length := by rw [h.1]; exact hi
  exact wf_u8 (h.2 i css[i] B[i] (List.getElem?_eq_getElem hi') (List.getElem?_eq_getElem hi)).2
theorem rmIn_of_row {w : World} {base c : Nat} {A : Option Addr} {B : List Int} (h : tB.row w base Emp 5 (.slice A B.length c) B) : RmIn w A c B := by
  obtain ⟨css, h1, h2⟩ := h
  obtain ⟨e1, hb⟩ := css_ks h1
  rw [e1] at h2
  obtain ⟨A', c', e, hl, hr, hs⟩ := row_form (n := B.length) h2
  injection e with e2 _ e3
  subst e2 e3
  refine ⟨hr, fun hA => ?_, fun ad had => ?_, hb, by simpa using hl⟩
  · subst hA
    rcases hr with hr | ⟨_, _, hc, _⟩
    · cases B with
      | nil => rfl
      | cons _ _ => simp [Ks] at hr
    · cases hc
  · subst had
    rcases hs with hs | ⟨b, o, hs⟩
    · cases hs
    · injection hs with hs; exact ⟨b, o, hs⟩
def RmTo (l : Lim) (A0 : Option Addr) (B0 B : List Int) (t : Int) (w : World) (e : Ending) (w' : World) : Prop :=
  ∃ (A : Option Addr) (c : Nat), e = .returned (.tuple #[.agg #[.int .i64 l.min, .int .i64 l.max, .bool l.has, .slice A B.length c], .int .i64 t]) ∧ RmIn w' A c B ∧ ((A = A0 ∧ B = B0) ∨ ∀ q o, A = some ⟨q, o, none⟩ → w.heap.size ≤ q) ∧ Fr No w w'
theorem RmIn.frM {w w' : World} {A : Option Addr} {c : Nat} {B : List Int} {M : Nat → Prop} (h : RmIn w A c B) (f : Fr M w w') (hq : B ≠ [] → ∀ q o, A = some ⟨q, o, none⟩ → ¬ M q) : RmIn w' A c B := by
  refine ⟨?_, h.nil, h.spot, h.bts, h.cap⟩
  rcases h.rd with hh | ⟨q, o, rfl, hb, hh⟩
  · exact .inl hh
  · by_cases hB : B = []
    · subst hB; exact .inl rfl
    · exact .inr ⟨q, o, rfl, Nat.lt_of_lt_of_le hb f.size, fun k u hu => by rw [f.cell (p := ⟨q, o + k, none⟩) hb (hq hB q o rfl)]; exact hh k u hu⟩
theorem RmIn.blk {w : World} {A : Option Addr} {c : Nat} {B : List Int} (h : RmIn w A c B) (hB : B ≠ []) {q o : Nat} (hA : A = some ⟨q, o, none⟩) : q < w.heap.size := by
  rcases h.rd with hh | ⟨q', o', e, hb, _⟩
  · exact absurd (by cases B with | nil => rfl | cons _ _ => simp [Ks] at hh) hB
  · rw [hA] at e; cases e; exact hb
theorem splice_len {B bs : List Int} {a : Nat} (h : a + bs.length ≤ B.length) : (splice B a bs).length = B.length := by simp [splice]; omega
def storeR (op : Int) (B : List Int) (addr off x : Int) : List Int × Int :=
  if wst op = 0 then (B, 12) else if hasB B.length addr off (wst op) then (splice B (addr % 4294967296 + off).toNat (leB (wst op) x), 0) else (B, 2)
set_option maxRecDepth 100000 in
set_option maxHeartbeats 3200000 in
theorem rmstore_any (l : Lim) (A : Option Addr) (c : Nat) (B : List Int) (op addr off x : Int) (w : World) (hI : RmIn w A c B) (hn : B.length ≤ 100000) (ha : 0 ≤ addr ∧ addr < 18446744073709551616) (ho : 0 ≤ off ∧ off < 18446744073709551616) (hx : 0 ≤ x ∧ x < 18446744073709551616) :
    Calls Try.prog 32 #[rmv l A B.length c, .int .i64 op, .int .u64 addr, .int .u64 off, .int .u64 x] w (RmTo l A B (storeR op B addr off x).1 (storeR op B addr off x).2 w) := by
  have F0 := hid (((Fr.refl No w).alloc (.cells #[.int .i64 l.min, .int .i64 l.max, .bool l.has, .slice A B.length c] 28)).alloc (.cells #[.int .i64 0, .int .i64 0, .bool false, .slice none 0 0] 28))
  have G0 := hid ((Blk.new w 28 #[.int .i64 l.min, .int .i64 l.max, .bool l.has, .slice A B.length c]).alloc (.cells #[.int .i64 0, .int .i64 0, .bool false, .slice none 0 0] 28))
  have G1 := hid (Blk.new1 w (.cells #[.int .i64 l.min, .int .i64 l.max, .bool l.has, .slice A B.length c] 28) 28 #[.int .i64 0, .int .i64 0, .bool false, .slice none 0 0])
  have HS := hid (fun W => rstore_any op x W hx)
  have HI := hid hI
  clear hI
  by_cases h0 : wst op = 0
  · rw [storeR, if_pos h0]
    rw [stD, if_pos h0] at HS
    clear h0
    unfold rmv
    go_enter Try.func32, Try.ntmps32
    go_wp2_with fail
    refine (HS.out _).mono ?_
    rintro e w1 ⟨D, d, rfl, hd, f⟩
    have F := hid (F0.out.trans f (fun _ _ h => h))
    have G := hid (G0.out.fr f (fun x => x))
    have GR := hid (G1.out.fr f (fun x => x))
    clear hd f
    have y0 : w1.cell? ⟨w.heap.size, 0, none⟩ = some (.int .i64 l.min) := G.out.cell 0
    have y1 : w1.cell? ⟨w.heap.size, 1, none⟩ = some (.int .i64 l.max) := G.out.cell 1
    have y2 : w1.cell? ⟨w.heap.size, 2, none⟩ = some (.bool l.has) := G.out.cell 2
    have y3 : w1.cell? ⟨w.heap.size, 3, none⟩ = some (.slice A B.length c) := G.out.cell 3
    have z0 : w1.cell? ⟨w.heap.size + 1, 0, none⟩ = some (.int .i64 0) := GR.out.cell 0
    have z1 : w1.cell? ⟨w.heap.size + 1, 1, none⟩ = some (.int .i64 0) := GR.out.cell 1
    have z2 : w1.cell? ⟨w.heap.size + 1, 2, none⟩ = some (.bool false) := GR.out.cell 2
    have z3 : w1.cell? ⟨w.heap.size + 1, 3, none⟩ = some (.slice none 0 0) := GR.out.cell 3
    have q0 : w1.frozen? ⟨w.heap.size + 1, 0, none⟩ = false := GR.out.frozen 0
    have q1 : w1.frozen? ⟨w.heap.size + 1, 1, none⟩ = false := GR.out.frozen 1
    have q2 : w1.frozen? ⟨w.heap.size + 1, 2, none⟩ = false := GR.out.frozen 2
    have q3 : w1.frozen? ⟨w.heap.size + 1, 3, none⟩ = false := GR.out.frozen 3
    go_wp2
    have FZ := (((((Fr.refl (One (w.heap.size + 1)) w1).setCell ⟨w.heap.size + 1, 0, none⟩ (.int .i64 l.min) (fun _ => rfl)).setCell ⟨w.heap.size + 1, 1, none⟩ (.int .i64 l.max) (fun _ => rfl)).setCell ⟨w.heap.size + 1, 2, none⟩ (.bool l.has) (fun _ => rfl)).setCell ⟨w.heap.size + 1, 3, none⟩ (.slice A B.length c) (fun _ => rfl))
    have FF := F.out.trans FZ (fun i hi h => by simp only [One] at h; omega)
    exact bodyPost_ret (v := .tuple #[.agg #[.int .i64 l.min, .int .i64 l.max, .bool l.has, .slice A B.length c], .int .i64 12]) (by simp [results, Try.results32, go_sem, z0, z1, z2, z3]) rfl ⟨A, c, rfl, HI.out.fr FF, .inl ⟨rfl, rfl⟩, FF⟩
  · rw [storeR, if_neg h0]
    rw [stD, if_neg h0] at HS
    have hf := wst_form h0
    have hl8 : (leB (wst op) x).length = wst op := leB_len _ _
    have hbb := hid (leB_bts (wst op) x)
    cases hh : hasB B.length addr off (wst op) with
    | false =>
      simp only [Bool.false_eq_true, if_false]
      have HH := hid (fun W => rhas_any l A B.length c addr off (wst op) W (by omega) ha ho (by omega))
      rw [hh] at HH
      generalize wst op = m at *
      generalize leB m x = bs at *
      clear hh h0
      unfold rmv at HH ⊢
      simp only [StTo, hl8] at HS
      go_enter Try.func32, Try.ntmps32
      go_wp2_with fail
      refine (HS.out _).mono ?_
      rintro e w1 ⟨D, d, rfl, hd, f⟩
      have F := hid (F0.out.trans f (fun _ _ h => h))
      have G := hid (G0.out.fr f (fun x => x))
      have GR := hid (G1.out.fr f (fun x => x))
      clear hd f
      have y0 : w1.cell? ⟨w.heap.size, 0, none⟩ = some (.int .i64 l.min) := G.out.cell 0
      have y1 : w1.cell? ⟨w.heap.size, 1, none⟩ = some (.int .i64 l.max) := G.out.cell 1
      have y2 : w1.cell? ⟨w.heap.size, 2, none⟩ = some (.bool l.has) := G.out.cell 2
      have y3 : w1.cell? ⟨w.heap.size, 3, none⟩ = some (.slice A B.length c) := G.out.cell 3
      have z0 : w1.cell? ⟨w.heap.size + 1, 0, none⟩ = some (.int .i64 0) := GR.out.cell 0
      have z1 : w1.cell? ⟨w.heap.size + 1, 1, none⟩ = some (.int .i64 0) := GR.out.cell 1
      have z2 : w1.cell? ⟨w.heap.size + 1, 2, none⟩ = some (.bool false) := GR.out.cell 2
      have z3 : w1.cell? ⟨w.heap.size + 1, 3, none⟩ = some (.slice none 0 0) := GR.out.cell 3
      have q0 : w1.frozen? ⟨w.heap.size + 1, 0, none⟩ = false := GR.out.frozen 0
      have q1 : w1.frozen? ⟨w.heap.size + 1, 1, none⟩ = false := GR.out.frozen 1
      have q2 : w1.frozen? ⟨w.heap.size + 1, 2, none⟩ = false := GR.out.frozen 2
      have q3 : w1.frozen? ⟨w.heap.size + 1, 3, none⟩ = false := GR.out.frozen 3
      go_wp2_with fail
      refine (HH.out _).mono ?_
      rintro e w2 ⟨rfl, f⟩
      replace F := hid (F.out.trans f (fun _ _ h => h))
      replace G := hid (G.out.fr f (fun x => x))
      replace GR := hid (GR.out.fr f (fun x => x))
      clear f y0 y1 y2 y3 z0 z1 z2 z3 q0 q1 q2 q3
      have y0 : w2.cell? ⟨w.heap.size, 0, none⟩ = some (.int .i64 l.min) := G.out.cell 0
      have y1 : w2.cell? ⟨w.heap.size, 1, none⟩ = some (.int .i64 l.max) := G.out.cell 1
      have y2 : w2.cell? ⟨w.heap.size, 2, none⟩ = some (.bool l.has) := G.out.cell 2
      have y3 : w2.cell? ⟨w.heap.size, 3, none⟩ = some (.slice A B.length c) := G.out.cell 3
      have z0 : w2.cell? ⟨w.heap.size + 1, 0, none⟩ = some (.int .i64 0) := GR.out.cell 0
      have z1 : w2.cell? ⟨w.heap.size + 1, 1, none⟩ = some (.int .i64 0) := GR.out.cell 1
      have z2 : w2.cell? ⟨w.heap.size + 1, 2, none⟩ = some (.bool false) := GR.out.cell 2
      have z3 : w2.cell? ⟨w.heap.size + 1, 3, none⟩ = some (.slice none 0 0) := GR.out.cell 3
      have q0 : w2.frozen? ⟨w.heap.size + 1, 0, none⟩ = false := GR.out.frozen 0
      have q1 : w2.frozen? ⟨w.heap.size + 1, 1, none⟩ = false := GR.out.frozen 1
      have q2 : w2.frozen? ⟨w.heap.size + 1, 2, none⟩ = false := GR.out.frozen 2
      have q3 : w2.frozen? ⟨w.heap.size + 1, 3, none⟩ = false := GR.out.frozen 3
      go_wp2
      have FZ := (((((Fr.refl (One (w.heap.size + 1)) w2).setCell ⟨w.heap.size + 1, 0, none⟩ (.int .i64 l.min) (fun _ => rfl)).setCell ⟨w.heap.size + 1, 1, none⟩ (.int .i64 l.max) (fun _ => rfl)).setCell ⟨w.heap.size + 1, 2, none⟩ (.bool l.has) (fun _ => rfl)).setCell ⟨w.heap.size + 1, 3, none⟩ (.slice A B.length c) (fun _ => rfl))
      have FF := F.out.trans FZ (fun i hi h => by simp only [One] at h; omega)
      exact bodyPost_ret (v := .tuple #[.agg #[.int .i64 l.min, .int .i64 l.max, .bool l.has, .slice A B.length c], .int .i64 2]) (by simp [results, Try.results32, go_sem, z0, z1, z2, z3]) rfl ⟨A, c, rfl, HI.out.fr FF, .inl ⟨rfl, rfl⟩, FF⟩
    | true =>
      simp only [if_true]
      have HH := hid (fun W => rhas_any l A B.length c addr off (wst op) W (by omega) ha ho (by omega))
      rw [hh] at HH
      have hd := of_decide_eq_true hh
      have HLO := hid (fun W => rlow_any addr W ha)
      obtain ⟨a, haa⟩ : ∃ a : Nat, addr % 4294967296 = a := ⟨(addr % 4294967296).toNat, by omega⟩
      obtain ⟨f', hff⟩ : ∃ f' : Nat, off = f' := ⟨off.toNat, by omega⟩
      subst hff
      have e1 : ((a : Int) + (f' : Int)).toNat = a + f' := by omega
      rw [haa] at HLO hd
      rw [haa, e1]
      generalize wst op = m at *
      generalize leB m x = bs at *
      clear hh h0 e1 haa
      unfold rmv at HH ⊢
      simp only [StTo, hl8] at HS
      have hw1 : IntKind.i64.wrap (f' : Int) = f' := by rw [IntKind.wrap_i64]; omega
      have hw2 : IntKind.i64.wrap ((a : Int) + f') = a + f' := by rw [IntKind.wrap_i64]; omega
      have hfit : a + f' + bs.length ≤ B.length := by omega
      go_enter Try.func32, Try.ntmps32
      go_wp2_with fail
      refine (HS.out _).mono ?_
      rintro e w1 ⟨D, d, rfl, hdd, f⟩
      have F := hid (F0.out.trans f (fun _ _ h => h))
      have G := hid (G0.out.fr f (fun x => x))
      have GR := hid (G1.out.fr f (fun x => x))
      have HD := hid (rmIn_of_row hdd)
      clear hdd f
      have y0 : w1.cell? ⟨w.heap.size, 0, none⟩ = some (.int .i64 l.min) := G.out.cell 0
      have y1 : w1.cell? ⟨w.heap.size, 1, none⟩ = some (.int .i64 l.max) := G.out.cell 1
      have y2 : w1.cell? ⟨w.heap.size, 2, none⟩ = some (.bool l.has) := G.out.cell 2
      have y3 : w1.cell? ⟨w.heap.size, 3, none⟩ = some (.slice A B.length c) := G.out.cell 3
      have z0 : w1.cell? ⟨w.heap.size + 1, 0, none⟩ = some (.int .i64 0) := GR.out.cell 0
      have z1 : w1.cell? ⟨w.heap.size + 1, 1, none⟩ = some (.int .i64 0) := GR.out.cell 1
      have z2 : w1.cell? ⟨w.heap.size + 1, 2, none⟩ = some (.bool false) := GR.out.cell 2
      have z3 : w1.cell? ⟨w.heap.size + 1, 3, none⟩ = some (.slice none 0 0) := GR.out.cell 3
      have q0 : w1.frozen? ⟨w.heap.size + 1, 0, none⟩ = false := GR.out.frozen 0
      have q1 : w1.frozen? ⟨w.heap.size + 1, 1, none⟩ = false := GR.out.frozen 1
      have q2 : w1.frozen? ⟨w.heap.size + 1, 2, none⟩ = false := GR.out.frozen 2
      have q3 : w1.frozen? ⟨w.heap.size + 1, 3, none⟩ = false := GR.out.frozen 3
      go_wp2_with fail
      refine (HH.out _).mono ?_
      rintro e w2 ⟨rfl, f⟩
      replace F := hid (F.out.trans f (fun _ _ h => h))
      replace G := hid (G.out.fr f (fun x => x))
      replace GR := hid (GR.out.fr f (fun x => x))
      replace HD := hid (HD.out.fr f)
      clear f y0 y1 y2 y3 z0 z1 z2 z3 q0 q1 q2 q3
      have hc1 : w.heap.size + 1 < w2.heap.size := GR.out.lt
      have HX : Hid (∀ X, Fr (One (w.heap.size + 1)) w2 X → X.cell? ⟨w.heap.size, 0, none⟩ = some (.int .i64 l.min) ∧ X.cell? ⟨w.heap.size, 1, none⟩ = some (.int .i64 l.max) ∧ X.cell? ⟨w.heap.size, 2, none⟩ = some (.bool l.has) ∧ X.cell? ⟨w.heap.size, 3, none⟩ = some (.slice A B.length c)) := fun X f => by
        have h := G.out.fr f (fun x => by simp only [One] at x; omega)
        exact ⟨h.cell 0, h.cell 1, h.cell 2, h.cell 3⟩
      go_wp2_with fail
      refine wp_region_ord (fun X => X.cell? ⟨w.heap.size, 0, none⟩ = some (.int .i64 l.min) ∧ X.cell? ⟨w.heap.size, 1, none⟩ = some (.int .i64 l.max) ∧ X.cell? ⟨w.heap.size, 2, none⟩ = some (.bool l.has) ∧ X.cell? ⟨w.heap.size, 3, none⟩ = some (.slice A B.length c)) [] [(0, true), (1, true), (2, true), (3, true), (4, true), (6, true), (7, true), (9, true), (5, false), (8, true), (10, false), (11, true), (12, false), (13, true)] (by kernel_rfl) (by kernel_rfl) (by kernel_rfl) rfl (HX.out _ (Fr.refl _ _).drew) ?_
      repeat (first
        | (refine wpO_skip rfl rfl ?_; simp only [List.getElem_toArray, List.getElem_cons_succ, List.getElem_cons_zero, Act.put, List.setIfInBounds_toArray, List.set_cons_zero, List.set_cons_succ])
        | (refine wpO_call rfl rfl ?_; simp only [List.getElem_toArray, List.getElem_cons_succ, List.getElem_cons_zero]; apply Exists.intro; refine ⟨fun X hX => ?_, ?_⟩
           · (have s0 := hX.1; have s1 := hX.2.1; have s2 := hX.2.2.1; have s3 := hX.2.2.2; go_simp; exact stillUpon_value)
           simp only [Act.put, List.setIfInBounds_toArray, List.set_cons_zero, List.set_cons_succ]))
      refine wpO_eff rfl rfl (fun K hK => ?_)
      simp only [List.getElem_toArray, List.getElem_cons_succ, List.getElem_cons_zero]
      go_simp
      refine (HLO.out _).mono ?_
      rintro e w' ⟨rfl, rfl⟩
      refine hK _ _ (fun _ => HX.out _ (Fr.refl _ _).drew) ?_
      clear hK K
      repeat (first
        | (refine wpO_skip rfl rfl ?_; simp only [List.getElem_toArray, List.getElem_cons_succ, List.getElem_cons_zero, Act.put, List.setIfInBounds_toArray, List.set_cons_zero, List.set_cons_succ])
        | (refine wpO_call rfl rfl ?_; simp only [List.getElem_toArray, List.getElem_cons_succ, List.getElem_cons_zero]; apply Exists.intro; refine ⟨fun X hX => ?_, ?_⟩
           · (have s0 := hX.1; have s1 := hX.2.1; have s2 := hX.2.2.1; have s3 := hX.2.2.2; go_simp; exact stillUpon_value)
           simp only [Act.put, List.setIfInBounds_toArray, List.set_cons_zero, List.set_cons_succ]))
      refine wpO_eff rfl rfl (fun K hK => ?_)
      simp only [List.getElem_toArray, List.getElem_cons_succ, List.getElem_cons_zero]
      go_simp
      have HI2 := hid (HI.out.fr F.out.drew)
      have HW := written_any A D c d (a + f') B bs w2.drew HI2.out.rd HI2.out.nil (HD.out.fr (Fr.refl No w2).drew).rd HI2.out.bts HD.out.bts hfit HI2.out.cap hn HI2.out.spot
      rw [Int.natCast_add, hl8] at HW
      refine HW.mono ?_
      clear HW
      rintro e w3 ⟨E, ec, rfl, hrow, f⟩
      have F3 := hid ((Fr.refl No w2).drew.trans f (fun _ _ h => h))
      have HR := hid hrow
      have GR3 := hid (GR.out.fr F3.out (fun x => x))
      clear hrow f
      refine hK _ _ (fun _ => HX.out _ (F3.out.mono (fun _ _ h => h.elim))) ?_
      clear hK K
      repeat (first
        | (refine wpO_skip rfl rfl ?_; simp only [List.getElem_toArray, List.getElem_cons_succ, List.getElem_cons_zero, Act.put, List.setIfInBounds_toArray, List.set_cons_zero, List.set_cons_succ])
        | (refine wpO_call rfl rfl ?_; simp only [List.getElem_toArray, List.getElem_cons_succ, List.getElem_cons_zero]; apply Exists.intro; refine ⟨fun X hX => ?_, ?_⟩
           · (have s0 := hX.1; have s1 := hX.2.1; have s2 := hX.2.2.1; have s3 := hX.2.2.2; go_simp; exact stillUpon_value)
           simp only [Act.put, List.setIfInBounds_toArray, List.set_cons_zero, List.set_cons_succ]))
      have q0 := GR3.out.frozen 0
      have q1 := GR3.out.frozen 1
      have q2 := GR3.out.frozen 2
      have q3 := GR3.out.frozen 3
      have z0 := GR3.out.cell 0
      have z1 := GR3.out.cell 1
      have z2 := GR3.out.cell 2
      have z3 := GR3.out.cell 3
      have FZ := hid ((((((Fr.refl (One (w.heap.size + 1)) w3).setCell ⟨w.heap.size + 1, 0, none⟩ (.int .i64 l.min) (fun _ => rfl)).setCell ⟨w.heap.size + 1, 1, none⟩ (.int .i64 l.max) (fun _ => rfl)).setCell ⟨w.heap.size + 1, 2, none⟩ (.bool l.has) (fun _ => rfl)).setCell ⟨w.heap.size + 1, 3, none⟩ (.slice E (splice B (a + f') bs).length ec) (fun _ => rfl)))
      refine wpO_eff rfl rfl (fun K hK => ?_)
      simp only [List.getElem_toArray, List.getElem_cons_succ, List.getElem_cons_zero]
      go_simp
      refine hK _ _ (fun _ => HX.out _ ((F3.out.mono (fun _ _ h => h.elim)).trans FZ.out (fun _ _ h => h))) ?_
      clear hK K
      repeat (first
        | (refine wpO_skip rfl rfl ?_; simp only [List.getElem_toArray, List.getElem_cons_succ, List.getElem_cons_zero, Act.put, List.setIfInBounds_toArray, List.set_cons_zero, List.set_cons_succ])
        | (refine wpO_call rfl rfl ?_; simp only [List.getElem_toArray, List.getElem_cons_succ, List.getElem_cons_zero]; apply Exists.intro; refine ⟨fun X hX => ?_, ?_⟩
           · (have s0 := hX.1; have s1 := hX.2.1; have s2 := hX.2.2.1; have s3 := hX.2.2.2; go_simp; exact stillUpon_value)
           simp only [Act.put, List.setIfInBounds_toArray, List.set_cons_zero, List.set_cons_succ]))
      refine wpO_nil ?_
      go_wp2
      have FF := (F.out.trans F3.out (fun _ _ h => h)).trans FZ.out (fun i hi h => by simp only [One] at h; omega)
      have hRm := rmIn_of_row (HR.out.fr FZ.out (fun _ h => h.elim) (fun k hk h => by have h1 := (HR.out.own hk).1; have h2 : w2.drew.heap.size = w2.heap.size := rfl; simp only [One] at h; omega))
      exact bodyPost_ret (v := .tuple #[.agg #[.int .i64 l.min, .int .i64 l.max, .bool l.has, .slice E (splice B (a + f') bs).length ec], .int .i64 0]) (by simp [results, Try.results32, go_sem, z0, z1, z2, z3]) rfl ⟨E, ec, rfl, hRm, (.inr (fun q o he => by subst he; have h1 := (HR.out.own (g := q) (by simp [Value.ownBlock])).1; exact Nat.le_trans F.out.size h1)), FF⟩
end Go.Proofs.Ytpmnijjfadhocaa
