/- Part 8 of the proof: lemmas and contracts of functions. No condition. -/
import Derived.Test.YtdckghiipijobaaGreatQ7
import Derived.Test.YtdckghiipijobaaGreatQ1
set_option maxRecDepth 100000
set_option maxHeartbeats 12800000
set_option linter.unusedVariables false
set_option linter.unusedSimpArgs false
set_option linter.unusedSectionVars false
namespace Go.Proofs.YtdckghiipijobaaGreat
open Go.RowKit Go.Proofs.Tryz
theorem kLt {xs ys : List Int} (b1 : ∀ b ∈ xs, 0 ≤ b ∧ b ≤ 255) (b2 : ∀ b ∈ ys, 0 ≤ b ∧ b ≤ 255) : ((strU xs).toList == (strU ys).toList) = decide (xs = ys) := by
 by_cases h : xs = ys
 · subst h; simp
 rw [decide_eq_false h, beq_eq_false_iff_ne]
 intro e
 refine h (kLs b1 b2 ?_)
 rw [strU, strU, ByteArray.toList_mk, ByteArray.toList_mk] at e
 rw [strU, strU, e]
theorem kIX (A B : OA) (xs ys : List Int) (c d : Nat) (S T : Nat → Prop) (w : World) (ha : tB.els w S A xs) (hb : tB.els w T B ys) :
    Calls prog 106 #[.slice A xs.length c, .slice B ys.length d] w fun e w' => e = .returned (.bool (decide (xs = ys))) ∧ ∃ n, w' = w.drewN n := by
 obtain ⟨hc1, b1⟩ := kBI c ha
 obtain ⟨hc2, b2⟩ := kBI d hb
 have hE := kLt b1 b2
 have HE := hid hE
 clear hE ha hb b1 b2
 go_enter func106, ntmps106
 go_wp2
 go_ret
 exact ⟨rt_bool HE.o, 0, rfl⟩
theorem kGR (A B : OA) (xs ys : List Int) (c d : Nat) (S T : Nat → Prop) (w : World) (ha : tU.els w S A xs) (hb : tU.els w T B ys) (h1 : xs.length ≤ 140737488351232) (h2 : ys.length ≤ 140737488351232) :
    Calls prog 108 #[.slice A xs.length c, .slice B ys.length d] w fun e w' => e = .returned (.bool (decide (xs = ys))) ∧ ∃ n, w' = w.drewN n := by
 by_cases hl : xs.length = ys.length
 · have e1 : (((xs.length : Nat) : Int) != ((ys.length : Nat) : Int)) = false := by simp [hl]
   have hL := hid hl
   have hl1 : xs.length ≤ ys.length := om
   clear hl
   go_enter func108, ntmps108
   go_wp2
   go_loopw [13] (fun i wr => ∃ k m : Nat, k ≤ xs.length ∧ i = .int .i64 k ∧ wr = w.drewN m ∧ xs.take k = ys.take k) (fun i _ => xs.length - (intOf i).toNat)
   case atStart => exact ⟨0, 0, by omega, rfl, rfl, by simp⟩
   obtain ⟨k, m, hk, rfl, rfl, hq⟩ := hrel
   have HQ := hid hq
   clear hq e1
   by_cases hlt : k < xs.length
   · obtain ⟨b, o, rfl, _, c1, _⟩ := u_at ha k hlt
     obtain ⟨b', o', rfl, _, c2, _⟩ := u_at hb k om
     exact yy6
   go_wp2
   go_ret
   refine ⟨ret_bool ?_, _, rfl⟩
   exact yy21
 have e1 : (((xs.length : Nat) : Int) != ((ys.length : Nat) : Int)) = true := by simp; omega
 have hL := hid hl
 clear hl
 go_enter func108, ntmps108
 exact yy39
theorem kDl (A B : OA) (xs ys : List Bool) (c d : Nat) (S T : Nat → Prop) (w : World) (ha : Ty.bool.els w S A xs) (hb : Ty.bool.els w T B ys) (h1 : xs.length ≤ 140737488351232) (h2 : ys.length ≤ 140737488351232) :
    Calls prog 110 #[.slice A xs.length c, .slice B ys.length d] w fun e w' => e = .returned (.bool (decide (xs = ys))) ∧ ∃ n, w' = w.drewN n := by
 by_cases hl : xs.length = ys.length
 · have e1 : (((xs.length : Nat) : Int) != ((ys.length : Nat) : Int)) = false := by simp [hl]
   have hL := hid hl
   have hl1 : xs.length ≤ ys.length := om
   clear hl
   go_enter func110, ntmps110
   go_wp2
   go_loopw [13] (fun i wr => ∃ k m : Nat, k ≤ xs.length ∧ i = .int .i64 k ∧ wr = w.drewN m ∧ xs.take k = ys.take k) (fun i _ => xs.length - (intOf i).toNat)
   case atStart => exact ⟨0, 0, by omega, rfl, rfl, by simp⟩
   obtain ⟨k, m, hk, rfl, rfl, hq⟩ := hrel
   have HQ := hid hq
   clear hq e1
   by_cases hlt : k < xs.length
   · exact yy12
   go_wp2
   go_ret
   refine ⟨ret_bool ?_, _, rfl⟩
   exact yy21
 have e1 : (((xs.length : Nat) : Int) != ((ys.length : Nat) : Int)) = true := by simp; omega
 have hL := hid hl
 clear hl
 go_enter func110, ntmps110
 exact yy39
def tPv : Ty (Vl × Vl) := tVl.pair tVl
instance : TyOk tPv := by unfold tPv; infer_instance
instance : TyMore tPv := by unfold tPv; infer_instance
instance : kAG tPv := by unfold tPv; infer_instance
instance : kAh tPv := by unfold tPv; infer_instance
theorem elPv : ElemOk prog 327 328 4 32 (.agg #[.int .i64 0, .int .u64 0, .int .i64 0, .int .u64 0]) := ElemOk.mk' underlying327 kr rfl dc
theorem kIB {w : World} {S : Nat → Prop} {cs : LV} {p : Vl × Vl} (h : tPv.rd w S cs p) : cs = [.int .i64 p.1.t, .int .u64 p.1.n, .int .i64 p.2.t, .int .u64 p.2.n] := by
 obtain ⟨c1, c2, rfl, h1, h2⟩ := h
 obtain ⟨rfl, _⟩ := kHt h1
 obtain ⟨rfl, _⟩ := kHt h2
 rfl
def PrTo (l : List (Vl × Vl)) (w : World) (e : Ending) (w' : World) : Prop :=
 ∃ (A : OA) (c : Nat), e = .returned (.slice A l.length c) ∧ tPv.els w' (· < w'.heap.size) A l ∧ Fr No w w'
theorem kES (A B : OA) (xs ys : List Vl) (n c d : Nat) (S T : Nat → Prop) (w : World) (ha : tVl.els w S A xs) (hb : tVl.els w T B ys) (hS : Lt S w) (hT : Lt T w) (hx : Hid (xs.length = n)) (hy : Hid (ys.length = n)) (hn : n ≤ 1048576) :
    Calls prog 185 #[.slice A n c, .slice B n d] w (PrTo (xs.zip ys) w) := by
 have HA := hid ha
 have HB := hid hb
 clear ha hb
 go_enter func185, ntmps185
 go_wp2_with fail
 go_loopw [5, 12] (fun v i wr => ∃ (k : Nat), k ≤ n ∧ i = .int .i64 k ∧ Hid (tPv.row wr w.heap.size Emp 328 v ((xs.zip ys).take k)) ∧ Hid (Fr No w wr)) (fun _ i _ => n - (intOf i).toNat)
 case atStart => exact ⟨0, by omega, rfl, Ty.row.nil _ _ _ _, Fr.refl _ _⟩
 obtain ⟨k, hk, rfl, I, F⟩ := hrel
 by_cases hlt : k < n
 · have hkx : k < xs.length := by rw [hx.o]; exact hlt
   have hky : k < ys.length := by rw [hy.o]; exact hlt
   have hkz : k < (xs.zip ys).length := by rw [List.length_zip]; omega
   obtain ⟨b, o, rfl, hbS, c1, c2, w1, w2⟩ := kID HA.o k hkx
   obtain ⟨b', o', rfl, hbT, c3, c4, w3, w4⟩ := kID HB.o k hky
   have HX : Hid (∀ X, Fr No w X → Ce X b (o + k * 2) (.int .i64 xs[k].t) ∧ Ce X b (o + k * 2 + 1) (.int .u64 xs[k].n) ∧ Ce X b' (o' + k * 2) (.int .i64 ys[k].t) ∧ Ce X b' (o' + k * 2 + 1) (.int .u64 ys[k].n)) := fun X f =>
    ⟨(f.cell (p := ⟨b, o + k * 2, none⟩) (hS b hbS) id).trans c1, (f.cell (p := ⟨b, o + k * 2 + 1, none⟩) (hS b hbS) id).trans c2, (f.cell (p := ⟨b', o' + k * 2, none⟩) (hT b' hbT) id).trans c3, (f.cell (p := ⟨b', o' + k * 2 + 1, none⟩) (hT b' hbT) id).trans c4⟩
   have RX : Hid (∀ (X : World) (S' : Nat → Prop), tPv.rd X S' [.int .i64 xs[k].t, .int .u64 xs[k].n, .int .i64 ys[k].t, .int .u64 ys[k].n] (xs[k], ys[k])) := fun X S' => ⟨_, _, rfl, kKU w1 w2, kKU w3 w4⟩
   have HZ : Hid ((xs.zip ys)[k] = (xs[k], ys[k])) := List.getElem_zip
   obtain ⟨x, hxx⟩ : ∃ x, x = xs[k] := ⟨_, rfl⟩
   obtain ⟨y, hyy⟩ : ∃ y, y = ys[k] := ⟨_, rfl⟩
   rw [← hxx, ← hyy] at HX RX HZ
   have i0 := nki k
   have i1 : (k : Int) < n := om
   clear c1 c2 c3 c4 w1 w2 w3 w4 hxx hyy
   go_wp2_with fail
   refine rwO (fun X => Ce X b (o + k * 2) (.int .i64 x.t) ∧ Ce X b (o + k * 2 + 1) (.int .u64 x.n) ∧ Ce X b' (o' + k * 2) (.int .i64 y.t) ∧ Ce X b' (o' + k * 2 + 1) (.int .u64 y.n)) [] (List.range 13) [10, 11] (HX.o _ F.o.drew) ?_
   refine rC ?_
   refine wpO_eff rfl rfl fun K hK => sz ?_
   have F3 := hid (((Fr.refl No wr).alloc (.cells #[.int .i64 x.t, .int .u64 x.n, .int .i64 y.t, .int .u64 y.n] 328)).drew)
   have G3 := hid (Blk.drew (Blk.new wr 328 #[.int .i64 x.t, .int .u64 x.n, .int .i64 y.t, .int .u64 y.n]))
   refine hK _ _ (fun _ => HX.o _ (F.o.trans F3.o i3)) ?_
   clear hK K
   generalize (wr.alloc (.cells #[.int .i64 x.t, .int .u64 x.n, .int .i64 y.t, .int .u64 y.n] 328)).drew = w3 at *
   have I3 := hid (I.o.fr F3.o (fun _ h => h.elim) (fun _ _ x => x))
   have F4 := ftr F F3.o
   refine rC ?_
   refine wpO_eff rfl rfl (fun K hK => ?_)
   simp only [zA]
   have hlk : ((xs.zip ys).take k).length = k := by rw [List.length_take]; omega
   refine kAs (t := tPv) (P := prog) (base := w.heap.size) (S := Emp) (v := u5) (xs := (xs.zip ys).take k) (ys := [(x, y)]) (dss := [[.int .i64 x.t, .int .u64 x.n, .int .i64 y.t, .int .u64 y.n]]) (B2 := w3.heap.size) elPv rfl rfl rfl I3.o (Css.one (RX.o _ _)) (Rd.blk G3.o G3.o.lt 0 (fun k u hu => by rw [Nat.zero_add]; simpa using hu)) rfl (by rw [hlk]; omega) (by rw [hlk]; omega) (fun _ h => h.elim) F4.o.size ?_
   intro v1 w5 hr5 f5 hv5
   have F5 : Hid (Fr No w w5) := F4.o.trans f5 (fun k hk e => by have := (I3.o.own e.symm).1; omega)
   have R5 : Hid (tPv.row w5 w.heap.size Emp 328 v1 ((xs.zip ys).take (k + 1))) := by
    rw [List.take_succ_eq_append_getElem hkz, HZ.o]; exact hr5
   refine hK _ _ (fun _ => HX.o _ F5.o) ?_
   clear hK K hr5 f5 hv5 hlk
   simp only [zC, Act.put]
   refine rC ?_
   refine wpO_nil ?_
   go_wp2
   go_roundw
   case rel => exact ⟨k + 1, by omega, by go_num, R5.o, F5.o⟩
   simp [intOf]; omega
 have hkn : k = n := om
 subst hkn
 have hlz : (xs.zip ys).length = k := by rw [List.length_zip, hx.o, hy.o]; omega
 have I := I.o
 rw [List.take_of_length_le (by omega)] at I
 obtain ⟨A1, c1, e, _, _, h1⟩ := I.els (S' := (· < wr.heap.size)) (fun _ h => h.elim) (fun k hk => by obtain ⟨_, _, h⟩ := I.own hk; exact h.lt)
 subst e
 have H1 := hid h1
 clear h1 I hlz
 go_wp2
 go_ret
 exact ⟨A1, c1, rfl, H1.o, F.o⟩
def difB (l : List (Vl × Vl)) : Bool := l.any fun p => decide (p.1 ≠ p.2)
theorem kDx : ∀ {xs ys : List Vl}, xs.length = ys.length → difB (xs.zip ys) = !decide (xs = ys)
 | [], [], _ => rfl
 | x :: xs, y :: ys, h => by
  have ih := kDx (xs := xs) (ys := ys) (by simpa using h)
  simp only [difB, List.zip_cons_cons, List.any_cons] at ih ⊢
  rw [ih]
  by_cases hx : x = y <;> simp [hx]
theorem kIR (p : Vl × Vl) (w : World) : Calls prog 186 #[.agg #[.int .i64 p.1.t, .int .u64 p.1.n, .int .i64 p.2.t, .int .u64 p.2.n]] w fun e w' => e = .returned (.bool (decide (p.1 ≠ p.2))) ∧ Fr No w w' := by
 obtain ⟨⟨a, b⟩, c, d⟩ := p
 have F0 := hid ((Fr.refl No w).alloc (.cells #[.int .i64 a, .int .u64 b, .int .i64 c, .int .u64 d] 328))
 have hE : decide ((⟨a, b⟩ : Vl) ≠ ⟨c, d⟩) = !(a == c && (b == d && true)) := by
  by_cases h : a = c <;> by_cases h' : b = d <;> simp [h, h']
 have HE := hid hE
 have hrun := fun X => kEi a b c d X
 clear hE
 go_enter func186, ntmps186
 go_wp2
 go_ret
 refine ⟨rt_bool ?_, F0.o⟩
 rw [HE.o]
 cases (a == c) <;> cases (b == d) <;> rfl
def kJM (l : List (Vl × Vl)) (w : World) (e : Ending) (w' : World) : Prop := ∃ r : Int, e = .returned (.int .i64 r) ∧ Hid (decide (0 ≤ r) = difB l) ∧ Fr No w w'
theorem kFe (A : OA) (c : Nat) (l : List (Vl × Vl)) (S : Nat → Prop) (w : World) (h : tPv.els w S A l) (hS : Lt S w) (hl : l.length ≤ 1048576) :
    Calls prog 200 #[.slice A l.length c, .func (.func 186) #[] #[]] w (kJM l w) := by
 have H := hid h
 clear h
 go_enter func200, ntmps200
 go_wp2_with fail
 go_loopw [8] (fun i wr => ∃ (k : Nat), k ≤ l.length ∧ i = .int .i64 k ∧ Hid (difB (l.take k) = false) ∧ Hid (Fr No w wr)) (fun i _ => l.length - (intOf i).toNat)
 case atStart => exact ⟨0, by omega, rfl, rfl, Fr.refl _ _⟩
 obtain ⟨k, hk, rfl, D, F⟩ := hrel
 by_cases hlt : k < l.length
 · obtain ⟨b, o, ds, rfl, hb, hc, hr⟩ := (H.o.fr F.o (fun k hk => ⟨hS k hk, fun x => x⟩)).at_ k hlt
   have e := kIB hr
   subst e
   have e : tPv.size = 4 := rfl
   rw [e] at hc
   have c0 : wr.cell? ⟨b, o + k * 4, none⟩ = some (.int .i64 l[k].1.t) := hc 0 _ rfl
   have c1 : wr.cell? ⟨b, o + k * 4 + 1, none⟩ = some (.int .u64 l[k].1.n) := hc 1 _ rfl
   have c2 : wr.cell? ⟨b, o + k * 4 + 2, none⟩ = some (.int .i64 l[k].2.t) := hc 2 _ rfl
   have c3 : wr.cell? ⟨b, o + k * 4 + 3, none⟩ = some (.int .u64 l[k].2.n) := hc 3 _ rfl
   have hbl : b < wr.heap.size := ltl (hS b hb) F.o.size
   have HD : Hid (difB (l.take (k + 1)) = decide (l[k].1 ≠ l[k].2)) := by
    have := D.o
    unfold Hid difB at *
    rw [List.take_succ_eq_append_getElem hlt, List.any_append, this]
    simp
   have HDY : Hid (decide (l[k].1 ≠ l[k].2) = true → difB l = true) := fun h => by
    unfold difB
    rw [List.any_eq_true]
    exact ⟨l[k], List.getElem_mem hlt, h⟩
   obtain ⟨p, hp⟩ : ∃ p, p = l[k] := ⟨_, rfl⟩
   rw [← hp] at c0 c1 c2 c3 HD HDY
   have i0 := nki k
   have i1 : (k : Int) < l.length := om
   clear hc hr e hp
   obtain ⟨q, hq⟩ : ∃ q, q = decide (p.1 ≠ p.2) := ⟨_, rfl⟩
   have HV := hid (kIR p)
   rw [← hq] at HV HD HDY
   clear hq
   go_wp2_with fail
   refine (HV.o _).mono ?_
   rintro e w1 ⟨rfl, f1⟩
   have F1 := ftr F f1
   clear f1 c0 c1 c2 c3
   cases q with
   | true =>
    go_wp2
    go_ret
    refine ⟨k, rfl, ?_, F1.o⟩
    unfold Hid
    rw [HDY.o trivial, decide_eq_true_eq]
    omega
   | false =>
    go_wp2
    go_roundw
    case rel => exact ⟨k + 1, by omega, by go_num, HD.o, F1.o⟩
    case measure => simp [intOf]; omega
 go_wp2
 go_ret
 refine ⟨-1, rfl, ?_, F.o⟩
 have := D.o
 rw [List.take_of_length_le (by omega)] at this
 unfold Hid
 rw [this]
 decide
theorem kEU (A : OA) (c : Nat) (l : List (Vl × Vl)) (S : Nat → Prop) (w : World) (h : tPv.els w S A l) (hS : Lt S w) (hl : l.length ≤ 1048576) :
    Calls prog 184 #[.slice A l.length c, .func (.func 186) #[] #[]] w fun e w' => e = .returned (.bool (difB l)) ∧ Fr No w w' := by
 have H := hid (kFe A c l S w h hS hl)
 clear h
 go_enter func184, ntmps184
 go_wp2_with fail
 refine H.o.mono ?_
 rintro e w1 ⟨r, rfl, hr, f1⟩
 have F1 := hid f1; clear f1
 go_wp2
 go_ret
 exact ⟨rt_bool hr.o, F1.o⟩
theorem kDk (A B : OA) (xs ys : List Vl) (c d : Nat) (S T : Nat → Prop) (w : World) (ha : tVl.els w S A xs) (hb : tVl.els w T B ys) (hS : Lt S w) (hT : Lt T w) (h1 : xs.length ≤ 1048576) :
    Calls prog 109 #[.slice A xs.length c, .slice B ys.length d] w fun e w' => e = .returned (.bool (decide (xs = ys))) ∧ Fr No w w' := by
 by_cases hl : xs.length = ys.length
 · have HP := hid (kES A B xs ys xs.length c d S T w ha hb hS hT rfl hl.symm h1)
   have HZ : Hid ((!difB (xs.zip ys)) = decide (xs = ys)) := by unfold Hid; rw [kDx hl]; simp
   have HLZ : Hid ((xs.zip ys).length ≤ 1048576) := by rw [Hid, List.length_zip]; omega
   rw [← hl]
   obtain ⟨zs, hzs⟩ : ∃ zs, zs = xs.zip ys := ⟨_, rfl⟩
   rw [← hzs] at HP HZ HLZ
   clear hl ha hb hzs
   go_enter func109, ntmps109
   go_wp2_with (first
    | (go_at_call 185; refine HP.o.mono ?_; rintro e w1 ⟨A1, c1, rfl, h1, f1⟩; have H1 := hid h1; have F1 := hid f1; clear f1 h1)
    | (go_at_call 184; (refine (kEU A1 c1 zs (· < w1.heap.size) w1 H1.o i2 HLZ.o).mono ?_; rintro e w2 ⟨rfl, f2⟩; have F2 := hid f2; clear f2)))
   go_ret
   exact ⟨rt_bool HZ.o, F1.o.trans F2.o i3⟩
 have e1 : (((xs.length : Nat) : Int) == ((ys.length : Nat) : Int)) = false := by simp; omega
 have hne : decide (xs = ys) = false := by rw [decide_eq_false_iff_not]; rintro rfl; exact hl rfl
 rw [hne]
 clear ha hb hl hne
 go_enter func109, ntmps109
 go_wp2
 go_ret
 exact ⟨rfl, Fr.refl _ _⟩
instance : DecidableEq Ca := fun a b =>
 if h : a.host = b.host ∧ a.args = b.args then isTrue (by cases a; cases b; obtain ⟨h1, h2⟩ := h; simp only at h1 h2; subst h1; subst h2; rfl)
 else isFalse (fun e => h ⟨congrArg Ca.host e, congrArg Ca.args e⟩)
theorem kEc {α : Type} {t : Ty α} [TyOk t] [TyMore t] {w : World} {S : Nat → Prop} {A : OA} {l : List (List α)} (h : t.slice.els w S A l) (i : Nat) (hi : i < l.length) :
    ∃ (b o : Nat) (A1 : OA) (c1 : Nat), A = some ⟨b, o, none⟩ ∧ S b ∧ w.cell? ⟨b, o + i, none⟩ = some (.slice A1 l[i].length c1) ∧ t.els w S A1 l[i] := by
 obtain ⟨b, o, ds, rfl, hb, hc, hr⟩ := h.at_ i hi
 obtain ⟨A1, c1, rfl, h1, h2, h3⟩ := hr
 have e : (Ty.slice t).size = 1 := rfl
 rw [e, Nat.mul_one] at hc
 exact ⟨b, o, A1, c1, rfl, hb, hc 0 _ rfl, h3⟩
theorem kIU (x y : Ca) (A B : OA) (c d : Nat) (S T : Nat → Prop) (w : World) (ha : tVl.els w S A x.args) (hb : tVl.els w T B y.args) (hS : Lt S w) (hT : Lt T w) (h1 : x.args.length ≤ 1048576) :
    Calls prog 112 #[.agg #[.int .i64 x.host, .slice A x.args.length c], .agg #[.int .i64 y.host, .slice B y.args.length d]] w fun e w' => e = .returned (.bool (decide (x = y))) ∧ Fr No w w' := by
 obtain ⟨hx, ax⟩ := x
 obtain ⟨hy, ay⟩ := y
 dsimp only at ha hb h1 ⊢
 have F0 := hid (((Fr.refl No w).alloc (.cells #[.int .i64 hx, .slice A ax.length c] 113)).alloc (.cells #[.int .i64 hy, .slice B ay.length d] 113))
 by_cases h : hx = hy
 · subst h
   have HE : Hid (decide (ax = ay) = decide ((⟨hx, ax⟩ : Ca) = ⟨hx, ay⟩)) := by unfold Hid; simp
   have HVS := hid (kDk A B ax ay c d S T _ (ha.fr F0.o (fun k hk => ⟨hS k hk, fun x => x⟩)) (hb.fr F0.o (fun k hk => ⟨hT k hk, fun x => x⟩)) (fun k hk => ltl (hS k hk) F0.o.size) (fun k hk => ltl (hT k hk) F0.o.size) h1)
   clear ha hb
   go_enter func112, ntmps112
   go_wp2_with (go_at_call 109; refine HVS.o.mono ?_; rintro e w1 ⟨rfl, f1⟩; have F1 := hid f1; clear f1)
   go_ret
   exact ⟨rt_bool HE.o, F0.o.trans F1.o i3⟩
 have e1 : (hx == hy) = false := by simp [h]
 have HE : Hid (false = decide ((⟨hx, ax⟩ : Ca) = ⟨hy, ay⟩)) := by unfold Hid; symm; rw [decide_eq_false_iff_not]; intro e; exact h (congrArg Ca.host e)
 clear ha hb h
 go_enter func112, ntmps112
 go_wp2
 go_ret
 exact ⟨rt_bool HE.o, F0.o⟩
theorem kHS (A B : OA) (xs ys : List (List Int)) (c d : Nat) (S T : Nat → Prop) (w : World) (ha : (tB.slice).els w S A xs) (hb : (tB.slice).els w T B ys) (hS : Lt S w) (hT : Lt T w) (h1 : xs.length ≤ 1048576) (hbd : ∀ c ∈ xs, c.length ≤ 1048576) :
    Calls prog 105 #[.slice A xs.length c, .slice B ys.length d, .func (.func 106) #[] #[]] w fun e w' => e = .returned (.bool (decide (xs = ys))) ∧ Fr No w w' := by
 by_cases hl : xs.length = ys.length
 · have e1 : (((xs.length : Nat) : Int) != ((ys.length : Nat) : Int)) = false := by simp [hl]
   have HA := hid ha
   have HB := hid hb
   have hL := hid hl
   clear ha hb
   go_enter func105, ntmps105
   go_wp2
   go_loopw [17] (fun i wr => ∃ k : Nat, k ≤ xs.length ∧ i = .int .i64 k ∧ Hid (xs.take k = ys.take k) ∧ Hid (Fr No w wr)) (fun i _ => xs.length - (intOf i).toNat)
   case atStart => exact ⟨0, by omega, rfl, by simp [Hid], Fr.refl _ _⟩
   case round =>
   obtain ⟨k, hk, rfl, HQ, F⟩ := hrel
   clear e1
   by_cases hlt : k < xs.length
   · have hkx : k < xs.length := hlt
     have hky : k < ys.length := om
     obtain ⟨b, o, A1, c1, rfl, hbS, k1, e1⟩ := kEc HA.o k hkx
     obtain ⟨b', o', B1, d1, rfl, hbT, k3, e2⟩ := kEc HB.o k hky
     have hbx := hbd xs[k] (List.getElem_mem hkx)
     have k1 := (F.o.cell (p := ⟨b, o + k, none⟩) (hS b hbS) id).trans k1
     have k3 := (F.o.cell (p := ⟨b', o' + k, none⟩) (hT b' hbT) id).trans k3
     have E1 := hid (e1.fr F.o (fun k hk => ⟨hS k hk, fun x => x⟩))
     have E2 := hid (e2.fr F.o (fun k hk => ⟨hT k hk, fun x => x⟩))
     have HS : Hid (Lt S wr) := fun k hk => ltl (hS k hk) F.o.size
     have HT : Hid (Lt T wr) := fun k hk => ltl (hT k hk) F.o.size
     have HX : Hid (xs.take (k + 1) = xs.take k ++ [xs[k]]) := List.take_succ_eq_append_getElem hkx
     have HY : Hid (ys.take (k + 1) = ys.take k ++ [ys[k]]) := List.take_succ_eq_append_getElem hky
     have HNE : Hid (xs[k] ≠ ys[k] → xs ≠ ys) := by rintro h rfl; exact h rfl
     obtain ⟨x, hxx⟩ : ∃ x, x = xs[k] := ⟨_, rfl⟩
     obtain ⟨y, hyy⟩ : ∃ y, y = ys[k] := ⟨_, rfl⟩
     simp only [← hxx, ← hyy] at *
     have i0 := nki k
     have i1 : (k : Int) < xs.length := om
     have i2 : (k : Int) < ys.length := om
     have HC := hid (kIX A1 B1 x y c1 d1 S T wr E1.o E2.o)
     clear e1 e2 hxx hyy hl
     go_wp2_with fail
     refine HC.o.mono ?_
     rintro e w1 ⟨rfl, m, rfl⟩
     have F1 := hid (F.o.drewN m)
     exact yy20
   go_wp2
   go_ret
   refine ⟨ret_bool ?_, F.o⟩
   exact yy21
 have e1 : (((xs.length : Nat) : Int) != ((ys.length : Nat) : Int)) = true := by simp; omega
 have hL := hid hl
 clear hl ha hb
 go_enter func105, ntmps105
 go_wp2
 go_ret
 refine ⟨ret_bool ?_, Fr.refl _ _⟩
 exact yy42
theorem kHC (A B : OA) (xs ys : List (List Int)) (c d : Nat) (S T : Nat → Prop) (w : World) (ha : (tU.slice).els w S A xs) (hb : (tU.slice).els w T B ys) (hS : Lt S w) (hT : Lt T w) (h1 : xs.length ≤ 1048576) (hbd : ∀ c ∈ xs, c.length ≤ 1048576) (hbe : ∀ c ∈ ys, c.length ≤ 1048576) :
    Calls prog 107 #[.slice A xs.length c, .slice B ys.length d, .func (.func 108) #[] #[]] w fun e w' => e = .returned (.bool (decide (xs = ys))) ∧ Fr No w w' := by
 by_cases hl : xs.length = ys.length
 · have e1 : (((xs.length : Nat) : Int) != ((ys.length : Nat) : Int)) = false := by simp [hl]
   have HA := hid ha
   have HB := hid hb
   have hL := hid hl
   clear ha hb
   go_enter func107, ntmps107
   go_wp2
   go_loopw [17] (fun i wr => ∃ k : Nat, k ≤ xs.length ∧ i = .int .i64 k ∧ Hid (xs.take k = ys.take k) ∧ Hid (Fr No w wr)) (fun i _ => xs.length - (intOf i).toNat)
   case atStart => exact ⟨0, by omega, rfl, by simp [Hid], Fr.refl _ _⟩
   case round =>
   obtain ⟨k, hk, rfl, HQ, F⟩ := hrel
   clear e1
   by_cases hlt : k < xs.length
   · have hkx : k < xs.length := hlt
     have hky : k < ys.length := om
     obtain ⟨b, o, A1, c1, rfl, hbS, k1, e1⟩ := kEc HA.o k hkx
     obtain ⟨b', o', B1, d1, rfl, hbT, k3, e2⟩ := kEc HB.o k hky
     have hbx := hbd xs[k] (List.getElem_mem hkx)
     have k1 := (F.o.cell (p := ⟨b, o + k, none⟩) (hS b hbS) id).trans k1
     have k3 := (F.o.cell (p := ⟨b', o' + k, none⟩) (hT b' hbT) id).trans k3
     have hby := hbe ys[k] (List.getElem_mem hky)
     have E1 := hid (e1.fr F.o (fun k hk => ⟨hS k hk, fun x => x⟩))
     have E2 := hid (e2.fr F.o (fun k hk => ⟨hT k hk, fun x => x⟩))
     have HS : Hid (Lt S wr) := fun k hk => ltl (hS k hk) F.o.size
     have HT : Hid (Lt T wr) := fun k hk => ltl (hT k hk) F.o.size
     have HX : Hid (xs.take (k + 1) = xs.take k ++ [xs[k]]) := List.take_succ_eq_append_getElem hkx
     have HY : Hid (ys.take (k + 1) = ys.take k ++ [ys[k]]) := List.take_succ_eq_append_getElem hky
     have HNE : Hid (xs[k] ≠ ys[k] → xs ≠ ys) := by rintro h rfl; exact h rfl
     obtain ⟨x, hxx⟩ : ∃ x, x = xs[k] := ⟨_, rfl⟩
     obtain ⟨y, hyy⟩ : ∃ y, y = ys[k] := ⟨_, rfl⟩
     simp only [← hxx, ← hyy] at *
     have i0 := nki k
     have i1 : (k : Int) < xs.length := om
     have i2 : (k : Int) < ys.length := om
     have HC := hid (kGR A1 B1 x y c1 d1 S T wr E1.o E2.o om om)
     clear e1 e2 hxx hyy hl
     go_wp2_with fail
     refine HC.o.mono ?_
     rintro e w1 ⟨rfl, m, rfl⟩
     have F1 := hid (F.o.drewN m)
     exact yy20
   go_wp2
   go_ret
   refine ⟨ret_bool ?_, F.o⟩
   exact yy21
 have e1 : (((xs.length : Nat) : Int) != ((ys.length : Nat) : Int)) = true := by simp; omega
 have hL := hid hl
 clear hl ha hb
 go_enter func107, ntmps107
 go_wp2
 go_ret
 refine ⟨ret_bool ?_, Fr.refl _ _⟩
 exact yy42
theorem kHN (A B : OA) (xs ys : List (Ca)) (c d : Nat) (S T : Nat → Prop) (w : World) (ha : (tCa).els w S A xs) (hb : (tCa).els w T B ys) (hS : Lt S w) (hT : Lt T w) (h1 : xs.length ≤ 1048576) (hbd : ∀ c ∈ xs, c.args.length ≤ 1048576) :
    Calls prog 111 #[.slice A xs.length c, .slice B ys.length d, .func (.func 112) #[] #[]] w fun e w' => e = .returned (.bool (decide (xs = ys))) ∧ Fr No w w' := by
 by_cases hl : xs.length = ys.length
 · have e1 : (((xs.length : Nat) : Int) != ((ys.length : Nat) : Int)) = false := by simp [hl]
   have HA := hid ha
   have HB := hid hb
   have hL := hid hl
   clear ha hb
   go_enter func111, ntmps111
   go_wp2
   go_loopw [17] (fun i wr => ∃ k : Nat, k ≤ xs.length ∧ i = .int .i64 k ∧ Hid (xs.take k = ys.take k) ∧ Hid (Fr No w wr)) (fun i _ => xs.length - (intOf i).toNat)
   case atStart => exact ⟨0, by omega, rfl, by simp [Hid], Fr.refl _ _⟩
   case round =>
   obtain ⟨k, hk, rfl, HQ, F⟩ := hrel
   clear e1
   by_cases hlt : k < xs.length
   · have hkx : k < xs.length := hlt
     have hky : k < ys.length := om
     obtain ⟨b, o, A1, c1, rfl, hbS, k1, k2, -, -, -, e1⟩ := kKa HA.o k hkx
     obtain ⟨b', o', B1, d1, rfl, hbT, k3, k4, -, -, -, e2⟩ := kKa HB.o k hky
     have hbx := hbd xs[k] (List.getElem_mem hkx)
     have k1 := (F.o.cell (p := ⟨b, o + k * 2, none⟩) (hS b hbS) id).trans k1
     have k2 := (F.o.cell (p := ⟨b, o + k * 2 + 1, none⟩) (hS b hbS) id).trans k2
     have k3 := (F.o.cell (p := ⟨b', o' + k * 2, none⟩) (hT b' hbT) id).trans k3
     have k4 := (F.o.cell (p := ⟨b', o' + k * 2 + 1, none⟩) (hT b' hbT) id).trans k4
     have E1 := hid (e1.fr F.o (fun k hk => ⟨hS k hk, fun x => x⟩))
     have E2 := hid (e2.fr F.o (fun k hk => ⟨hT k hk, fun x => x⟩))
     have HS : Hid (Lt S wr) := fun k hk => ltl (hS k hk) F.o.size
     have HT : Hid (Lt T wr) := fun k hk => ltl (hT k hk) F.o.size
     have HX : Hid (xs.take (k + 1) = xs.take k ++ [xs[k]]) := List.take_succ_eq_append_getElem hkx
     have HY : Hid (ys.take (k + 1) = ys.take k ++ [ys[k]]) := List.take_succ_eq_append_getElem hky
     have HNE : Hid (xs[k] ≠ ys[k] → xs ≠ ys) := by rintro h rfl; exact h rfl
     obtain ⟨x, hxx⟩ : ∃ x, x = xs[k] := ⟨_, rfl⟩
     obtain ⟨y, hyy⟩ : ∃ y, y = ys[k] := ⟨_, rfl⟩
     simp only [← hxx, ← hyy] at *
     have i0 := nki k
     have i1 : (k : Int) < xs.length := om
     have i2 : (k : Int) < ys.length := om
     have k3 := ((Fr.refl No wr).alloc (.cells #[.int .i64 x.host, .slice A1 x.args.length c1] 113)).cell (p := ⟨b', o' + k * 2, none⟩) (HT.o b' hbT) id |>.trans k3
     have k4 := ((Fr.refl No wr).alloc (.cells #[.int .i64 x.host, .slice A1 x.args.length c1] 113)).cell (p := ⟨b', o' + k * 2 + 1, none⟩) (HT.o b' hbT) id |>.trans k4
     have FB := hid (((Fr.refl No wr).alloc (.cells #[.int .i64 x.host, .slice A1 x.args.length c1] 113)).alloc (.cells #[.int .i64 y.host, .slice B1 y.args.length d1] 113))
     have HBB : Hid (b' < wr.heap.size) := HT.o b' hbT
     have HC := hid (kIU x y A1 B1 c1 d1 S T _ (E1.o.fr FB.o (fun k hk => ⟨HS.o k hk, fun x => x⟩)) (E2.o.fr FB.o (fun k hk => ⟨HT.o k hk, fun x => x⟩)) (fun k hk => ltl (HS.o k hk) FB.o.size) (fun k hk => ltl (HT.o k hk) FB.o.size) hbx)
     clear e1 e2 hxx hyy hl
     go_wp2_with fail
     refine HC.o.mono ?_
     rintro e w1 ⟨rfl, f1⟩
     have F1 := hid ((F.o.trans FB.o i3).trans f1 i3)
     clear f1 FB k3 k4
     exact yy20
   go_wp2
   go_ret
   refine ⟨ret_bool ?_, F.o⟩
   exact yy21
 have e1 : (((xs.length : Nat) : Int) != ((ys.length : Nat) : Int)) = true := by simp; omega
 have hL := hid hl
 clear hl ha hb
 go_enter func111, ntmps111
 go_wp2
 go_ret
 refine ⟨ret_bool ?_, Fr.refl _ _⟩
 exact yy42
theorem blk6 {w : World} {p : Nat} {t : TypeId} {v0 v1 v2 v3 v4 v5 : Value} (h : Blk w p t #[v0, v1, v2, v3, v4, v5]) : ∀ X, Fr No w X → Ce X p 0 v0 ∧ Ce X p 1 v1 ∧ Ce X p 2 v2 ∧ Ce X p 3 v3 ∧ Ce X p 4 v4 ∧ Ce X p 5 v5 := fun X f =>
 ⟨(h.fr f id).cell 0, (h.fr f id).cell 1, (h.fr f id).cell 2, (h.fr f id).cell 3, (h.fr f id).cell 4, (h.fr f id).cell 5⟩
def shEq (a b : Sh) : Bool := decide (a.mems = b.mems ∧ a.tables = b.tables ∧ a.globals = b.globals ∧ a.elems = b.elems ∧ a.datas = b.datas ∧ a.calls = b.calls)
theorem kKh (a : Sh) : shEq a a = true := by simp [shEq]
theorem kOh {a b : Sh} (h : false = decide (a.mems = b.mems)) : false = shEq a b := by symm at h ⊢; rw [decide_eq_false_iff_not] at h; rw [shEq, decide_eq_false_iff_not]; exact fun k => h k.1
theorem kOg {a b : Sh} (h : false = decide (a.tables = b.tables)) : false = shEq a b := by symm at h ⊢; rw [decide_eq_false_iff_not] at h; rw [shEq, decide_eq_false_iff_not]; exact fun k => h k.2.1
theorem kOf {a b : Sh} (h : false = decide (a.globals = b.globals)) : false = shEq a b := by symm at h ⊢; rw [decide_eq_false_iff_not] at h; rw [shEq, decide_eq_false_iff_not]; exact fun k => h k.2.2.1
theorem kOe {a b : Sh} (h : false = decide (a.elems = b.elems)) : false = shEq a b := by symm at h ⊢; rw [decide_eq_false_iff_not] at h; rw [shEq, decide_eq_false_iff_not]; exact fun k => h k.2.2.2.1
theorem kOd {a b : Sh} (h : false = decide (a.datas = b.datas)) : false = shEq a b := by symm at h ⊢; rw [decide_eq_false_iff_not] at h; rw [shEq, decide_eq_false_iff_not]; exact fun k => h k.2.2.2.2.1
theorem kJD {a b : Sh} (h1 : true = decide (a.mems = b.mems)) (h2 : true = decide (a.tables = b.tables)) (h3 : true = decide (a.globals = b.globals)) (h4 : true = decide (a.elems = b.elems)) (h5 : true = decide (a.datas = b.datas)) : decide (a.calls = b.calls) = shEq a b := by
 have h1 := of_decide_eq_true h1.symm
 have h2 := of_decide_eq_true h2.symm
 have h3 := of_decide_eq_true h3.symm
 have h4 := of_decide_eq_true h4.symm
 have h5 := of_decide_eq_true h5.symm
 simp [shEq, h1, h2, h3, h4, h5]
structure ShLe (a : Sh) : Prop where
 m : a.mems.length ≤ 1048576
 t : a.tables.length ≤ 1048576
 g : a.globals.length ≤ 1048576
 e : a.elems.length ≤ 1048576
 d : a.datas.length ≤ 1048576
 c : a.calls.length ≤ 1048576
 ms : ∀ x ∈ a.mems, x.length ≤ 1048576
 ts : ∀ x ∈ a.tables, x.length ≤ 1048576
 cs : ∀ x ∈ a.calls, x.args.length ≤ 1048576
abbrev q8x0 (a0 a1 a2 a3 a4 a5 : Option Addr) (a6 : Sh) (a7 a8 a9 a10 a11 a12 : Nat) : Array Value := #[.slice a0 a6.mems.length a7, .slice a1 a6.tables.length a8, .slice a2 a6.globals.length a9, .slice a3 a6.elems.length a10, .slice a4 a6.datas.length a11, .slice a5 a6.calls.length a12]
abbrev q8x1 (a0 a1 a2 a3 a4 a5 : Option Addr) (a6 : Sh) (a7 a8 a9 a10 a11 a12 : Nat) : Array Value := #[.slice a0 a6.mems.length a7, .slice a1 a6.tables.length a8, .slice a2 a6.globals.length a9, .slice a3 a6.elems.length a10, .slice a4 a6.datas.length a11, .slice a5 a6.calls.length a12]
theorem kEb (a b : Sh) (cs ds : LV) (S T : Nat → Prop) (w : World) (ha : tSh.rd w S cs a) (hb : tSh.rd w T ds b) (hS : Lt S w) (hT : Lt T w) (la : ShLe a) (lb : ShLe b) :
    Calls prog 32 #[.agg cs.toArray, .agg ds.toArray] w fun e w' => e = .returned (.bool (shEq a b)) ∧ Fr No w w' := by
 obtain ⟨Ama, cma, Ata, cta, Aga, cga, Aea, cea, Ada, cda, Aca, cca, rfl, -, -, ema, -, -, eta, -, -, ega, -, -, eea, -, -, eda, -, -, eca⟩ := kFL ha
 obtain ⟨Amb, cmb, Atb, ctb, Agb, cgb, Aeb, ceb, Adb, cdb, Acb, ccb, rfl, -, -, emb, -, -, etb, -, -, egb, -, -, eeb, -, -, edb, -, -, ecb⟩ := kFL hb
 have hs : ∀ X, Fr No w X → Lt S X := fun X f k hk => ltl (hS k hk) f.size
 have ht : ∀ X, Fr No w X → Lt T X := fun X f k hk => ltl (hT k hk) f.size
 have H1 := hid (fun X (f : Fr No w X) => kHS Ama Amb a.mems b.mems cma cmb S T X (ema.fr f (fun k hk => ⟨hS k hk, fun x => x⟩)) (emb.fr f (fun k hk => ⟨hT k hk, fun x => x⟩)) (hs X f) (ht X f) la.m la.ms)
 have H2 := hid (fun X (f : Fr No w X) => kHC Ata Atb a.tables b.tables cta ctb S T X (eta.fr f (fun k hk => ⟨hS k hk, fun x => x⟩)) (etb.fr f (fun k hk => ⟨hT k hk, fun x => x⟩)) (hs X f) (ht X f) la.t la.ts lb.ts)
 have H3 := hid (fun X (f : Fr No w X) => kDk Aga Agb a.globals b.globals cga cgb S T X (ega.fr f (fun k hk => ⟨hS k hk, fun x => x⟩)) (egb.fr f (fun k hk => ⟨hT k hk, fun x => x⟩)) (hs X f) (ht X f) la.g)
 have H4 := hid (fun X (f : Fr No w X) => kDl Aea Aeb a.elems b.elems cea ceb S T X (eea.fr f (fun k hk => ⟨hS k hk, fun x => x⟩)) (eeb.fr f (fun k hk => ⟨hT k hk, fun x => x⟩)) (Nat.le_trans la.e dc) (Nat.le_trans lb.e dc))
 have H5 := hid (fun X (f : Fr No w X) => kDl Ada Adb a.datas b.datas cda cdb S T X (eda.fr f (fun k hk => ⟨hS k hk, fun x => x⟩)) (edb.fr f (fun k hk => ⟨hT k hk, fun x => x⟩)) (Nat.le_trans la.d dc) (Nat.le_trans lb.d dc))
 have H6 := hid (fun X (f : Fr No w X) => kHN Aca Acb a.calls b.calls cca ccb S T X (eca.fr f (fun k hk => ⟨hS k hk, fun x => x⟩)) (ecb.fr f (fun k hk => ⟨hT k hk, fun x => x⟩)) (hs X f) (ht X f) la.c la.cs)
 obtain ⟨q1, e1⟩ : ∃ q, q = decide (a.mems = b.mems) := ⟨_, rfl⟩
 obtain ⟨q2, e2⟩ : ∃ q, q = decide (a.tables = b.tables) := ⟨_, rfl⟩
 obtain ⟨q3, e3⟩ : ∃ q, q = decide (a.globals = b.globals) := ⟨_, rfl⟩
 obtain ⟨q4, e4⟩ : ∃ q, q = decide (a.elems = b.elems) := ⟨_, rfl⟩
 obtain ⟨q5, e5⟩ : ∃ q, q = decide (a.datas = b.datas) := ⟨_, rfl⟩
 rw [← e1] at H1
 rw [← e2] at H2
 rw [← e3] at H3
 rw [← e4] at H4
 rw [← e5] at H5
 have E1 := hid e1
 have E2 := hid e2
 have E3 := hid e3
 have E4 := hid e4
 have E5 := hid e5
 have F0 := hid (((Fr.refl No w).alloc (.cells (q8x0 Ama Ata Aga Aea Ada Aca a cma cta cga cea cda cca) 83)).alloc (.cells (q8x1 Amb Atb Agb Aeb Adb Acb b cmb ctb cgb ceb cdb ccb) 83))
 have BX := hid (blk6 ((Blk.new w 83 (q8x0 Ama Ata Aga Aea Ada Aca a cma cta cga cea cda cca)).alloc (.cells (q8x1 Amb Atb Agb Aeb Adb Acb b cmb ctb cgb ceb cdb ccb) 83)))
 have BY := hid (blk6 (Blk.new1 w (.cells (q8x0 Ama Ata Aga Aea Ada Aca a cma cta cga cea cda cca) 83) 83 (q8x1 Amb Atb Agb Aeb Adb Acb b cmb ctb cgb ceb cdb ccb)))
 clear e1 e2 e3 e4 e5 ema eta ega eea eda eca emb etb egb eeb edb ecb hs ht ha hb
 go_enter func32, ntmps32
 go_upto_region 1 with fail
 try simp only [World.size_alloc]
 generalize hW : (w.alloc (.cells (q8x0 Ama Ata Aga Aea Ada Aca a cma cta cga cea cda cca) 83)).alloc (.cells (q8x1 Amb Atb Agb Aeb Adb Acb b cmb ctb cgb ceb cdb ccb) 83) = W at *
 clear hW
 obtain ⟨p, hp⟩ : ∃ p, p = w.heap.size := ⟨_, rfl⟩
 simp only [← hp] at *
 have HP := hid hp
 clear hp
 obtain ⟨z0, z1, z2, z3, z4, z5⟩ := BX.o _ (Fr.refl No W)
 obtain ⟨y0, y1, y2, y3, y4, y5⟩ := BY.o _ (Fr.refl No W)
 go_wp2_with fail
 refine (H1.o _ F0.o).mono ?_
 rintro e w1 ⟨rfl, g1⟩
 have G1 := hid g1
 clear g1
 clear z0 z1 z2 z3 z4 z5 y0 y1 y2 y3 y4 y5
 have F1 := ftr F0 G1.o
 have R1 := hid G1.o
 obtain ⟨z0, z1, z2, z3, z4, z5⟩ := BX.o _ R1.o
 obtain ⟨y0, y1, y2, y3, y4, y5⟩ := BY.o _ R1.o
 cases q1 with
 | false =>
  go_wp2
  go_ret
  exact ⟨rt_bool (kOh E1.o), F1.o⟩
 | true =>
 go_wp2_with fail
 refine (H2.o _ F1.o).mono ?_
 rintro e w2 ⟨rfl, g2⟩
 have G2 := hid g2
 clear g2
 clear z0 z1 z2 z3 z4 z5 y0 y1 y2 y3 y4 y5
 have F2 := ftr F1 G2.o
 have R2 := ftr R1 G2.o
 obtain ⟨z0, z1, z2, z3, z4, z5⟩ := BX.o _ R2.o
 obtain ⟨y0, y1, y2, y3, y4, y5⟩ := BY.o _ R2.o
 cases q2 with
 | false =>
  go_wp2
  go_ret
  exact ⟨rt_bool (kOg E2.o), F2.o⟩
 | true =>
 go_wp2_with fail
 refine (H3.o _ F2.o).mono ?_
 rintro e w3 ⟨rfl, g3⟩
 have G3 := hid g3
 clear g3
 clear z0 z1 z2 z3 z4 z5 y0 y1 y2 y3 y4 y5
 have F3 := ftr F2 G3.o
 have R3 := ftr R2 G3.o
 obtain ⟨z0, z1, z2, z3, z4, z5⟩ := BX.o _ R3.o
 obtain ⟨y0, y1, y2, y3, y4, y5⟩ := BY.o _ R3.o
 cases q3 with
 | false =>
  go_wp2
  go_ret
  exact ⟨rt_bool (kOf E3.o), F3.o⟩
 | true =>
 go_wp2_with fail
 refine (H4.o _ F3.o).mono ?_
 rintro e w4 ⟨rfl, m4, rfl⟩
 have G4 := hid (Fr.drewN (Fr.refl No w3) m4)
 clear z0 z1 z2 z3 z4 z5 y0 y1 y2 y3 y4 y5
 have F4 := ftr F3 G4.o
 have R4 := ftr R3 G4.o
 obtain ⟨w4, hw4⟩ : ∃ X, X = World.drewN w3 m4 := ⟨_, rfl⟩
 rw [← hw4] at G4 F4 R4 ⊢
 clear hw4
 obtain ⟨z0, z1, z2, z3, z4, z5⟩ := BX.o _ R4.o
 obtain ⟨y0, y1, y2, y3, y4, y5⟩ := BY.o _ R4.o
 cases q4 with
 | false =>
  go_wp2
  go_ret
  exact ⟨rt_bool (kOe E4.o), F4.o⟩
 | true =>
 go_wp2_with fail
 refine (H5.o _ F4.o).mono ?_
 rintro e w5 ⟨rfl, m5, rfl⟩
 have G5 := hid (Fr.drewN (Fr.refl No w4) m5)
 clear z0 z1 z2 z3 z4 z5 y0 y1 y2 y3 y4 y5
 have F5 := ftr F4 G5.o
 have R5 := ftr R4 G5.o
 obtain ⟨w5, hw5⟩ : ∃ X, X = World.drewN w4 m5 := ⟨_, rfl⟩
 rw [← hw5] at G5 F5 R5 ⊢
 clear hw5
 obtain ⟨z0, z1, z2, z3, z4, z5⟩ := BX.o _ R5.o
 obtain ⟨y0, y1, y2, y3, y4, y5⟩ := BY.o _ R5.o
 cases q5 with
 | false =>
  go_wp2
  go_ret
  exact ⟨rt_bool (kOd E5.o), F5.o⟩
 | true =>
 go_wp2_with fail
 refine (H6.o _ F5.o).mono ?_
 rintro e w6 ⟨rfl, g6⟩
 have F6 := ftr F5 g6
 clear z0 z1 z2 z3 z4 z5 y0 y1 y2 y3 y4 y5
 clear g6
 go_wp2
 go_ret
 exact ⟨rt_bool (kJD E1.o E2.o E3.o E4.o E5.o), F6.o⟩
theorem kJY {a b : Sh} (h : ¬ a.calls = b.calls) : false = shEq a b := by symm; rw [shEq, decide_eq_false_iff_not]; exact fun k => h k.2.2.2.2.2
theorem kMt {a b : Sh} (h : ¬ a.mems = b.mems) : false = shEq a b := kOh (by symm; rw [decide_eq_false_iff_not]; exact h)
theorem kMs {a b : Sh} (h : ¬ a.tables = b.tables) : false = shEq a b := kOg (by symm; rw [decide_eq_false_iff_not]; exact h)
theorem kEx {α : Type} {xs ys : List α} {k : Nat} (hk : k = xs.length) (hl : xs.length = ys.length) (h : xs.take k = ys.take k) : xs = ys := by
 subst hk
 rwa [List.take_of_length_le om, List.take_of_length_le om] at h
theorem kCd {α : Type} {t : Ty α} [TyOk t] [TyMore t] {w : World} {S : Nat → Prop} {A : OA} {l : List α} (h : t.els w S A l) (hS : Lt S w) : t.els w (· < w.heap.size) A l := h.more hS
theorem kIN (a b : Sh) (cs ds : LV) (S T : Nat → Prop) (w : World) (ha : tSh.rd w S cs a) (hb : tSh.rd w T ds b) (hS : Lt S w) (hT : Lt T w) (la : ShLe a) (lb : ShLe b) :
    Calls prog 14 #[.agg cs.toArray, .agg ds.toArray] w fun e w' => e = .returned (.bool (shEq a b)) ∧ Fr No w w' := by
 obtain ⟨Ama, cma, Ata, cta, Aga, cga, Aea, cea, Ada, cda, Aca, cca, rfl, -, -, ema, -, -, eta, -, -, ega, -, -, eea, -, -, eda, -, -, eca⟩ := kFL ha
 obtain ⟨Amb, cmb, Atb, ctb, Agb, cgb, Aeb, ceb, Adb, cdb, Acb, ccb, rfl, -, -, emb, -, -, etb, -, -, egb, -, -, eeb, -, -, edb, -, -, ecb⟩ := kFL hb
 have hs : ∀ X, Fr No w X → Lt S X := fun X f k hk => ltl (hS k hk) f.size
 have ht : ∀ X, Fr No w X → Lt T X := fun X f k hk => ltl (hT k hk) f.size
 have H3 := hid (fun X (f : Fr No w X) => kCU Aga Agb a.globals b.globals cga cgb X.heap.size X.heap.size X (kCd (ega.fr f (fun k hk => ⟨hS k hk, fun x => x⟩)) (hs X f)) (kCd (egb.fr f (fun k hk => ⟨hT k hk, fun x => x⟩)) (ht X f)) (Nat.le_trans la.g dc) (Nat.le_trans lb.g dc))
 have H4 := hid (fun X (f : Fr No w X) => kGV Aea Aeb a.elems b.elems cea ceb S T X (eea.fr f (fun k hk => ⟨hS k hk, fun x => x⟩)) (eeb.fr f (fun k hk => ⟨hT k hk, fun x => x⟩)) (Nat.le_trans la.e dc) (Nat.le_trans lb.e dc))
 have H5 := hid (fun X (f : Fr No w X) => kGV Ada Adb a.datas b.datas cda cdb S T X (eda.fr f (fun k hk => ⟨hS k hk, fun x => x⟩)) (edb.fr f (fun k hk => ⟨hT k hk, fun x => x⟩)) (Nat.le_trans la.d dc) (Nat.le_trans lb.d dc))
 obtain ⟨q3, e3⟩ : ∃ q, q = decide (a.globals = b.globals) := ⟨_, rfl⟩
 obtain ⟨q4, e4⟩ : ∃ q, q = decide (a.elems = b.elems) := ⟨_, rfl⟩
 obtain ⟨q5, e5⟩ : ∃ q, q = decide (a.datas = b.datas) := ⟨_, rfl⟩
 rw [← e3] at H3
 rw [← e4] at H4
 rw [← e5] at H5
 have E3 := hid e3
 have E4 := hid e4
 have E5 := hid e5
 have F0 := hid (((Fr.refl No w).alloc (.cells (q8x0 Ama Ata Aga Aea Ada Aca a cma cta cga cea cda cca) 83)).alloc (.cells (q8x1 Amb Atb Agb Aeb Adb Acb b cmb ctb cgb ceb cdb ccb) 83))
 have BX := hid (blk6 ((Blk.new w 83 (q8x0 Ama Ata Aga Aea Ada Aca a cma cta cga cea cda cca)).alloc (.cells (q8x1 Amb Atb Agb Aeb Adb Acb b cmb ctb cgb ceb cdb ccb) 83)))
 have BY := hid (blk6 (Blk.new1 w (.cells (q8x0 Ama Ata Aga Aea Ada Aca a cma cta cga cea cda cca) 83) 83 (q8x1 Amb Atb Agb Aeb Adb Acb b cmb ctb cgb ceb cdb ccb)))
 have bm := la.m
 have bt := la.t
 have bcl := la.c
 have EMA := hid ema
 have EMB := hid emb
 have ETA := hid eta
 have ETB := hid etb
 have ECA := hid eca
 have ECB := hid ecb
 clear e3 e4 e5 ema eta ega eea eda eca emb etb egb eeb edb ecb hs ht ha hb
 by_cases hl0 : a.mems.length = b.mems.length
 case neg =>
  have h0 : (((a.mems.length : Nat) : Int) != ((b.mems.length : Nat) : Int)) = true := by simp; omega
  have HL := hid hl0
  clear hl0
  go_enter func14, ntmps14
  go_upto_region 1 with fail
  try simp only [World.size_alloc]
  generalize hW : (w.alloc (.cells (q8x0 Ama Ata Aga Aea Ada Aca a cma cta cga cea cda cca) 83)).alloc (.cells (q8x1 Amb Atb Agb Aeb Adb Acb b cmb ctb cgb ceb cdb ccb) 83) = W at *
  clear hW
  obtain ⟨p, hp⟩ : ∃ p, p = w.heap.size := ⟨_, rfl⟩
  simp only [← hp] at BX BY ⊢
  have HP := hid hp
  clear hp
  obtain ⟨z0, z1, z2, z3, z4, z5⟩ := BX.o _ (Fr.refl No W)
  obtain ⟨y0, y1, y2, y3, y4, y5⟩ := BY.o _ (Fr.refl No W)
  go_wp2
  go_ret
  refine ⟨rt_bool (kMt (fun e => HL.o (by rw [e]))), F0.o⟩
 have h0 : (((a.mems.length : Nat) : Int) != ((b.mems.length : Nat) : Int)) = false := by simp [hl0]
 have HL0 := hid hl0
 clear hl0
 by_cases hl1 : a.tables.length = b.tables.length
 case neg =>
  have h1 : (((a.tables.length : Nat) : Int) != ((b.tables.length : Nat) : Int)) = true := by simp; omega
  have HL := hid hl1
  clear hl1
  go_enter func14, ntmps14
  go_upto_region 1 with fail
  try simp only [World.size_alloc]
  generalize hW : (w.alloc (.cells (q8x0 Ama Ata Aga Aea Ada Aca a cma cta cga cea cda cca) 83)).alloc (.cells (q8x1 Amb Atb Agb Aeb Adb Acb b cmb ctb cgb ceb cdb ccb) 83) = W at *
  clear hW
  obtain ⟨p, hp⟩ : ∃ p, p = w.heap.size := ⟨_, rfl⟩
  simp only [← hp] at BX BY ⊢
  have HP := hid hp
  clear hp
  obtain ⟨z0, z1, z2, z3, z4, z5⟩ := BX.o _ (Fr.refl No W)
  obtain ⟨y0, y1, y2, y3, y4, y5⟩ := BY.o _ (Fr.refl No W)
  go_wp2
  go_ret
  refine ⟨rt_bool (kMs (fun e => HL.o (by rw [e]))), F0.o⟩
 have h1 : (((a.tables.length : Nat) : Int) != ((b.tables.length : Nat) : Int)) = false := by simp [hl1]
 have HL1 := hid hl1
 clear hl1
 by_cases hl2 : a.calls.length = b.calls.length
 case neg =>
  have h2 : (((a.calls.length : Nat) : Int) != ((b.calls.length : Nat) : Int)) = true := by simp; omega
  have HL := hid hl2
  clear hl2
  go_enter func14, ntmps14
  go_upto_region 1 with fail
  try simp only [World.size_alloc]
  generalize hW : (w.alloc (.cells (q8x0 Ama Ata Aga Aea Ada Aca a cma cta cga cea cda cca) 83)).alloc (.cells (q8x1 Amb Atb Agb Aeb Adb Acb b cmb ctb cgb ceb cdb ccb) 83) = W at *
  clear hW
  obtain ⟨p, hp⟩ : ∃ p, p = w.heap.size := ⟨_, rfl⟩
  simp only [← hp] at BX BY ⊢
  have HP := hid hp
  clear hp
  obtain ⟨z0, z1, z2, z3, z4, z5⟩ := BX.o _ (Fr.refl No W)
  obtain ⟨y0, y1, y2, y3, y4, y5⟩ := BY.o _ (Fr.refl No W)
  go_wp2
  go_ret
  refine ⟨rt_bool (kJY (fun e => HL.o (by rw [e]))), F0.o⟩
 have h2 : (((a.calls.length : Nat) : Int) != ((b.calls.length : Nat) : Int)) = false := by simp [hl2]
 have HL2 := hid hl2
 clear hl2
 go_enter func14, ntmps14
 go_upto_region 1 with fail
 try simp only [World.size_alloc]
 generalize hW : (w.alloc (.cells (q8x0 Ama Ata Aga Aea Ada Aca a cma cta cga cea cda cca) 83)).alloc (.cells (q8x1 Amb Atb Agb Aeb Adb Acb b cmb ctb cgb ceb cdb ccb) 83) = W at *
 clear hW
 obtain ⟨p, hp⟩ : ∃ p, p = w.heap.size := ⟨_, rfl⟩
 simp only [← hp] at BX BY ⊢
 have HP := hid hp
 clear hp
 obtain ⟨z0, z1, z2, z3, z4, z5⟩ := BX.o _ (Fr.refl No W)
 obtain ⟨y0, y1, y2, y3, y4, y5⟩ := BY.o _ (Fr.refl No W)
 go_wp2_with fail
 refine (H3.o _ F0.o).mono ?_
 rintro e w1 ⟨rfl, m1, rfl⟩
 clear z0 z1 z2 z3 z4 z5 y0 y1 y2 y3 y4 y5
 have F1 := hid (F0.o.drewN m1)
 have R1 := hid ((Fr.refl No W).drewN m1)
 obtain ⟨w1, hw1⟩ : ∃ X, X = World.drewN W m1 := ⟨_, rfl⟩
 rw [← hw1] at F1 R1 ⊢
 clear hw1
 obtain ⟨z0, z1, z2, z3, z4, z5⟩ := BX.o _ R1.o
 obtain ⟨y0, y1, y2, y3, y4, y5⟩ := BY.o _ R1.o
 cases q3 with
 | false =>
  go_wp2
  go_ret
  exact ⟨rt_bool (kOf E3.o), F1.o⟩
 | true =>
 go_wp2_with fail
 refine (H4.o _ F1.o).mono ?_
 rintro e w2 ⟨rfl, m2, rfl⟩
 clear z0 z1 z2 z3 z4 z5 y0 y1 y2 y3 y4 y5
 have F2 := hid (F1.o.drewN m2)
 have R2 := hid (R1.o.drewN m2)
 obtain ⟨w2, hw2⟩ : ∃ X, X = World.drewN w1 m2 := ⟨_, rfl⟩
 rw [← hw2] at F2 R2 ⊢
 clear hw2
 obtain ⟨z0, z1, z2, z3, z4, z5⟩ := BX.o _ R2.o
 obtain ⟨y0, y1, y2, y3, y4, y5⟩ := BY.o _ R2.o
 cases q4 with
 | false =>
  go_wp2
  go_ret
  exact ⟨rt_bool (kOe E4.o), F2.o⟩
 | true =>
 go_wp2_with fail
 refine (H5.o _ F2.o).mono ?_
 rintro e w3 ⟨rfl, m3, rfl⟩
 clear z0 z1 z2 z3 z4 z5 y0 y1 y2 y3 y4 y5
 have F3 := hid (F2.o.drewN m3)
 have R3 := hid (R2.o.drewN m3)
 obtain ⟨w3, hw3⟩ : ∃ X, X = World.drewN w2 m3 := ⟨_, rfl⟩
 rw [← hw3] at F3 R3 ⊢
 clear hw3
 obtain ⟨z0, z1, z2, z3, z4, z5⟩ := BX.o _ R3.o
 obtain ⟨y0, y1, y2, y3, y4, y5⟩ := BY.o _ R3.o
 cases q5 with
 | false =>
  go_wp2
  go_ret
  exact ⟨rt_bool (kOd E5.o), F3.o⟩
 | true =>
 clear R1 R2 F1 F2 H3 H4 H5 z0 z1 z2 z3 z4 z5 y0 y1 y2 y3 y4 y5
 go_wp2_with fail
 go_loopw [5] (fun i wr => ∃ k : Nat, k ≤ a.mems.length ∧ i = .int .i64 k ∧ Hid (a.mems.take k = b.mems.take k) ∧ Hid (Fr No W wr)) (fun i _ => a.mems.length - (intOf i).toNat)
 case atStart => exact ⟨0, by omega, rfl, by simp [Hid], R3.o⟩
 case round =>
 rename_i wr _ _
 obtain ⟨k, hk, rfl, HQ, F⟩ := hrel
 obtain ⟨z0, z1, z2, z3, z4, z5⟩ := BX.o _ F.o
 obtain ⟨y0, y1, y2, y3, y4, y5⟩ := BY.o _ F.o
 by_cases hlt : k < a.mems.length
 · have hkx : k < a.mems.length := hlt
   have hky : k < b.mems.length := by have := HL0.o; omega
   have FW := ftr F0 F.o
   obtain ⟨bb, oo, A1, c1, rfl, hbS, k1, e1⟩ := kEc EMA.o k hkx
   obtain ⟨bc, oc, B1, d1, rfl, hbT, k3, e2⟩ := kEc EMB.o k hky
   have HXT : Hid (a.mems.take (k + 1) = a.mems.take k ++ [a.mems[k]]) := List.take_succ_eq_append_getElem hkx
   have HYT : Hid (b.mems.take (k + 1) = b.mems.take k ++ [b.mems[k]]) := List.take_succ_eq_append_getElem hky
   have HNE : Hid (a.mems[k] ≠ b.mems[k] → ¬ a.mems = b.mems) := by
    intro h e
    exact h (by simp only [e])
   obtain ⟨x, hxx⟩ : ∃ x, x = a.mems[k] := ⟨_, rfl⟩
   obtain ⟨y, hyy⟩ : ∃ y, y = b.mems[k] := ⟨_, rfl⟩
   simp only [← hxx, ← hyy] at k1 k3 e1 e2 HXT HYT HNE
   clear hxx hyy
   have HX : Hid (∀ X, Fr No w X → Fr No W X → Ce X p 0 (.slice (some ⟨bb, oo, none⟩) a.mems.length cma) ∧ Ce X (p + 1) 0 (.slice (some ⟨bc, oc, none⟩) b.mems.length cmb) ∧ Ce X bb (oo + k) (.slice A1 x.length c1) ∧ Ce X bc (oc + k) (.slice B1 y.length d1) ∧ (convert 59 9 (.slice A1 x.length c1)).run prog X = .ok (.string (strU x)) X ∧ (convert 59 9 (.slice B1 y.length d1)).run prog X = .ok (.string (strU y)) X) := fun X f g =>
    ⟨(BX.o X g).1, (BY.o X g).1, (f.cell (p := ⟨bb, oo + k, none⟩) (hS bb hbS) id).trans k1, (f.cell (p := ⟨bc, oc + k, none⟩) (hT bc hbT) id).trans k3, (kBI c1 (e1.fr f (fun k hk => ⟨hS k hk, fun x => x⟩))).1, (kBI d1 (e2.fr f (fun k hk => ⟨hT k hk, fun x => x⟩))).1⟩
   have i0 := nki k
   have i1 : (k : Int) < a.mems.length := om
   have i2 : (k : Int) < b.mems.length := om
   have XE1 := hid (fun X (f : Fr No w X) => kCd (e1.fr f (fun k hk => ⟨hS k hk, fun x => x⟩)) (fun k hk => ltl (hS k hk) f.size))
   have XE2 := hid (fun X (f : Fr No w X) => kCd (e2.fr f (fun k hk => ⟨hT k hk, fun x => x⟩)) (fun k hk => ltl (hT k hk) f.size))
   obtain ⟨-, u1⟩ := kBI c1 e1
   obtain ⟨-, u2⟩ := kBI d1 e2
   have HSS := hid (kLt u1 u2)
   clear u1 u2
   clear k1 k3 e1 e2
   go_wp2_with fail
   clear z0 z1 z2 z3 z4 z5 y0 y1 y2 y3 y4 y5
   refine rwO (fun X => Ce X p 0 (.slice (some ⟨bb, oo, none⟩) a.mems.length cma) ∧ Ce X (p + 1) 0 (.slice (some ⟨bc, oc, none⟩) b.mems.length cmb) ∧ Ce X bb (oo + k) (.slice A1 x.length c1) ∧ Ce X bc (oc + k) (.slice B1 y.length d1) ∧ (convert 59 9 (.slice A1 x.length c1)).run prog X = .ok (.string (strU x)) X ∧ (convert 59 9 (.slice B1 y.length d1)).run prog X = .ok (.string (strU y)) X) [] (List.range 13) [] (HX.o _ FW.o.drew F.o.drew) ?_
   refine rC ?_
   refine wpO_nil ?_
   have FR := hid F.o.drew
   by_cases hxy : x = y
   · have hn : ((strU x).toList == (strU y).toList) = true := by rw [hxy]; simp
     have hn' : (!((strU x).toList == (strU y).toList)) = false := by rw [hn]; rfl
     have HXY := hid hxy
     clear hxy
     rw [hn]
     clear hn hn'
     go_wp2
     go_roundw
     case rel =>
      refine ⟨k + 1, by omega, by go_num, ?_, by first | exact FR.o | exact F.o.drewN _⟩
      show List.take (k + 1) a.mems = List.take (k + 1) b.mems
      rw [HXT.o, HYT.o, HQ.o, HXY.o]
     simp [intOf]; omega
   have hn : ((strU x).toList == (strU y).toList) = false := by rw [HSS.o]; simp [hxy]
   have hn' : (!((strU x).toList == (strU y).toList)) = true := by rw [hn]; rfl
   have HXY := hid hxy
   clear hxy
   rw [hn]
   clear hn hn'
   go_wp2
   go_ret
   refine ⟨rt_bool (kMt (HNE.o HXY.o)), F0.o.trans (by first | exact FR.o | exact F.o.drewN _) i3⟩
 have hkn : k = a.mems.length := om
 have HE1 := hid (kEx hkn HL0.o HQ.o)
 clear HQ hk
 clear hkn
 have hd : decide ((k : Int) < (a.mems.length : Int)) = false := by simp; omega
 obtain ⟨wx, hwx⟩ : ∃ X, X = wr := ⟨_, rfl⟩
 subst hwx
 have R4 := hid F.o
 clear F hd R3 F3
 go_wp2_with fail
 go_loopw [6] (fun i wr => ∃ k : Nat, k ≤ a.tables.length ∧ i = .int .i64 k ∧ Hid (a.tables.take k = b.tables.take k) ∧ Hid (Fr No W wr)) (fun i _ => a.tables.length - (intOf i).toNat)
 case atStart => exact ⟨0, by omega, rfl, by simp [Hid], R4.o⟩
 case round =>
 rename_i wr _ _
 obtain ⟨k, hk, rfl, HQ, F⟩ := hrel
 obtain ⟨z0, z1, z2, z3, z4, z5⟩ := BX.o _ F.o
 obtain ⟨y0, y1, y2, y3, y4, y5⟩ := BY.o _ F.o
 by_cases hlt : k < a.tables.length
 · have hkx : k < a.tables.length := hlt
   have hky : k < b.tables.length := by have := HL1.o; omega
   have FW := ftr F0 F.o
   obtain ⟨bb, oo, A1, c1, rfl, hbS, k1, e1⟩ := kEc ETA.o k hkx
   obtain ⟨bc, oc, B1, d1, rfl, hbT, k3, e2⟩ := kEc ETB.o k hky
   have HXT : Hid (a.tables.take (k + 1) = a.tables.take k ++ [a.tables[k]]) := List.take_succ_eq_append_getElem hkx
   have HYT : Hid (b.tables.take (k + 1) = b.tables.take k ++ [b.tables[k]]) := List.take_succ_eq_append_getElem hky
   have HNE : Hid (a.tables[k] ≠ b.tables[k] → ¬ a.tables = b.tables) := by
    intro h e
    exact h (by simp only [e])
   have bnx := la.ts a.tables[k] (List.getElem_mem hkx)
   have bny := lb.ts b.tables[k] (List.getElem_mem hky)
   obtain ⟨x, hxx⟩ : ∃ x, x = a.tables[k] := ⟨_, rfl⟩
   obtain ⟨y, hyy⟩ : ∃ y, y = b.tables[k] := ⟨_, rfl⟩
   simp only [← hxx, ← hyy] at k1 k3 e1 e2 HXT HYT HNE bnx bny
   clear hxx hyy
   have HX : Hid (∀ X, Fr No w X → Fr No W X → Ce X p 1 (.slice (some ⟨bb, oo, none⟩) a.tables.length cta) ∧ Ce X (p + 1) 1 (.slice (some ⟨bc, oc, none⟩) b.tables.length ctb) ∧ Ce X bb (oo + k) (.slice A1 x.length c1) ∧ Ce X bc (oc + k) (.slice B1 y.length d1)) := fun X f g =>
    ⟨(BX.o X g).2.1, (BY.o X g).2.1, (f.cell (p := ⟨bb, oo + k, none⟩) (hS bb hbS) id).trans k1, (f.cell (p := ⟨bc, oc + k, none⟩) (hT bc hbT) id).trans k3⟩
   have i0 := nki k
   have i1 : (k : Int) < a.tables.length := om
   have i2 : (k : Int) < b.tables.length := om
   have XE1 := hid (fun X (f : Fr No w X) => kCd (e1.fr f (fun k hk => ⟨hS k hk, fun x => x⟩)) (fun k hk => ltl (hS k hk) f.size))
   have XE2 := hid (fun X (f : Fr No w X) => kCd (e2.fr f (fun k hk => ⟨hT k hk, fun x => x⟩)) (fun k hk => ltl (hT k hk) f.size))
   clear k1 k3 e1 e2
   obtain ⟨q, hq⟩ : ∃ q, q = decide (x = y) := ⟨_, rfl⟩
   have HC := hid (fun X (f : Fr No w X) => kHQ A1 B1 x y c1 d1 (· < X.heap.size) (· < X.heap.size) X (XE1.o X f) (XE2.o X f) om om)
   rw [← hq] at HC
   have HQ2 := hid hq
   clear hq
   go_wp2_with fail
   clear z0 z1 z2 z3 z4 z5 y0 y1 y2 y3 y4 y5
   refine rwO (fun X => Ce X p 1 (.slice (some ⟨bb, oo, none⟩) a.tables.length cta) ∧ Ce X (p + 1) 1 (.slice (some ⟨bc, oc, none⟩) b.tables.length ctb) ∧ Ce X bb (oo + k) (.slice A1 x.length c1) ∧ Ce X bc (oc + k) (.slice B1 y.length d1)) [] (List.range 12) [10] (HX.o _ FW.o.drew F.o.drew) ?_
   refine rC ?_
   refine wpO_eff rfl rfl fun K hK => sz ?_
   refine (HC.o _ FW.o.drew).mono ?_
   rintro e w1 ⟨rfl, nn, rfl⟩
   have FR := hid (F.o.drew.drewN nn)
   refine hK _ _ (fun _ => HX.o _ (FW.o.drew.drewN nn) FR.o) ?_
   clear hK K
   refine rC ?_
   refine wpO_nil ?_
   cases q with
   | true =>
    have HXY := hid (of_decide_eq_true HQ2.o.symm)
    go_wp2
    go_roundw
    case rel =>
     refine ⟨k + 1, by omega, by go_num, ?_, by first | exact FR.o | exact F.o.drewN _⟩
     show List.take (k + 1) a.tables = List.take (k + 1) b.tables
     rw [HXT.o, HYT.o, HQ.o, HXY.o]
    case measure => simp [intOf]; omega
   | false =>
    have HXY := hid (of_decide_eq_false HQ2.o.symm)
    go_wp2
    go_ret
    refine ⟨rt_bool (kMs (HNE.o HXY.o)), F0.o.trans (by first | exact FR.o | exact F.o.drewN _) i3⟩
 have hkn : k = a.tables.length := om
 have HE2 := hid (kEx hkn HL1.o HQ.o)
 clear HQ hk
 clear hkn
 have hd : decide ((k : Int) < (a.tables.length : Int)) = false := by simp; omega
 obtain ⟨wy, hwy⟩ : ∃ X, X = wr := ⟨_, rfl⟩
 subst hwy
 have R5 := hid F.o
 clear F hd R4
 go_wp2_with fail
 go_loopw [7] (fun i wr => ∃ k : Nat, k ≤ a.calls.length ∧ i = .int .i64 k ∧ Hid (a.calls.take k = b.calls.take k) ∧ Hid (Fr No W wr)) (fun i _ => a.calls.length - (intOf i).toNat)
 case atStart => exact ⟨0, by omega, rfl, by simp [Hid], R5.o⟩
 case round =>
 rename_i wr _ _
 obtain ⟨k, hk, rfl, HQ, F⟩ := hrel
 obtain ⟨z0, z1, z2, z3, z4, z5⟩ := BX.o _ F.o
 obtain ⟨y0, y1, y2, y3, y4, y5⟩ := BY.o _ F.o
 by_cases hlt : k < a.calls.length
 · have hkx : k < a.calls.length := hlt
   have hky : k < b.calls.length := by have := HL2.o; omega
   have FW := ftr F0 F.o
   obtain ⟨bb, oo, A1, c1, rfl, hbS, k1, k2, -, -, -, e1⟩ := kKa ECA.o k hkx
   obtain ⟨bc, oc, B1, d1, rfl, hbT, k3, k4, -, -, -, e2⟩ := kKa ECB.o k hky
   have HXT : Hid (a.calls.take (k + 1) = a.calls.take k ++ [a.calls[k]]) := List.take_succ_eq_append_getElem hkx
   have HYT : Hid (b.calls.take (k + 1) = b.calls.take k ++ [b.calls[k]]) := List.take_succ_eq_append_getElem hky
   have HNE : Hid (a.calls[k] ≠ b.calls[k] → ¬ a.calls = b.calls) := by
    intro h e
    exact h (by simp only [e])
   have bnx := la.cs a.calls[k] (List.getElem_mem hkx)
   have bny := lb.cs b.calls[k] (List.getElem_mem hky)
   obtain ⟨x, hxx⟩ : ∃ x, x = a.calls[k] := ⟨_, rfl⟩
   obtain ⟨y, hyy⟩ : ∃ y, y = b.calls[k] := ⟨_, rfl⟩
   simp only [← hxx, ← hyy] at k1 k2 k3 k4 e1 e2 HXT HYT HNE bnx bny
   clear hxx hyy
   have HX : Hid (∀ X, Fr No w X → Fr No W X → Ce X p 5 (.slice (some ⟨bb, oo, none⟩) a.calls.length cca) ∧ Ce X (p + 1) 5 (.slice (some ⟨bc, oc, none⟩) b.calls.length ccb) ∧ Ce X bb (oo + k * 2) (.int .i64 x.host) ∧ Ce X bb (oo + k * 2 + 1) (.slice A1 x.args.length c1) ∧ Ce X bc (oc + k * 2) (.int .i64 y.host) ∧ Ce X bc (oc + k * 2 + 1) (.slice B1 y.args.length d1)) := fun X f g =>
    ⟨(BX.o X g).2.2.2.2.2, (BY.o X g).2.2.2.2.2, (f.cell (p := ⟨bb, oo + k * 2, none⟩) (hS bb hbS) id).trans k1, (f.cell (p := ⟨bb, oo + k * 2 + 1, none⟩) (hS bb hbS) id).trans k2, (f.cell (p := ⟨bc, oc + k * 2, none⟩) (hT bc hbT) id).trans k3, (f.cell (p := ⟨bc, oc + k * 2 + 1, none⟩) (hT bc hbT) id).trans k4⟩
   have i0 := nki k
   have i1 : (k : Int) < a.calls.length := om
   have i2 : (k : Int) < b.calls.length := om
   have XE1 := hid (fun X (f : Fr No w X) => kCd (e1.fr f (fun k hk => ⟨hS k hk, fun x => x⟩)) (fun k hk => ltl (hS k hk) f.size))
   have XE2 := hid (fun X (f : Fr No w X) => kCd (e2.fr f (fun k hk => ⟨hT k hk, fun x => x⟩)) (fun k hk => ltl (hT k hk) f.size))
   clear k1 k2 k3 k4 e1 e2
   obtain ⟨q, hq⟩ : ∃ q, q = decide (x.args = y.args) := ⟨_, rfl⟩
   have HC := hid (fun X (f : Fr No w X) => kCU A1 B1 x.args y.args c1 d1 X.heap.size X.heap.size X (XE1.o X f) (XE2.o X f) om om)
   rw [← hq] at HC
   have HQ2 := hid hq
   clear hq
   by_cases hh : x.host = y.host
   · have hn : (x.host != y.host) = false := by simp [hh]
     have HH := hid hh
     clear hh
     go_wp2_with fail
     clear z0 z1 z2 z3 z4 z5 y0 y1 y2 y3 y4 y5
     refine rwO (fun X => Ce X p 5 (.slice (some ⟨bb, oo, none⟩) a.calls.length cca) ∧ Ce X (p + 1) 5 (.slice (some ⟨bc, oc, none⟩) b.calls.length ccb) ∧ Ce X bb (oo + k * 2) (.int .i64 x.host) ∧ Ce X bb (oo + k * 2 + 1) (.slice A1 x.args.length c1) ∧ Ce X bc (oc + k * 2) (.int .i64 y.host) ∧ Ce X bc (oc + k * 2 + 1) (.slice B1 y.args.length d1)) [] (List.range 29) [26] (HX.o _ FW.o.drew F.o.drew) ?_
     refine rC ?_
     refine wpO_eff rfl rfl fun K hK => sz ?_
     refine (HC.o _ FW.o.drew).mono ?_
     rintro e w1 ⟨rfl, nn, rfl⟩
     have FR := hid (F.o.drew.drewN nn)
     refine hK _ _ (fun _ => HX.o _ (FW.o.drew.drewN nn) FR.o) ?_
     clear hK K
     refine rC ?_
     refine wpO_nil ?_
     cases q with
     | true =>
      have HXY : Hid (x = y) := by
       have h1 := of_decide_eq_true HQ2.o.symm
       have h2 := HH.o
       show x = y
       cases x; cases y; simp only at h1 h2; subst h1; subst h2; rfl
      go_wp2
      go_roundw
      case rel =>
       refine ⟨k + 1, by omega, by go_num, ?_, by first | exact FR.o | exact F.o.drewN _⟩
       show List.take (k + 1) a.calls = List.take (k + 1) b.calls
       rw [HXT.o, HYT.o, HQ.o, HXY.o]
      case measure => simp [intOf]; omega
     | false =>
      have HXY : Hid (¬ x = y) := fun e => of_decide_eq_false HQ2.o.symm (by rw [e])
      go_wp2
      go_ret
      refine ⟨rt_bool (kJY (HNE.o HXY.o)), F0.o.trans (by first | exact FR.o | exact F.o.drewN _) i3⟩
   have hn : (x.host != y.host) = true := by simp [hh]
   have HXY : Hid (¬ x = y) := fun e => hh (by rw [e])
   clear hh
   go_wp2_with fail
   clear z0 z1 z2 z3 z4 z5 y0 y1 y2 y3 y4 y5
   refine rwO (fun X => Ce X p 5 (.slice (some ⟨bb, oo, none⟩) a.calls.length cca) ∧ Ce X (p + 1) 5 (.slice (some ⟨bc, oc, none⟩) b.calls.length ccb) ∧ Ce X bb (oo + k * 2) (.int .i64 x.host) ∧ Ce X bb (oo + k * 2 + 1) (.slice A1 x.args.length c1) ∧ Ce X bc (oc + k * 2) (.int .i64 y.host) ∧ Ce X bc (oc + k * 2 + 1) (.slice B1 y.args.length d1)) [] (List.range 29) [26] (HX.o _ FW.o.drew F.o.drew) ?_
   refine rC ?_
   refine wpO_skipE rfl rfl (HX.o _ FW.o.drew F.o.drew) ?_
   simp only [zA, zC, Act.put]
   refine rC ?_
   refine wpO_nil ?_
   have FR := hid F.o.drew
   go_wp2
   go_ret
   refine ⟨rt_bool (kJY (HNE.o HXY.o)), F0.o.trans (by first | exact FR.o | exact F.o.drewN _) i3⟩
 have hkn : k = a.calls.length := om
 have HE3 := hid (kEx hkn HL2.o HQ.o)
 clear HQ hk
 clear hkn
 have hd : decide ((k : Int) < (a.calls.length : Int)) = false := by simp; omega
 go_wp2
 go_ret
 refine ⟨rt_bool ?_, F0.o.trans F.o i3⟩
 symm
 rw [shEq, decide_eq_true_eq]
 exact ⟨HE1.o, HE2.o, of_decide_eq_true E3.o.symm, of_decide_eq_true E4.o.symm, of_decide_eq_true E5.o.symm, HE3.o⟩
theorem Blk.setCells {g : Nat} {t : TypeId} : ∀ (ds : LV) (o : Nat) (w : World) (cs : Array Value), Blk w g t cs → Blk (w.setCells g o ds) g t (setA cs o ds)
 | [], _, _, _, h => h
 | v :: r, o, w, cs, h => Blk.setCells r (o + 1) _ _ (h.set_ o v)
theorem kBD {α : Type} {t : Ty α} [TyOk t] [TyMore t] {w : World} {base : Nat} {S : Nat → Prop} {e : TypeId} {g c : Nat} {xs : List α} (h : t.row w base S e (.slice (some ⟨g, 0, none⟩) xs.length c) xs) (k : Nat) (hk : k < xs.length) : w.there g (k * t.size) t.size := fun j hj => by
 have he := Ty.row.els' (S' := fun _ => True) h tvv tvv
 obtain ⟨b, o, ds, e, _, hc, hr⟩ := he.at_ k hk
 injection e with e
 injection e with e1 e2 _
 subst e1 e2
 have hl := TyOk.len _ _ _ _ hr
 obtain ⟨css, _, ho⟩ := h
 refine ⟨?_, kCk ho _⟩
 have := hc j ds[j] sm
 rw [Nat.zero_add] at this
 rw [this]
 rfl
section
variable {w : World} {R : Nat → Prop} {V : Pl} {x : Rx}
theorem StIn.setEl (h : StIn w R V x) {k : Nat} {y : Rs} {ds : LV} {g c : Nat} (hk : k < x.elems.length) (hv : V.el = .slice (some ⟨g, 0, none⟩) x.elems.length c) (hr : ∀ X S, tRs.rd X S ds y) :
    StIn (w.setCells g (k * 2) ds) R V { x with elems := x.elems.set k y } ∧ Grown w (w.setCells g (k * 2) ds) R R V V := by
 have ho : V.el.ownBlock = some g := by rw [hv]; rfl
 have f := Fr.setCells' (M := fun k => k = V.P ∨ V.el.ownBlock = some k) (a := w) (b := g) (fun _ => .inr ho) ds (k * 2) w (Fr.refl _ w)
 have fg := Fr.setCells' (M := fun k => k = g) (a := w) (b := g) (fun _ => rfl) ds (k * 2) w (Fr.refl _ w)
 have hne : V.P ≠ g := fun e => Bt.ne ⟨_, h.blk⟩ (kAC h.el ho) dc e
 have hrow : tRs.row (w.setCells g (k * 2) ds) 0 (Sd w R) 182 (.slice (some ⟨g, 0, none⟩) x.elems.length c) (x.elems.set k y) := by
  have hrr := h.el
  rw [hv] at hrr
  refine hrr.set (ds := ds) k hk (hr _ _) (fun p hp => fg.cell hp.1 (fun e => hp.2 (h.own _ (Pl.o_el (by rw [ho, e]))))) (fun cur hb => ?_)
  exact Blk.setCells ds _ _ _ hb
 refine ⟨?_, rfl, f.mono (fun k _ e => e.elim (fun e => e ▸ V.oP) Pl.o_el), fun _ _ r => r, fun _ r => r, fun _ o => .inl o⟩
 have := h.put_el (v' := V.el) (xs := x.elems.set k y) f (h.blk.fr fg (fun e => hne e)) ?_ (fun k hk => h.own k (Pl.o_el hk)) (fun _ _ r => r) (fun _ r => r) (fun k r => ltl (h.low k r) f.size)
 · exact this
 exact yy75
def kBS (x : Rx) (i : Int) : Rx := if 0 ≤ i ∧ i < x.elems.length then { x with elems := x.elems.set i.toNat ⟨[], true⟩ } else x
theorem kHj (h : StIn w R V x) (i : Int) (hn : x.elems.length ≤ 1000000) :
    Calls prog 26 #[.pointer (some ⟨V.P, 0, none⟩), .int .i64 i] w (GrTo R V (.tuple #[]) (kBS x i) w) := by
 obtain ⟨A, c, hv, _, _⟩ := h.sl_el
 have hcell : w.cell? ⟨V.P, 7, none⟩ = some (.slice A x.elems.length c) := by rw [← hv]; exact h.blk.cell 7
 unfold kBS
 rcases kBb x.elems i with ⟨k, hk, rfl⟩ | hi | ⟨hi0, hi⟩
 · rw [if_pos ⟨by omega, by omega⟩]
   obtain ⟨g, c', hg, _⟩ := kBF h.el om
   rw [hv] at hg
   injection hg with e1 e2 e3
   subst e1 e3
   have HS := hid (h.setEl (y := ⟨[], true⟩) (ds := [.slice none 0 0, .bool true]) hk hv (fun X S => kEm (a := ⟨[], true⟩) nz nz (.inl rfl)))
   have HT : Hid (w.there g (k * 2) 2) := by
    have hr := h.el
    rw [hv] at hr
    exact kBD hr k hk
   have i0 := nki k
   have i1 : (k : Int) < x.elems.length := om
   have d0 : decide ((k : Int) < 0) = false := by simp
   clear h hv
   rw [Int.toNat_natCast]
   go_enter func26, ntmps26
   go_wp2_with (first
    | (refine wpList_store_mid (by rfl) 182 _ _ (by rfl) g (k * 2) #[.slice none 0 0, .bool true] (by rfl) (by rfl) HT.o kr (by simp [Value.oneCell']) ?_)
    | fail)
   refine bodyPost_end (v := .tuple #[]) (results_none (by rfl) _ _ _) rfl ?_
   exact ⟨V, R, rfl, HS.o.1, HS.o.2⟩
 · rw [if_neg (by omega)]
   have H := hid h
   have d0 : decide (i < 0) = true := by simp [hi]
   clear h hv
   go_enter func26, ntmps26
   exact yy54
 rw [if_neg (by omega)]
 have H := hid h
 have d0 : decide (i < 0) = false := by simp; omega
 have d1 : decide ((x.elems.length : Int) ≤ i) = true := by simp; omega
 clear h hv
 go_enter func26, ntmps26
 exact yy54
theorem StIn.setDa (h : StIn w R V x) {k : Nat} {y : Rb} {ds : LV} {g c : Nat} (hk : k < x.datas.length) (hv : V.da = .slice (some ⟨g, 0, none⟩) x.datas.length c) (hr : ∀ X S, tRb.rd X S ds y) :
    StIn (w.setCells g (k * 2) ds) R V { x with datas := x.datas.set k y } ∧ Grown w (w.setCells g (k * 2) ds) R R V V := by
 have ho : V.da.ownBlock = some g := by rw [hv]; rfl
 have f := Fr.setCells' (M := fun k => k = V.P ∨ V.da.ownBlock = some k) (a := w) (b := g) (fun _ => .inr ho) ds (k * 2) w (Fr.refl _ w)
 have fg := Fr.setCells' (M := fun k => k = g) (a := w) (b := g) (fun _ => rfl) ds (k * 2) w (Fr.refl _ w)
 have hne : V.P ≠ g := fun e => Bt.ne ⟨_, h.blk⟩ (kAC h.da ho) dc e
 have hrow : tRb.row (w.setCells g (k * 2) ds) 0 (Sd w R) 184 (.slice (some ⟨g, 0, none⟩) x.datas.length c) (x.datas.set k y) := by
  have hrr := h.da
  rw [hv] at hrr
  refine hrr.set (ds := ds) k hk (hr _ _) (fun p hp => fg.cell hp.1 (fun e => hp.2 (h.own _ (Pl.o_da (by rw [ho, e]))))) (fun cur hb => ?_)
  exact Blk.setCells ds _ _ _ hb
 refine ⟨?_, rfl, f.mono (fun k _ e => e.elim (fun e => e ▸ V.oP) Pl.o_da), fun _ _ r => r, fun _ r => r, fun _ o => .inl o⟩
 have := h.put_da (v' := V.da) (xs := x.datas.set k y) f (h.blk.fr fg (fun e => hne e)) ?_ (fun k hk => h.own k (Pl.o_da hk)) (fun _ _ r => r) (fun _ r => r) (fun k r => ltl (h.low k r) f.size)
 · exact this
 exact yy75
def kBT (x : Rx) (i : Int) : Rx := if 0 ≤ i ∧ i < x.datas.length then { x with datas := x.datas.set i.toNat ⟨[], true⟩ } else x
theorem kHk (h : StIn w R V x) (i : Int) (hn : x.datas.length ≤ 1000000) :
    Calls prog 27 #[.pointer (some ⟨V.P, 0, none⟩), .int .i64 i] w (GrTo R V (.tuple #[]) (kBT x i) w) := by
 obtain ⟨A, c, hv, _, _⟩ := h.sl_da
 have hcell : w.cell? ⟨V.P, 8, none⟩ = some (.slice A x.datas.length c) := by rw [← hv]; exact h.blk.cell 8
 unfold kBT
 rcases kBb x.datas i with ⟨k, hk, rfl⟩ | hi | ⟨hi0, hi⟩
 · rw [if_pos ⟨by omega, by omega⟩]
   obtain ⟨g, c', hg, _⟩ := kBF h.da om
   rw [hv] at hg
   injection hg with e1 e2 e3
   subst e1 e3
   have HS := hid (h.setDa (y := ⟨[], true⟩) (ds := [.slice none 0 0, .bool true]) hk hv (fun X S => kEo (a := ⟨[], true⟩) nz nz (.inl rfl)))
   have HT : Hid (w.there g (k * 2) 2) := by
    have hr := h.da
    rw [hv] at hr
    exact kBD hr k hk
   have i0 := nki k
   have i1 : (k : Int) < x.datas.length := om
   have d0 : decide ((k : Int) < 0) = false := by simp
   clear h hv
   rw [Int.toNat_natCast]
   go_enter func27, ntmps27
   go_wp2_with (first
    | (refine wpList_store_mid (by rfl) 184 _ _ (by rfl) g (k * 2) #[.slice none 0 0, .bool true] (by rfl) (by rfl) HT.o kr (by simp [Value.oneCell']) ?_)
    | fail)
   refine bodyPost_end (v := .tuple #[]) (results_none (by rfl) _ _ _) rfl ?_
   exact ⟨V, R, rfl, HS.o.1, HS.o.2⟩
 · rw [if_neg (by omega)]
   have H := hid h
   have d0 : decide (i < 0) = true := by simp [hi]
   clear h hv
   go_enter func27, ntmps27
   exact yy54
 rw [if_neg (by omega)]
 have H := hid h
 have d0 : decide (i < 0) = false := by simp; omega
 have d1 : decide ((x.datas.length : Int) ≤ i) = true := by simp; omega
 clear h hv
 go_enter func27, ntmps27
 exact yy54
end
theorem kHI {cs : Array Value} {i : Nat} {v : Value} (h : cs[i]? = some v) : cs.setIfInBounds i v = cs := by
 apply Array.ext_getElem?
 intro j
 rw [Array.getElem?_setIfInBounds]
 split
 · subst_vars
   split
   · rw [h]
   rename_i hn
   rw [Array.getElem?_eq_none (by omega)]
 rfl
section
variable {w : World} {R : Nat → Prop} {V : Pl} {x : Rx}
theorem StIn.setGl (h : StIn w R V x) {k : Nat} {v : Vl} {g c : Nat} (hk : k < x.globs.length) (hv : V.gl = .slice (some ⟨g, 0, none⟩) x.globs.length c) (w1 : (Lit.int .i64 v.t).wf = true) (w2 : (Lit.int .u64 v.n).wf = true) :
    StIn (w.setCells g (k * 4 + 2) [.int .i64 v.t, .int .u64 v.n]) R V { x with globs := x.globs.set k ⟨x.globs[k].t, v⟩ } ∧ Grown w (w.setCells g (k * 4 + 2) [.int .i64 v.t, .int .u64 v.n]) R R V V := by
 have ho : V.gl.ownBlock = some g := by rw [hv]; rfl
 have f := Fr.setCells' (M := fun k => k = V.P ∨ V.gl.ownBlock = some k) (a := w) (b := g) (fun _ => .inr ho) [.int .i64 v.t, .int .u64 v.n] (k * 4 + 2) w (Fr.refl _ w)
 have fg := Fr.setCells' (M := fun k => k = g) (a := w) (b := g) (fun _ => rfl) [.int .i64 v.t, .int .u64 v.n] (k * 4 + 2) w (Fr.refl _ w)
 have hne : V.P ≠ g := fun e => Bt.ne ⟨_, h.blk⟩ (kAC h.gl ho) dc e
 have hrow : tRg.row (w.setCells g (k * 4 + 2) [.int .i64 v.t, .int .u64 v.n]) 0 (Sd w R) 180 (.slice (some ⟨g, 0, none⟩) x.globs.length c) (x.globs.set k ⟨x.globs[k].t, v⟩) := by
  have hrr := h.gl
  rw [hv] at hrr
  have he := Ty.row.els' (S' := fun _ => True) hrr tvv tvv
  obtain ⟨b, o, e, _, y0, y1, _, _, f0, _⟩ := kDO he k hk
  injection e with e
  injection e with e1 e2 _
  subst e1 e2
  rw [Nat.zero_add] at y0 y1
  refine hrr.set (ds := [.int .i64 x.globs[k].t.val, .bool x.globs[k].t.mut_, .int .i64 v.t, .int .u64 v.n]) k hk (kEn (a := ⟨x.globs[k].t, v⟩) f0 w1 w2) (fun p hp => fg.cell hp.1 (fun e => hp.2 (h.own _ (Pl.o_gl (by rw [ho, e]))))) (fun cur hb => ?_)
  have e4 : tRg.size = 4 := rfl
  rw [e4]
  have q0 : cur[k * 4]? = some (.int .i64 x.globs[k].t.val) := by rw [← hb.cell]; exact y0
  have q1 : cur[k * 4 + 1]? = some (.bool x.globs[k].t.mut_) := by rw [← hb.cell]; exact y1
  have := Blk.setCells [.int .i64 v.t, .int .u64 v.n] (k * 4 + 2) _ _ hb
  show Blk _ g _ (setA ((cur.setIfInBounds (k * 4) (.int .i64 x.globs[k].t.val)).setIfInBounds (k * 4 + 1) (.bool x.globs[k].t.mut_)) (k * 4 + 2) [.int .i64 v.t, .int .u64 v.n])
  rw [kHI q0, kHI q1]
  exact this
 refine ⟨?_, rfl, f.mono (fun k _ e => e.elim (fun e => e ▸ V.oP) Pl.o_gl), fun _ _ r => r, fun _ r => r, fun _ o => .inl o⟩
 have := h.put_gl (v' := V.gl) (xs := x.globs.set k ⟨x.globs[k].t, v⟩) f (h.blk.fr fg (fun e => hne e)) ?_ (fun k hk => h.own k (Pl.o_gl hk)) (fun _ _ r => r) (fun _ r => r) (fun k r => ltl (h.low k r) f.size)
 · exact this
 exact yy75
def kAq (x : Rx) (i : Int) (v : Vl) : Rx × Bool :=
 match getI x.globs i with
 | none => (x, false)
 | some g => if kBE v g.t.val then ({ x with globs := x.globs.set i.toNat ⟨g.t, v⟩ }, true) else (x, false)
theorem kGZ (h : StIn w R V x) (i : Int) (v : Vl) (hn : x.globs.length ≤ 1000000) (w1 : (Lit.int .i64 v.t).wf = true) (w2 : (Lit.int .u64 v.n).wf = true) :
    Calls prog 24 #[.pointer (some ⟨V.P, 0, none⟩), .int .i64 i, .agg #[.int .i64 v.t, .int .u64 v.n]] w (GrTo R V (.bool (kAq x i v).2) (kAq x i v).1 w) := by
 have F0 := hid ((Fr.refl No w).alloc (.cells #[.int .i64 v.t, .int .u64 v.n] 57))
 have G0 := hid (Blk.new w 57 #[.int .i64 v.t, .int .u64 v.n])
 have HG := kFi (h.frNo F0.o) i hn
 have H := hid h
 unfold kAq
 rcases kBb x.globs i with ⟨k, hk, rfl⟩ | hi
 · rw [kCh hk] at HG
   rw [kBL hk]
   obtain ⟨A, c, hv, _, _⟩ := h.sl_gl
   obtain ⟨g, c', hg, _⟩ := kBF h.gl om
   rw [hv] at hg
   injection hg with e1 e2 e3
   subst e1 e3
   have HS := hid (fun (X : World) (f : Fr No w X) => (h.frNo f).setGl (v := v) hk hv w1 w2)
   have HC : Hid (∀ X, Fr No w X → Ce X V.P 6 (.slice (some ⟨g, 0, none⟩) x.globs.length c)) := fun X f => by
    have := (h.frNo f).blk.cell 6
    exact this.trans (by rw [← hv]; rfl)
   have HT : Hid (∀ X, Fr No w X → X.there g (k * 4 + 2) 2) := fun X f j hj => by
    have hr := (h.frNo f).gl
    rw [hv] at hr
    have := kBD hr k hk (j + 2) (by show j + 2 < 4; omega)
    rw [show k * tRg.size + (j + 2) = k * 4 + 2 + j by show k * 4 + (j + 2) = _; omega] at this
    exact this
   obtain ⟨y, hy⟩ : ∃ y, y = x.globs[k] := ⟨_, rfl⟩
   rw [← hy] at HG HS ⊢
   have HG := hid HG
   have i0 := nki k
   have i1 : (k : Int) < x.globs.length := om
   clear h hv hy
   simp only [Int.toNat_natCast]
   obtain ⟨q, hq⟩ : ∃ q, q = kBE v y.t.val := ⟨_, rfl⟩
   have HR := hid (kEP v y.t.val)
   rw [← hq] at HR ⊢
   clear hq
   cases q with
   | false =>
    simp only [Bool.false_eq_true, if_false]
    go_enter func24, ntmps24
    go_wp2_with fail
    refine HG.o.mono ?_
    rintro e w1 ⟨rfl, f1⟩
    have F1 := ftr F0 f1
    replace G0 := hid (G0.o.fr f1 id)
    clear f1 F0 HG
    generalize w.heap.size = p at *
    have f2 := ((Fr.refl No w1).alloc (.cells #[.int .i64 y.t.val, .bool y.t.mut_] 54)).alloc (.cells #[.int .i64 y.v.t, .int .u64 y.v.n] 57)
    have F2 := ftr F1 f2
    replace G0 := hid (G0.o.fr f2 id)
    have G1 := hid ((Blk.new w1 54 #[.int .i64 y.t.val, .bool y.t.mut_]).alloc (.cells #[.int .i64 y.v.t, .int .u64 y.v.n] 57))
    clear f2
    go_upto_region 2 with fail
    generalize (w1.alloc (.cells #[.int .i64 y.t.val, .bool y.t.mut_] 54)).alloc (.cells #[.int .i64 y.v.t, .int .u64 y.v.n] 57) = W at *
    generalize w1.heap.size = p2 at *
    have z0 := G0.o.cell 0
    have z1 := G0.o.cell 1
    have y0 := G1.o.cell 0
    have y1 := G1.o.cell 1
    go_wp2_with fail
    refine (HR.o _).mono ?_
    rintro e w3 ⟨rfl, f3⟩
    have F3 := ftr F2 f3
    replace G0 := hid (G0.o.fr f3 id)
    clear f3 z0 z1 y0 y1 G1 HR
    go_wp2
    go_ret
    exact GrTo.no H.o F3.o
   | true =>
    simp only [if_true]
    go_enter func24, ntmps24
    go_wp2_with fail
    refine HG.o.mono ?_
    rintro e w1 ⟨rfl, f1⟩
    have F1 := ftr F0 f1
    replace G0 := hid (G0.o.fr f1 id)
    clear f1 F0 HG
    generalize w.heap.size = p at *
    have f2 := ((Fr.refl No w1).alloc (.cells #[.int .i64 y.t.val, .bool y.t.mut_] 54)).alloc (.cells #[.int .i64 y.v.t, .int .u64 y.v.n] 57)
    have F2 := ftr F1 f2
    replace G0 := hid (G0.o.fr f2 id)
    have G1 := hid ((Blk.new w1 54 #[.int .i64 y.t.val, .bool y.t.mut_]).alloc (.cells #[.int .i64 y.v.t, .int .u64 y.v.n] 57))
    clear f2
    go_upto_region 2 with fail
    generalize (w1.alloc (.cells #[.int .i64 y.t.val, .bool y.t.mut_] 54)).alloc (.cells #[.int .i64 y.v.t, .int .u64 y.v.n] 57) = W at *
    generalize w1.heap.size = p2 at *
    have z0 := G0.o.cell 0
    have z1 := G0.o.cell 1
    have y0 := G1.o.cell 0
    have y1 := G1.o.cell 1
    go_wp2_with fail
    refine (HR.o _).mono ?_
    rintro e w3 ⟨rfl, f3⟩
    have F3 := ftr F2 f3
    replace G0 := hid (G0.o.fr f3 id)
    clear f3 z0 z1 y0 y1 G1 HR
    have HX : Hid (∀ X, Fr No w3 X → Ce X V.P 6 (.slice (some ⟨g, 0, none⟩) x.globs.length c) ∧ Ce X p 0 (.int .i64 v.t) ∧ Ce X p 1 (.int .u64 v.n)) := fun X f => ⟨HC.o X (F3.o.trans f i3), (G0.o.fr f id).cell 0, (G0.o.fr f id).cell 1⟩
    go_wp2_with fail
    refine rwO (fun X => Ce X V.P 6 (.slice (some ⟨g, 0, none⟩) x.globs.length c) ∧ Ce X p 0 (.int .i64 v.t) ∧ Ce X p 1 (.int .u64 v.n)) [9] (List.range 10) [9] (HX.o _ (Fr.refl No _).drew) ?_
    refine rC ?_
    refine wpO_eff rfl rfl (fun K hK => ?_)
    simp only [zA]
    refine wp_store_mid 57 _ _ (by rfl) g (k * 4 + 2) #[.int .i64 v.t, .int .u64 v.n] (by rfl) (by rfl) (HT.o _ F3.o.drew) kr (by simp [Value.oneCell']) ?_
    have HS2 := hid (HS.o _ F3.o.drew)
    refine hK _ _ (fun h => by cases h) ?_
    clear hK K
    refine wpO_nil ?_
    go_wp2
    go_ret
    exact ⟨V, R, rfl, HS2.o.1, (Grown.of_no F3.o.drew).trans HS2.o.2⟩
 have hi' : i < 0 ∨ (x.globs.length : Int) ≤ i := om
 rw [kBv hi'] at HG
 rw [kBh hi']
 have HG := hid HG
 clear h hi
 go_enter func24, ntmps24
 go_wp2_with fail
 refine HG.o.mono ?_
 rintro e w1 ⟨rfl, f1⟩
 have F1 := ftr F0 f1
 clear f1 F0 HG
 go_wp2
 go_ret
 exact GrTo.no H.o ((F1.o.alloc _).alloc _)
end
section
variable {w : World} {R : Nat → Prop} {V : Pl} {x : Rx}
def tbB (t : Tb) : Bool := tabB t.elem t.lim.min t.lim.max t.lim.has
def kBr (x : Rx) (t : Tb) : Rx × Int := if tbB t then ({ x with tabs := x.tabs ++ [⟨t, List.replicate t.lim.min.toNat 0⟩] }, x.tabs.length) else (x, -1)
abbrev q8x4 (a0 : Tb) : Array Value := #[.int .i64 a0.elem, .int .i64 a0.lim.min, .int .i64 a0.lim.max, .bool a0.lim.has]
theorem kHs (h : StIn w R V x) (t : Tb) (hn : x.tabs.length ≤ 1000000) :
    Calls prog 18 #[.pointer (some ⟨V.P, 0, none⟩), .agg (q8x4 t)] w (GrTo R V (.int .i64 (kBr x t).2) (kBr x t).1 w) := by
 have F0 := hid ((Fr.refl No w).alloc (.cells (q8x4 t) 52))
 have G0 := hid (Blk.new w 52 (q8x4 t))
 have H := hid h
 clear h
 have HTA := hid (fun X => kGI t.elem t.lim.min t.lim.max t.lim.has X)
 unfold kBr
 cases hv : tbB t with
 | false =>
  have HV : Hid (tabB t.elem t.lim.min t.lim.max t.lim.has = false) := hv
  clear hv
  rw [HV.o] at HTA
  simp only [if_true, Bool.false_eq_true, if_false]
  go_enter func18, ntmps18
  go_wp2_with (go_at_call 74; refine (HTA.o _).mono ?_; rintro e w1 ⟨rfl, f1⟩; have F1 := hid (Fr.of_below (M := No) f1); clear f1)
  go_ret
  exact GrTo.no H.o (F0.o.trans F1.o i3)
 | true =>
  have HV : Hid (tabB t.elem t.lim.min t.lim.max t.lim.has = true) := hv
  clear hv
  rw [HV.o] at HTA
  simp only [if_true, Bool.false_eq_true, if_false]
  go_enter func18, ntmps18
  go_wp2_with (go_at_call 74; refine (HTA.o _).mono ?_; rintro e w1 ⟨rfl, f1⟩; have F1 := hid (Fr.of_below (M := No) f1); clear f1)
  have F2 := ftr F0 F1.o
  have G1 := hid (G0.o.fr F1.o id)
  have HX : Hid (∀ X, Blk X w.heap.size 52 (q8x4 t) → Ce X w.heap.size 0 (.int .i64 t.elem) ∧ Ce X w.heap.size 1 (.int .i64 t.lim.min) ∧ Ce X w.heap.size 2 (.int .i64 t.lim.max) ∧ Ce X w.heap.size 3 (.bool t.lim.has)) := fun X b => ⟨b.cell 0, b.cell 1, b.cell 2, b.cell 3⟩
  clear G0 F0 F1 HTA
  refine rwO (fun X => Ce X w.heap.size 0 (.int .i64 t.elem) ∧ Ce X w.heap.size 1 (.int .i64 t.lim.min) ∧ Ce X w.heap.size 2 (.int .i64 t.lim.max) ∧ Ce X w.heap.size 3 (.bool t.lim.has)) [] (List.range 7) [4, 5] (HX.o _ G1.o.drew) ?_
  refine rC ?_
  refine wpO_eff rfl rfl fun K hK => sz ?_
  refine (kNc t.elem t.lim.min t.lim.max t.lim.has _ HV.o).mono ?_
  rintro e w2 ⟨p, q, rfl, hm, l1, l2, f2⟩
  have F3 := hid (F2.o.drew.trans f2 i3)
  have G2 := hid (G1.o.drew.fr f2 id)
  have HM := hid hm
  have l1 : w.heap.size ≤ p := Nat.le_trans F2.o.size l1
  have l2 : w.heap.size ≤ q := Nat.le_trans F2.o.size l2
  clear hm f2
  refine hK _ _ (fun _ => HX.o _ G2.o) ?_
  clear hK K
  have K1 : Hid (StIn w2 (fun k => R k ∨ k = p ∨ k = q) V x) := H.o.fr F3.o (fun _ _ m => m.elim) (fun k hk r => r.elim (fun r => r) (fun e => by omega)) (fun k r => .inl r) (fun k r => r.elim (fun r => ltl (H.o.low k r) F3.o.size) (fun e => e.elim (fun e => e ▸ HM.o.blk.lt) (fun e => e ▸ HM.o.own.lt)))
  refine wpO_eff rfl rfl fun K hK => sz ?_
  refine (kKS V.P 4 (Sd w2 (fun k => R k ∨ k = p ∨ k = q)) V.ta (V.tp.map (·.1)) p w2 (K1.o.addIn_ta rfl (by simp [H.o.tl]; exact hn))).mono ?_
  intro e w3 ha
  obtain ⟨V', R', rfl, h2, h3⟩ := H.o.added_ta (z := (p, q, t.lim.min.toNat)) (t := ⟨t, List.replicate t.lim.min.toNat 0⟩) F3.o HM.o l1 l2 ha
  have H2 := hid h2
  have H3 := hid h3
  clear h2 h3
  obtain ⟨v9, e9, -, f9, -⟩ := ha
  have G3 := G2.o.fr f9 (fun m => m.elim (fun e => by have := H.o.lt V.oP; omega) (fun e => by have := H.o.lt (Pl.o_ta e); omega))
  refine hK _ _ (fun _ => HX.o _ G3) ?_
  clear hK K f9 e9 G3
  refine rC ?_
  refine wpO_nil ?_
  go_wp2
  go_ret
  exact ⟨V', R', rfl, H2.o, H3.o⟩
end
theorem kGN (A B : OA) (xs ys : List Int) (c d : Nat) (S T : Nat → Prop) (w : World) (ha : tI.els w S A xs) (hb : tI.els w T B ys) (h1 : xs.length ≤ 140737488351232) (h2 : ys.length ≤ 140737488351232) :
    Calls prog 156 #[.slice A xs.length c, .slice B ys.length d] w fun e w' => e = .returned (.bool (decide (xs = ys))) ∧ ∃ n, w' = w.drewN n := by
 by_cases hl : xs.length = ys.length
 · have e1 : (((xs.length : Nat) : Int) != ((ys.length : Nat) : Int)) = false := by simp [hl]
   have hL := hid hl
   have hl1 : xs.length ≤ ys.length := om
   clear hl
   go_enter func156, ntmps156
   go_wp2
   go_loopw [14] (fun i wr => ∃ k m : Nat, k ≤ xs.length ∧ i = .int .i64 k ∧ wr = w.drewN m ∧ xs.take k = ys.take k) (fun i _ => xs.length - (intOf i).toNat)
   case atStart => exact ⟨0, 0, by omega, rfl, rfl, by simp⟩
   obtain ⟨k, m, hk, rfl, rfl, hq⟩ := hrel
   have HQ := hid hq
   clear hq e1
   by_cases hlt : k < xs.length
   · obtain ⟨b, o, rfl, _, c1, _⟩ := kDc ha k hlt
     obtain ⟨b', o', rfl, _, c2, _⟩ := kDc hb k om
     have i0 := nki k
     have i1 : (k : Int) < xs.length := om
     have i2 : (k : Int) < ys.length := om
     generalize hx : xs[k] = x at c1
     generalize hy : ys[k] = y at c2
     have HX := hid hx
     have HY := hid hy
     clear hx hy ha hb
     by_cases hxy : x = y
     · have hn : (x != y) = false := by simp [hxy]
       have HXY := hid hxy
       clear hxy
       go_wp2
       go_roundw
       case rel =>
        refine ⟨k + 1, _, by omega, by go_num, rfl, ?_⟩
        rw [List.take_succ_eq_append_getElem hlt, List.take_succ_eq_append_getElem (by omega), HQ.o, HX.o, HY.o, HXY.o]
       simp [intOf]; omega
     have hn : (x != y) = true := by simp [hxy]
     have HXY := hid hxy
     clear hxy
     go_wp2
     go_ret
     refine ⟨ret_bool ?_, _, rfl⟩
     symm
     rw [decide_eq_false_iff_not]
     rintro rfl
     exact HXY.o (HX.o.symm.trans HY.o)
   go_wp2
   go_ret
   refine ⟨ret_bool ?_, _, rfl⟩
   exact yy21
 have e1 : (((xs.length : Nat) : Int) != ((ys.length : Nat) : Int)) = true := by simp; omega
 have hL := hid hl
 clear hl
 go_enter func156, ntmps156
 exact yy39
theorem kDn (A B : OA) (xs ys : List Int) (c d : Nat) (S T : Nat → Prop) (w : World) (ha : tI.els w S A xs) (hb : tI.els w T B ys) (h1 : xs.length ≤ 140737488351232) (h2 : ys.length ≤ 140737488351232) :
    Calls prog 137 #[.slice A xs.length c, .slice B ys.length d] w fun e w' => e = .returned (.bool (decide (xs = ys))) ∧ ∃ n, w' = w.drewN n := by
 by_cases hl : xs.length = ys.length
 · have e1 : (((xs.length : Nat) : Int) != ((ys.length : Nat) : Int)) = false := by simp [hl]
   have hL := hid hl
   have hl1 : xs.length ≤ ys.length := om
   clear hl
   go_enter func137, ntmps137
   go_wp2
   go_loopw [5] (fun i wr => ∃ k m : Nat, k ≤ xs.length ∧ i = .int .i64 k ∧ wr = w.drewN m ∧ xs.take k = ys.take k) (fun i _ => xs.length - (intOf i).toNat)
   case atStart => exact ⟨0, 0, by omega, rfl, rfl, by simp⟩
   obtain ⟨k, m, hk, rfl, rfl, hq⟩ := hrel
   have HQ := hid hq
   clear hq e1
   by_cases hlt : k < xs.length
   · obtain ⟨b, o, rfl, _, c1, _⟩ := kDc ha k hlt
     obtain ⟨b', o', rfl, _, c2, _⟩ := kDc hb k om
     exact yy6
   go_wp2
   go_ret
   refine ⟨ret_bool ?_, _, rfl⟩
   exact yy21
 have e1 : (((xs.length : Nat) : Int) != ((ys.length : Nat) : Int)) = true := by simp; omega
 have hL := hid hl
 clear hl
 go_enter func137, ntmps137
 exact yy39
def fnEq (f g : Fn) : Bool := decide (f.params = g.params) && decide (f.results = g.results)
theorem kFI {f g : Fn} : fnEq f g = true ↔ f = g := by
 cases f; cases g
 simp [fnEq]
abbrev q8x5 (a0 a1 : Option Addr) (a2 : Fn) (a3 a4 : Nat) : Array Value := #[.slice a0 a2.params.length a3, .slice a1 a2.results.length a4]
abbrev q8x6 (a0 a1 : Option Addr) (a2 : Fn) (a3 a4 : Nat) : Array Value := #[.slice a0 a2.params.length a3, .slice a1 a2.results.length a4]
theorem kKf (f g : Fn) (A1 A2 B1 B2 : OA) (c1 c2 d1 d2 : Nat) (S T : Nat → Prop) (w : World) (hS : Lt S w) (hT : Lt T w) (h1 : tI.els w S A1 f.params) (h2 : tI.els w S A2 f.results) (h3 : tI.els w T B1 g.params) (h4 : tI.els w T B2 g.results)
    (b1 : f.params.length ≤ 140737488351232) (b2 : f.results.length ≤ 140737488351232) (b3 : g.params.length ≤ 140737488351232) (b4 : g.results.length ≤ 140737488351232) :
    Calls prog 71 #[.agg (q8x5 A1 A2 f c1 c2), .agg (q8x6 B1 B2 g d1 d2)] w fun e w' => e = .returned (.bool (fnEq f g)) ∧ Fr No w w' := by
 have F0 := hid (((Fr.refl No w).alloc (.cells (q8x5 A1 A2 f c1 c2) 45)).alloc (.cells (q8x6 B1 B2 g d1 d2) 45))
 have HP := hid (fun (X : World) (f0 : Fr No w X) => kGN A1 B1 f.params g.params c1 d1 S T X (h1.fr f0 (fun k hk => ⟨hS k hk, fun x => x⟩)) (h3.fr f0 (fun k hk => ⟨hT k hk, fun x => x⟩)) b1 b3)
 have HR := hid (fun (X : World) (f0 : Fr No w X) => kGN A2 B2 f.results g.results c2 d2 S T X (h2.fr f0 (fun k hk => ⟨hS k hk, fun x => x⟩)) (h4.fr f0 (fun k hk => ⟨hT k hk, fun x => x⟩)) b2 b4)
 have G0 := hid ((Blk.new w 45 (q8x5 A1 A2 f c1 c2)).alloc (.cells (q8x6 B1 B2 g d1 d2) 45))
 have G1 := hid (Blk.new1 w (.cells (q8x5 A1 A2 f c1 c2) 45) 45 (q8x6 B1 B2 g d1 d2))
 unfold fnEq
 obtain ⟨q1, e1⟩ : ∃ q, q = decide (f.params = g.params) := ⟨_, rfl⟩
 obtain ⟨q2, e2⟩ : ∃ q, q = decide (f.results = g.results) := ⟨_, rfl⟩
 rw [← e1] at HP ⊢
 rw [← e2] at HR ⊢
 clear e1 e2 h1 h2 h3 h4 hS hT
 go_enter func71, ntmps71
 exact yy27
theorem kCV (f g : Fn) (A1 A2 B1 B2 : OA) (c1 c2 d1 d2 : Nat) (S T : Nat → Prop) (w : World) (hS : Lt S w) (hT : Lt T w) (h1 : tI.els w S A1 f.params) (h2 : tI.els w S A2 f.results) (h3 : tI.els w T B1 g.params) (h4 : tI.els w T B2 g.results)
    (b1 : f.params.length ≤ 140737488351232) (b2 : f.results.length ≤ 140737488351232) (b3 : g.params.length ≤ 140737488351232) (b4 : g.results.length ≤ 140737488351232) :
    Calls prog 48 #[.agg (q8x5 A1 A2 f c1 c2), .agg (q8x6 B1 B2 g d1 d2)] w fun e w' => e = .returned (.bool (fnEq f g)) ∧ Fr No w w' := by
 have F0 := hid (((Fr.refl No w).alloc (.cells (q8x5 A1 A2 f c1 c2) 45)).alloc (.cells (q8x6 B1 B2 g d1 d2) 45))
 have HP := hid (fun (X : World) (f0 : Fr No w X) => kDn A1 B1 f.params g.params c1 d1 S T X (h1.fr f0 (fun k hk => ⟨hS k hk, fun x => x⟩)) (h3.fr f0 (fun k hk => ⟨hT k hk, fun x => x⟩)) b1 b3)
 have HR := hid (fun (X : World) (f0 : Fr No w X) => kDn A2 B2 f.results g.results c2 d2 S T X (h2.fr f0 (fun k hk => ⟨hS k hk, fun x => x⟩)) (h4.fr f0 (fun k hk => ⟨hT k hk, fun x => x⟩)) b2 b4)
 have G0 := hid ((Blk.new w 45 (q8x5 A1 A2 f c1 c2)).alloc (.cells (q8x6 B1 B2 g d1 d2) 45))
 have G1 := hid (Blk.new1 w (.cells (q8x5 A1 A2 f c1 c2) 45) 45 (q8x6 B1 B2 g d1 d2))
 unfold fnEq
 obtain ⟨q1, e1⟩ : ∃ q, q = decide (f.params = g.params) := ⟨_, rfl⟩
 obtain ⟨q2, e2⟩ : ∃ q, q = decide (f.results = g.results) := ⟨_, rfl⟩
 rw [← e1] at HP ⊢
 rw [← e2] at HR ⊢
 clear e1 e2 h1 h2 h3 h4 hS hT
 go_enter func48, ntmps48
 exact yy27
def kBC (x : Rx) (f : Fi) : Bool := fnB f.ty && (decide (0 ≤ f.index) && (decide (-1 ≤ f.inst) && (!decide (f.inst = -1) || (match getI x.hosts f.index with | some h => fnEq h.ty f.ty | none => false))))
def kBs (x : Rx) (f : Fi) : Rx × Int := if kBC x f then ({ x with funcs := x.funcs ++ [f] }, x.funcs.length) else (x, -1)
theorem kCS {x : Rx} {f : Fi} (h : kBC x f = false) : kBs x f = (x, -1) := by rw [kBs, h]; rfl
theorem kDN {x : Rx} {f : Fi} (h : kBC x f = true) : kBs x f = ({ x with funcs := x.funcs ++ [f] }, ((x.funcs.length : Nat) : Int)) := by rw [kBs, h]; rfl
section
variable {w : World} {R : Nat → Prop} {V : Pl} {x : Rx}
abbrev q8x2 (a0 a1 : Option Addr) (a2 : Fi) (a3 a4 : Nat) : Array Value := #[.slice a0 a2.ty.params.length a3, .slice a1 a2.ty.results.length a4, .int .i64 a2.inst, .int .i64 a2.index]
abbrev q8x3 (a0 a1 : Option Addr) (a2 : Fi) (a3 a4 : Nat) : List Value := [.slice a0 a2.ty.params.length a3, .slice a1 a2.ty.results.length a4, .int .i64 a2.inst, .int .i64 a2.index]
theorem kIs (h : StIn w R V x) (f : Fi) (A1 A2 : OA) (c1 c2 : Nat) (h1 : tI.els w (· < w.heap.size) A1 f.ty.params) (h2 : tI.els w (· < w.heap.size) A2 f.ty.results) (hn : x.funcs.length ≤ 1000000)
    (b1 : f.ty.params.length * 8 ≤ 140737488351232) (b2 : f.ty.results.length * 8 ≤ 140737488351232) (wi : (Lit.int .i64 f.inst).wf = true) (wx : (Lit.int .i64 f.index).wf = true) (hh : ∀ a ∈ x.hosts, a.ty.params.length ≤ 140737488351232 ∧ a.ty.results.length ≤ 140737488351232) :
    Calls prog 17 #[.pointer (some ⟨V.P, 0, none⟩), .agg (q8x2 A1 A2 f c1 c2)] w (GrTo R V (.int .i64 (kBs x f).2) (kBs x f).1 w) := by
 have F0 := hid ((Fr.refl No w).alloc (.cells (q8x2 A1 A2 f c1 c2) 47))
 have G0 := hid (Blk.new w 47 (q8x2 A1 A2 f c1 c2))
 have H := hid h
 have HR := hid (fun (X : World) (f0 : Fr No w X) => kBn f.ty A1 A2 c1 c2 w.heap.size X f0.size (h1.fr f0 (fun k hk => ⟨hk, fun x => x⟩)) (h2.fr f0 (fun k hk => ⟨hk, fun x => x⟩)) om om)
 have HC := hid (fun (X : World) (f0 : Fr No w X) => kCz f.ty A1 A2 c1 c2 (· < w.heap.size) X (fun k hk => ltl hk f0.size) (h1.fr f0 (fun k hk => ⟨hk, fun x => x⟩)) (h2.fr f0 (fun k hk => ⟨hk, fun x => x⟩)) b1 b2)
 have HE1 := hid h1
 have HE2 := hid h2
 clear h h1 h2
 cases hf : fnB f.ty with
 | false =>
  rw [kCS (by rw [kBC, hf]; rfl)]
  rw [hf] at HR
  exact yy35
 | true =>
  rw [hf] at HR
  by_cases hx : f.index < 0
  · rw [kCS (by rw [kBC, decide_eq_false (p := 0 ≤ f.index) (by omega)]; simp)]
    have d1 : decide (f.index < 0) = true := by simp [hx]
    exact yy35
  · have d1 : decide (f.index < 0) = false := by simp; omega
    by_cases hi : f.inst < -1
    · rw [kCS (by rw [kBC, decide_eq_false (p := -1 ≤ f.inst) (by omega)]; simp)]
      have d2 : decide (f.inst < -1) = true := by simp [hi]
      exact yy35
    have d2 : decide (f.inst < -1) = false := by simp; omega
    by_cases hm : f.inst = -1
    · have d3 : (f.inst == -1) = true := by simp [hm]
      obtain ⟨AH, cH, hvH, _, helH⟩ := H.o.sl_ho
      have HH : Hid (∀ X, Fr No w X → Ce X V.P 0 (.slice AH x.hosts.length cH)) := fun X f0 => by
       exact ((H.o.frNo f0).blk.cell 0).trans (by rw [← hvH]; rfl)
      have i0 : (0 : Int) ≤ f.index := om
      by_cases hlt : f.index < x.hosts.length
      · have i1 : decide ((x.hosts.length : Int) ≤ f.index) = false := by simp; omega
        have i2 : f.index < (x.hosts.length : Int) := hlt
        have hk : f.index.toNat < x.hosts.length := om
        obtain ⟨b, o, T1, t1, T2, t2, Q, qc, rfl, hb, -, -, y2, y3, -, -, -, -, -, e1, -, -, e2, -⟩ := kBa helH f.index.toNat hk
        have hhk := hh x.hosts[f.index.toNat] (List.getElem_mem hk)
        have hg : getI x.hosts f.index = some x.hosts[f.index.toNat] := by
         have := kBL hk
         rwa [Int.toNat_of_nonneg i0] at this
        have HY : Hid (∀ X, Fr No w X → Ce X b (o + f.index.toNat * 5 + 2) (.slice T1 (x.hosts[f.index.toNat]).ty.params.length t1) ∧ Ce X b (o + f.index.toNat * 5 + 3) (.slice T2 (x.hosts[f.index.toNat]).ty.results.length t2)) := fun X f0 => ⟨(f0.cell (p := ⟨b, o + f.index.toNat * 5 + 2, none⟩) hb id).trans y2, (f0.cell (p := ⟨b, o + f.index.toNat * 5 + 3, none⟩) hb id).trans y3⟩
        generalize x.hosts[f.index.toNat] = y at *
        have HSM := hid (fun (X : World) (f0 : Fr No w X) => kKf y.ty f.ty T1 T2 A1 A2 t1 t2 c1 c2 (· < w.heap.size) (· < w.heap.size) X (fun k hk => ltl hk f0.size) (fun k hk => ltl hk f0.size) (e1.fr f0 (fun k hk => ⟨hk, fun x => x⟩)) (e2.fr f0 (fun k hk => ⟨hk, fun x => x⟩)) (HE1.o.fr f0 (fun k hk => ⟨hk, fun x => x⟩)) (HE2.o.fr f0 (fun k hk => ⟨hk, fun x => x⟩)) hhk.1 hhk.2 om om)
        clear e1 e2 y2 y3 helH hvH
        cases hq : fnEq y.ty f.ty with
        | false =>
         rw [kCS (by rw [kBC, decide_eq_true hm, hg]; simp [hq])]
         rw [hq] at HSM
         clear hg hq hm
         go_enter func17, ntmps17
         go_wp2_with fail
         refine (HR.o _ F0.o).mono ?_
         rintro e w1 ⟨rfl, f1⟩
         have F1 := ftr F0 f1
         have G1 := hid (G0.o.fr f1 id)
         clear f1 HR
         have z0 := G1.o.cell 0
         have z1 := G1.o.cell 1
         have z2 := G1.o.cell 2
         have z3 := G1.o.cell 3
         have HX : Hid (∀ X, Fr No w1 X → Ce X w.heap.size 0 (.slice A1 f.ty.params.length c1) ∧ Ce X w.heap.size 1 (.slice A2 f.ty.results.length c2) ∧ Ce X w.heap.size 2 (.int .i64 f.inst) ∧ Ce X w.heap.size 3 (.int .i64 f.index) ∧ Ce X V.P 0 (.slice (some ⟨b, o, none⟩) x.hosts.length cH) ∧ Ce X b (o + f.index.toNat * 5 + 2) (.slice T1 y.ty.params.length t1) ∧ Ce X b (o + f.index.toNat * 5 + 3) (.slice T2 y.ty.results.length t2)) := fun X f0 => ⟨(G1.o.fr f0 id).cell 0, (G1.o.fr f0 id).cell 1, (G1.o.fr f0 id).cell 2, (G1.o.fr f0 id).cell 3, HH.o X (F1.o.trans f0 i3), HY.o X (F1.o.trans f0 i3)⟩
         go_wp2_with fail
         clear z0 z1 z2 z3
         refine rwO (fun X => Ce X w.heap.size 0 (.slice A1 f.ty.params.length c1) ∧ Ce X w.heap.size 1 (.slice A2 f.ty.results.length c2) ∧ Ce X w.heap.size 2 (.int .i64 f.inst) ∧ Ce X w.heap.size 3 (.int .i64 f.index) ∧ Ce X V.P 0 (.slice (some ⟨b, o, none⟩) x.hosts.length cH) ∧ Ce X b (o + f.index.toNat * 5 + 2) (.slice T1 y.ty.params.length t1) ∧ Ce X b (o + f.index.toNat * 5 + 3) (.slice T2 y.ty.results.length t2)) [] (List.range 28) [24] (HX.o _ (Fr.refl No _).drew) ?_
         refine rC ?_
         refine wpO_eff rfl rfl fun K hK => sz ?_
         refine (HSM.o _ F1.o.drew).mono ?_
         rintro e w2 ⟨rfl, f3⟩
         have F2 := hid (F1.o.drew.trans f3 i3)
         have G2 := hid (G1.o.drew.fr f3 id)
         refine hK _ _ (fun _ => HX.o _ ((Fr.refl No w1).drew.trans f3 i3)) ?_
         clear hK K f3
         refine rC ?_
         refine wpO_nil ?_
         clear F1 G1
         go_wp2
         go_ret
         exact GrTo.no H.o F2.o
        | true =>
         rw [kDN (by rw [kBC, hf, decide_eq_true (p := 0 ≤ f.index) (by omega), decide_eq_true (p := -1 ≤ f.inst) (by omega), decide_eq_true hm, hg]; simp [hq])]
         rw [hq] at HSM
         clear hg hq hm
         go_enter func17, ntmps17
         go_wp2_with fail
         refine (HR.o _ F0.o).mono ?_
         rintro e w1 ⟨rfl, f1⟩
         have F1 := ftr F0 f1
         have G1 := hid (G0.o.fr f1 id)
         clear f1 HR
         have z0 := G1.o.cell 0
         have z1 := G1.o.cell 1
         have z2 := G1.o.cell 2
         have z3 := G1.o.cell 3
         have HX : Hid (∀ X, Fr No w1 X → Ce X w.heap.size 0 (.slice A1 f.ty.params.length c1) ∧ Ce X w.heap.size 1 (.slice A2 f.ty.results.length c2) ∧ Ce X w.heap.size 2 (.int .i64 f.inst) ∧ Ce X w.heap.size 3 (.int .i64 f.index) ∧ Ce X V.P 0 (.slice (some ⟨b, o, none⟩) x.hosts.length cH) ∧ Ce X b (o + f.index.toNat * 5 + 2) (.slice T1 y.ty.params.length t1) ∧ Ce X b (o + f.index.toNat * 5 + 3) (.slice T2 y.ty.results.length t2)) := fun X f0 => ⟨(G1.o.fr f0 id).cell 0, (G1.o.fr f0 id).cell 1, (G1.o.fr f0 id).cell 2, (G1.o.fr f0 id).cell 3, HH.o X (F1.o.trans f0 i3), HY.o X (F1.o.trans f0 i3)⟩
         go_wp2_with fail
         clear z0 z1 z2 z3
         refine rwO (fun X => Ce X w.heap.size 0 (.slice A1 f.ty.params.length c1) ∧ Ce X w.heap.size 1 (.slice A2 f.ty.results.length c2) ∧ Ce X w.heap.size 2 (.int .i64 f.inst) ∧ Ce X w.heap.size 3 (.int .i64 f.index) ∧ Ce X V.P 0 (.slice (some ⟨b, o, none⟩) x.hosts.length cH) ∧ Ce X b (o + f.index.toNat * 5 + 2) (.slice T1 y.ty.params.length t1) ∧ Ce X b (o + f.index.toNat * 5 + 3) (.slice T2 y.ty.results.length t2)) [] (List.range 28) [24] (HX.o _ (Fr.refl No _).drew) ?_
         refine rC ?_
         refine wpO_eff rfl rfl fun K hK => sz ?_
         refine (HSM.o _ F1.o.drew).mono ?_
         rintro e w2 ⟨rfl, f3⟩
         have F2 := hid (F1.o.drew.trans f3 i3)
         have G2 := hid (G1.o.drew.fr f3 id)
         refine hK _ _ (fun _ => HX.o _ ((Fr.refl No w1).drew.trans f3 i3)) ?_
         clear hK K f3
         refine rC ?_
         refine wpO_nil ?_
         clear F1 G1
         exact yy1
      have i1 : decide ((x.hosts.length : Int) ≤ f.index) = true := by simp; omega
      have hg : getI x.hosts f.index = none := kBh (.inr om)
      rw [kCS (by rw [kBC, decide_eq_true hm, hg]; simp)]
      clear helH hvH hg hm
      go_enter func17, ntmps17
      go_wp2_with fail
      refine (HR.o _ F0.o).mono ?_
      rintro e w1 ⟨rfl, f1⟩
      have F1 := ftr F0 f1
      have G1 := hid (G0.o.fr f1 id)
      clear f1 HR
      have z0 := G1.o.cell 0
      have z1 := G1.o.cell 1
      have z2 := G1.o.cell 2
      have z3 := G1.o.cell 3
      have HX : Hid (∀ X, Fr No w1 X → Ce X w.heap.size 0 (.slice A1 f.ty.params.length c1) ∧ Ce X w.heap.size 1 (.slice A2 f.ty.results.length c2) ∧ Ce X w.heap.size 2 (.int .i64 f.inst) ∧ Ce X w.heap.size 3 (.int .i64 f.index) ∧ Ce X V.P 0 (.slice AH x.hosts.length cH)) := fun X f0 => ⟨(G1.o.fr f0 id).cell 0, (G1.o.fr f0 id).cell 1, (G1.o.fr f0 id).cell 2, (G1.o.fr f0 id).cell 3, HH.o X (F1.o.trans f0 i3)⟩
      go_wp2_with fail
      clear z0 z1 z2 z3
      refine rwO (fun X => Ce X w.heap.size 0 (.slice A1 f.ty.params.length c1) ∧ Ce X w.heap.size 1 (.slice A2 f.ty.results.length c2) ∧ Ce X w.heap.size 2 (.int .i64 f.inst) ∧ Ce X w.heap.size 3 (.int .i64 f.index) ∧ Ce X V.P 0 (.slice AH x.hosts.length cH)) [] (List.range 28) [24] (HX.o _ (Fr.refl No _).drew) ?_
      refine rC ?_
      refine wpO_skipE rfl rfl (HX.o _ (Fr.refl No _).drew) ?_
      simp only [zA, zC, Act.put]
      refine rC ?_
      refine wpO_nil ?_
      have F2 := hid F1.o.drew
      clear F1 G1
      generalize w1.drew = w2 at *
      go_wp2
      go_ret
      exact GrTo.no H.o F2.o
    rw [kDN (by rw [kBC, hf, decide_eq_true (p := 0 ≤ f.index) (by omega), decide_eq_true (p := -1 ≤ f.inst) (by omega), decide_eq_false hm]; rfl)]
    have d3 : (f.inst == -1) = false := by simp [hm]
    go_enter func17, ntmps17
    go_wp2_with fail
    refine (HR.o _ F0.o).mono ?_
    rintro e w1 ⟨rfl, f1⟩
    have F1 := ftr F0 f1
    have G1 := hid (G0.o.fr f1 id)
    clear f1 HR
    have z0 := G1.o.cell 0
    have z1 := G1.o.cell 1
    have z2 := G1.o.cell 2
    have z3 := G1.o.cell 3
    have HX : Hid (∀ X, Blk X w.heap.size 47 (q8x2 A1 A2 f c1 c2) → Ce X w.heap.size 0 (.slice A1 f.ty.params.length c1) ∧ Ce X w.heap.size 1 (.slice A2 f.ty.results.length c2) ∧ Ce X w.heap.size 2 (.int .i64 f.inst) ∧ Ce X w.heap.size 3 (.int .i64 f.index)) := fun X b => ⟨b.cell 0, b.cell 1, b.cell 2, b.cell 3⟩
    go_wp2_with fail
    clear z0 z1 z2 z3
    refine rwO (fun X => Ce X w.heap.size 0 (.slice A1 f.ty.params.length c1) ∧ Ce X w.heap.size 1 (.slice A2 f.ty.results.length c2) ∧ Ce X w.heap.size 2 (.int .i64 f.inst) ∧ Ce X w.heap.size 3 (.int .i64 f.index)) [] (List.range 28) [24] (HX.o _ G1.o.drew) ?_
    refine rC ?_
    refine wpO_skipE rfl rfl (HX.o _ G1.o.drew) ?_
    simp only [zA, zC, Act.put]
    refine rC ?_
    refine wpO_nil ?_
    have F2 := hid F1.o.drew
    have G2 := hid G1.o.drew
    clear F1 G1
    generalize w1.drew = w2 at *
    exact yy1
end
end Go.Proofs.YtdckghiipijobaaGreat
