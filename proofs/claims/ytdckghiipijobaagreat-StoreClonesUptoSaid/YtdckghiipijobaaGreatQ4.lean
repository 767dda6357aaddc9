/- Part 4 of the proof: lemmas and contracts of functions. No condition. -/
import Derived.Test.YtdckghiipijobaaGreatQ3
import Derived.Test.YtdckghiipijobaaGreatQ2
import Derived.Test.YtdckghiipijobaaGreatQ1
set_option maxRecDepth 100000
set_option maxHeartbeats 12800000
set_option linter.unusedVariables false
set_option linter.unusedSimpArgs false
set_option linter.unusedSectionVars false
namespace Go.Proofs.YtdckghiipijobaaGreat
open Go.RowKit Go.Proofs.Tryz
theorem kJG (x : Int) (hx : 0 ≤ x ∧ x < 18446744073709551616) : bits .and .u64 x 4294967295 = x % 4294967296 := by
 obtain ⟨n, rfl⟩ : ∃ n : Nat, x = n := ⟨x.toNat, by omega⟩
 have h := bits_and_u64_nat n 4294967295 om om
 have e : n &&& 4294967295 = n % 4294967296 := Nat.and_two_pow_sub_one_eq_mod n 32
 rw [e] at h
 simpa using h
theorem kNf (x : Int) (w : World) (hx : 0 ≤ x ∧ x < 18446744073709551616) : Calls prog 131 #[.int .u64 x] w fun e w' => e = .returned (.int .u64 (x % 4294967296)) ∧ w = w' := by
 go_enter func131, ntmps131
 go_wp2
 go_ret
 exact ⟨kEe (kJG x hx), rfl⟩
theorem kLx (x : Int) (w : World) (hx : 0 ≤ x ∧ x < 18446744073709551616) : Calls prog 134 #[.int .u64 x] w fun e w' => e = .returned (.int .i64 (x % 4294967296)) ∧ w = w' := by
 go_enter func134, ntmps134
 go_wp2
 go_ret
 exact ⟨kEe (by rw [kJG x hx]; simp only [wrap64]; omega), rfl⟩
def fits (size a n : Int) : Bool := decide (a ≤ size ∧ n ≤ size - a)
theorem kKg (s : Nat) (a n : Int) (w : World) (hs : s ≤ 1000000000000) (ha : 0 ≤ a ∧ a < 18446744073709551616) (hn : 0 ≤ n ∧ n < 18446744073709551616) : Calls prog 132 #[.int .i64 s, .int .u64 a, .int .u64 n] w fun e w' => e = .returned (.bool (fits s a n)) ∧ w = w' := by
 by_cases h1 : a ≤ s
 · by_cases h2 : n ≤ s - a
   · go_enter func132, ntmps132
     go_wp2
     exact yy40
   go_enter func132, ntmps132
   go_wp2
   exact yy40
 go_enter func132, ntmps132
 go_wp2
 exact yy40
theorem kLw (s a n : Int) (w : World) (hs : 0 ≤ s ∧ s ≤ 1000000000000) (ha : -9223372036854775808 ≤ a ∧ a ≤ 9223372036854775807) (hn : -9223372036854775808 ≤ n ∧ n ≤ 9223372036854775807) : Calls prog 133 #[.int .i64 s, .int .i64 a, .int .i64 n] w fun e w' => e = .returned (.bool (decide (0 ≤ a ∧ 0 ≤ n) && fits s a n)) ∧ w = w' := by
 by_cases h0 : 0 ≤ a
 · by_cases h00 : 0 ≤ n
   · by_cases h1 : a ≤ s
     · by_cases h2 : n ≤ s - a
       · go_enter func133, ntmps133
         go_wp2
         exact yy40
       go_enter func133, ntmps133
       go_wp2
       exact yy40
     go_enter func133, ntmps133
     go_wp2
     exact yy40
   go_enter func133, ntmps133
   go_wp2
   exact yy40
 go_enter func133, ntmps133
 go_wp2
 exact yy40
def Bts (l : List Int) : Prop := ∀ b ∈ l, 0 ≤ b ∧ b ≤ 255
theorem elBs : ElemOk prog 59 5 1 1 (.int .u8 0) := ElemOk.mk' underlying59 kr rfl dc
theorem kNu {n : Int} (h : 0 ≤ n ∧ n ≤ 255) : (Lit.int .u8 n).wf = true := by
 exact yy90
theorem kBW {w : World} {S : Nat → Prop} {l : List Int} (h : Bts l) : Css tB w S (l.map fun b => [.int .u8 b]) l := by
 refine ⟨by simp, fun i c x h1 h2 => ?_⟩
 rw [List.getElem?_map, h2] at h1
 simp only [Option.map_some, Option.some.injEq] at h1
 subst h1
 exact ⟨rfl, kNu (h x (List.mem_of_getElem? h2))⟩
theorem kBB (l : List Int) : (l.map fun b => [Value.int .u8 b]).flatten = Ks .u8 l := by
 induction l with
 | nil => rfl
 | cons a l ih => simp [Ks] at ih ⊢; exact ih
theorem kNU {w : World} {base q : Nat} {l : List Int} (hb : Blk w q 5 (Ks .u8 l).toArray) (hq : base ≤ q) (h : Bts l) (hm : l.length ≤ maxLen) : tB.row w base Emp 5 (.slice (some ⟨q, 0, none⟩) l.length l.length) l :=
 Ty.row.lit (css := l.map fun b => [.int .u8 b]) (by rw [kBB]; exact hb) hq (kBW h) hm
theorem Bts.take {l : List Int} (h : Bts l) (k : Nat) : Bts (l.take k) := fun b hb => h b (List.mem_of_mem_take hb)
theorem kDF (n : Nat) : Bts (List.replicate n 0) := fun b hb => by rw [List.mem_replicate] at hb; omega
theorem kCW (p : Nat) (A : OA) (n c : Nat) (w : World) (h3 : w.cell? ⟨p, 3, none⟩ = some (.slice A n c)) (hn : n ≤ 1000000) :
    Calls prog 64 #[.pointer (some ⟨p, 0, none⟩)] w fun e w' => e = .returned (.int .i64 ((n / 256 : Nat) : Int)) ∧ w = w' := by
 go_enter func64, ntmps64
 go_wp2
 go_ret
 exact ⟨kEe om, rfl⟩
def rmv (l : Lim) (A : OA) (n c : Nat) : Value := .agg #[.int .i64 l.min, .int .i64 l.max, .bool l.has, .slice A n c]
theorem Rd.take_ {w : World} {n : Nat} {A : OA} {xs : LV} (h : Rd w n A xs) (k : Nat) : Rd w n A (xs.take k) := by
 rcases h with h | ⟨q, o, rfl, hq, h⟩
 · rw [h]; simp; exact Rd.nil
 exact .inr ⟨q, o, rfl, hq, fun j u hu => by
  rw [List.getElem?_take] at hu
  split at hu
  · exact h j u hu
  · cases hu⟩
theorem Rd.drop_ {w : World} {n q o : Nat} {xs : LV} (h : Rd w n (some ⟨q, o, none⟩) xs) (k : Nat) : Rd w n (some ⟨q, o + k, none⟩) (xs.drop k) := by
 rcases h with h | ⟨q', o', e, hq, h⟩
 · rw [h]; simp; exact Rd.nil
 cases e
 exact .inr ⟨_, _, rfl, hq, fun j u hu => by
  rw [List.getElem?_drop] at hu
  have := h _ u hu
  rw [Nat.add_assoc]; exact this⟩
theorem kEq (k : IntKind) (xs : List Int) (n : Nat) : (Ks k xs).take n = Ks k (xs.take n) := by simp [Ks]
theorem kJK (k : IntKind) (xs : List Int) (n : Nat) : (Ks k xs).drop n = Ks k (xs.drop n) := by simp [Ks]
def WrTo (l : List Int) (w : World) (e : Ending) (w' : World) : Prop :=
 ∃ (A : OA) (c : Nat), e = .returned (.slice A l.length c) ∧ tB.row w' w.heap.size Emp 5 (.slice A l.length c) l ∧ Fr No w w'
theorem Bts.drop_ {l : List Int} (h : Bts l) (k : Nat) : Bts (l.drop k) := fun b hb => h b (List.mem_of_mem_drop hb)
theorem kDQ (A D : OA) (c c' a : Nat) (B bs : List Int) (w : World) (hB : Rd w w.heap.size A (Ks .u8 B)) (hA : A = none → B = []) (hD : Rd w w.heap.size D (Ks .u8 bs)) (b1 : Bts B) (b2 : Bts bs) (ha : a + bs.length ≤ B.length) (hc : B.length ≤ c) (hn : B.length ≤ 100000) (hspot : ∀ ad, A = some ad → ∃ q o, ad = ⟨q, o, none⟩) :
    Calls prog 135 #[.slice A B.length c, .int .i64 a, .slice D bs.length c'] w (WrTo (splice B a bs) w) := by
 cases A with
 | none =>
  have hB0 := hA rfl
  subst hB0
  simp only [List.length_nil] at ha
  have ha0 : a = 0 := om
  have hbs : bs = [] := List.eq_nil_of_length_eq_zero om
  subst ha0 hbs
  exact yy11
 | some ad =>
  obtain ⟨q, o, rfl⟩ := hspot ad rfl
  have hlen : (splice B a bs).length = B.length := by simp [splice]; omega
  have HB := hid hB
  have HD := hid hD
  have B1 := hid b1
  have B2 := hid b2
  have j0 := nki a
  have j1 : (a : Int) ≤ B.length := om
  have j2 : (a : Int) + bs.length ≤ B.length := om
  clear hB hD b1 b2 hA hspot
  by_cases hce : c = a + bs.length
  · subst hce
    go_enter func135, ntmps135
    go_upto_region 4 with (first | (at_builtin; refine wpList_appC (t := tB) (base := w.heap.size) (S := Emp) (xs := []) (ys := B.take a) (dss := (B.take a).map fun b => [.int .u8 b]) (B2 := w.heap.size) elBs rfl rfl rfl rfl (Ty.row.nil _ _ _ _) (kBW (B1.o.take a)) (by rw [kBB, ← kEq]; exact HB.o.take_ a) (by rw [List.length_take]; omega) (by simp; omega) (by simp; omega) (fun _ h => h.elim) nr ?_; intro v1 w1 hr1 fr1 hv1; have F1 := hid (fr1.mono (N := fun k => some k = (Value.slice none 0 0).ownBlock) (M := No) (fun _ _ h => by simp [Value.ownBlock] at h)); have R1 := hid hr1; clear hr1 fr1 hv1) | (at_builtin; refine wpList_appC (t := tB) (base := w.heap.size) (S := Emp) (v := v1) (xs := [] ++ B.take a) (ys := bs) (dss := (bs).map fun b => [.int .u8 b]) (B2 := w.heap.size) elBs rfl rfl rfl rfl R1.o (kBW B2.o) (by rw [kBB]; exact HD.o.fr F1.o (fun _ _ x => x)) rfl (by simp; omega) (by simp; omega) (fun _ h => h.elim) F1.o.size ?_; intro v2 w2 hr2 fr2 hv2; have F2 := hid (own_frame R1.o F1.o fr2 nr); have R2 := hid hr2; clear hr2 fr2 hv2))
    go_wp2_with (at_builtin; refine wpList_appC (t := tB) (base := w.heap.size) (S := Emp) (v := v2) (xs := [] ++ B.take a ++ bs) (ys := B.drop (a + bs.length)) (dss := (B.drop (a + bs.length)).map fun b => [.int .u8 b]) (B2 := w.heap.size) elBs rfl rfl rfl rfl R2.o (kBW (B1.o.drop_ _)) (by rw [kBB, List.drop_eq_nil_of_le (by omega)]; exact Rd.nil) (by simp only [List.length_drop]) (by simp; omega) (by simp; omega) (fun _ h => h.elim) F2.o.size ?_; intro v3 w3 hr3 fr3 hv3; have F3 := hid (own_frame R2.o F2.o fr3 nr); have R3 := hid hr3; clear hr3 fr3 hv3)
    all_goals
     obtain ⟨A3, c3, e3, _, _, _⟩ := R3.o.els (S' := fun _ => True) tvv tvv
     exact yy76
  · go_enter func135, ntmps135
    go_upto_region 4 with (first | (at_builtin; refine wpList_appC (t := tB) (base := w.heap.size) (S := Emp) (xs := []) (ys := B.take a) (dss := (B.take a).map fun b => [.int .u8 b]) (B2 := w.heap.size) elBs rfl rfl rfl rfl (Ty.row.nil _ _ _ _) (kBW (B1.o.take a)) (by rw [kBB, ← kEq]; exact HB.o.take_ a) (by rw [List.length_take]; omega) (by simp; omega) (by simp; omega) (fun _ h => h.elim) nr ?_; intro v1 w1 hr1 fr1 hv1; have F1 := hid (fr1.mono (N := fun k => some k = (Value.slice none 0 0).ownBlock) (M := No) (fun _ _ h => by simp [Value.ownBlock] at h)); have R1 := hid hr1; clear hr1 fr1 hv1) | (at_builtin; refine wpList_appC (t := tB) (base := w.heap.size) (S := Emp) (v := v1) (xs := [] ++ B.take a) (ys := bs) (dss := (bs).map fun b => [.int .u8 b]) (B2 := w.heap.size) elBs rfl rfl rfl rfl R1.o (kBW B2.o) (by rw [kBB]; exact HD.o.fr F1.o (fun _ _ x => x)) rfl (by simp; omega) (by simp; omega) (fun _ h => h.elim) F1.o.size ?_; intro v2 w2 hr2 fr2 hv2; have F2 := hid (own_frame R1.o F1.o fr2 nr); have R2 := hid hr2; clear hr2 fr2 hv2))
    go_wp2_with (at_builtin; refine wpList_appC (t := tB) (base := w.heap.size) (S := Emp) (v := v2) (xs := [] ++ B.take a ++ bs) (ys := B.drop (a + bs.length)) (dss := (B.drop (a + bs.length)).map fun b => [.int .u8 b]) (B2 := w.heap.size) elBs rfl rfl rfl rfl R2.o (kBW (B1.o.drop_ _)) (by rw [kBB, ← kJK]; exact (HB.o.fr F2.o (fun _ _ x => x)).drop_ (a + bs.length)) (by simp only [List.length_drop]) (by simp; omega) (by simp; omega) (fun _ h => h.elim) F2.o.size ?_; intro v3 w3 hr3 fr3 hv3; have F3 := hid (own_frame R2.o F2.o fr3 nr); have R3 := hid hr3; clear hr3 fr3 hv3)
    all_goals
     obtain ⟨A3, c3, e3, _, _, _⟩ := R3.o.els (S' := fun _ => True) tvv tvv
     exact yy76
structure RmIn (w : World) (A : OA) (c : Nat) (B : List Int) : Prop where
 rd : Rd w w.heap.size A (Ks .u8 B)
 nil : A = none → B = []
 spot : ∀ ad, A = some ad → ∃ q o, ad = ⟨q, o, none⟩
 bts : Bts B
 cap : B.length ≤ c
theorem RmIn.fr {w w' : World} {A : OA} {c : Nat} {B : List Int} (h : RmIn w A c B) (f : Fr No w w') : RmIn w' A c B :=
 ⟨(h.rd.fr f (fun _ _ x => x)).more f.size, h.nil, h.spot, h.bts, h.cap⟩
theorem RmIn.els {w : World} {A : OA} {c : Nat} {B : List Int} (h : RmIn w A c B) : tB.els w (· < w.heap.size) A B := by
 rcases h.rd with hh | ⟨q, o, rfl, hq, hh⟩
 · have : B = [] := by cases B with
    | nil => rfl
    | cons _ _ => simp [Ks] at hh
   exact .inl this
 exact kGF (S := Emp) (S' := (· < w.heap.size)) (css := B.map fun b => [.int .u8 b]) (kBW h.bts) inferInstance (fun _ h => h.elim) hq o (fun k u hu => hh k u (by rwa [kBB] at hu))
theorem kLR {w : World} {S : Nat → Prop} {css : List (LV)} {B : List Int} (h : Css tB w S css B) : css.flatten = Ks .u8 B ∧ Bts B := by
 have e : css = B.map fun b => [.int .u8 b] := by
  apply List.ext_getElem?
  intro i
  rw [List.getElem?_map]
  cases hb : B[i]? with
  | none =>
   have : B.length ≤ i := List.getElem?_eq_none_iff.1 hb
   rw [List.getElem?_eq_none (by rw [h.1]; exact this)]; rfl
  | some b =>
   have hi : i < css.length := by rw [h.1]; exact (List.getElem?_eq_some_iff.1 hb).1
   have := (h.2 i css[i] b (List.getElem?_eq_getElem hi) hb).1
   rw [List.getElem?_eq_getElem hi, this]; rfl
 refine ⟨by rw [e, kBB], fun b hb => ?_⟩
 obtain ⟨i, hi, rfl⟩ := List.getElem_of_mem hb
 have hi' : i < css.length := by rw [h.1]; exact hi
 exact kGm (h.2 i css[i] B[i] (List.getElem?_eq_getElem hi') (List.getElem?_eq_getElem hi)).2
theorem kDV {w : World} {base c : Nat} {A : OA} {B : List Int} (h : tB.row w base Emp 5 (.slice A B.length c) B) : RmIn w A c B := by
 obtain ⟨css, h1, h2⟩ := h
 obtain ⟨e1, hb⟩ := kLR h1
 rw [e1] at h2
 obtain ⟨A', c', e, hl, hr, hs⟩ := kFC (n := B.length) h2
 injection e with e2 _ e3
 subst e2 e3
 refine ⟨hr, fun hA => ?_, fun ad had => ?_, hb, by simpa using hl⟩
 · subst hA
   rcases hr with hr | ⟨_, _, hc, _⟩
   · cases B with
     | nil => rfl
     | cons _ _ => simp [Ks] at hr
   cases hc
 subst had
 rcases hs with hs | ⟨b, o, hs⟩
 · cases hs
 injection hs with hs; exact ⟨b, o, hs⟩
abbrev q4x0 (a0 : Lim) (a1 : Option Addr) (a2 : List Int) (a3 : Nat) : Array Value := #[.int .i64 a0.min, .int .i64 a0.max, .bool a0.has, .slice a1 a2.length a3]
def RmTo (l : Lim) (A0 : OA) (B0 B : List Int) (t : Int) (w : World) (e : Ending) (w' : World) : Prop :=
 ∃ (A : OA) (c : Nat), e = .returned (.tuple #[.agg (q4x0 l A B c), .int .i64 t]) ∧ RmIn w' A c B ∧ ((A = A0 ∧ B = B0) ∨ ∀ q o, A = some ⟨q, o, none⟩ → w.heap.size ≤ q) ∧ Fr No w w'
theorem kDm {B bs : List Int} {a : Nat} (h : a + bs.length ≤ B.length) : (splice B a bs).length = B.length := by simp [splice]; omega
structure SrcIn (w : World) (A : OA) (c : Nat) (B : List Int) : Prop where
 rd : Rd w w.heap.size A (Ks .u8 B)
 nil : A = none → B = []
 spot : B.length ≠ 0 → ∀ ad, A = some ad → ∃ q o, ad = ⟨q, o, none⟩
 bts : Bts B
 cap : B.length ≤ c
theorem RmIn.src {w : World} {A : OA} {c : Nat} {B : List Int} (h : RmIn w A c B) : SrcIn w A c B := ⟨h.rd, h.nil, fun _ => h.spot, h.bts, h.cap⟩
theorem SrcIn.fr {w w' : World} {A : OA} {c : Nat} {B : List Int} (h : SrcIn w A c B) (f : Fr No w w') : SrcIn w' A c B :=
 ⟨(h.rd.fr f (fun _ _ x => x)).more f.size, h.nil, h.spot, h.bts, h.cap⟩
theorem kEd (kl kh : IntKind) (D : OA) (n d k m : Nat) (hk : k + m ≤ n) (hd : n ≤ d) (hspot : n ≠ 0 → ∀ ad, D = some ad → ∃ q o, ad = ⟨q, o, none⟩) :
    ∃ (D' : OA) (d' : Nat), (∀ W, (Instr.slice 59 (.slice D n d) (some (.int kl (k : Int))) (some (.int kh ((k : Int) + m))) none).run prog W = .ok (.slice D' m d') W) ∧ m ≤ d' ∧
     (D' = D ∧ (D = none ∨ m = 0 ∨ k = 0) ∨ ∃ q o, D = some ⟨q, o, none⟩ ∧ D' = some ⟨q, o + k, none⟩) := by
 have hrun := fun W => run_slice_lh (P := prog) (w := W) 59 D n d kr kl kh (k : Int) ((k : Int) + m) om om om
 have e1 : ((k : Int) + m).toNat = k + m := om
 have hs : ∀ W, (sizeOf (prog.elem 59)).run prog W = .ok 1 W := fun W => by kernel_rfl
 simp only [Int.toNat_natCast, e1, hs, Result.andThen_ok] at hrun
 cases D with
 | none =>
  exact ⟨none, d - k, fun W => by rw [hrun W]; simp [sliced], by omega, .inl ⟨rfl, .inl rfl⟩⟩
 | some ad =>
  by_cases hn0 : n = 0
  · have hk0 : k = 0 := om
    have hm0 : m = 0 := om
    subst hk0 hm0
    refine ⟨some ad, d, fun W => ?_, by omega, .inl ⟨rfl, .inr (.inr rfl)⟩⟩
    rw [hrun W]
    simp [sliced, Addr.add]
  obtain ⟨q, o, rfl⟩ := hspot hn0 ad rfl
  by_cases h0 : d - k = 0
  · refine ⟨some ⟨q, o, none⟩, 0, fun W => ?_, by omega, .inl ⟨rfl, .inr (.inl om)⟩⟩
    rw [hrun W]
    simp [sliced, h0]
    intro h; omega
  · refine ⟨some ⟨q, o + k, none⟩, d - k, fun W => ?_, by omega, .inr ⟨q, o, rfl, rfl⟩⟩
    rw [hrun W]
    simp [sliced]
    rw [if_neg (by omega), add_lit']
theorem kHF {W : World} {N : Nat} {D D' : OA} {bs : List Int} {k m : Nat} (h : Rd W N D (Ks .u8 bs)) (hn : D = none → bs = []) (hk : k + m ≤ bs.length)
    (hD : D' = D ∧ (D = none ∨ m = 0 ∨ k = 0) ∨ ∃ q o, D = some ⟨q, o, none⟩ ∧ D' = some ⟨q, o + k, none⟩) : Rd W N D' (Ks .u8 ((bs.drop k).take m)) := by
 rcases hD with ⟨rfl, h1 | h1 | h1⟩ | ⟨q, o, rfl, rfl⟩
 · rw [hn h1]; simp; exact Rd.nil
 · subst h1; simp; exact Rd.nil
 · subst h1; rw [List.drop_zero, ← kEq]; exact h.take_ m
 rw [← kEq, ← kJK]; exact (h.drop_ k).take_ m
theorem Bts.sub {bs : List Int} (h : Bts bs) (k m : Nat) : Bts ((bs.drop k).take m) := fun b hb => h b (List.mem_of_mem_drop (List.mem_of_mem_take hb))
def lo (x : Int) : Nat := (x % 4294967296).toNat
theorem kMw (x : Int) : x % 4294967296 = (lo x : Int) := by unfold lo; omega
theorem kCM (x : Int) : lo x < 4294967296 := by unfold lo; omega
theorem kCp (x : Int) (w : World) (hx : 0 ≤ x ∧ x < 18446744073709551616) : Calls prog 134 #[.int .u64 x] w fun e w' => e = .returned (.int .i64 (lo x)) ∧ w = w' := by
 rw [← kMw]; exact kLx x w hx
theorem kDo (s a n : Nat) (w : World) (hs : s ≤ 1000000) (ha : a < 4294967296) (hn : n < 4294967296) : Calls prog 133 #[.int .i64 s, .int .i64 a, .int .i64 n] w fun e w' => e = .returned (.bool (decide (a + n ≤ s))) ∧ w = w' := by
 have h := kLw s a n w om om om
 have e : (decide (0 ≤ (a : Int) ∧ 0 ≤ (n : Int)) && fits s a n) = decide (a + n ≤ s) := by rw [fits, Bool.eq_iff_iff]; simp; omega
 rwa [e] at h
def kAr (B bs : List Int) (t a n : Nat) : List Int × Int := if a + n ≤ bs.length then (if t + n ≤ B.length then (splice B t ((bs.drop a).take n), 0) else (B, 2)) else (B, 2)
theorem kOi (l : Lim) (A D : OA) (c d : Nat) (B bs : List Int) (xt xa xn : Int) (w : World) (hI : RmIn w A c B) (hD : SrcIn w D d bs) (hn : B.length ≤ 100000) (hn2 : bs.length ≤ 1000000) (h1 : 0 ≤ xt ∧ xt < 18446744073709551616) (h2 : 0 ≤ xa ∧ xa < 18446744073709551616) (h3 : 0 ≤ xn ∧ xn < 18446744073709551616) :
    Calls prog 44 #[rmv l A B.length c, .slice D bs.length d, .int .u64 xt, .int .u64 xa, .int .u64 xn] w (RmTo l A B (kAr B bs (lo xt) (lo xa) (lo xn)).1 (kAr B bs (lo xt) (lo xa) (lo xn)).2 w) := by
 have F := hid (((Fr.refl No w).alloc (.cells (q4x0 l A B c) 143)).alloc (.cells #[.int .i64 0, .int .i64 0, .bool false, .slice none 0 0] 143))
 have G := hid ((Blk.new w 143 (q4x0 l A B c)).alloc (.cells #[.int .i64 0, .int .i64 0, .bool false, .slice none 0 0] 143))
 have GR := hid (Blk.new1 w (.cells (q4x0 l A B c) 143) 143 #[.int .i64 0, .int .i64 0, .bool false, .slice none 0 0])
 have HT := hid (fun W => kCp xt W h1)
 have HA := hid (fun W => kCp xa W h2)
 have HN := hid (fun W => kCp xn W h3)
 have HI := hid hI
 have HD := hid hD
 have b1 := kCM xt
 have b2 := kCM xa
 have b3 := kCM xn
 generalize lo xt = t at *
 generalize lo xa = a at *
 generalize lo xn = n at *
 have HR1 := hid (fun W => kDo bs.length a n W hn2 b2 b3)
 have HR2 := hid (fun W => kDo B.length t n W om b1 b3)
 clear hI hD h1 h2 h3
 unfold rmv kAr
 by_cases e1 : a + n ≤ bs.length
 · rw [if_pos e1]
   rw [decide_eq_true e1] at HR1
   by_cases e2 : t + n ≤ B.length
   · rw [if_pos e2]
     rw [decide_eq_true e2] at HR2
     go_enter func44, ntmps44
     go_wp2
     generalize (w.alloc (.cells (q4x0 l A B c) 143)).alloc (.cells #[.int .i64 0, .int .i64 0, .bool false, .slice none 0 0] 143) = W at *
     have hc1 : w.heap.size + 1 < W.heap.size := GR.o.lt
     have HX : Hid (∀ X, Fr (One (w.heap.size + 1)) W X → Ce X w.heap.size 0 (.int .i64 l.min) ∧ Ce X w.heap.size 1 (.int .i64 l.max) ∧ Ce X w.heap.size 2 (.bool l.has) ∧ Ce X w.heap.size 3 (.slice A B.length c)) := fun X f => by
      exact yy36
     refine rwO (fun X => Ce X w.heap.size 0 (.int .i64 l.min) ∧ Ce X w.heap.size 1 (.int .i64 l.max) ∧ Ce X w.heap.size 2 (.bool l.has) ∧ Ce X w.heap.size 3 (.slice A B.length c)) [] [0, 1, 2, 4, 3, 5, 6, 7, 8, 9, 10, 11, 12, 14, 13, 15, 16, 17, 18] [3, 5, 6, 13, 15, 16] (HX.o _ (Fr.refl _ _).drew) ?_
     refine rC ?_
     refine wpO_eff rfl rfl fun K hK => sz ?_
     refine (HA.o _).mono ?_
     rintro e w' ⟨rfl, rfl⟩
     refine hK _ _ (fun _ => HX.o _ (Fr.refl _ _).drew) ?_
     clear hK K
     refine rC ?_
     refine wpO_eff rfl rfl fun K hK => sz ?_
     refine (HN.o _).mono ?_
     rintro e w' ⟨rfl, rfl⟩
     refine hK _ _ (fun _ => HX.o _ (Fr.refl _ _).drew) ?_
     clear hK K
     refine rC ?_
     refine wpO_eff rfl rfl fun K hK => sz ?_
     refine (HR1.o _).mono ?_
     rintro e w' ⟨rfl, rfl⟩
     refine hK _ _ (fun _ => HX.o _ (Fr.refl _ _).drew) ?_
     clear hK K
     refine rC ?_
     refine wpO_eff rfl rfl fun K hK => sz ?_
     refine (HT.o _).mono ?_
     rintro e w' ⟨rfl, rfl⟩
     refine hK _ _ (fun _ => HX.o _ (Fr.refl _ _).drew) ?_
     clear hK K
     refine rC ?_
     refine wpO_eff rfl rfl fun K hK => sz ?_
     refine (HN.o _).mono ?_
     rintro e w' ⟨rfl, rfl⟩
     refine hK _ _ (fun _ => HX.o _ (Fr.refl _ _).drew) ?_
     clear hK K
     refine rC ?_
     refine wpO_eff rfl rfl fun K hK => sz ?_
     refine (HR2.o _).mono ?_
     rintro e w' ⟨rfl, rfl⟩
     refine hK _ _ (fun _ => HX.o _ (Fr.refl _ _).drew) ?_
     clear hK K
     refine rC ?_
     refine wpO_nil ?_
     obtain ⟨D', d', hsl, hd1, hd2⟩ := kEd .i64 .i64 D bs.length d a n e1 HD.o.cap HD.o.spot
     have hw1 : IntKind.i64.wrap ((a : Int) + n) = a + n := by rw [IntKind.wrap_i64]; omega
     go_wp2_with fail
     refine rwO (fun X => Ce X w.heap.size 0 (.int .i64 l.min) ∧ Ce X w.heap.size 1 (.int .i64 l.max) ∧ Ce X w.heap.size 2 (.bool l.has) ∧ Ce X w.heap.size 3 (.slice A B.length c)) [] [0, 1, 2, 3, 4, 6, 7, 9, 11, 5, 8, 10, 12, 13, 14, 15, 16, 17, 18] [5, 8, 10, 12, 15, 17] (HX.o _ ((Fr.refl (One (w.heap.size + 1)) W).drew.drew)) ?_
     refine rC ?_
     refine wpO_eff rfl rfl fun K hK => sz ?_
     refine (HT.o _).mono ?_
     rintro e w' ⟨rfl, rfl⟩
     refine hK _ _ (fun _ => HX.o _ ((Fr.refl (One (w.heap.size + 1)) W).drew.drew)) ?_
     clear hK K
     refine rC ?_
     refine wpO_eff rfl rfl fun K hK => sz ?_
     refine (HA.o _).mono ?_
     rintro e w' ⟨rfl, rfl⟩
     refine hK _ _ (fun _ => HX.o _ ((Fr.refl (One (w.heap.size + 1)) W).drew.drew)) ?_
     clear hK K
     refine rC ?_
     refine wpO_eff rfl rfl fun K hK => sz ?_
     refine (HA.o _).mono ?_
     rintro e w' ⟨rfl, rfl⟩
     refine hK _ _ (fun _ => HX.o _ ((Fr.refl (One (w.heap.size + 1)) W).drew.drew)) ?_
     clear hK K
     refine rC ?_
     refine wpO_eff rfl rfl fun K hK => sz ?_
     refine (HN.o _).mono ?_
     rintro e w' ⟨rfl, rfl⟩
     refine hK _ _ (fun _ => HX.o _ ((Fr.refl (One (w.heap.size + 1)) W).drew.drew)) ?_
     clear hK K
     refine rC ?_
     refine wpO_eff rfl rfl fun K hK => sz ?_
     have FW := hid (F.o.drew.drew)
     have HI2 := hid (HI.o.fr FW.o)
     have hlen : ((bs.drop a).take n).length = n := by rw [List.length_take, List.length_drop]; omega
     have HW := kDQ A D' c d' t B ((bs.drop a).take n) W.drew.drew HI2.o.rd HI2.o.nil (kHF (HD.o.fr FW.o).rd HD.o.nil e1 hd2) HI2.o.bts (HD.o.bts.sub a n) (by rw [hlen]; exact e2) HI2.o.cap hn HI2.o.spot
     rw [hlen] at HW
     refine HW.mono ?_
     clear HW
     rintro e w3 ⟨E, ec, rfl, hrow, f⟩
     have F3 := hid ((Fr.refl No W).drew.drew.trans f i3)
     have HR := hid hrow
     have GR3 := hid (GR.o.fr F3.o id)
     clear hrow f
     refine hK _ _ (fun _ => HX.o _ (F3.o.mono (fun _ _ h => h.elim))) ?_
     clear hK K
     refine rC ?_
     have q0 := GR3.o.frozen 0
     have q1 := GR3.o.frozen 1
     have q2 := GR3.o.frozen 2
     have q3 := GR3.o.frozen 3
     have z0 := GR3.o.cell 0
     have z1 := GR3.o.cell 1
     have z2 := GR3.o.cell 2
     have z3 := GR3.o.cell 3
     have FZ := hid ((((((Fr.refl (One (w.heap.size + 1)) w3).setCell ⟨w.heap.size + 1, 0, none⟩ (.int .i64 l.min) (fun _ => rfl)).setCell ⟨w.heap.size + 1, 1, none⟩ (.int .i64 l.max) (fun _ => rfl)).setCell ⟨w.heap.size + 1, 2, none⟩ (.bool l.has) (fun _ => rfl)).setCell ⟨w.heap.size + 1, 3, none⟩ (.slice E (splice B t ((bs.drop a).take n)).length ec) (fun _ => rfl)))
     refine wpO_eff rfl rfl fun K hK => sz ?_
     refine hK _ _ (fun _ => HX.o _ ((F3.o.mono (fun _ _ h => h.elim)).trans FZ.o i3)) ?_
     clear hK K
     refine rC ?_
     refine wpO_nil ?_
     go_wp2
     have FF := (F.o.trans F3.o i3).trans FZ.o (fun i hi h => by simp only [One] at h; omega)
     have hRm := kDV (HR.o.fr FZ.o (fun _ h => h.elim) (fun k hk h => by have h1 := (HR.o.own hk).1; have h2 : W.drew.drew.heap.size = W.heap.size := rfl; simp only [One] at h; omega))
     exact bodyPost_ret (v := .tuple #[.agg #[.int .i64 l.min, .int .i64 l.max, .bool l.has, .slice E (splice B t ((bs.drop a).take n)).length ec], .int .i64 0]) (by simp [results, Tryz.results44, go_sem, z0, z1, z2, z3]) rfl ⟨E, ec, rfl, hRm, (.inr (fun q o he => by subst he; have h1 := (HR.o.own (g := q) (by simp [Value.ownBlock])).1; exact Nat.le_trans F.o.size h1)), FF⟩
   rw [if_neg e2]
   rw [decide_eq_false e2] at HR2
   go_enter func44, ntmps44
   go_wp2
   generalize (w.alloc (.cells (q4x0 l A B c) 143)).alloc (.cells #[.int .i64 0, .int .i64 0, .bool false, .slice none 0 0] 143) = W at *
   have hc1 : w.heap.size + 1 < W.heap.size := GR.o.lt
   have HX : Hid (∀ X, Fr (One (w.heap.size + 1)) W X → Ce X w.heap.size 0 (.int .i64 l.min) ∧ Ce X w.heap.size 1 (.int .i64 l.max) ∧ Ce X w.heap.size 2 (.bool l.has) ∧ Ce X w.heap.size 3 (.slice A B.length c)) := fun X f => by
    exact yy36
   refine rwO (fun X => Ce X w.heap.size 0 (.int .i64 l.min) ∧ Ce X w.heap.size 1 (.int .i64 l.max) ∧ Ce X w.heap.size 2 (.bool l.has) ∧ Ce X w.heap.size 3 (.slice A B.length c)) [] [0, 1, 2, 4, 3, 5, 6, 7, 8, 9, 10, 11, 12, 14, 13, 15, 16, 17, 18] [3, 5, 6, 13, 15, 16] (HX.o _ (Fr.refl _ _).drew) ?_
   refine rC ?_
   refine wpO_eff rfl rfl fun K hK => sz ?_
   refine (HA.o _).mono ?_
   rintro e w' ⟨rfl, rfl⟩
   refine hK _ _ (fun _ => HX.o _ (Fr.refl _ _).drew) ?_
   clear hK K
   refine rC ?_
   refine wpO_eff rfl rfl fun K hK => sz ?_
   refine (HN.o _).mono ?_
   rintro e w' ⟨rfl, rfl⟩
   refine hK _ _ (fun _ => HX.o _ (Fr.refl _ _).drew) ?_
   clear hK K
   refine rC ?_
   refine wpO_eff rfl rfl fun K hK => sz ?_
   refine (HR1.o _).mono ?_
   rintro e w' ⟨rfl, rfl⟩
   refine hK _ _ (fun _ => HX.o _ (Fr.refl _ _).drew) ?_
   clear hK K
   refine rC ?_
   refine wpO_eff rfl rfl fun K hK => sz ?_
   refine (HT.o _).mono ?_
   rintro e w' ⟨rfl, rfl⟩
   refine hK _ _ (fun _ => HX.o _ (Fr.refl _ _).drew) ?_
   clear hK K
   refine rC ?_
   refine wpO_eff rfl rfl fun K hK => sz ?_
   refine (HN.o _).mono ?_
   rintro e w' ⟨rfl, rfl⟩
   refine hK _ _ (fun _ => HX.o _ (Fr.refl _ _).drew) ?_
   clear hK K
   refine rC ?_
   refine wpO_eff rfl rfl fun K hK => sz ?_
   refine (HR2.o _).mono ?_
   rintro e w' ⟨rfl, rfl⟩
   refine hK _ _ (fun _ => HX.o _ (Fr.refl _ _).drew) ?_
   clear hK K
   exact yy5
 rw [if_neg e1]
 rw [decide_eq_false e1] at HR1
 go_enter func44, ntmps44
 go_wp2
 generalize (w.alloc (.cells (q4x0 l A B c) 143)).alloc (.cells #[.int .i64 0, .int .i64 0, .bool false, .slice none 0 0] 143) = W at *
 have hc1 : w.heap.size + 1 < W.heap.size := GR.o.lt
 have HX : Hid (∀ X, Fr (One (w.heap.size + 1)) W X → Ce X w.heap.size 0 (.int .i64 l.min) ∧ Ce X w.heap.size 1 (.int .i64 l.max) ∧ Ce X w.heap.size 2 (.bool l.has) ∧ Ce X w.heap.size 3 (.slice A B.length c)) := fun X f => by
  exact yy36
 refine rwO (fun X => Ce X w.heap.size 0 (.int .i64 l.min) ∧ Ce X w.heap.size 1 (.int .i64 l.max) ∧ Ce X w.heap.size 2 (.bool l.has) ∧ Ce X w.heap.size 3 (.slice A B.length c)) [] [0, 1, 2, 4, 3, 5, 6, 7, 8, 9, 10, 11, 12, 14, 13, 15, 16, 17, 18] [3, 5, 6, 13, 15, 16] (HX.o _ (Fr.refl _ _).drew) ?_
 refine rC ?_
 refine wpO_eff rfl rfl fun K hK => sz ?_
 refine (HA.o _).mono ?_
 rintro e w' ⟨rfl, rfl⟩
 refine hK _ _ (fun _ => HX.o _ (Fr.refl _ _).drew) ?_
 clear hK K
 refine rC ?_
 refine wpO_eff rfl rfl fun K hK => sz ?_
 refine (HN.o _).mono ?_
 rintro e w' ⟨rfl, rfl⟩
 refine hK _ _ (fun _ => HX.o _ (Fr.refl _ _).drew) ?_
 clear hK K
 refine rC ?_
 refine wpO_eff rfl rfl fun K hK => sz ?_
 refine (HR1.o _).mono ?_
 rintro e w' ⟨rfl, rfl⟩
 refine hK _ _ (fun _ => HX.o _ (Fr.refl _ _).drew) ?_
 clear hK K
 refine rC ?_
 refine wpO_skipE rfl rfl (HX.o _ (Fr.refl _ _).drew) ?_
 simp only [zA, zC, Act.put]
 refine rC ?_
 refine wpO_skipE rfl rfl (HX.o _ (Fr.refl _ _).drew) ?_
 simp only [zA, zC, Act.put]
 refine rC ?_
 refine wpO_skipE rfl rfl (HX.o _ (Fr.refl _ _).drew) ?_
 simp only [zA, zC, Act.put]
 exact yy5
def kFl (B : List Int) (t : Nat) (x : Int) (n : Nat) : List Int × Int := if t + n ≤ B.length then (splice B t (List.replicate n (x % 256)), 0) else (B, 2)
theorem kNa {P : Program} {t e : TypeId} {bytes : Nat} {z : Value} {w : World} {o : Oper} {a : Act} {K : Act → World → Prop} {Q : Exit → Act → World → Prop} {A : OA} {B q c off dLen dCap sLen sCap : Nat} {s d : Operand} {xs cs : LV} (E : ElemOk P t e 1 bytes z)
    (ho : o.op = .call { callee := .builtin .copy, args := #[d, s], argTypes := #[t, t] })
    (hd : a.eval d = .slice (some ⟨q, off, none⟩) dLen dCap) (hs : a.eval s = .slice A sLen sCap) (hown : Own w q e c xs)
    (hr : Rd w B A cs) (hn : cs.length = Nat.min sLen dLen) (hfit : off + cs.length ≤ xs.length) (h1 : ∀ u ∈ cs, u.oneCell' = true)
    (h : ∀ w', Own w' q e c (splice xs off cs) → Fr (One q) w w' → K (a.put o.dst (goInt cs.length)) w') : o.wp P a w K Q := by
 obtain ⟨w', hrun, h2, h3⟩ := kNx E w o.type hown off dLen dCap sLen sCap hr hn hfit h1
 unfold Oper.wp execOp
 simp only [ho, resolve, invoke, builtin, Sem.run_bind, Sem.run_pure, Result.andThen_ok, List.map_toArray, List.map_cons, List.map_nil, hs, hd, hrun]
 exact h w' h2 h3
structure Mo (w : World) (p q c : Nat) (l : Lim) (B : List Int) : Prop where
 hp : Blk w p 251 #[.int .i64 l.min, .int .i64 l.max, .bool l.has, .slice (some ⟨q, 0, none⟩) B.length c]
 own : Own w q 5 c (Ks .u8 B)
 bts : Bts B
theorem Mo.fr {w w' : World} {p q c : Nat} {l : Lim} {B : List Int} {M : Nat → Prop} (h : Mo w p q c l B) (f : Fr M w w') (hp : ¬ M p) (hq : ¬ M q) : Mo w' p q c l B := ⟨h.hp.fr f hp, h.own.fr f hq, h.bts⟩
theorem Mo.frNo {w w' : World} {p q c : Nat} {l : Lim} {B : List Int} (h : Mo w p q c l B) (f : Fr No w w') : Mo w' p q c l B := h.fr f id id
theorem Mo.ne {w : World} {p q c : Nat} {l : Lim} {B : List Int} (h : Mo w p q c l B) : p ≠ q := by
 obtain ⟨cur, hb, _⟩ := h.own.cur
 exact Blk.ne_ h.hp hb dc
theorem Mo.cap {w : World} {p q c : Nat} {l : Lim} {B : List Int} (h : Mo w p q c l B) : B.length ≤ c := by
 obtain ⟨cur, hb, h1, _⟩ := h.own.cur
 simpa using h1
theorem kLj (B bs : List Int) (a : Nat) : splice (Ks .u8 B) a (Ks .u8 bs) = Ks .u8 (splice B a bs) := by simp [splice, Ks]
theorem kJX {B bs : List Int} (a : Nat) (h : Bts B) (k : Bts bs) : Bts (splice B a bs) := fun b hb => by
 rw [splice, List.mem_append, List.mem_append] at hb
 rcases hb with hb | hb | hb
 · exact h b (List.mem_of_mem_take hb)
 · exact k b hb
 exact h b (List.mem_of_mem_drop hb)
theorem Mo.put {w w' : World} {p q c a : Nat} {l : Lim} {B bs : List Int} (h : Mo w p q c l B) (f : Fr (One q) w w') (ho : Own w' q 5 c (splice (Ks .u8 B) a (Ks .u8 bs))) (hb : Bts bs) (hfit : a + bs.length ≤ B.length) : Mo w' p q c l (splice B a bs) := by
 refine ⟨?_, by rw [← kLj]; exact ho, kJX a h.bts hb⟩
 have := h.hp.fr f (fun x => h.ne x)
 rwa [kDm hfit]
def MoTo (p q c : Nat) (l : Lim) (B : List Int) (t : Int) (w : World) (e : Ending) (w' : World) : Prop := e = .returned (.int .i64 t) ∧ Mo w' p q c l B ∧ Fr (One q) w w'
theorem kEV (x : Int) (w : World) (hx : 0 ≤ x ∧ x < 18446744073709551616) : Calls prog 131 #[.int .u64 x] w fun e w' => e = .returned (.int .u64 (lo x)) ∧ w = w' := by
 rw [← kMw]; exact kNf x w hx
theorem kFH (s a n : Nat) (w : World) (hs : s ≤ 1000000) (ha : a < 4294967296) (hn : n < 4294967296) : Calls prog 132 #[.int .i64 s, .int .u64 a, .int .u64 n] w fun e w' => e = .returned (.bool (decide (a + n ≤ s))) ∧ w = w' := by
 have h := kKg s a n w om om om
 have e : fits s a n = decide (a + n ≤ s) := by rw [fits, Bool.eq_iff_iff]; simp; omega
 rwa [e] at h
theorem kDU (B : List Int) (a : Nat) : splice B a [] = B := splice_nil B a
theorem kLC (p q c : Nat) (l : Lim) (B bs : List Int) (D : OA) (d : Nat) (xt xa xn : Int) (w : World) (hM : Mo w p q c l B) (hD : SrcIn w D d bs) (hn : B.length ≤ 100000) (hn2 : bs.length ≤ 1000000) (h1 : 0 ≤ xt ∧ xt < 18446744073709551616) (h2 : 0 ≤ xa ∧ xa < 18446744073709551616) (h3 : 0 ≤ xn ∧ xn < 18446744073709551616) :
    Calls prog 43 #[.pointer (some ⟨p, 0, none⟩), .slice D bs.length d, .int .u64 xt, .int .u64 xa, .int .u64 xn] w (MoTo p q c l (kAr B bs (lo xt) (lo xa) (lo xn)).1 (kAr B bs (lo xt) (lo xa) (lo xn)).2 w) := by
 have HT := hid (fun W => kEV xt W h1)
 have HA := hid (fun W => kEV xa W h2)
 have HN := hid (fun W => kEV xn W h3)
 have HM := hid hM
 have HD := hid hD
 have b1 := kCM xt
 have b2 := kCM xa
 have b3 := kCM xn
 generalize lo xt = t at *
 generalize lo xa = a at *
 generalize lo xn = n at *
 have HR1 := hid (fun W => kFH bs.length a n W hn2 b2 b3)
 have HR2 := hid (fun W => kFH B.length t n W om b1 b3)
 have c3 := hM.hp.cell 3
 have HX : Hid (∀ X, Fr No w X → Ce X p 3 (.slice (some ⟨q, 0, none⟩) B.length c)) := fun X f => (HM.o.frNo f).hp.cell 3
 clear hM hD h1 h2 h3
 unfold kAr
 by_cases e1 : a + n ≤ bs.length
 · rw [if_pos e1]
   rw [decide_eq_true e1] at HR1
   by_cases e2 : t + n ≤ B.length
   · rw [if_pos e2]
     rw [decide_eq_true e2] at HR2
     go_enter func43, ntmps43
     go_wp2_with fail
     refine (HT.o _).mono ?_
     rintro e w' ⟨rfl, rfl⟩
     go_wp2_with fail
     refine (HA.o _).mono ?_
     rintro e w' ⟨rfl, rfl⟩
     go_wp2_with fail
     refine (HN.o _).mono ?_
     rintro e w' ⟨rfl, rfl⟩
     go_wp2_with fail
     refine (HR1.o _).mono ?_
     rintro e w' ⟨rfl, rfl⟩
     go_wp2_with fail
     refine (HR2.o _).mono ?_
     rintro e w' ⟨rfl, rfl⟩
     obtain ⟨D', d', hsl, hd1, hd2⟩ := kEd .u64 .u64 D bs.length d a n e1 HD.o.cap HD.o.spot
     obtain ⟨E', d2, hsl2, hd3, hd4⟩ := kEd .u64 .u64 (some ⟨q, 0, none⟩) B.length c t n e2 HM.o.cap (fun _ ad h => ⟨q, 0, by injection h with h; exact h.symm⟩)
     have hw1 : IntKind.u64.wrap ((a : Int) + n) = a + n := by rw [IntKind.wrap_u64]; omega
     have hw2 : IntKind.u64.wrap ((t : Int) + n) = t + n := by rw [IntKind.wrap_u64]; omega
     have hoff : ∃ off, E' = some ⟨q, off, none⟩ ∧ (n = 0 ∨ off = t) ∧ off + n ≤ B.length := by
      rcases hd4 with ⟨h, h' | h' | h'⟩ | ⟨q', o', h, h'⟩
      · cases h'
      · exact ⟨0, h, .inl h', by omega⟩
      · exact ⟨0, h, .inr h'.symm, by omega⟩
      cases h; exact ⟨0 + t, h', .inr om, by omega⟩
     obtain ⟨off, rfl, ho1, ho2⟩ := hoff
     have hlen : ((bs.drop a).take n).length = n := by rw [List.length_take, List.length_drop]; omega
     clear hd4
     go_wp2_with fail
     refine rwO (fun X => Ce X p 3 (.slice (some ⟨q, 0, none⟩) B.length c)) [] (List.range 16) [15] c3 ?_
     refine rC ?_
     refine wpO_eff rfl rfl (fun K hK => ?_)
     simp only [zA]
     refine kNa (xs := Ks .u8 B) (cs := Ks .u8 ((bs.drop a).take n)) (B := w.heap.size) elBs rfl rfl rfl (HM.o.frNo (Fr.refl No w).drew).own (kHF HD.o.rd HD.o.nil e1 hd2).drew (by rw [kDb, hlen]; exact (Nat.min_self n).symm) (by rw [kDb, kDb, hlen]; exact ho2) (kOD _ _) ?_
     intro w3 hown fcp
     have e3 : splice B off ((bs.drop a).take n) = splice B t ((bs.drop a).take n) := by
      rcases ho1 with h | h
      · subst h; rw [List.take_zero, kDU, kDU]
      rw [h]
     have hm := Mo.put (HM.o.frNo (Fr.refl No w).drew) fcp hown (HD.o.bts.sub a n) (by rw [hlen]; exact ho2)
     rw [e3] at hm
     have HM3 := hid hm
     have F3 := hid (((Fr.refl (One q) w).drew).trans fcp i3)
     have c4 := HM3.o.hp.cell 3
     rw [kDm (by rw [hlen]; exact e2)] at c4
     clear hown fcp hm
     refine hK _ _ (fun _ => c4) ?_
     clear hK K
     refine rC ?_
     refine wpO_nil ?_
     go_wp2
     go_ret
     exact ⟨rfl, HM3.o, F3.o⟩
   rw [if_neg e2]
   rw [decide_eq_false e2] at HR2
   go_enter func43, ntmps43
   go_wp2_with fail
   refine (HT.o _).mono ?_
   rintro e w' ⟨rfl, rfl⟩
   go_wp2_with fail
   refine (HA.o _).mono ?_
   rintro e w' ⟨rfl, rfl⟩
   go_wp2_with fail
   refine (HN.o _).mono ?_
   rintro e w' ⟨rfl, rfl⟩
   go_wp2_with fail
   refine (HR1.o _).mono ?_
   rintro e w' ⟨rfl, rfl⟩
   go_wp2_with fail
   refine (HR2.o _).mono ?_
   exact yy95
 rw [if_neg e1]
 rw [decide_eq_false e1] at HR1
 go_enter func43, ntmps43
 go_wp2_with fail
 refine (HT.o _).mono ?_
 rintro e w' ⟨rfl, rfl⟩
 go_wp2_with fail
 refine (HA.o _).mono ?_
 rintro e w' ⟨rfl, rfl⟩
 go_wp2_with fail
 refine (HN.o _).mono ?_
 rintro e w' ⟨rfl, rfl⟩
 go_wp2_with fail
 refine (HR1.o _).mono ?_
 exact yy95
theorem kNY {w : World} {p q c : Nat} {l : Lim} {B : List Int} (h : Mo w p q c l B) : RmIn w (some ⟨q, 0, none⟩) c B := by
 have hr : Rd w w.heap.size (some ⟨q, 0, none⟩) (Ks .u8 B) := h.own.rd h.own.lt
 exact ⟨hr, (fun e => by cases e), (fun ad e => ⟨q, 0, by injection e with e; exact e.symm⟩), h.bts, h.cap⟩
theorem kEl (p q c p' q' c' : Nat) (l l' : Lim) (B B' : List Int) (xt xa xn : Int) (w : World) (hM : Mo w p q c l B) (hM' : Mo w p' q' c' l' B') (hn : B.length ≤ 100000) (hn' : B'.length ≤ 100000) (h1 : 0 ≤ xt ∧ xt < 18446744073709551616) (h2 : 0 ≤ xa ∧ xa < 18446744073709551616) (h3 : 0 ≤ xn ∧ xn < 18446744073709551616) :
    Calls prog 183 #[.pointer (some ⟨p, 0, none⟩), .pointer (some ⟨p', 0, none⟩), .int .u64 xt, .int .u64 xa, .int .u64 xn] w (MoTo p q c l (kAr B B' (lo xt) (lo xa) (lo xn)).1 (kAr B B' (lo xt) (lo xa) (lo xn)).2 w) := by
 have HI := hid (kLC p q c l B B' _ c' xt xa xn w hM (kNY hM').src hn om h1 h2 h3)
 have c3 := hM'.hp.cell 3
 generalize kAr B B' (lo xt) (lo xa) (lo xn) = r at *
 obtain ⟨R, tr⟩ := r
 clear hM hM'
 go_enter func183, ntmps183
 go_wp2_with fail
 refine HI.o.mono ?_
 rintro e w2 ⟨rfl, hm, f⟩
 have HM := hid hm
 have F := hid f
 clear hm f
 go_wp2
 go_ret
 exact ⟨rfl, HM.o, F.o⟩
theorem kIK {α : Type} (xs vs : List α) (o : Nat) (v : α) (h : o + vs.length + 1 ≤ xs.length) : splice (xs.set o v) (o + 1) vs = splice xs o (v :: vs) := by
 apply List.ext_getElem?
 intro i
 rw [kBU _ _ _ (by simp; omega), kBU _ _ _ (by simp; omega)]
 simp only [List.length_cons, List.getElem?_set]
 by_cases h1 : i < o
 · rw [if_pos (by omega), if_neg (by omega), if_pos h1]
 by_cases h2 : i = o
 · subst h2
   rw [if_pos (by omega), if_pos rfl, if_pos (by omega), if_neg h1, if_pos (by omega), Nat.sub_self]; rfl
 by_cases h3 : i < o + 1 + vs.length
 · rw [if_neg (by omega), if_pos h3, if_neg h1, if_pos (by omega), show i - o = (i - (o + 1)) + 1 by omega, List.getElem?_cons_succ]
 rw [if_neg (by omega), if_neg h3, if_neg (by omega), if_neg h1, if_neg (by omega)]
theorem kHc {q c : Nat} {e : TypeId} : ∀ (vs : LV) (o : Nat) (w : World) (xs : LV), Own w q e c xs → o + vs.length ≤ xs.length → Own (w.setCells q o vs) q e c (splice xs o vs) := by
 intro vs
 induction vs with
 | nil => intro o w xs h _; rw [splice_nil]; exact h
 | cons v vs ih =>
  intro o w xs h hl
  have := ih (o + 1) _ _ (h.set_ o v) (by simp at hl ⊢; omega)
  rw [kIK _ _ _ _ (by simp at hl; omega)] at this
  exact this
theorem kEw {M : Nat → Prop} {q : Nat} : ∀ (vs : LV) (o : Nat) (w0 w : World), Fr M w0 w → (q < w0.heap.size → M q) → Fr M w0 (w.setCells q o vs) := by
 intro vs
 induction vs with
 | nil => intro o w0 w h _; exact h
 | cons v vs ih => intro o w0 w h hq; exact ih _ _ _ (h.setCell ⟨q, o, none⟩ v hq) hq
theorem kFs {P : Program} (w : World) (t e ty : TypeId) (z : Value) (ht : P.underlying t = some (.slice e)) (hv : ∀ w, (zeroValue e).run P w = .ok z w) (a : OA) (c : Nat) :
    (Builtin.clear_ #[t] ty #[.slice a 0 c]).run P w = .ok (.tuple #[]) w := by
 cases a <;> simp [Builtin.clear_, run_underlying ht, hv, Builtin.zeroCells]
theorem kGY {α : Type} (B L : List α) (t k : Nat) (v : α) (h : t + L.length ≤ B.length) (hk : k < L.length) : (splice B t L).set (t + k) v = splice B t (L.set k v) := by
 apply List.ext_getElem?
 intro i
 rw [List.getElem?_set, kBU _ _ _ h, kBU _ _ _ (by simpa using h), length_splice _ _ _ h, List.length_set, List.getElem?_set]
 by_cases h1 : i < t
 · rw [if_neg (by omega), if_pos h1, if_pos h1]
 by_cases h2 : t + k = i
 · subst h2
   rw [if_pos rfl, if_pos (by omega), if_neg h1, if_pos (by omega), if_pos (by omega), if_pos (by omega)]
 rw [if_neg h2, if_neg h1, if_neg h1]
 by_cases h3 : i < t + L.length
 · rw [if_pos h3, if_pos h3, if_neg (by omega)]
 rw [if_neg h3, if_neg h3]
theorem kLO (n k : Nat) (v : Int) (hk : k < n) : (List.replicate k v ++ List.replicate (n - k) 0).set k v = List.replicate (k + 1) v ++ List.replicate (n - (k + 1)) (0 : Int) := by
 have e : n - k = (n - (k + 1)) + 1 := om
 rw [e, List.replicate_succ, List.set_append, if_neg (by simp)]
 simp [List.replicate_succ']
theorem kFJ (n k : Nat) (v : Int) (hk : k ≤ n) : (List.replicate k v ++ List.replicate (n - k) 0).length = n := by simp; omega
theorem Mo.setb {w : World} {p q c k : Nat} {l : Lim} {B : List Int} {v : Int} (h : Mo w p q c l B) (hk : k < B.length) (hv : 0 ≤ v ∧ v ≤ 255) : Mo (w.setCell ⟨q, k, none⟩ (.int .u8 v)) p q c l (B.set k v) := by
 refine ⟨?_, ?_, fun b hb => ?_⟩
 · have := h.hp.far (p := ⟨q, k, none⟩) h.ne (.int .u8 v)
   rwa [List.length_set]
 · have := h.own.set_ k (.int .u8 v)
   rw [show (Ks .u8 B).set k (.int .u8 v) = Ks .u8 (B.set k v) by simp [Ks]] at this
   exact this
 rcases List.mem_or_eq_of_mem_set hb with hb | hb
 · exact h.bts b hb
 rw [hb]; exact hv
theorem zU8 : ∀ w, (zeroValue 5).run prog w = .ok (.int .u8 0) w := fun _ => by kernel_rfl
theorem kLD (p q c : Nat) (l : Lim) (B : List Int) (xt x xn : Int) (w : World) (hM : Mo w p q c l B) (hn : B.length ≤ 100000) (h1 : 0 ≤ xt ∧ xt < 18446744073709551616) (h2 : 0 ≤ x ∧ x < 18446744073709551616) (h3 : 0 ≤ xn ∧ xn < 18446744073709551616) :
    Calls prog 179 #[.pointer (some ⟨p, 0, none⟩), .int .u64 xt, .int .u64 x, .int .u64 xn] w (MoTo p q c l (kFl B (lo xt) x (lo xn)).1 (kFl B (lo xt) x (lo xn)).2 w) := by
 have HT := hid (fun W => kEV xt W h1)
 have HN := hid (fun W => kEV xn W h3)
 have HM := hid hM
 have b1 := kCM xt
 have b3 := kCM xn
 generalize lo xt = t at *
 generalize lo xn = n at *
 have HR := hid (fun W => kFH B.length t n W om b1 b3)
 have c3 := hM.hp.cell 3
 have hcap := hM.cap
 clear hM h1 h3
 unfold kFl
 by_cases e2 : t + n ≤ B.length
 · rw [if_pos e2]
   rw [decide_eq_true e2] at HR
   by_cases hn0 : n = 0
   · subst hn0
     rw [List.replicate_zero, kDU]
     have hcl := fun (W : World) (ty : TypeId) (A : OA) (d : Nat) => kFs (P := prog) W 59 5 ty (.int .u8 0) underlying59 zU8 A d
     by_cases hct : c = t
     · subst hct
       go_enter func179, ntmps179
       exact yy37
     go_enter func179, ntmps179
     exact yy37
   have hct : ¬ c = t := om
   have hv : 0 ≤ x % 256 ∧ x % 256 ≤ 255 := om
   have hcl := fun (ty : TypeId) => Go.Lib.run_clear_slice (P := prog) w 59 5 ty (.int .u8 0) underlying59 zU8 rfl rfl q t n (c - t) om
    (fun j hj => by have := HM.o.own.cell (t + j) so; rw [this]; rfl) (fun j hj => HM.o.own.frozen (t + j))
   have hM1 : Mo (w.setCells q t (List.replicate n (.int .u8 0))) p q c l (splice B t (List.replicate n 0)) := by
    have ho := kHc (List.replicate n (.int .u8 0)) t w (Ks .u8 B) HM.o.own so
    have e : List.replicate n (Value.int .u8 0) = Ks .u8 (List.replicate n 0) := by simp [Ks]
    rw [e] at ho ⊢
    exact Mo.put HM.o (kEw _ _ _ _ (Fr.refl _ w) (fun _ => rfl)) ho (kDF n) (by simpa using e2)
   have HM1 := hid hM1
   have F1 := hid (kEw (M := One q) (List.replicate n (.int .u8 0)) t w w (Fr.refl _ w) (fun _ => rfl))
   clear hM1
   go_enter func179, ntmps179
   go_wp2_with fail
   refine (HT.o _).mono ?_
   rintro e w' ⟨rfl, rfl⟩
   go_wp2_with fail
   refine (HN.o _).mono ?_
   rintro e w' ⟨rfl, rfl⟩
   go_wp2_with fail
   refine (HR.o _).mono ?_
   rintro e w' ⟨rfl, rfl⟩
   by_cases hv0 : x % 256 = 0
   · have hv1 : (x % 256 == 0) = true := by simpa using hv0
     go_wp2
     go_ret
     exact ⟨rfl, by rw [hv0]; exact HM1.o, F1.o⟩
   have hv1 : (x % 256 == 0) = false := by simpa using hv0
   generalize hxv : x % 256 = v at *
   go_wp2
   clear hcl
   generalize w.setCells q t (List.replicate n (.int .u8 0)) = W1 at *
   have HM2 : Hid (Mo W1 p q c l (splice B t (List.replicate 0 v ++ List.replicate (n - 0) 0))) := by
    rw [Hid, List.replicate_zero, List.nil_append, Nat.sub_zero]; exact HM1.o
   clear HM1
   go_loopw [41] (fun j wr => ∃ k : Nat, k ≤ n ∧ j = .int .i64 k ∧ Hid (Mo wr p q c l (splice B t (List.replicate k v ++ List.replicate (n - k) 0))) ∧ Hid (Fr (One q) w wr)) (fun j _ => n - (intOf j).toNat)
   case atStart => exact ⟨0, by omega, rfl, HM2, F1⟩
   obtain ⟨k, hk, rfl, HK, FK⟩ := hrel
   clear HM2 F1
   by_cases hkn : k < n
   · have i0 := nki k
     have i1 : (k : Int) < n := om
     have hlen : (splice B t (List.replicate k v ++ List.replicate (n - k) 0)).length = B.length := kDm (by rw [kFJ n k v hk]; exact e2)
     have y0 := HK.o.own.cell (t + k) (by rw [kDb, hlen]; omega)
     rw [kPB _ _ _ (by rw [hlen]; omega)] at y0
     have q0 := HK.o.own.frozen (t + k)
     have hset := kGY B (List.replicate k v ++ List.replicate (n - k) 0) t k v (by rw [kFJ n k v hk]; exact e2) (by rw [kFJ n k v hk]; exact hkn)
     rw [kLO n k v hkn] at hset
     have HS := hid hset
     have hm := HK.o.setb (k := t + k) (v := v) (by rw [hlen]; omega) hv
     rw [hset] at hm
     have HMN := hid hm
     clear hset hm
     generalize (splice B t (List.replicate k v ++ List.replicate (n - k) 0))[t + k] = u at *
     clear hlen
     go_wp2
     exact ⟨⟨k + 1, by omega, by go_num, HMN, FK.o.setCell _ _ (fun _ => rfl)⟩, by simp [intOf]; omega⟩
   have hke : k = n := om
   subst hke
   have hi1 : ¬ ((k : Int) < k) := om
   have hm := HK.o
   rw [Nat.sub_self, List.replicate_zero, List.append_nil] at hm
   have HM3 := hid hm
   clear hm HK
   go_wp2
   go_ret
   exact ⟨rfl, HM3.o, FK.o⟩
 rw [if_neg e2]
 rw [decide_eq_false e2] at HR
 go_enter func179, ntmps179
 go_wp2_with fail
 refine (HT.o _).mono ?_
 rintro e w' ⟨rfl, rfl⟩
 go_wp2_with fail
 refine (HN.o _).mono ?_
 rintro e w' ⟨rfl, rfl⟩
 go_wp2_with fail
 refine (HR.o _).mono ?_
 exact yy95
def validB (l : Lim) : Bool := decide (0 ≤ l.min ∧ l.min ≤ 256 ∧ (l.has = true → l.min ≤ l.max ∧ l.max ≤ 256) ∧ (l.has = false → l.max = 0))
def NewTo (l : Lim) (w : World) (e : Ending) (w' : World) : Prop :=
 if validB l = true then ∃ p q c, e = .returned (.pointer (some ⟨p, 0, none⟩)) ∧ Mo w' p q c l (List.replicate (l.min.toNat * 256) 0) ∧ w.heap.size ≤ p ∧ w.heap.size ≤ q ∧ Fr No w w'
 else e = .returned (.pointer none) ∧ Fr No w w'
theorem kJA (l : Lim) (w : World) : Calls prog 77 #[.agg #[.int .i64 l.min, .int .i64 l.max, .bool l.has]] w (NewTo l w) := by
 have F0 := hid ((Fr.refl No w).alloc (.cells #[.int .i64 l.min, .int .i64 l.max, .bool l.has] 50))
 have G0 := hid (Blk.new w 50 #[.int .i64 l.min, .int .i64 l.max, .bool l.has])
 cases hv : validB l with
 | true =>
  have hV := of_decide_eq_true hv
  obtain ⟨v1, v2, v3, v4⟩ := hV
  obtain ⟨mn, hmn⟩ : ∃ mn : Nat, l.min = mn := ⟨l.min.toNat, by omega⟩
  have hto : l.min.toNat = mn := om
  unfold NewTo
  rw [hv, hto]
  simp only [if_true]
  cases hh : l.has with
  | true =>
   have v3 := v3 hh
   rw [hh] at F0 G0
   rw [hmn] at F0 G0 v1 v2 v3 ⊢
   clear v4 hv
   generalize hmx : l.max = mx at *
   have hmk : ∀ W, (Instr.makeSlice 59 (.int .i64 ((mn : Int) * 256)) (.int .i64 ((mn : Int) * 256))).run prog W = .ok (.slice (some ⟨W.heap.size, 0, none⟩) (mn * 256) (mn * 256)) (W.alloc (.cells (Array.replicate (mn * 256) (.int .u8 0)) 5)) := fun W => by
    exact yy64
   have hw1 : IntKind.i64.wrap ((mn : Int) * 256) = (mn : Int) * 256 := by rw [IntKind.wrap_i64]; omega
   go_enter func77, ntmps77
   go_wp2_with fail
   generalize w.alloc (.cells #[.int .i64 mn, .int .i64 mx, .bool true] 50) = W at *
   have HX : Hid (∀ X, Fr No W X → Ce X w.heap.size 0 (.int .i64 mn) ∧ Ce X w.heap.size 1 (.int .i64 mx) ∧ Ce X w.heap.size 2 (.bool true)) := fun X f => ⟨(G0.o.fr f id).cell 0, (G0.o.fr f id).cell 1, (G0.o.fr f id).cell 2⟩
   refine rwO (fun X => Ce X w.heap.size 0 (.int .i64 mn) ∧ Ce X w.heap.size 1 (.int .i64 mx) ∧ Ce X w.heap.size 2 (.bool true)) [] (List.range 8) [4, 6] (HX.o _ (Fr.refl _ _).drew) ?_
   refine rC ?_
   refine wpO_eff rfl rfl fun K hK => sz ?_
   have FB := hid ((Fr.refl No W).alloc (.cells (Array.replicate (mn * 256) (.int .u8 0)) 5)).drew
   have GB : Hid (Own (W.alloc (.cells (Array.replicate (mn * 256) (.int .u8 0)) 5)).drew W.heap.size 5 (mn * 256) (List.replicate (mn * 256) (.int .u8 0))) := kFf W 5 (.int .u8 0) (mn * 256) om
   have hWs := F0.o.size
   clear hmk
   obtain ⟨qb, hqb⟩ : ∃ z, z = W.heap.size := ⟨_, rfl⟩
   have HQB := hid hqb
   rw [← hqb] at GB ⊢
   clear hqb
   generalize (W.alloc (.cells (Array.replicate (mn * 256) (.int .u8 0)) 5)).drew = W2 at *
   refine hK _ _ (fun _ => HX.o _ FB.o) ?_
   clear hK K
   refine rC ?_
   refine wpO_eff rfl rfl fun K hK => sz ?_
   refine hK _ _ (fun _ => HX.o _ (FB.o.alloc _)) ?_
   clear hK K
   refine rC ?_
   refine wpO_nil ?_
   go_wp2
   go_ret
   have hM : Mo (W2.alloc (.cells #[.int .i64 mn, .int .i64 mx, .bool true, .slice (some ⟨qb, 0, none⟩) (mn * 256) (mn * 256)] 251)) W2.heap.size qb (mn * 256) l (List.replicate (mn * 256) 0) := by
    refine ⟨?_, ?_, kDF _⟩
    · rw [hmn, hmx, hh]
      have := Blk.new W2 251 #[.int .i64 mn, .int .i64 mx, .bool true, .slice (some ⟨qb, 0, none⟩) (mn * 256) (mn * 256)]
      simpa using this
    have := GB.o.fr ((Fr.refl No W2).alloc (.cells #[.int .i64 mn, .int .i64 mx, .bool true, .slice (some ⟨qb, 0, none⟩) (mn * 256) (mn * 256)] 251)) id
    rw [show Ks .u8 (List.replicate (mn * 256) 0) = List.replicate (mn * 256) (Value.int .u8 0) by simp [Ks]]
    exact this
   exact ⟨_, _, _, rfl, hM, Nat.le_trans hWs FB.o.size, by rw [HQB.o]; exact hWs, (F0.o.trans FB.o i3).alloc _⟩
  | false =>
   have v4 := v4 hh
   rw [hh, v4] at F0 G0
   rw [hmn] at F0 G0 v1 v2 ⊢
   rw [v4]
   have hmx := v4
   clear v3 hv
   have hmk : ∀ W, (Instr.makeSlice 59 (.int .i64 ((mn : Int) * 256)) (.int .i64 ((mn : Int) * 256))).run prog W = .ok (.slice (some ⟨W.heap.size, 0, none⟩) (mn * 256) (mn * 256)) (W.alloc (.cells (Array.replicate (mn * 256) (.int .u8 0)) 5)) := fun W => by
    exact yy64
   have hw1 : IntKind.i64.wrap ((mn : Int) * 256) = (mn : Int) * 256 := by rw [IntKind.wrap_i64]; omega
   go_enter func77, ntmps77
   go_wp2_with fail
   generalize w.alloc (.cells #[.int .i64 mn, .int .i64 0, .bool false] 50) = W at *
   have HX : Hid (∀ X, Fr No W X → Ce X w.heap.size 0 (.int .i64 mn) ∧ Ce X w.heap.size 1 (.int .i64 0) ∧ Ce X w.heap.size 2 (.bool false)) := fun X f => ⟨(G0.o.fr f id).cell 0, (G0.o.fr f id).cell 1, (G0.o.fr f id).cell 2⟩
   refine rwO (fun X => Ce X w.heap.size 0 (.int .i64 mn) ∧ Ce X w.heap.size 1 (.int .i64 0) ∧ Ce X w.heap.size 2 (.bool false)) [] (List.range 8) [4, 6] (HX.o _ (Fr.refl _ _).drew) ?_
   refine rC ?_
   refine wpO_eff rfl rfl fun K hK => sz ?_
   have FB := hid ((Fr.refl No W).alloc (.cells (Array.replicate (mn * 256) (.int .u8 0)) 5)).drew
   have GB : Hid (Own (W.alloc (.cells (Array.replicate (mn * 256) (.int .u8 0)) 5)).drew W.heap.size 5 (mn * 256) (List.replicate (mn * 256) (.int .u8 0))) := kFf W 5 (.int .u8 0) (mn * 256) om
   have hWs := F0.o.size
   clear hmk
   obtain ⟨qb, hqb⟩ : ∃ z, z = W.heap.size := ⟨_, rfl⟩
   have HQB := hid hqb
   rw [← hqb] at GB ⊢
   clear hqb
   generalize (W.alloc (.cells (Array.replicate (mn * 256) (.int .u8 0)) 5)).drew = W2 at *
   refine hK _ _ (fun _ => HX.o _ FB.o) ?_
   clear hK K
   refine rC ?_
   refine wpO_eff rfl rfl fun K hK => sz ?_
   refine hK _ _ (fun _ => HX.o _ (FB.o.alloc _)) ?_
   clear hK K
   refine rC ?_
   refine wpO_nil ?_
   go_wp2
   go_ret
   have hM : Mo (W2.alloc (.cells #[.int .i64 mn, .int .i64 0, .bool false, .slice (some ⟨qb, 0, none⟩) (mn * 256) (mn * 256)] 251)) W2.heap.size qb (mn * 256) l (List.replicate (mn * 256) 0) := by
    refine ⟨?_, ?_, kDF _⟩
    · rw [hmn, hmx, hh]
      have := Blk.new W2 251 #[.int .i64 mn, .int .i64 0, .bool false, .slice (some ⟨qb, 0, none⟩) (mn * 256) (mn * 256)]
      simpa using this
    have := GB.o.fr ((Fr.refl No W2).alloc (.cells #[.int .i64 mn, .int .i64 0, .bool false, .slice (some ⟨qb, 0, none⟩) (mn * 256) (mn * 256)] 251)) id
    rw [show Ks .u8 (List.replicate (mn * 256) 0) = List.replicate (mn * 256) (Value.int .u8 0) by simp [Ks]]
    exact this
   exact ⟨_, _, _, rfl, hM, Nat.le_trans hWs FB.o.size, by rw [HQB.o]; exact hWs, (F0.o.trans FB.o i3).alloc _⟩
 | false =>
  have hV := of_decide_eq_false hv
  unfold NewTo
  rw [hv]
  simp only [Bool.false_eq_true, if_false]
  clear hv G0
  generalize l.min = mn at *
  generalize l.max = mx at *
  by_cases h1 : mn < 0
  · exact yy65
  · by_cases h2 : 256 < mn
    · exact yy65
    cases hh : l.has with
    | true =>
     rw [hh] at F0
     by_cases h3 : mx < mn
     · exact yy65
     · have h4 : 256 < mx := by
        by_cases h5 : 256 < mx
        · exact h5
        exact absurd ⟨by omega, by omega, fun _ => ⟨by omega, by omega⟩, fun h => by rw [hh] at h; cases h⟩ hV
       exact yy65
    | false =>
     rw [hh] at F0
     have h4 : ¬ mx = 0 := fun h5 => hV ⟨by omega, by omega, (fun h => by rw [hh] at h; cases h), (fun _ => h5)⟩
     have h6 : (mx == 0) = false := by simpa using h4
     have h7 : (mx != 0) = true := by simpa using h4
     exact yy65
theorem kJg (l : Lim) (w : World) : Calls prog 206 #[.agg #[.int .i64 l.min, .int .i64 l.max, .bool l.has]] w fun e w' => e = .returned (.bool (validB l)) ∧ Fr No w w' := by
 have F0 := hid ((Fr.refl No w).alloc (.cells #[.int .i64 l.min, .int .i64 l.max, .bool l.has] 50))
 by_cases h1 : l.min < 0
 · go_enter func206, ntmps206
   go_wp2
   go_ret
   exact ⟨ret_bool (by unfold validB; rw [Bool.eq_iff_iff]; simp; omega), F0.o⟩
 by_cases h2 : 256 < l.min
 · go_enter func206, ntmps206
   go_wp2
   go_ret
   exact ⟨ret_bool (by unfold validB; rw [Bool.eq_iff_iff]; simp; omega), F0.o⟩
 cases hh : l.has with
 | true =>
  rw [hh] at F0
  by_cases h3 : l.min ≤ l.max
  · by_cases h4 : l.max ≤ 256
    · exact yy49
    exact yy49
  · exact yy49
 | false =>
  rw [hh] at F0
  by_cases h3 : l.max = 0
  · have h4 : (l.max == 0) = true := by simpa using h3
    rw [h3] at F0
    exact yy49
  · have h4 : (l.max == 0) = false := by simpa using h3
    go_enter func206, ntmps206
    go_wp2
    go_ret
    exact ⟨ret_bool (by unfold validB; rw [Bool.eq_iff_iff]; simp [hh]; omega), F0.o⟩
def RnTo (l : Lim) (w : World) (e : Ending) (w' : World) : Prop :=
 if validB l = true then ∃ (A : OA) (c : Nat), e = .returned (.tuple #[.agg #[.int .i64 l.min, .int .i64 l.max, .bool l.has, .slice A (l.min.toNat * 256) c], .bool true]) ∧ RmIn w' A c (List.replicate (l.min.toNat * 256) 0) ∧ c ≤ maxLen ∧ (∀ q o, A = some ⟨q, o, none⟩ → w.heap.size ≤ q) ∧ Fr No w w'
 else e = .returned (.tuple #[.agg #[.int .i64 0, .int .i64 0, .bool false, .slice none 0 0], .bool false]) ∧ Fr No w w'
theorem kHP (l : Lim) (w : World) : Calls prog 191 #[.agg #[.int .i64 l.min, .int .i64 l.max, .bool l.has]] w (RnTo l w) := by
 have F0 := hid (((Fr.refl No w).alloc (.cells #[.int .i64 l.min, .int .i64 l.max, .bool l.has] 50)).alloc (.cells #[.int .i64 0, .int .i64 0, .bool false, .slice none 0 0] 143))
 have G0 := hid ((Blk.new w 50 #[.int .i64 l.min, .int .i64 l.max, .bool l.has]).alloc (.cells #[.int .i64 0, .int .i64 0, .bool false, .slice none 0 0] 143))
 have GR := hid (Blk.new1 w (.cells #[.int .i64 l.min, .int .i64 l.max, .bool l.has] 50) 143 #[.int .i64 0, .int .i64 0, .bool false, .slice none 0 0])
 have HMY := hid (fun W => kJg l W)
 unfold RnTo
 generalize hv : validB l = vv at *
 cases vv with
 | true =>
  have hV := of_decide_eq_true hv
  obtain ⟨v1, v2, _, _⟩ := hV
  simp only [if_true]
  obtain ⟨mn, hmn⟩ : ∃ mn : Nat, l.min = mn := ⟨l.min.toNat, by omega⟩
  have hto : l.min.toNat = mn := om
  rw [hto]
  rw [hmn] at F0 G0 GR HMY v1 v2 ⊢
  clear hv
  have hmk : ∀ W, (Instr.makeSlice 59 (.int .i64 ((mn : Int) * 256)) (.int .i64 ((mn : Int) * 256))).run prog W = .ok (.slice (some ⟨W.heap.size, 0, none⟩) (mn * 256) (mn * 256)) (W.alloc (.cells (Array.replicate (mn * 256) (.int .u8 0)) 5)) := fun W => by
   exact yy64
  have hw1 : IntKind.i64.wrap ((mn : Int) * 256) = (mn : Int) * 256 := by rw [IntKind.wrap_i64]; omega
  go_enter func191, ntmps191
  go_wp2_with fail
  generalize (w.alloc (.cells #[.int .i64 mn, .int .i64 l.max, .bool l.has] 50)).alloc (.cells #[.int .i64 0, .int .i64 0, .bool false, .slice none 0 0] 143) = W at *
  refine (HMY.o _).mono ?_
  rintro e w1 ⟨rfl, f⟩
  replace F0 := ftr F0 f
  replace G0 := hid (G0.o.fr f id)
  replace GR := hid (GR.o.fr f id)
  clear f
  have hlt : w.heap.size + 1 < w1.heap.size := GR.o.lt
  have HX : Hid (∀ X, Fr (One (w.heap.size + 1)) w1 X → Ce X w.heap.size 0 (.int .i64 mn) ∧ Ce X w.heap.size 1 (.int .i64 l.max) ∧ Ce X w.heap.size 2 (.bool l.has)) := fun X f => by
   have h := G0.o.fr f (fun x => by simp only [One] at x; omega)
   exact ⟨h.cell 0, h.cell 1, h.cell 2⟩
  go_wp2_with fail
  refine rwO (fun X => Ce X w.heap.size 0 (.int .i64 mn) ∧ Ce X w.heap.size 1 (.int .i64 l.max) ∧ Ce X w.heap.size 2 (.bool l.has)) [] (List.range 8) [4, 6] (HX.o _ (Fr.refl _ _).drew) ?_
  refine rC ?_
  refine wpO_eff rfl rfl fun K hK => sz ?_
  have FB := hid ((Fr.refl No w1).alloc (.cells (Array.replicate (mn * 256) (.int .u8 0)) 5)).drew
  have GB : Hid (Blk (w1.alloc (.cells (Array.replicate (mn * 256) (.int .u8 0)) 5)).drew w1.heap.size 5 (Ks .u8 (List.replicate (mn * 256) 0)).toArray) := by
   have := (Blk.new w1 5 (Array.replicate (mn * 256) (.int .u8 0))).drew
   have e : Array.replicate (mn * 256) (Value.int .u8 0) = (Ks .u8 (List.replicate (mn * 256) 0)).toArray := by simp [Ks]
   rw [← e]
   exact this
  clear hmk
  obtain ⟨qb, hqb⟩ : ∃ z, z = w1.heap.size := ⟨_, rfl⟩
  have HQB := hid hqb
  rw [← hqb] at GB ⊢
  clear hqb
  generalize (w1.alloc (.cells (Array.replicate (mn * 256) (.int .u8 0)) 5)).drew = W2 at *
  refine hK _ _ (fun _ => HX.o _ (FB.o.mono (fun _ _ h => h.elim))) ?_
  clear hK K
  refine rC ?_
  replace GR := hid (GR.o.fr FB.o id)
  have z0 := GR.o.cell 0
  have z1 := GR.o.cell 1
  have z2 := GR.o.cell 2
  have z3 := GR.o.cell 3
  have q0 := GR.o.frozen 0
  have q1 := GR.o.frozen 1
  have q2 := GR.o.frozen 2
  have q3 := GR.o.frozen 3
  have FZ := hid (((((Fr.refl (One (w.heap.size + 1)) W2).setCell ⟨w.heap.size + 1, 0, none⟩ (.int .i64 mn) (fun _ => rfl)).setCell ⟨w.heap.size + 1, 1, none⟩ (.int .i64 l.max) (fun _ => rfl)).setCell ⟨w.heap.size + 1, 2, none⟩ (.bool l.has) (fun _ => rfl)).setCell ⟨w.heap.size + 1, 3, none⟩ (.slice (some ⟨qb, 0, none⟩) (mn * 256) (mn * 256)) (fun _ => rfl))
  refine wpO_eff rfl rfl fun K hK => sz ?_
  refine hK _ _ (fun _ => HX.o _ ((FB.o.mono (fun _ _ h => h.elim)).trans FZ.o i3)) ?_
  clear hK K
  refine rC ?_
  refine wpO_nil ?_
  go_wp2
  have FF := (F0.o.trans FB.o i3).trans FZ.o (fun i hi h => by simp only [One] at h; omega)
  have hrow := kNU (base := w1.heap.size) GB.o (by rw [HQB.o]; exact nr) (kDF _) (by simp [maxLen]; omega)
  have hRm := kDV (hrow.fr FZ.o (fun _ h => h.elim) (fun k hk h => by have h1 := (hrow.own hk).1; simp only [One] at h; omega))
  simp only [List.length_replicate] at hRm
  exact bodyPost_ret (v := .tuple #[.agg #[.int .i64 mn, .int .i64 l.max, .bool l.has, .slice (some ⟨qb, 0, none⟩) (mn * 256) (mn * 256)], .bool true]) (by simp [results, Tryz.results191, go_sem, z0, z1, z2, z3]) rfl ⟨_, _, rfl, hRm, (by simp [maxLen]; omega), (fun q o e => by injection e with e; injection e with e _; rw [← e, HQB.o]; exact F0.o.size), FF⟩
 | false =>
  simp only [Bool.false_eq_true, if_false]
  clear hv
  go_enter func191, ntmps191
  go_wp2_with fail
  refine (HMY.o _).mono ?_
  rintro e w1 ⟨rfl, f⟩
  have F1 := ftr F0 f
  have GR1 := hid (GR.o.fr f id)
  have z0 := GR1.o.cell 0
  have z1 := GR1.o.cell 1
  have z2 := GR1.o.cell 2
  have z3 := GR1.o.cell 3
  have q0 := GR1.o.frozen 0
  have q1 := GR1.o.frozen 1
  have q2 := GR1.o.frozen 2
  have q3 := GR1.o.frozen 3
  clear f
  go_wp2
  have FZ := (((((Fr.refl (One (w.heap.size + 1)) w1).setCell ⟨w.heap.size + 1, 0, none⟩ (.int .i64 0) (fun _ => rfl)).setCell ⟨w.heap.size + 1, 1, none⟩ (.int .i64 0) (fun _ => rfl)).setCell ⟨w.heap.size + 1, 2, none⟩ (.bool false) (fun _ => rfl)).setCell ⟨w.heap.size + 1, 3, none⟩ (.slice none 0 0) (fun _ => rfl))
  exact bodyPost_ret (v := .tuple #[.agg #[.int .i64 0, .int .i64 0, .bool false, .slice none 0 0], .bool false]) (by simp [results, Tryz.results191, go_sem, z0, z1, z2, z3]) rfl ⟨rfl, F1.o.trans FZ (fun i hi h => by simp only [One] at h; omega)⟩
theorem kLT (p c : Nat) (A : OA) (B : List Int) (w : World) (h3 : w.cell? ⟨p, 3, none⟩ = some (.slice A B.length c)) (hp : p < w.heap.size) (hI : RmIn w A c B) (hn : B.length ≤ 100000) :
    Calls prog 67 #[.pointer (some ⟨p, 0, none⟩)] w (WrTo B w) := by
 have F0 := hid ((Fr.refl No w).alloc (.cells #[] 5))
 have R0 := hid (Ty.row.lit (t := tB) (S := Emp) (base := w.heap.size) (css := []) (xs := []) (Blk.new w 5 #[]) nr Css.nil dc)
 have h3' : (w.alloc (.cells #[] 5)).cell? ⟨p, 3, none⟩ = some (.slice A B.length c) := (F0.o.cell (p := ⟨p, 3, none⟩) hp id).trans h3
 have HI := hid (hI.fr F0.o)
 clear hI h3
 go_enter func67, ntmps67
 go_wp2_with (at_builtin; refine wpList_appC (t := tB) (base := w.heap.size) (S := Emp) (xs := []) (ys := B) (dss := B.map fun b => [.int .u8 b]) (B2 := (w.alloc (.cells #[] 5)).heap.size) elBs rfl rfl rfl rfl R0.o (kBW HI.o.bts) (by rw [kBB]; exact HI.o.rd) rfl (by simp; omega) (by simp; omega) (fun _ h => h.elim) F0.o.size ?_; intro v1 w2 hr1 fr1 hv1; have F2 := hid (own_frame R0.o F0.o fr1 nr); have R1 := hid hr1; clear hr1 fr1 hv1)
 obtain ⟨A1, k1, e1, _, _, _⟩ := R1.o.els (S' := fun _ => True) tvv tvv
 subst e1
 go_ret
 exact ⟨A1, k1, rfl, R1.o, F2.o⟩
theorem kET (p : Nat) (l : Lim) (v : Value) (w : World) (hb : Blk w p 251 #[.int .i64 l.min, .int .i64 l.max, .bool l.has, v]) :
    Calls prog 63 #[.pointer (some ⟨p, 0, none⟩)] w fun e w' => e = .returned (.agg #[.int .i64 l.min, .int .i64 l.max, .bool l.has]) ∧ Fr No w w' := by
 have F0 := hid ((Fr.refl No w).alloc (.cells #[.int .i64 l.min, .int .i64 l.max, .bool l.has] 50))
 have G := hb.alloc (.cells #[.int .i64 0, .int .i64 0, .bool false] 50)
 have y0 := G.cell 0
 have y1 := G.cell 1
 have y2 := G.cell 2
 have hp := hb.lt
 clear hb G
 go_enter func63, ntmps63
 go_wp2
 exact bodyPost_ret (v := .agg #[.int .i64 l.min, .int .i64 l.max, .bool l.has]) (by simp [results, Tryz.results63, go_sem]) rfl ⟨rfl, F0.o⟩
theorem kOr {W w1 : World} (hb : Below W.heap.size W w1) : (∀ b o, b < W.heap.size → w1.cell? ⟨b, o, none⟩ = W.cell? ⟨b, o, none⟩) ∧ (∀ b o, b < W.heap.size → w1.frozen? ⟨b, o, none⟩ = W.frozen? ⟨b, o, none⟩) :=
 ⟨fun b o h => hb.cell (p := ⟨b, o, none⟩) h, fun b o h => hb.frozen (p := ⟨b, o, none⟩) h⟩
theorem kLp (n : Int) (w : World) (_h0 : 0 ≤ n) :
    Calls prog 198 #[.int .u64 n] w fun e w' => e = .returned (.int .u64 (n % 4294967296)) ∧ w = w' := by
 go_enter func198, ntmps198
 go_wp2
 go_ret
 exact ⟨rfl, rfl⟩
def kNw (len : Nat) (f n : Int) : Bool := decide (f % 4294967296 + n % 4294967296 ≤ (len : Int))
theorem tthere_any (A : OA) (len c : Nat) (f n : Int) (w : World) (hl : len ≤ 9223372036854775807) (h0 : 0 ≤ f) (h1 : 0 ≤ n) :
    Calls prog 208 #[.slice A len c, .int .u64 f, .int .u64 n] w fun e w' => e = .returned (.bool (kNw len f n)) ∧ w = w' := by
 go_enter func208, ntmps208
 go_wp2_with (go_at_call 198; refine (kLp _ _ om).mono ?_; rintro e w' ⟨rfl, rfl⟩)
 go_ret
 refine ⟨ret_bool ?_, rfl⟩
 rfl
theorem list_at (b : Nat) (w : World) (v : Value) (h : w.cell? ⟨b, 4, none⟩ = some v) :
    Calls prog 152 #[.pointer (some ⟨b, 0, none⟩)] w fun e w' => e = .returned v ∧ w = w' := by
 go_enter func152, ntmps152
 go_wp2
 go_ret
 exact ⟨rfl, rfl⟩
def refB (e : Int) : Bool := e == 3 || e == 4
def limB (mn mx : Int) (h : Bool) (most : Int) : Bool :=
 if mn < 0 ∨ most < mn then false else if h then decide (mn ≤ mx) && decide (mx ≤ most) else mx == 0
def tabB (e mn mx : Int) (h : Bool) : Bool := refB e && limB mn mx h 1024
theorem kLo (e : Int) (w : World) :
    Calls prog 158 #[.int .i64 e] w fun e' w' => e' = .returned (.bool (refB e)) ∧ w = w' := by
 go_enter func158, ntmps158
 go_wp2
 all_goals go_ret
 all_goals simp_all [refB]
theorem kNg (mn mx : Int) (h : Bool) (most : Int) (w : World) :
    Calls prog 159 #[.agg #[.int .i64 mn, .int .i64 mx, .bool h], .int .i64 most] w fun e' w' => e' = .returned (.bool (limB mn mx h most)) ∧ Below w.heap.size w w' := by
 go_enter func159, ntmps159
 go_wp2
 all_goals go_ret
 all_goals (refine ⟨ret_bool ?_, (Below.refl _ _).alloc nr _⟩)
 all_goals (first | (simp [limB, *] <;> omega) | (cases h <;> simp_all [limB] <;> omega))
theorem kGI (e mn mx : Int) (h : Bool) (w : World) :
    Calls prog 74 #[.agg #[.int .i64 e, .int .i64 mn, .int .i64 mx, .bool h]] w fun e' w' => e' = .returned (.bool (tabB e mn mx h)) ∧ Below w.heap.size w w' := by
 cases hr : refB e
 all_goals
  go_enter func74, ntmps74
  go_wp2_with (first
   | (go_at_call 158; refine (kLo _ _).mono ?_; rintro e w' ⟨rfl, rfl⟩)
   | (go_at_call 159; refine (kNg _ _ _ _ _).mono ?_; rintro e w' ⟨rfl, hb⟩))
  go_ret
 · exact ⟨ret_bool (by simp [tabB, hr]), (Below.refl _ _).alloc nr _⟩
 exact ⟨ret_bool (by simp [tabB, hr]), ((Below.refl _ _).alloc nr _).trans (hb.mono sm)⟩
theorem u64s : ElemOk prog 58 55 1 8 (.int .u64 0) := ElemOk.mk' underlying58 kr rfl om
def Us (xs : List Int) : LV := xs.map (Value.int .u64)
@[simp] theorem kLF (xs : List Int) : (Us xs).length = xs.length := by simp [Us]
theorem kOC (xs : List Int) : ∀ u ∈ Us xs, u.oneCell' = true := by
 intro u hu
 simp only [Us, List.mem_map] at hu
 obtain ⟨a, _, rfl⟩ := hu
 rfl
theorem kOw (xs : List Int) (k : Nat) (hk : k < xs.length) : (Us xs)[k]'(by simpa using hk) = .int .u64 xs[k] := by simp [Us]
def kOa (E : TypeId) (xs : LV) (w : World) (e : Ending) (w' : World) : Prop :=
 ∃ q c, e = .returned (.slice (some ⟨q, 0, none⟩) xs.length c) ∧ Own w' q E c xs ∧ w.heap.size ≤ q ∧ Fr No w w'
theorem kLS (b o c : Nat) (B : Nat) (xs : LV) (w : World) (hr : Rd w B (some ⟨b, o, none⟩) xs) (h1 : ∀ u ∈ xs, u.oneCell' = true) (hl : xs.length ≤ 1048576) :
    Calls prog 83 #[.slice (some ⟨b, o, none⟩) xs.length c] w (kOa 55 xs w) := by
 go_enter func83, ntmps83
 have q22 : ∀ (w : World) (a : OA) (n c n' c' : Nat), (binOp .eql 58 (.slice a n c) (.slice none n' c')).run prog w = .ok (.bool a.isNone) w := fun w a n c n' c' => Lib.run_eql_slice_nil w _ _ a n c n' c' underlying58
 go_wp2_with (at_builtin; refine kIH c u64s rfl rfl (xs := []) rfl rfl (kNX w 55 [] sm) (hr.frNo ((Fr.refl No w).alloc _)) rfl h1 so om ?_; intro q c' w' hown hf hq)
 go_ret
 refine ⟨q, c', by simp, hown, ?_, ((Fr.refl No w).alloc _).trans hf (by intro i hi h; have : i = w.heap.size := h; omega)⟩
 rcases hq with rfl | rfl <;> simp
structure TabAt (w : World) (p q c : Nat) (e mn mx : Int) (h : Bool) (xs : List Int) : Prop where
 ne : p ≠ q
 blk : Blk w p 276 #[.int .i64 e, .int .i64 mn, .int .i64 mx, .bool h, .slice (some ⟨q, 0, none⟩) xs.length c, .bool true]
 own : Own w q 55 c (Us xs)
 len : xs.length ≤ 1024
 lim : h = true → 0 ≤ mx ∧ mx ≤ 1024
section
variable {M : Nat → Prop} {w w' : World} {p q c : Nat} {e mn mx : Int} {h : Bool} {xs : List Int}
theorem TabAt.fr (t : TabAt w p q c e mn mx h xs) (f : Fr M w w') (h1 : ¬ M p) (h2 : ¬ M q) : TabAt w' p q c e mn mx h xs :=
 ⟨t.ne, t.blk.fr f h1, t.own.fr f h2, t.len, t.lim⟩
theorem TabAt.c0 (t : TabAt w p q c e mn mx h xs) : w.cell? ⟨p, 0, none⟩ = some (.int .i64 e) := by rw [t.blk.cell]; rfl
theorem TabAt.c1 (t : TabAt w p q c e mn mx h xs) : w.cell? ⟨p, 1, none⟩ = some (.int .i64 mn) := by rw [t.blk.cell]; rfl
theorem TabAt.c2 (t : TabAt w p q c e mn mx h xs) : w.cell? ⟨p, 2, none⟩ = some (.int .i64 mx) := by rw [t.blk.cell]; rfl
theorem TabAt.c3 (t : TabAt w p q c e mn mx h xs) : w.cell? ⟨p, 3, none⟩ = some (.bool h) := by rw [t.blk.cell]; rfl
theorem TabAt.c4 (t : TabAt w p q c e mn mx h xs) : w.cell? ⟨p, 4, none⟩ = some (.slice (some ⟨q, 0, none⟩) xs.length c) := by rw [t.blk.cell]; rfl
theorem TabAt.cap (t : TabAt w p q c e mn mx h xs) : xs.length ≤ c := by obtain ⟨_, _, h, _⟩ := t.own.cur; simpa using h
end
theorem kLr {e mn mx : Int} {h : Bool} (hk : tabB e mn mx h = true) : 0 ≤ mn ∧ mn ≤ 1024 ∧ (h = true → mn ≤ mx ∧ mx ≤ 1024) := by
 simp only [tabB, limB, Bool.and_eq_true] at hk
 obtain ⟨_, hk⟩ := hk
 split at hk
 · cases hk
 refine ⟨by omega, by omega, fun hh => ?_⟩
 subst hh
 simpa using hk
def kOX (e mn mx : Int) (h : Bool) (w : World) (e' : Ending) (w' : World) : Prop :=
 ∃ p q, e' = .returned (.pointer (some ⟨p, 0, none⟩)) ∧ TabAt w' p q mn.toNat e mn mx h (List.replicate mn.toNat 0) ∧ w.heap.size ≤ p ∧ w.heap.size ≤ q ∧ Fr No w w'
theorem kNc (e mn mx : Int) (h : Bool) (w : World) (hk : tabB e mn mx h = true) :
    Calls prog 76 #[.agg #[.int .i64 e, .int .i64 mn, .int .i64 mx, .bool h]] w (kOX e mn mx h w) := by
 obtain ⟨h0, h1, h2⟩ := kLr hk
 obtain ⟨n, rfl⟩ := Int.eq_ofNat_of_zero_le h0
 have hmk := fun (W : World) => run_mk u64s rfl W .i64 .i64 n om om
 have hh : Hid (h = true → (n : Int) ≤ mx ∧ mx ≤ 1024) := h2
 clear h2
 go_enter func76, ntmps76
 go_wp2_with (first
  | (go_at_call 74; refine (kGI _ _ _ _ _).mono ?_; rintro e w' ⟨rfl, hb⟩; obtain ⟨hc, hf⟩ := kOr hb))
 have c0 : w'.cell? ⟨w.heap.size, 0, none⟩ = some (.int .i64 e) := by rw [hc _ _ (by simp)]; go_simp
 have c1 : w'.cell? ⟨w.heap.size, 1, none⟩ = some (.int .i64 n) := by rw [hc _ _ (by simp)]; go_simp
 have c2 : w'.cell? ⟨w.heap.size, 2, none⟩ = some (.int .i64 mx) := by rw [hc _ _ (by simp)]; go_simp
 have c3 : w'.cell? ⟨w.heap.size, 3, none⟩ = some (.bool h) := by rw [hc _ _ (by simp)]; go_simp
 clear hc hf
 go_region_held3 (fun W => W.cell? ⟨w.heap.size, 0, none⟩ = some (.int .i64 e) ∧ W.cell? ⟨w.heap.size, 1, none⟩ = some (.int .i64 n) ∧ W.cell? ⟨w.heap.size, 2, none⟩ = some (.int .i64 mx) ∧ W.cell? ⟨w.heap.size, 3, none⟩ = some (.bool h)) (go_keep) (fail)
 go_wp2
 go_ret
 refine ⟨w'.heap.size + 1, w'.heap.size, rfl, ⟨by omega, ?_, ?_, by simp; omega, fun hh' => ?_⟩, ?_, ?_, ?_⟩
 · have := (Blk.new1 w' (Obj.cells (Array.replicate n (Value.int IntKind.u64 0)) 55) 276 #[Value.int IntKind.i64 e, Value.int IntKind.i64 ↑n, Value.int IntKind.i64 mx, Value.bool h, Value.slice (some { block := w'.heap.size, off := 0 }) n n, Value.bool true]).drew
   simpa using this
 · have := (kFf w' 55 (.int .u64 0) n om).fr (((Fr.refl No _).alloc (Obj.cells
           #[Value.int IntKind.i64 e, Value.int IntKind.i64 ↑n, Value.int IntKind.i64 mx, Value.bool h,
            Value.slice (some { block := w'.heap.size, off := 0 }) n n, Value.bool true]
           276)).drew) id
   simpa [Us] using this
 · have := hh.o hh'; omega
 · have := hb.size; simp at this; omega
 · have := hb.size; simp at this; omega
 exact ((((Fr.refl No w).alloc _).trans (Fr.of_below (M := No) hb) (fun _ _ x => x)).alloc _).alloc _ |>.drew
section
variable {w : World} {p q c : Nat} {e mn mx : Int} {h : Bool} {xs : List Int}
theorem kHG (t : TabAt w p q c e mn mx h xs) :
    Calls prog 62 #[.pointer (some ⟨p, 0, none⟩)] w fun e' w' => e' = .returned (.int .i64 xs.length) ∧ w = w' := by
 go_enter func62, ntmps62
 go_wp2_with (go_at_call 152; refine (list_at _ _ _ t.c4).mono ?_; rintro e w' ⟨rfl, rfl⟩)
 go_ret
 exact ⟨rfl, rfl⟩
def kPK (xs : List Int) (w : World) (e' : Ending) (w' : World) : Prop :=
 ∃ q c, e' = .returned (.slice (some ⟨q, 0, none⟩) xs.length c) ∧ Own w' q 55 c (Us xs) ∧ w.heap.size ≤ q ∧ Fr No w w'
theorem kLq (t : TabAt w p q c e mn mx h xs) :
    Calls prog 68 #[.pointer (some ⟨p, 0, none⟩)] w (kPK xs w) := by
 go_enter func68, ntmps68
 have hc := kLS q 0 c w.heap.size (Us xs) w (t.own.rd t.own.lt) (kOC xs) (by have := t.len; simp; omega)
 rw [kLF] at hc
 have HC := hid hc
 clear hc
 go_wp2_with (first
  | (go_at_call 152; refine (list_at _ _ _ t.c4).mono ?_; rintro e w' ⟨rfl, rfl⟩)
  | (go_at_call 83; refine HC.o.mono ?_; rintro e w' ⟨q', c', rfl, ho, hq, hf⟩))
 go_ret
 exact ⟨q', c', rfl, ho, hq, hf⟩
theorem kDS {n : Nat} {i m : Int} (hi : ¬ i % 4294967296 + m % 4294967296 ≤ (n : Int)) : kNw n i m = false := by simp only [kNw, decide_eq_false_iff_not]; exact hi
theorem kCP {n : Nat} {i m : Int} (hi : i % 4294967296 + m % 4294967296 ≤ (n : Int)) : kNw n i m = true := by simp only [kNw, decide_eq_true_eq]; exact hi
end
section
variable {w : World} {p q c : Nat} {e mn mx : Int} {h : Bool} {xs : List Int}
def Fits (n m : Nat) (tz at_ k : Int) : Prop := tz % 4294967296 + k % 4294967296 ≤ (n : Int) ∧ at_ % 4294967296 + k % 4294967296 ≤ (m : Int)
theorem kIS (t : TabAt w p q c e mn mx h xs) (A : OA) (m cl : Nat) (tz at_ k : Int) (h0 : 0 ≤ tz) (h1 : 0 ≤ at_) (h2 : 0 ≤ k) (hm : m ≤ 1048576) (hi : ¬ Fits xs.length m tz at_ k) :
    Calls prog 199 #[.pointer (some ⟨p, 0, none⟩), .slice A m cl, .int .u64 tz, .int .u64 at_, .int .u64 k] w fun e' w' => e' = .returned (.int .i64 3) ∧ w = w' := by
 have hl := t.len
 by_cases hf : tz % 4294967296 + k % 4294967296 ≤ (xs.length : Int)
 · have hb := kCP hf
   have hb2 := kDS (n := m) (i := at_) (m := k) (fun hx => hi ⟨hf, hx⟩)
   exact yy61
 have hb := kDS hf
 exact yy61
theorem kEp (t : TabAt w p q c e mn mx h xs) (A : OA) (m cl : Nat) (tz at_ k : Int) (h0 : 0 ≤ tz) (h1 : 0 ≤ at_) (h2 : 0 ≤ k) (hm : m ≤ 1048576) (hi : Fits xs.length m tz at_ k) (hk : k % 4294967296 = 0) :
    Calls prog 199 #[.pointer (some ⟨p, 0, none⟩), .slice A m cl, .int .u64 tz, .int .u64 at_, .int .u64 k] w fun e' w' => e' = .returned (.int .i64 0) ∧ w = w' := by
 have hl := t.len
 have hb := kCP hi.1
 have hb2 := kCP hi.2
 clear hi
 go_enter func199, ntmps199
 go_wp2_with (first
     | (go_at_call 152; refine (list_at _ _ _ t.c4).mono ?_; rintro e w' ⟨rfl, rfl⟩)
     | (go_at_call 198; refine (kLp _ _ om).mono ?_; rintro e w' ⟨rfl, rfl⟩)
     | (go_at_call 208; refine (tthere_any _ _ _ _ _ _ om om om).mono ?_; rintro e w' ⟨rfl, rfl⟩))
 go_ret
 exact ⟨rfl, rfl⟩
theorem kGw (t : TabAt w p q c e mn mx h xs) (A : OA) (ys : List Int) (B cl T U N : Nat) (tz at_ k : Int) (h0 : 0 ≤ tz) (h1 : 0 ≤ at_) (h2 : 0 ≤ k) (hm : ys.length ≤ 1048576) (hcl : ys.length ≤ cl)
    (hr : Rd w B A (Us ys)) (eT : tz % 4294967296 = T) (eU : at_ % 4294967296 = U) (eN : k % 4294967296 = N) (hN : 0 < N) (f1 : T + N ≤ xs.length) (f2 : U + N ≤ ys.length) :
    Calls prog 199 #[.pointer (some ⟨p, 0, none⟩), .slice A ys.length cl, .int .u64 tz, .int .u64 at_, .int .u64 k] w
     fun e' w' => e' = .returned (.int .i64 0) ∧ TabAt w' p q c e mn mx h (splice xs T ((ys.drop U).take N)) ∧ Fr (One q) w w' := by
 have hl := t.len
 have hb := kCP (n := xs.length) (i := tz) (m := k) om
 have hb2 := kCP (n := ys.length) (i := at_) (m := k) om
 have hne : q ≠ p := fun h => t.ne h.symm
 have h4 := t.c4
 have hcap := t.cap
 have hr' : ∃ b o, A = some ⟨b, o, none⟩ ∧ b < B ∧ Rd w B (some ⟨b, o + U, none⟩) (Us ((ys.drop U).take N)) := by
  rcases hr with hx | ⟨b, o, rfl, hb, hc⟩
  · have h' : (Us ys).length = 0 := by rw [hx]; rfl
    rw [kLF] at h'; omega
  refine ⟨b, o, rfl, hb, .inr ⟨b, o + U, rfl, hb, fun j u hu => ?_⟩⟩
  have := hc (U + j) u (by
   simp only [Us, List.getElem?_map, List.getElem?_take, List.getElem?_drop] at hu ⊢
   split at hu
   · exact hu
   · simp at hu)
  rwa [← Nat.add_assoc] at this
 obtain ⟨b, o, rfl, hbB, hr2⟩ := hr'
 clear hr
 have hlen : ((ys.drop U).take N).length = N := by simp; omega
 generalize hcs : (ys.drop U).take N = cs at *
 have HR := hid hr2; clear hr2
 have HL := hid hlen; clear hlen hcs
 have i1 := nki T
 have i2 : (T : Int) ≤ xs.length := om
 have i3 := nki U
 have i4 : (U : Int) + N ≤ cl := om
 have i5 : (U : Int) ≤ U + N := om
 have i6 : (0 : Int) ≤ U + N := om
 have ws : IntKind.u64.wrap ((U : Int) + (N : Int)) = (U : Int) + (N : Int) := IntWalk.u64_in _ om
 have wt : ((U : Int) + (N : Int)).toNat = U + N := om
 have n1 : ¬ c = T := om
 have n2 : ¬ cl = U := om
 go_enter func199, ntmps199
 go_wp2_with (first
     | (go_at_call 152; refine (list_at _ _ _ t.c4).mono ?_; rintro e w' ⟨rfl, rfl⟩)
     | (go_at_call 198; refine (kLp _ _ om).mono ?_; rintro e w' ⟨rfl, rfl⟩)
     | (go_at_call 208; refine (tthere_any _ _ _ _ _ _ om om om).mono ?_; rintro e w' ⟨rfl, rfl⟩))
 obtain ⟨w', hrun, ho, hf⟩ := kNx (E := u64s) w.drew 3 (t.own.fr ((Fr.refl No w).drew) id) T (xs.length - T) (c - T) N (cl - U) HR.o.drew
  (by rw [kLF, HL.o]; exact (Nat.min_eq_left (by omega)).symm) (by rw [kLF, kLF, HL.o]; omega) (kOC cs)
 have HO := hid ho; clear ho
 have h4' : w'.cell? ⟨p, 4, none⟩ = some (.slice (some ⟨q, 0, none⟩) xs.length c) := (hf.cell (p := ⟨p, 4, none⟩) t.blk.lt (fun h => hne h.symm)).trans h4
 go_region_held3 (fun W => W.cell? ⟨p, 4, none⟩ = some (.slice (some ⟨q, 0, none⟩) xs.length c)) (first | go_keep) (first
     | (go_at_call 198; refine (kLp _ _ om).mono ?_; rintro e w' ⟨rfl, rfl⟩))
 go_wp2
 go_ret
 have hsl : (splice xs T cs).length = xs.length := length_splice _ _ _ (by rw [HL.o]; omega)
 refine ⟨rfl, ⟨t.ne, ?_, ?_, by rw [hsl]; exact hl, t.lim⟩, (Fr.refl (One q) w).drew.trans hf (fun _ _ h => h)⟩
 · rw [hsl]; exact t.blk.drew.fr hf (fun h => hne h.symm)
 have e1 : Us (splice xs T cs) = splice (Us xs) T (Us cs) := by simp [Us, splice]
 rw [e1]; exact HO.o
instance (n m : Nat) (a b c : Int) : Decidable (Fits n m a b c) := by unfold Fits; infer_instance
def kCw (xs ys : List Int) (tz at_ k : Int) : Int × List Int :=
 if Fits xs.length ys.length tz at_ k then (0, splice xs (tz % 4294967296).toNat ((ys.drop (at_ % 4294967296).toNat).take (k % 4294967296).toNat)) else (3, xs)
theorem kHA (t : TabAt w p q c e mn mx h xs) (A : OA) (ys : List Int) (B cl : Nat) (tz at_ k : Int) (h0 : 0 ≤ tz) (h1 : 0 ≤ at_) (h2 : 0 ≤ k) (hm : ys.length ≤ 1048576) (hcl : ys.length ≤ cl)
    (hr : Rd w B A (Us ys)) :
    Calls prog 199 #[.pointer (some ⟨p, 0, none⟩), .slice A ys.length cl, .int .u64 tz, .int .u64 at_, .int .u64 k] w
     fun e' w' => e' = .returned (.int .i64 (kCw xs ys tz at_ k).1) ∧ TabAt w' p q c e mn mx h (kCw xs ys tz at_ k).2 ∧ Fr (One q) w w' := by
 unfold kCw
 by_cases hf : Fits xs.length ys.length tz at_ k
 · simp only [if_pos hf]
   by_cases hk : k % 4294967296 = 0
   · refine (kEp t A _ cl tz at_ k h0 h1 h2 hm hf hk).mono ?_
     rintro e w' ⟨rfl, rfl⟩
     refine ⟨rfl, ?_, Fr.refl _ _⟩
     have : splice xs (tz % 4294967296).toNat ((ys.drop (at_ % 4294967296).toNat).take (k % 4294967296).toNat) = xs := by
      rw [hk]; simp [splice]
     rw [this]; exact t
   obtain ⟨f1, f2⟩ := hf
   refine (kGw t A ys B cl (tz % 4294967296).toNat (at_ % 4294967296).toNat (k % 4294967296).toNat tz at_ k h0 h1 h2 hm hcl hr om om om om om om).mono ?_
   rintro e w' ⟨rfl, ht, hfr⟩
   exact ⟨rfl, ht, hfr⟩
 simp only [if_neg hf]
 refine (kIS t A _ cl tz at_ k h0 h1 h2 hm hf).mono ?_
 rintro e w' ⟨rfl, rfl⟩
 exact ⟨rfl, t, Fr.refl _ _⟩
theorem kIT (t : TabAt w p q c e mn mx h xs) {p2 : Nat} (A : OA) (ys : List Int) (B cl : Nat) (tz at_ k : Int) (h0 : 0 ≤ tz) (h1 : 0 ≤ at_) (h2 : 0 ≤ k) (hm : ys.length ≤ 1048576) (hcl : ys.length ≤ cl)
    (hr : Rd w B A (Us ys)) (h4 : w.cell? ⟨p2, 4, none⟩ = some (.slice A ys.length cl)) :
    Calls prog 181 #[.pointer (some ⟨p, 0, none⟩), .pointer (some ⟨p2, 0, none⟩), .int .u64 tz, .int .u64 at_, .int .u64 k] w
     fun e' w' => e' = .returned (.int .i64 (kCw xs ys tz at_ k).1) ∧ TabAt w' p q c e mn mx h (kCw xs ys tz at_ k).2 ∧ Fr (One q) w w' := by
 have HI := hid (kHA t A ys B cl tz at_ k h0 h1 h2 hm hcl hr)
 go_enter func181, ntmps181
 go_wp2_with (first
     | (go_at_call 152; refine (list_at _ _ _ h4).mono ?_; rintro e w' ⟨rfl, rfl⟩)
     | (go_at_call 199; refine HI.o.mono ?_; rintro e w' ⟨rfl, hd⟩; have HD := hid hd; clear hd))
 go_ret
 exact ⟨rfl, HD.o⟩
end
section
variable {w : World} {p q c : Nat} {e mn mx : Int} {h : Bool} {xs : List Int}
theorem kHD (t : TabAt w p q c e mn mx h xs) :
    Calls prog 61 #[.pointer (some ⟨p, 0, none⟩)] w fun e' w' => e' = .returned (.agg #[.int .i64 e, .int .i64 mn, .int .i64 mx, .bool h]) ∧ Fr No w w' := by
 have h0 := t.c0
 have h1 := t.c1
 have h2 := t.c2
 have h3 := t.c3
 have hlt := t.blk.lt
 go_enter func61, ntmps61
 go_wp2
 exact bodyPost_ret (v := .agg #[.int .i64 e, .int .i64 mn, .int .i64 mx, .bool h]) (by simp [results, Tryz.results61, go_sem]) rfl ⟨rfl, (Fr.refl No w).alloc _⟩
end
theorem kOv {w : World} {B : Nat} {A : OA} {xs : List Int} (h : Rd w B A (Us xs)) (k : Nat) (hk : k < xs.length) : ∃ b o, A = some ⟨b, o, none⟩ ∧ w.cell? ⟨b, o + k, none⟩ = some (.int .u64 xs[k]) := by
 obtain ⟨b, o, h1, _, h2⟩ := h.at_ (k := k) (by simpa using hk)
 rw [kOw _ _ hk] at h2
 exact ⟨b, o, h1, h2⟩
def Sd (w : World) (R : Nat → Prop) (k : Nat) : Prop := k < w.heap.size ∧ ¬ R k
theorem Sd.up {w w' : World} {R R' : Nat → Prop} (hs : w.heap.size ≤ w'.heap.size) (hR : ∀ k, k < w.heap.size → R' k → R k) {k : Nat} (h : Sd w R k) : Sd w' R' k :=
 ⟨ltl h.1 hs, fun r => h.2 (hR k h.1 r)⟩
theorem kAB {α : Type} {t : Ty α} [TyOk t] [TyMore t] {w w' : World} {R R' M : Nat → Prop} {e : TypeId} {v : Value} {xs : List α} (h : t.row w 0 (Sd w R) e v xs) (f : Fr M w w') (hM : ∀ k, k < w.heap.size → M k → R k)
    (hv : ∀ k, v.ownBlock = some k → ¬ M k) (hR : ∀ k, k < w.heap.size → R' k → R k) : t.row w' 0 (Sd w' R') e v xs :=
 (h.fr f (fun k hk => ⟨hk.1, fun m => hk.2 (hM k hk.1 m)⟩) hv).more nr (fun _ hk => hk.up f.size hR)
theorem kBH {α : Type} {t : Ty α} [TyOk t] [TyMore t] {w w' : World} {R R' M : Nat → Prop} {A : OA} {xs : List α} (h : t.els w (Sd w R) A xs) (f : Fr M w w') (hM : ∀ k, k < w.heap.size → M k → R k)
    (hR : ∀ k, k < w.heap.size → R' k → R k) : t.els w' (Sd w' R') A xs :=
 (h.fr f (fun k hk => ⟨hk.1, fun m => hk.2 (hM k hk.1 m)⟩)).more (fun _ hk => hk.up f.size hR)
theorem kCC {α : Type} {t : Ty α} [ho : TyOk t] [hm : TyMore t] {w w' : World} {R R' M : Nat → Prop} {cs : LV} {x : α} (h : t.rd w (Sd w R) cs x) (f : Fr M w w') (hM : ∀ k, k < w.heap.size → M k → R k)
    (hR : ∀ k, k < w.heap.size → R' k → R k) : t.rd w' (Sd w' R') cs x :=
 hm.more _ _ _ _ _ (ho.keep _ w' _ _ _ h (fun p hp => f.cell hp.1 (fun m => hp.2 (hM _ hp.1 m)))) (fun _ hk => hk.up f.size hR)
structure Pl where
 P : Nat
 ho : Value
 co : Value
 ca : Value
 fu : Value
 ta : Value
 me : Value
 gl : Value
 el : Value
 da : Value
 is : Value
 tp : List (Nat × Nat × Nat)
 mp : List (Nat × Nat × Nat)
def Pl.vs (V : Pl) : LV := [V.ho, V.co, V.ca, V.fu, V.ta, V.me, V.gl, V.el, V.da, V.is]
def Pl.own (V : Pl) (k : Nat) : Prop := k = V.P ∨ (∃ v ∈ V.vs, v.ownBlock = some k) ∨ (∃ t ∈ V.tp, k = t.1 ∨ k = t.2.1) ∨ (∃ t ∈ V.mp, k = t.1 ∨ k = t.2.1)
structure StIn (w : World) (R : Nat → Prop) (V : Pl) (x : Rx) : Prop where
 blk : Blk w V.P 135 #[V.ho, V.co, V.ca, V.fu, V.ta, V.me, V.gl, V.el, V.da, V.is]
 ho : tHo.row w 0 (Sd w R) 108 V.ho x.hosts
 co : tI.row w 0 (Sd w R) 3 V.co x.counts
 ca : tCa.row w 0 (Sd w R) 113 V.ca x.calls
 fu : tFi.row w 0 (Sd w R) 47 V.fu x.funcs
 ta : tPt.row w 0 (Sd w R) 100 V.ta (V.tp.map (·.1))
 me : tPt.row w 0 (Sd w R) 99 V.me (V.mp.map (·.1))
 gl : tRg.row w 0 (Sd w R) 180 V.gl x.globs
 el : tRs.row w 0 (Sd w R) 182 V.el x.elems
 da : tRb.row w 0 (Sd w R) 184 V.da x.datas
 is : tRi.row w 0 (Sd w R) 208 V.is x.insts
 tl : V.tp.length = x.tabs.length
 tat : ∀ (i : Nat) (z : Nat × Nat × Nat) (t : Rt), V.tp[i]? = some z → x.tabs[i]? = some t → TabAt w z.1 z.2.1 z.2.2 t.t.elem t.t.lim.min t.t.lim.max t.t.lim.has t.l
 tne : ∀ (i j : Nat) (a b : Nat × Nat × Nat), V.tp[i]? = some a → V.tp[j]? = some b → i ≠ j → a.1 ≠ b.1 ∧ a.2.1 ≠ b.2.1
 ml : V.mp.length = x.mems.length
 mat : ∀ (i : Nat) (z : Nat × Nat × Nat) (t : Rm), V.mp[i]? = some z → x.mems[i]? = some t → Mo w z.1 z.2.1 z.2.2 t.lim t.b
 mne : ∀ (i j : Nat) (a b : Nat × Nat × Nat), V.mp[i]? = some a → V.mp[j]? = some b → i ≠ j → a.1 ≠ b.1 ∧ a.2.1 ≠ b.2.1
 own : ∀ k, V.own k → R k
 low : ∀ k, R k → k < w.heap.size
def Bt (w : World) (k : Nat) (t : TypeId) : Prop := ∃ cs, Blk w k t cs
theorem Bt.ne {w : World} {a b : Nat} {t u : TypeId} (h : Bt w a t) (k : Bt w b u) (hne : t ≠ u) : a ≠ b := by
 obtain ⟨_, h⟩ := h
 obtain ⟨_, k⟩ := k
 exact h.ne_ k hne
theorem kAC {α : Type} {t : Ty α} {w : World} {base : Nat} {S : Nat → Prop} {e : TypeId} {v : Value} {xs : List α} (h : t.row w base S e v xs) {k : Nat} (hv : v.ownBlock = some k) : Bt w k e := (h.own hv).2
theorem Own.bk {w : World} {q c : Nat} {e : TypeId} {xs : LV} (h : Own w q e c xs) : Bt w q e := by obtain ⟨cur, hb, _⟩ := h.cur; exact ⟨cur, hb⟩
theorem kJB {α β : Type} {l : List α} {m : List β} (h : l.length = m.length) {a : α} (ha : a ∈ l) : ∃ (i : Nat) (b : β), l[i]? = some a ∧ m[i]? = some b := by
 obtain ⟨i, hi, rfl⟩ := List.getElem_of_mem ha
 exact ⟨i, m[i]'om, List.getElem?_eq_getElem hi, List.getElem?_eq_getElem om⟩
theorem kBi {α β : Type} {l : List α} {m : List β} (h : l.length = m.length) {i : Nat} {b : β} (hb : m[i]? = some b) : ∃ a, l[i]? = some a := by
 have hi := (List.getElem?_eq_some_iff.1 hb).1
 exact ⟨l[i]'om, List.getElem?_eq_getElem om⟩
section
variable {M : Nat → Prop} {w w' : World} {R R' : Nat → Prop} {V : Pl} {x : Rx}
theorem StIn.tbk (h : StIn w R V x) {z : Nat × Nat × Nat} (hz : z ∈ V.tp) : Bt w z.1 276 ∧ Bt w z.2.1 55 := by
 obtain ⟨i, t, h1, h2⟩ := kJB h.tl hz
 have := h.tat i z t h1 h2
 exact ⟨⟨_, this.blk⟩, this.own.bk⟩
theorem StIn.mbk (h : StIn w R V x) {z : Nat × Nat × Nat} (hz : z ∈ V.mp) : Bt w z.1 251 ∧ Bt w z.2.1 5 := by
 obtain ⟨i, t, h1, h2⟩ := kJB h.ml hz
 have := h.mat i z t h1 h2
 exact ⟨⟨_, this.hp⟩, this.own.bk⟩
theorem StIn.kinds (h : StIn w R V x) {k : Nat} (hk : V.own k) : k = V.P ∧ Bt w k 135 ∨ V.ho.ownBlock = some k ∧ Bt w k 108 ∨ V.co.ownBlock = some k ∧ Bt w k 3 ∨ V.ca.ownBlock = some k ∧ Bt w k 113 ∨ V.fu.ownBlock = some k ∧ Bt w k 47 ∨ V.ta.ownBlock = some k ∧ Bt w k 100 ∨ V.me.ownBlock = some k ∧ Bt w k 99 ∨ V.gl.ownBlock = some k ∧ Bt w k 180 ∨ V.el.ownBlock = some k ∧ Bt w k 182 ∨ V.da.ownBlock = some k ∧ Bt w k 184 ∨ V.is.ownBlock = some k ∧ Bt w k 208 ∨ (∃ z ∈ V.tp, k = z.1 ∧ Bt w k 276 ∨ k = z.2.1 ∧ Bt w k 55) ∨ (∃ z ∈ V.mp, k = z.1 ∧ Bt w k 251 ∨ k = z.2.1 ∧ Bt w k 5) := by
 rcases hk with rfl | ⟨v, hv, hk⟩ | ⟨z, hz, hk⟩ | ⟨z, hz, hk⟩
 · exact .inl ⟨rfl, _, h.blk⟩
 · simp only [Pl.vs, List.mem_cons, List.not_mem_nil, or_false] at hv
   rcases hv with rfl | rfl | rfl | rfl | rfl | rfl | rfl | rfl | rfl | rfl
   · exact .inr (.inl ⟨hk, kAC h.ho hk⟩)
   · exact .inr (.inr (.inl ⟨hk, kAC h.co hk⟩))
   · exact .inr (.inr (.inr (.inl ⟨hk, kAC h.ca hk⟩)))
   · exact .inr (.inr (.inr (.inr (.inl ⟨hk, kAC h.fu hk⟩))))
   · exact .inr (.inr (.inr (.inr (.inr (.inl ⟨hk, kAC h.ta hk⟩)))))
   · exact .inr (.inr (.inr (.inr (.inr (.inr (.inl ⟨hk, kAC h.me hk⟩))))))
   · exact .inr (.inr (.inr (.inr (.inr (.inr (.inr (.inl ⟨hk, kAC h.gl hk⟩)))))))
   · exact .inr (.inr (.inr (.inr (.inr (.inr (.inr (.inr (.inl ⟨hk, kAC h.el hk⟩))))))))
   · exact .inr (.inr (.inr (.inr (.inr (.inr (.inr (.inr (.inr (.inl ⟨hk, kAC h.da hk⟩)))))))))
   exact .inr (.inr (.inr (.inr (.inr (.inr (.inr (.inr (.inr (.inr (.inl ⟨hk, kAC h.is hk⟩))))))))))
 · obtain ⟨h1, h2⟩ := h.tbk hz
   refine .inr (.inr (.inr (.inr (.inr (.inr (.inr (.inr (.inr (.inr (.inr (.inl ⟨z, hz, ?_⟩)))))))))))
   rcases hk with rfl | rfl
   · exact .inl ⟨rfl, h1⟩
   exact .inr ⟨rfl, h2⟩
 obtain ⟨h1, h2⟩ := h.mbk hz
 refine .inr (.inr (.inr (.inr (.inr (.inr (.inr (.inr (.inr (.inr (.inr (.inr (⟨z, hz, ?_⟩))))))))))))
 rcases hk with rfl | rfl
 · exact .inl ⟨rfl, h1⟩
 exact .inr ⟨rfl, h2⟩
theorem StIn.lt (h : StIn w R V x) {k : Nat} (hk : V.own k) : k < w.heap.size := by
 have := h.kinds hk
 rcases this with ⟨_, _, h⟩ | ⟨_, _, h⟩ | ⟨_, _, h⟩ | ⟨_, _, h⟩ | ⟨_, _, h⟩ | ⟨_, _, h⟩ | ⟨_, _, h⟩ | ⟨_, _, h⟩ | ⟨_, _, h⟩ | ⟨_, _, h⟩ | ⟨_, _, h⟩ | ⟨z, hz, ⟨_, _, h⟩ | ⟨_, _, h⟩⟩ | ⟨z, hz, ⟨_, _, h⟩ | ⟨_, _, h⟩⟩ <;> exact h.lt
theorem Pl.oP (V : Pl) : V.own V.P := .inl rfl
theorem Pl.o_ho {V : Pl} {k : Nat} (h : V.ho.ownBlock = some k) : V.own k := .inr (.inl ⟨V.ho, by simp [Pl.vs], h⟩)
theorem Pl.o_co {V : Pl} {k : Nat} (h : V.co.ownBlock = some k) : V.own k := .inr (.inl ⟨V.co, by simp [Pl.vs], h⟩)
theorem Pl.o_ca {V : Pl} {k : Nat} (h : V.ca.ownBlock = some k) : V.own k := .inr (.inl ⟨V.ca, by simp [Pl.vs], h⟩)
theorem Pl.o_fu {V : Pl} {k : Nat} (h : V.fu.ownBlock = some k) : V.own k := .inr (.inl ⟨V.fu, by simp [Pl.vs], h⟩)
theorem Pl.o_ta {V : Pl} {k : Nat} (h : V.ta.ownBlock = some k) : V.own k := .inr (.inl ⟨V.ta, by simp [Pl.vs], h⟩)
theorem Pl.o_me {V : Pl} {k : Nat} (h : V.me.ownBlock = some k) : V.own k := .inr (.inl ⟨V.me, by simp [Pl.vs], h⟩)
theorem Pl.o_gl {V : Pl} {k : Nat} (h : V.gl.ownBlock = some k) : V.own k := .inr (.inl ⟨V.gl, by simp [Pl.vs], h⟩)
theorem Pl.o_el {V : Pl} {k : Nat} (h : V.el.ownBlock = some k) : V.own k := .inr (.inl ⟨V.el, by simp [Pl.vs], h⟩)
theorem Pl.o_da {V : Pl} {k : Nat} (h : V.da.ownBlock = some k) : V.own k := .inr (.inl ⟨V.da, by simp [Pl.vs], h⟩)
theorem Pl.o_is {V : Pl} {k : Nat} (h : V.is.ownBlock = some k) : V.own k := .inr (.inl ⟨V.is, by simp [Pl.vs], h⟩)
theorem Pl.o_tp {V : Pl} {z : Nat × Nat × Nat} (h : z ∈ V.tp) : V.own z.1 ∧ V.own z.2.1 := ⟨.inr (.inr (.inl ⟨z, h, .inl rfl⟩)), .inr (.inr (.inl ⟨z, h, .inr rfl⟩))⟩
theorem Pl.o_mp {V : Pl} {z : Nat × Nat × Nat} (h : z ∈ V.mp) : V.own z.1 ∧ V.own z.2.1 := ⟨.inr (.inr (.inr ⟨z, h, .inl rfl⟩)), .inr (.inr (.inr ⟨z, h, .inr rfl⟩))⟩
theorem StIn.fr (h : StIn w R V x) (f : Fr M w w') (hM : ∀ k, k < w.heap.size → M k → R k ∧ ¬ V.own k) (hR : ∀ k, k < w.heap.size → R' k → R k) (hR2 : ∀ k, R k → R' k) (hR3 : ∀ k, R' k → k < w'.heap.size) : StIn w' R' V x where
 blk := h.blk.fr f (fun m => (hM _ h.blk.lt m).2 V.oP)
 ho := kAB h.ho f (fun k hk m => (hM k hk m).1) (fun k hk m => (hM k (h.lt (Pl.o_ho hk)) m).2 (Pl.o_ho hk)) hR
 co := kAB h.co f (fun k hk m => (hM k hk m).1) (fun k hk m => (hM k (h.lt (Pl.o_co hk)) m).2 (Pl.o_co hk)) hR
 ca := kAB h.ca f (fun k hk m => (hM k hk m).1) (fun k hk m => (hM k (h.lt (Pl.o_ca hk)) m).2 (Pl.o_ca hk)) hR
 fu := kAB h.fu f (fun k hk m => (hM k hk m).1) (fun k hk m => (hM k (h.lt (Pl.o_fu hk)) m).2 (Pl.o_fu hk)) hR
 ta := kAB h.ta f (fun k hk m => (hM k hk m).1) (fun k hk m => (hM k (h.lt (Pl.o_ta hk)) m).2 (Pl.o_ta hk)) hR
 me := kAB h.me f (fun k hk m => (hM k hk m).1) (fun k hk m => (hM k (h.lt (Pl.o_me hk)) m).2 (Pl.o_me hk)) hR
 gl := kAB h.gl f (fun k hk m => (hM k hk m).1) (fun k hk m => (hM k (h.lt (Pl.o_gl hk)) m).2 (Pl.o_gl hk)) hR
 el := kAB h.el f (fun k hk m => (hM k hk m).1) (fun k hk m => (hM k (h.lt (Pl.o_el hk)) m).2 (Pl.o_el hk)) hR
 da := kAB h.da f (fun k hk m => (hM k hk m).1) (fun k hk m => (hM k (h.lt (Pl.o_da hk)) m).2 (Pl.o_da hk)) hR
 is := kAB h.is f (fun k hk m => (hM k hk m).1) (fun k hk m => (hM k (h.lt (Pl.o_is hk)) m).2 (Pl.o_is hk)) hR
 tl := h.tl
 tat := fun i z t h1 h2 => by
  have o := Pl.o_tp (V := V) (List.mem_of_getElem? h1)
  exact (h.tat i z t h1 h2).fr f (fun m => (hM _ (h.lt o.1) m).2 o.1) (fun m => (hM _ (h.lt o.2) m).2 o.2)
 tne := h.tne
 ml := h.ml
 mat := fun i z t h1 h2 => by
  have o := Pl.o_mp (V := V) (List.mem_of_getElem? h1)
  exact (h.mat i z t h1 h2).fr f (fun m => (hM _ (h.lt o.1) m).2 o.1) (fun m => (hM _ (h.lt o.2) m).2 o.2)
 mne := h.mne
 own := fun k hk => hR2 k (h.own k hk)
 low := hR3
theorem StIn.frNo (h : StIn w R V x) (f : Fr No w w') : StIn w' R V x := h.fr f (fun _ _ m => m.elim) i3 i2 (fun k hk => ltl (h.low k hk) f.size)
end
theorem StIn.put_co {w w' : World} {R R' : Nat → Prop} {V : Pl} {x : Rx} {v' : Value} {xs : List Int} (h : StIn w R V x) (f : Fr (fun k => k = V.P ∨ V.co.ownBlock = some k) w w') (hb : Blk w' V.P 135 #[V.ho, v', V.ca, V.fu, V.ta, V.me, V.gl, V.el, V.da, V.is])
    (hrow : tI.row w' 0 (Sd w' R') 3 v' xs) (hv : ∀ k, v'.ownBlock = some k → R' k) (hR : ∀ k, k < w.heap.size → R' k → R k) (hR2 : ∀ k, R k → R' k) (hR3 : ∀ k, R' k → k < w'.heap.size) : StIn w' R' { V with co := v' } { x with counts := xs } := by
 have hM : ∀ k, k < w.heap.size → (k = V.P ∨ V.co.ownBlock = some k) → R k := fun k _ m => h.own k (m.elim (fun e => e ▸ V.oP) Pl.o_co)
 have nP : ∀ {k t}, Bt w k t → t ≠ 135 → t ≠ 3 → ¬ (k = V.P ∨ V.co.ownBlock = some k) := fun hk h1 h2 m => m.elim (fun e => Bt.ne hk ⟨_, h.blk⟩ h1 e) (fun e => Bt.ne hk (kAC h.co e) h2 rfl)
 constructor
 case blk => exact hb
 case ho => exact kAB h.ho f hM (fun k hk => nP (kAC h.ho hk) dc dc) hR
 case co => exact hrow
 case ca => exact kAB h.ca f hM (fun k hk => nP (kAC h.ca hk) dc dc) hR
 case fu => exact kAB h.fu f hM (fun k hk => nP (kAC h.fu hk) dc dc) hR
 case ta => exact kAB h.ta f hM (fun k hk => nP (kAC h.ta hk) dc dc) hR
 case me => exact kAB h.me f hM (fun k hk => nP (kAC h.me hk) dc dc) hR
 case gl => exact kAB h.gl f hM (fun k hk => nP (kAC h.gl hk) dc dc) hR
 case el => exact kAB h.el f hM (fun k hk => nP (kAC h.el hk) dc dc) hR
 case da => exact kAB h.da f hM (fun k hk => nP (kAC h.da hk) dc dc) hR
 case is => exact kAB h.is f hM (fun k hk => nP (kAC h.is hk) dc dc) hR
 case tl => exact h.tl
 case tat =>
  exact yy28
 case tne => exact h.tne
 case ml => exact h.ml
 case mat =>
  exact yy29
 case mne => exact h.mne
 case low => exact hR3
 rintro k (hk | ⟨v, hv1, hk⟩ | hk | hk)
 · exact hR2 k (h.own k (.inl hk))
 · simp only [Pl.vs, List.mem_cons, List.not_mem_nil, or_false] at hv1
   rcases hv1 with rfl | rfl | rfl | rfl | rfl | rfl | rfl | rfl | rfl | rfl
   · exact yy89
   · exact hv k hk
   · exact hR2 k (h.own k (Pl.o_ca hk))
   · exact hR2 k (h.own k (Pl.o_fu hk))
   · exact yy87
   · exact yy88
   · exact hR2 k (h.own k (Pl.o_gl hk))
   · exact hR2 k (h.own k (Pl.o_el hk))
   · exact hR2 k (h.own k (Pl.o_da hk))
   exact hR2 k (h.own k (Pl.o_is hk))
 · exact yy69
 exact yy68
theorem StIn.put_ca {w w' : World} {R R' : Nat → Prop} {V : Pl} {x : Rx} {v' : Value} {xs : List Ca} (h : StIn w R V x) (f : Fr (fun k => k = V.P ∨ V.ca.ownBlock = some k) w w') (hb : Blk w' V.P 135 #[V.ho, V.co, v', V.fu, V.ta, V.me, V.gl, V.el, V.da, V.is])
    (hrow : tCa.row w' 0 (Sd w' R') 113 v' xs) (hv : ∀ k, v'.ownBlock = some k → R' k) (hR : ∀ k, k < w.heap.size → R' k → R k) (hR2 : ∀ k, R k → R' k) (hR3 : ∀ k, R' k → k < w'.heap.size) : StIn w' R' { V with ca := v' } { x with calls := xs } := by
 have hM : ∀ k, k < w.heap.size → (k = V.P ∨ V.ca.ownBlock = some k) → R k := fun k _ m => h.own k (m.elim (fun e => e ▸ V.oP) Pl.o_ca)
 have nP : ∀ {k t}, Bt w k t → t ≠ 135 → t ≠ 113 → ¬ (k = V.P ∨ V.ca.ownBlock = some k) := fun hk h1 h2 m => m.elim (fun e => Bt.ne hk ⟨_, h.blk⟩ h1 e) (fun e => Bt.ne hk (kAC h.ca e) h2 rfl)
 constructor
 case blk => exact hb
 case ho => exact kAB h.ho f hM (fun k hk => nP (kAC h.ho hk) dc dc) hR
 case co => exact kAB h.co f hM (fun k hk => nP (kAC h.co hk) dc dc) hR
 case ca => exact hrow
 case fu => exact kAB h.fu f hM (fun k hk => nP (kAC h.fu hk) dc dc) hR
 case ta => exact kAB h.ta f hM (fun k hk => nP (kAC h.ta hk) dc dc) hR
 case me => exact kAB h.me f hM (fun k hk => nP (kAC h.me hk) dc dc) hR
 case gl => exact kAB h.gl f hM (fun k hk => nP (kAC h.gl hk) dc dc) hR
 case el => exact kAB h.el f hM (fun k hk => nP (kAC h.el hk) dc dc) hR
 case da => exact kAB h.da f hM (fun k hk => nP (kAC h.da hk) dc dc) hR
 case is => exact kAB h.is f hM (fun k hk => nP (kAC h.is hk) dc dc) hR
 case tl => exact h.tl
 case tat =>
  exact yy28
 case tne => exact h.tne
 case ml => exact h.ml
 case mat =>
  exact yy29
 case mne => exact h.mne
 case low => exact hR3
 rintro k (hk | ⟨v, hv1, hk⟩ | hk | hk)
 · exact hR2 k (h.own k (.inl hk))
 · simp only [Pl.vs, List.mem_cons, List.not_mem_nil, or_false] at hv1
   rcases hv1 with rfl | rfl | rfl | rfl | rfl | rfl | rfl | rfl | rfl | rfl
   · exact yy89
   · exact hR2 k (h.own k (Pl.o_co hk))
   · exact hv k hk
   · exact hR2 k (h.own k (Pl.o_fu hk))
   · exact yy87
   · exact yy88
   · exact hR2 k (h.own k (Pl.o_gl hk))
   · exact hR2 k (h.own k (Pl.o_el hk))
   · exact hR2 k (h.own k (Pl.o_da hk))
   exact hR2 k (h.own k (Pl.o_is hk))
 · exact yy69
 exact yy68
theorem StIn.put_fu {w w' : World} {R R' : Nat → Prop} {V : Pl} {x : Rx} {v' : Value} {xs : List Fi} (h : StIn w R V x) (f : Fr (fun k => k = V.P ∨ V.fu.ownBlock = some k) w w') (hb : Blk w' V.P 135 #[V.ho, V.co, V.ca, v', V.ta, V.me, V.gl, V.el, V.da, V.is])
    (hrow : tFi.row w' 0 (Sd w' R') 47 v' xs) (hv : ∀ k, v'.ownBlock = some k → R' k) (hR : ∀ k, k < w.heap.size → R' k → R k) (hR2 : ∀ k, R k → R' k) (hR3 : ∀ k, R' k → k < w'.heap.size) : StIn w' R' { V with fu := v' } { x with funcs := xs } := by
 have hM : ∀ k, k < w.heap.size → (k = V.P ∨ V.fu.ownBlock = some k) → R k := fun k _ m => h.own k (m.elim (fun e => e ▸ V.oP) Pl.o_fu)
 have nP : ∀ {k t}, Bt w k t → t ≠ 135 → t ≠ 47 → ¬ (k = V.P ∨ V.fu.ownBlock = some k) := fun hk h1 h2 m => m.elim (fun e => Bt.ne hk ⟨_, h.blk⟩ h1 e) (fun e => Bt.ne hk (kAC h.fu e) h2 rfl)
 constructor
 case blk => exact hb
 case ho => exact kAB h.ho f hM (fun k hk => nP (kAC h.ho hk) dc dc) hR
 case co => exact kAB h.co f hM (fun k hk => nP (kAC h.co hk) dc dc) hR
 case ca => exact kAB h.ca f hM (fun k hk => nP (kAC h.ca hk) dc dc) hR
 case fu => exact hrow
 case ta => exact kAB h.ta f hM (fun k hk => nP (kAC h.ta hk) dc dc) hR
 case me => exact kAB h.me f hM (fun k hk => nP (kAC h.me hk) dc dc) hR
 case gl => exact kAB h.gl f hM (fun k hk => nP (kAC h.gl hk) dc dc) hR
 case el => exact kAB h.el f hM (fun k hk => nP (kAC h.el hk) dc dc) hR
 case da => exact kAB h.da f hM (fun k hk => nP (kAC h.da hk) dc dc) hR
 case is => exact kAB h.is f hM (fun k hk => nP (kAC h.is hk) dc dc) hR
 case tl => exact h.tl
 case tat =>
  exact yy28
 case tne => exact h.tne
 case ml => exact h.ml
 case mat =>
  exact yy29
 case mne => exact h.mne
 case low => exact hR3
 rintro k (hk | ⟨v, hv1, hk⟩ | hk | hk)
 · exact hR2 k (h.own k (.inl hk))
 · simp only [Pl.vs, List.mem_cons, List.not_mem_nil, or_false] at hv1
   rcases hv1 with rfl | rfl | rfl | rfl | rfl | rfl | rfl | rfl | rfl | rfl
   · exact yy89
   · exact hR2 k (h.own k (Pl.o_co hk))
   · exact hR2 k (h.own k (Pl.o_ca hk))
   · exact hv k hk
   · exact yy87
   · exact yy88
   · exact hR2 k (h.own k (Pl.o_gl hk))
   · exact hR2 k (h.own k (Pl.o_el hk))
   · exact hR2 k (h.own k (Pl.o_da hk))
   exact hR2 k (h.own k (Pl.o_is hk))
 · exact yy69
 exact yy68
theorem StIn.put_gl {w w' : World} {R R' : Nat → Prop} {V : Pl} {x : Rx} {v' : Value} {xs : List Rg} (h : StIn w R V x) (f : Fr (fun k => k = V.P ∨ V.gl.ownBlock = some k) w w') (hb : Blk w' V.P 135 #[V.ho, V.co, V.ca, V.fu, V.ta, V.me, v', V.el, V.da, V.is])
    (hrow : tRg.row w' 0 (Sd w' R') 180 v' xs) (hv : ∀ k, v'.ownBlock = some k → R' k) (hR : ∀ k, k < w.heap.size → R' k → R k) (hR2 : ∀ k, R k → R' k) (hR3 : ∀ k, R' k → k < w'.heap.size) : StIn w' R' { V with gl := v' } { x with globs := xs } := by
 have hM : ∀ k, k < w.heap.size → (k = V.P ∨ V.gl.ownBlock = some k) → R k := fun k _ m => h.own k (m.elim (fun e => e ▸ V.oP) Pl.o_gl)
 have nP : ∀ {k t}, Bt w k t → t ≠ 135 → t ≠ 180 → ¬ (k = V.P ∨ V.gl.ownBlock = some k) := fun hk h1 h2 m => m.elim (fun e => Bt.ne hk ⟨_, h.blk⟩ h1 e) (fun e => Bt.ne hk (kAC h.gl e) h2 rfl)
 constructor
 case blk => exact hb
 case ho => exact kAB h.ho f hM (fun k hk => nP (kAC h.ho hk) dc dc) hR
 case co => exact kAB h.co f hM (fun k hk => nP (kAC h.co hk) dc dc) hR
 case ca => exact kAB h.ca f hM (fun k hk => nP (kAC h.ca hk) dc dc) hR
 case fu => exact kAB h.fu f hM (fun k hk => nP (kAC h.fu hk) dc dc) hR
 case ta => exact kAB h.ta f hM (fun k hk => nP (kAC h.ta hk) dc dc) hR
 case me => exact kAB h.me f hM (fun k hk => nP (kAC h.me hk) dc dc) hR
 case gl => exact hrow
 case el => exact kAB h.el f hM (fun k hk => nP (kAC h.el hk) dc dc) hR
 case da => exact kAB h.da f hM (fun k hk => nP (kAC h.da hk) dc dc) hR
 case is => exact kAB h.is f hM (fun k hk => nP (kAC h.is hk) dc dc) hR
 case tl => exact h.tl
 case tat =>
  exact yy28
 case tne => exact h.tne
 case ml => exact h.ml
 case mat =>
  exact yy29
 case mne => exact h.mne
 case low => exact hR3
 rintro k (hk | ⟨v, hv1, hk⟩ | hk | hk)
 · exact hR2 k (h.own k (.inl hk))
 · simp only [Pl.vs, List.mem_cons, List.not_mem_nil, or_false] at hv1
   rcases hv1 with rfl | rfl | rfl | rfl | rfl | rfl | rfl | rfl | rfl | rfl
   · exact yy89
   · exact hR2 k (h.own k (Pl.o_co hk))
   · exact hR2 k (h.own k (Pl.o_ca hk))
   · exact hR2 k (h.own k (Pl.o_fu hk))
   · exact yy87
   · exact yy88
   · exact hv k hk
   · exact hR2 k (h.own k (Pl.o_el hk))
   · exact hR2 k (h.own k (Pl.o_da hk))
   exact hR2 k (h.own k (Pl.o_is hk))
 · exact yy69
 exact yy68
theorem StIn.put_el {w w' : World} {R R' : Nat → Prop} {V : Pl} {x : Rx} {v' : Value} {xs : List Rs} (h : StIn w R V x) (f : Fr (fun k => k = V.P ∨ V.el.ownBlock = some k) w w') (hb : Blk w' V.P 135 #[V.ho, V.co, V.ca, V.fu, V.ta, V.me, V.gl, v', V.da, V.is])
    (hrow : tRs.row w' 0 (Sd w' R') 182 v' xs) (hv : ∀ k, v'.ownBlock = some k → R' k) (hR : ∀ k, k < w.heap.size → R' k → R k) (hR2 : ∀ k, R k → R' k) (hR3 : ∀ k, R' k → k < w'.heap.size) : StIn w' R' { V with el := v' } { x with elems := xs } := by
 have hM : ∀ k, k < w.heap.size → (k = V.P ∨ V.el.ownBlock = some k) → R k := fun k _ m => h.own k (m.elim (fun e => e ▸ V.oP) Pl.o_el)
 have nP : ∀ {k t}, Bt w k t → t ≠ 135 → t ≠ 182 → ¬ (k = V.P ∨ V.el.ownBlock = some k) := fun hk h1 h2 m => m.elim (fun e => Bt.ne hk ⟨_, h.blk⟩ h1 e) (fun e => Bt.ne hk (kAC h.el e) h2 rfl)
 constructor
 case blk => exact hb
 case ho => exact kAB h.ho f hM (fun k hk => nP (kAC h.ho hk) dc dc) hR
 case co => exact kAB h.co f hM (fun k hk => nP (kAC h.co hk) dc dc) hR
 case ca => exact kAB h.ca f hM (fun k hk => nP (kAC h.ca hk) dc dc) hR
 case fu => exact kAB h.fu f hM (fun k hk => nP (kAC h.fu hk) dc dc) hR
 case ta => exact kAB h.ta f hM (fun k hk => nP (kAC h.ta hk) dc dc) hR
 case me => exact kAB h.me f hM (fun k hk => nP (kAC h.me hk) dc dc) hR
 case gl => exact kAB h.gl f hM (fun k hk => nP (kAC h.gl hk) dc dc) hR
 case el => exact hrow
 case da => exact kAB h.da f hM (fun k hk => nP (kAC h.da hk) dc dc) hR
 case is => exact kAB h.is f hM (fun k hk => nP (kAC h.is hk) dc dc) hR
 case tl => exact h.tl
 case tat =>
  exact yy28
 case tne => exact h.tne
 case ml => exact h.ml
 case mat =>
  exact yy29
 case mne => exact h.mne
 case low => exact hR3
 rintro k (hk | ⟨v, hv1, hk⟩ | hk | hk)
 · exact hR2 k (h.own k (.inl hk))
 · simp only [Pl.vs, List.mem_cons, List.not_mem_nil, or_false] at hv1
   rcases hv1 with rfl | rfl | rfl | rfl | rfl | rfl | rfl | rfl | rfl | rfl
   · exact yy89
   · exact hR2 k (h.own k (Pl.o_co hk))
   · exact hR2 k (h.own k (Pl.o_ca hk))
   · exact hR2 k (h.own k (Pl.o_fu hk))
   · exact yy87
   · exact yy88
   · exact hR2 k (h.own k (Pl.o_gl hk))
   · exact hv k hk
   · exact hR2 k (h.own k (Pl.o_da hk))
   exact hR2 k (h.own k (Pl.o_is hk))
 · exact yy69
 exact yy68
theorem StIn.put_da {w w' : World} {R R' : Nat → Prop} {V : Pl} {x : Rx} {v' : Value} {xs : List Rb} (h : StIn w R V x) (f : Fr (fun k => k = V.P ∨ V.da.ownBlock = some k) w w') (hb : Blk w' V.P 135 #[V.ho, V.co, V.ca, V.fu, V.ta, V.me, V.gl, V.el, v', V.is])
    (hrow : tRb.row w' 0 (Sd w' R') 184 v' xs) (hv : ∀ k, v'.ownBlock = some k → R' k) (hR : ∀ k, k < w.heap.size → R' k → R k) (hR2 : ∀ k, R k → R' k) (hR3 : ∀ k, R' k → k < w'.heap.size) : StIn w' R' { V with da := v' } { x with datas := xs } := by
 have hM : ∀ k, k < w.heap.size → (k = V.P ∨ V.da.ownBlock = some k) → R k := fun k _ m => h.own k (m.elim (fun e => e ▸ V.oP) Pl.o_da)
 have nP : ∀ {k t}, Bt w k t → t ≠ 135 → t ≠ 184 → ¬ (k = V.P ∨ V.da.ownBlock = some k) := fun hk h1 h2 m => m.elim (fun e => Bt.ne hk ⟨_, h.blk⟩ h1 e) (fun e => Bt.ne hk (kAC h.da e) h2 rfl)
 constructor
 case blk => exact hb
 case ho => exact kAB h.ho f hM (fun k hk => nP (kAC h.ho hk) dc dc) hR
 case co => exact kAB h.co f hM (fun k hk => nP (kAC h.co hk) dc dc) hR
 case ca => exact kAB h.ca f hM (fun k hk => nP (kAC h.ca hk) dc dc) hR
 case fu => exact kAB h.fu f hM (fun k hk => nP (kAC h.fu hk) dc dc) hR
 case ta => exact kAB h.ta f hM (fun k hk => nP (kAC h.ta hk) dc dc) hR
 case me => exact kAB h.me f hM (fun k hk => nP (kAC h.me hk) dc dc) hR
 case gl => exact kAB h.gl f hM (fun k hk => nP (kAC h.gl hk) dc dc) hR
 case el => exact kAB h.el f hM (fun k hk => nP (kAC h.el hk) dc dc) hR
 case da => exact hrow
 case is => exact kAB h.is f hM (fun k hk => nP (kAC h.is hk) dc dc) hR
 case tl => exact h.tl
 case tat =>
  exact yy28
 case tne => exact h.tne
 case ml => exact h.ml
 case mat =>
  exact yy29
 case mne => exact h.mne
 case low => exact hR3
 rintro k (hk | ⟨v, hv1, hk⟩ | hk | hk)
 · exact hR2 k (h.own k (.inl hk))
 · simp only [Pl.vs, List.mem_cons, List.not_mem_nil, or_false] at hv1
   rcases hv1 with rfl | rfl | rfl | rfl | rfl | rfl | rfl | rfl | rfl | rfl
   · exact yy89
   · exact hR2 k (h.own k (Pl.o_co hk))
   · exact hR2 k (h.own k (Pl.o_ca hk))
   · exact hR2 k (h.own k (Pl.o_fu hk))
   · exact yy87
   · exact yy88
   · exact hR2 k (h.own k (Pl.o_gl hk))
   · exact hR2 k (h.own k (Pl.o_el hk))
   · exact hv k hk
   exact hR2 k (h.own k (Pl.o_is hk))
 · exact yy69
 exact yy68
theorem StIn.put_is {w w' : World} {R R' : Nat → Prop} {V : Pl} {x : Rx} {v' : Value} {xs : List Ri} (h : StIn w R V x) (f : Fr (fun k => k = V.P ∨ V.is.ownBlock = some k) w w') (hb : Blk w' V.P 135 #[V.ho, V.co, V.ca, V.fu, V.ta, V.me, V.gl, V.el, V.da, v'])
    (hrow : tRi.row w' 0 (Sd w' R') 208 v' xs) (hv : ∀ k, v'.ownBlock = some k → R' k) (hR : ∀ k, k < w.heap.size → R' k → R k) (hR2 : ∀ k, R k → R' k) (hR3 : ∀ k, R' k → k < w'.heap.size) : StIn w' R' { V with is := v' } { x with insts := xs } := by
 have hM : ∀ k, k < w.heap.size → (k = V.P ∨ V.is.ownBlock = some k) → R k := fun k _ m => h.own k (m.elim (fun e => e ▸ V.oP) Pl.o_is)
 have nP : ∀ {k t}, Bt w k t → t ≠ 135 → t ≠ 208 → ¬ (k = V.P ∨ V.is.ownBlock = some k) := fun hk h1 h2 m => m.elim (fun e => Bt.ne hk ⟨_, h.blk⟩ h1 e) (fun e => Bt.ne hk (kAC h.is e) h2 rfl)
 constructor
 case blk => exact hb
 case ho => exact kAB h.ho f hM (fun k hk => nP (kAC h.ho hk) dc dc) hR
 case co => exact kAB h.co f hM (fun k hk => nP (kAC h.co hk) dc dc) hR
 case ca => exact kAB h.ca f hM (fun k hk => nP (kAC h.ca hk) dc dc) hR
 case fu => exact kAB h.fu f hM (fun k hk => nP (kAC h.fu hk) dc dc) hR
 case ta => exact kAB h.ta f hM (fun k hk => nP (kAC h.ta hk) dc dc) hR
 case me => exact kAB h.me f hM (fun k hk => nP (kAC h.me hk) dc dc) hR
 case gl => exact kAB h.gl f hM (fun k hk => nP (kAC h.gl hk) dc dc) hR
 case el => exact kAB h.el f hM (fun k hk => nP (kAC h.el hk) dc dc) hR
 case da => exact kAB h.da f hM (fun k hk => nP (kAC h.da hk) dc dc) hR
 case is => exact hrow
 case tl => exact h.tl
 case tat =>
  exact yy28
 case tne => exact h.tne
 case ml => exact h.ml
 case mat =>
  exact yy29
 case mne => exact h.mne
 case low => exact hR3
 rintro k (hk | ⟨v, hv1, hk⟩ | hk | hk)
 · exact hR2 k (h.own k (.inl hk))
 · simp only [Pl.vs, List.mem_cons, List.not_mem_nil, or_false] at hv1
   rcases hv1 with rfl | rfl | rfl | rfl | rfl | rfl | rfl | rfl | rfl | rfl
   · exact yy89
   · exact hR2 k (h.own k (Pl.o_co hk))
   · exact hR2 k (h.own k (Pl.o_ca hk))
   · exact hR2 k (h.own k (Pl.o_fu hk))
   · exact yy87
   · exact yy88
   · exact hR2 k (h.own k (Pl.o_gl hk))
   · exact hR2 k (h.own k (Pl.o_el hk))
   · exact hR2 k (h.own k (Pl.o_da hk))
   exact hv k hk
 · exact yy69
 exact yy68
end Go.Proofs.YtdckghiipijobaaGreat
