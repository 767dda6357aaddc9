/- 'does': an operation with the program and with the reference: the common parts. -/
import Derived.Test.YtndhbamfgihncaaTabRf
import Derived.Test.YtndhbamfgihncaaTabAct
namespace Go.Proofs.Ytndhbamfgihncaa
open Go.RowKit

def getS (xs : List Int) (i : Int) : Int × Int := if i % 4294967296 < xs.length then (xs.getD (i % 4294967296).toNat 0, 0) else (0, 3)
def setS (xs : List Int) (i x : Int) : Int × List Int := if i % 4294967296 < xs.length then (0, xs.set (i % 4294967296).toNat x) else (3, xs)
def growS (mx : Int) (h : Bool) (xs : List Int) (n x : Int) : Int × List Int := if xs.length + n % 4294967296 ≤ mostS mx h then ((xs.length : Int), xs ++ List.replicate (n % 4294967296).toNat x) else (4294967295, xs)

theorem splice_one (xs : List Int) (k : Nat) (x : Int) (hk : k < xs.length) : splice xs k [x] = xs.set k x := by
  unfold splice
  rw [List.set_eq_take_append_cons_drop, if_pos hk]
  simp

section
variable {w : World} {p q c : Nat} {e mn mx : Int} {h : Bool} {xs : List Int}
theorem set_all (t : TabAt w p q c e mn mx h xs) (i x : Int) (h0 : 0 ≤ i) :
    Calls Try.prog 18 #[.pointer (some ⟨p, 0, none⟩), .int .u64 i, .int .u64 x] w fun e' w' => e' = .returned (.int .i64 (setS xs i x).1) ∧ TabAt w' p q c e mn mx h (setS xs i x).2 ∧ Fr (One q) w w' := by
  unfold setS
  by_cases hi : i % 4294967296 < xs.length
  · rw [if_pos hi]; exact set_yes t i x h0 _ (by omega) (by omega)
  · rw [if_neg hi]; exact (set_no t i x h0 hi).mono fun e' w' ⟨h1, h2⟩ => by subst h2; exact ⟨h1, t, Fr.refl _ _⟩
theorem grow_all (t : TabAt w p q c e mn mx h xs) (n x : Int) (h0 : 0 ≤ n) :
    Calls Try.prog 16 #[.pointer (some ⟨p, 0, none⟩), .int .u64 n, .int .u64 x] w fun e' w' => e' = .returned (.int .u64 (growS mx h xs n x).1) ∧ GrowTo p q e mn mx h (growS mx h xs n x).2 w w' := by
  unfold growS
  by_cases hi : xs.length + n % 4294967296 ≤ mostS mx h
  · rw [if_pos hi]; exact grow_yes t n x _ h0 (by omega) (by omega)
  · rw [if_neg hi]; exact (grow_no t n x h0 (by omega)).mono fun e' w' ⟨h1, h2⟩ => by subst h2; exact ⟨h1, q, c, t, Fr.refl _ _, .inl rfl⟩
theorem most_bd (t : TabAt w p q c e mn mx h xs) : 0 ≤ mostS mx h ∧ mostS mx h ≤ 1024 := by
  have := t.lim
  unfold mostS
  cases h <;> simp_all <;> omega
end
section
variable (e mn mx : Int) (h : Bool) (A : Option Addr) (xs : List Int) (c : Nat) (w : World) {B0 : Nat}
theorem rset_all (i x : Int) (hx : xs.length ≤ 1024) (hc : xs.length ≤ c) (hr : Rd w B0 A (Us xs)) (hB0 : B0 ≤ w.heap.size) (h0 : 0 ≤ i) (h1 : i < 18446744073709551616) :
    Calls Try.prog 33 #[.agg #[.int .i64 e, .int .i64 mn, .int .i64 mx, .bool h, .slice A xs.length c], .int .u64 i, .int .u64 x] w (RTo e mn mx h B0 A (setS xs i x).2 (.int .i64 (setS xs i x).1) w) := by
  unfold setS
  by_cases hi : i % 4294967296 < xs.length
  · rw [if_pos hi]
    have := rset_yes e mn mx h A xs c w (B0 := B0) i x (i % 4294967296).toNat hx (hr.more hB0) h0 h1 (by omega) (by omega)
    rwa [splice_one _ _ _ (by omega)] at this
  · rw [if_neg hi]; exact rset_no e mn mx h A xs c w i x hx hc hB0 hr h0 h1 hi
theorem rgrow_all (n x : Int) (hx : xs.length ≤ 1024) (hc : xs.length ≤ c) (hm : 0 ≤ mostS mx h ∧ mostS mx h ≤ 1024) (hr : Rd w B0 A (Us xs)) (hB0 : B0 ≤ w.heap.size) (h0 : 0 ≤ n) (h1 : n < 18446744073709551616) :
    Calls Try.prog 34 #[.agg #[.int .i64 e, .int .i64 mn, .int .i64 mx, .bool h, .slice A xs.length c], .int .u64 n, .int .u64 x] w (RTo e mn mx h B0 A (growS mx h xs n x).2 (.int .u64 (growS mx h xs n x).1) w) := by
  unfold growS
  by_cases hi : xs.length + n % 4294967296 ≤ mostS mx h
  · rw [if_pos hi]; exact rgrow_yes e mn mx h A xs c w n x _ hx hm.2 (hr.more hB0) h0 h1 (by omega) (by omega)
  · rw [if_neg hi]; exact rgrow_no e mn mx h A xs c w n x hx hc hm hB0 hr h0 h1 (by omega)
theorem rfill_all (to x n : Int) (hx : xs.length ≤ 1024) (hc : xs.length ≤ c) (hr : Rd w B0 A (Us xs)) (hB0 : B0 ≤ w.heap.size) (h0 : 0 ≤ to) (h1 : to < 18446744073709551616) (h2 : 0 ≤ n) (h3 : n < 18446744073709551616) :
    Calls Try.prog 35 #[.agg #[.int .i64 e, .int .i64 mn, .int .i64 mx, .bool h, .slice A xs.length c], .int .u64 to, .int .u64 x, .int .u64 n] w (RTo e mn mx h B0 A (fillS xs to x n).2 (.int .i64 (fillS xs to x n).1) w) := by
  unfold fillS
  by_cases hi : to % 4294967296 + n % 4294967296 ≤ (xs.length : Int)
  · rw [if_pos hi]; exact rfill_yes e mn mx h A xs c w to x n _ _ hx (hr.more hB0) h0 h1 h2 h3 (by omega) (by omega) (by omega)
  · rw [if_neg hi]; exact rfill_no e mn mx h A xs c w to x n hx hc hB0 hr h0 h1 h2 h3 hi
end

theorem Blk.new2 (w : World) (o1 o2 : Obj) (t : TypeId) (cs : Array Value) : Blk (((w.alloc o1).alloc o2).alloc (.cells cs t)) (w.heap.size + 2) t cs := by
  have := Blk.new1 (w.alloc o1) o2 t cs
  simpa using this
theorem Blk.new3 (w : World) (o1 o2 o3 : Obj) (t : TypeId) (cs : Array Value) : Blk ((((w.alloc o1).alloc o2).alloc o3).alloc (.cells cs t)) (w.heap.size + 3) t cs := by
  have := Blk.new2 (w.alloc o1) o2 o3 t cs
  simpa [Nat.add_assoc] using this
theorem seven {X : World} {g : Nat} {t : TypeId} {v0 v1 v2 v3 v4 v5 v6 : Value} (hb : Blk X g t #[v0, v1, v2, v3, v4, v5, v6]) :
    X.cell? ⟨g, 0, none⟩ = some v0 ∧ X.cell? ⟨g, 1, none⟩ = some v1 ∧ X.cell? ⟨g, 2, none⟩ = some v2 ∧ X.cell? ⟨g, 3, none⟩ = some v3 ∧ X.cell? ⟨g, 4, none⟩ = some v4 ∧ X.cell? ⟨g, 5, none⟩ = some v5 ∧ X.cell? ⟨g, 6, none⟩ = some v6 :=
  ⟨by rw [hb.cell]; rfl, by rw [hb.cell]; rfl, by rw [hb.cell]; rfl, by rw [hb.cell]; rfl, by rw [hb.cell]; rfl, by rw [hb.cell]; rfl, by rw [hb.cell]; rfl⟩

/-- What 'does' hands back. -/
def DoesTo (p q : Nat) (e mn mx : Int) (h : Bool) (A0 : Option Addr) (w : World) (en : Ending) (w' : World) : Prop :=
  ∃ (zs : List Int) (A' : Option Addr) (cA q' c' : Nat), en = .returned (.tuple #[.agg #[.int .i64 e, .int .i64 mn, .int .i64 mx, .bool h, .slice A' zs.length cA], .bool true]) ∧ zs.length ≤ cA ∧ Rd w' w'.heap.size A' (Us zs) ∧
    TabAt w' p q' c' e mn mx h zs ∧ (q' = q ∨ w.heap.size ≤ q') ∧ Fr (Two p q) w w' ∧ ((A' = A0 ∧ Rd w' w.heap.size A' (Us zs)) ∨ ∃ b, A' = some ⟨b, 0, none⟩ ∧ w.heap.size ≤ b ∧ b ≠ q' ∧ b < w'.heap.size)

theorem does_end {w W w1 w2 : World} {p q q' c c' c2 : Nat} {e mn mx : Int} {h : Bool} {xs zs : List Int} {A0 A2 : Option Addr} {v0 v1 v2 v3 v4 : Value} {o : Obj} (t : TabAt w p q c e mn mx h xs) (pl : p < w.heap.size) (ql : q < w.heap.size) (hg : w.heap.size ≤ w.heap.size + 3) (hW : w.heap.size + 3 < W.heap.size)
    (FF : Fr (Two p q) w W) (F1 : Fr (Two p q) W w1) (F2 : Fr No w1 w2) (T1 : TabAt w1 p q' c' e mn mx h zs) (hq : q' = q ∨ W.heap.size ≤ q') (hc : zs.length ≤ c2) (hr : Rd w2 w2.heap.size A2 (Us zs))
    (hA : (A2 = A0 ∧ Rd w1 w.heap.size A2 (Us zs)) ∨ ∃ b, A2 = some ⟨b, 0, none⟩ ∧ w1.heap.size ≤ b ∧ b < w2.heap.size) :
    DoesTo p q e mn mx h A0 w (.returned (.tuple #[.agg #[.int .i64 e, .int .i64 mn, .int .i64 mx, .bool h, .slice A2 zs.length c2], .bool true]))
      ((((((w2.setCell ⟨w.heap.size + 1 + 1 + 1, 0, none⟩ v0).setCell ⟨w.heap.size + 1 + 1 + 1, 1, none⟩ v1).setCell ⟨w.heap.size + 1 + 1 + 1, 2, none⟩ v2).setCell ⟨w.heap.size + 1 + 1 + 1, 3, none⟩ v3).setCell ⟨w.heap.size + 1 + 1 + 1, 4, none⟩ v4).alloc o) := by
  have G := (((Fr.refl (One (w.heap.size + 3)) w2).five (w.heap.size + 3) v0 v1 v2 v3 v4 (fun _ => rfl)).alloc o)
  have s1 := F1.size
  have s2 := F2.size
  have lq := T1.own.lt
  have K : Fr (Two p q) w _ := ((FF.trans F1 (fun _ _ h => h)).trans F2 (fun _ _ h => h.elim)).trans G (fun i hi h => by have h : i = w.heap.size + 3 := h; omega)
  have T3 := (T1.fr F2 (fun x => x) (fun x => x)).fr G (fun h => by have h : p = w.heap.size + 3 := h; omega) (fun h => by have h : q' = w.heap.size + 3 := h; omega)
  refine ⟨zs, A2, c2, q', c', rfl, hc, ?_, T3, by have := FF.size; omega, K, ?_⟩
  · rcases hA with ⟨_, h⟩ | ⟨b, rfl, hb, hb2⟩
    · exact (((h.frNo F2).fr G (fun k hk h => by have h : k = w.heap.size + 3 := h; omega)).more (Nat.le_trans (by omega) G.size))
    · exact (hr.sub_fr G (fun h => by have h : b = w.heap.size + 3 := h; omega)).more G.size
  · rcases hA with ⟨h0, h⟩ | ⟨b, rfl, hb, hb2⟩
    · exact .inl ⟨h0, (h.frNo F2).fr G (fun k hk h => by have h : k = w.heap.size + 3 := h; omega)⟩
    · exact .inr ⟨b, rfl, by omega, by omega, Nat.lt_of_lt_of_le hb2 G.size⟩

theorem get_all {w : World} {p q c : Nat} {e mn mx : Int} {h : Bool} {xs : List Int} (t : TabAt w p q c e mn mx h xs) (i : Int) (h0 : 0 ≤ i) :
    Calls Try.prog 19 #[.pointer (some ⟨p, 0, none⟩), .int .u64 i] w fun e' w' => e' = .returned (.tuple #[.int .u64 (getS xs i).1, .int .i64 (getS xs i).2]) ∧ Fr No w w' := by
  unfold getS
  by_cases hi : i % 4294967296 < xs.length
  · rw [if_pos hi]
    have hk : (i % 4294967296).toNat < xs.length := by omega
    refine (get_yes t i h0 _ hk (by omega)).mono fun e' w' ⟨h1, n, h2⟩ => ?_
    subst h2
    refine ⟨?_, (Fr.refl No w).drewN n⟩
    rw [h1]; simp [List.getD_eq_getElem?_getD, hk]
  · rw [if_neg hi]; exact (get_no t i h0 hi).mono fun e' w' ⟨h1, h2⟩ => by subst h2; exact ⟨h1, Fr.refl _ _⟩
theorem rget_all (e mn mx : Int) (h : Bool) (A : Option Addr) (xs : List Int) (c : Nat) (w : World) (i : Int) (hx : xs.length ≤ 1024) (hr : Rd w w.heap.size A (Us xs)) (h0 : 0 ≤ i) (h1 : i < 18446744073709551616) :
    Calls Try.prog 32 #[.agg #[.int .i64 e, .int .i64 mn, .int .i64 mx, .bool h, .slice A xs.length c], .int .u64 i] w fun e' w' => e' = .returned (.tuple #[.int .u64 (getS xs i).1, .int .i64 (getS xs i).2]) ∧ Fr No w w' := by
  unfold getS
  by_cases hi : i % 4294967296 < xs.length
  · rw [if_pos hi]
    have hk : (i % 4294967296).toNat < xs.length := by omega
    refine (rget_yes e mn mx h A xs c w i _ hx hr h0 h1 hk (by omega)).mono fun e' w' ⟨h1, h2⟩ => ?_
    refine ⟨?_, h2⟩
    rw [h1]; simp [List.getD_eq_getElem?_getD, hk]
  · rw [if_neg hi]; exact rget_no e mn mx h A xs c w i hx h0 h1 hi
theorem does_end0 {w W w1 w2 : World} {p q c ca : Nat} {e mn mx : Int} {h : Bool} {xs : List Int} {A : Option Addr} {v0 v1 v2 v3 v4 : Value} (t : TabAt w p q c e mn mx h xs) (pl : p < w.heap.size) (ql : q < w.heap.size) (hW : w.heap.size + 3 < W.heap.size)
    (FF : Fr (Two p q) w W) (F1 : Fr No W w1) (F2 : Fr No w1 w2) (T0 : TabAt W p q c e mn mx h xs) (hc : xs.length ≤ ca) (HA : ∀ X, Fr (Two p q) w X → Rd X w.heap.size A (Us xs)) :
    DoesTo p q e mn mx h A w (.returned (.tuple #[.agg #[.int .i64 e, .int .i64 mn, .int .i64 mx, .bool h, .slice A xs.length ca], .bool true]))
      (((((w2.setCell ⟨w.heap.size + 1 + 1 + 1, 0, none⟩ v0).setCell ⟨w.heap.size + 1 + 1 + 1, 1, none⟩ v1).setCell ⟨w.heap.size + 1 + 1 + 1, 2, none⟩ v2).setCell ⟨w.heap.size + 1 + 1 + 1, 3, none⟩ v3).setCell ⟨w.heap.size + 1 + 1 + 1, 4, none⟩ v4) := by
  have G := ((Fr.refl (One (w.heap.size + 3)) w2).five (w.heap.size + 3) v0 v1 v2 v3 v4 (fun _ => rfl))
  have s1 := F1.size
  have s2 := F2.size
  have K : Fr (Two p q) w _ := ((FF.trans F1 (fun _ _ h => h.elim)).trans F2 (fun _ _ h => h.elim)).trans G (fun i hi h => by have h : i = w.heap.size + 3 := h; omega)
  have T3 := ((T0.fr F1 (fun x => x) (fun x => x)).fr F2 (fun x => x) (fun x => x)).fr G (fun h => by have h : p = w.heap.size + 3 := h; omega) (fun h => by have h : q = w.heap.size + 3 := h; omega)
  exact ⟨xs, A, ca, q, c, rfl, hc, (HA _ K).more K.size, T3, .inl rfl, K, .inl ⟨rfl, HA _ K⟩⟩
end Go.Proofs.Ytndhbamfgihncaa
