/- Chapter 28: Grow of the reference. -/
import Derived.Test.YtpmnijjfadhocaaMmS
namespace Go.Proofs.Ytpmnijjfadhocaa
open Go.RowKit

theorem row_zeros {P : Program} {t tn e : TypeId} {z : Value} {kn : IntKind} {bytes base : Nat} (E : ElemOk P t e 1 bytes z) (htn : P.underlying tn = some (.int kn)) (hzc : z.cells = #[z]) (hz1 : z.oneCell' = true) (w : World) (ty : TypeId) (kq : IntKind) {v : Value} {xs : List Value} (k : Nat) (hown : w.ownsRow base e 1 v xs.length xs) (hx : xs.length ≤ 1000000) (hk : k ≤ 1000000) (hb : bytes ≤ 64) (hbase : base ≤ w.heap.size) :
    ∃ (v' : Value) (w' : World), (Builtin.append_ #[t, tn] ty #[v, .int kq (k : Int)]).run P w = .ok v' w' ∧ w'.ownsRow base e 1 v' (xs.length + k) (xs ++ List.replicate k z) ∧ Fr (fun i => some i = v.ownBlock) w w' := by
  rcases hown.2 with ⟨rfl, h0⟩ | ⟨g, cap, cur, rfl, hg, rest⟩
  · have hxs : xs = [] := List.eq_nil_of_length_eq_zero h0
    subst hxs
    obtain ⟨i, hi, hz0, hs, hbb⟩ := E.info
    rcases Nat.eq_zero_or_pos k with hk0 | hk0
    · subst hk0
      exact ⟨.slice none 0 0, w, run_app_none0 w t tn ty e i z kq kn E.slice htn hi hz0 none 0 0 (by omega) (by decide), by simpa using hown, Fr.refl _ _⟩
    · have hkb : k * i.bytes ≤ 281474976710656 := by rw [hbb]; exact Nat.le_trans (Nat.mul_le_mul hk hb) (by decide)
      have hrun := Go.Lib.run_append_nil_zeros (P := P) w t tn ty e i z kq kn E.slice htn hi hz0 k hk0 (by rw [hs]; omega) (by omega) hkb
      have hzl : ∀ m, (Builtin.zeroCells z.cells m) = (List.replicate m z).toArray := fun m => by
        rw [hzc]
        apply Array.ext'
        simp [Builtin.zeroCells]
        apply List.ext_getElem
        · simp
        · intro i h1 h2
          simp [Nat.mod_one]
      rw [hzl, hzl] at hrun
      have hge := grownCap_ge w k 0 e
      have hle := grownCap_le_maxLen w k 0 e (by simp only [maxLen]; omega)
      refine ⟨_, _, hrun, ?_, (Fr.refl _ w).drew.alloc _⟩
      have ho : Own (w.drew.alloc (.cells ((List.replicate k z).toArray ++ (List.replicate (grownCap w k 0 e - k) z).toArray) e)) w.heap.size e (grownCap w k 0 e) (List.replicate k z) := by
        refine Own.mk (Blk.new w.drew e _) (by simp; omega) hle (by simp; omega) ?_
        simp only [List.length_replicate, List.append_toArray]
        rw [List.take_append_of_le_length (by simp), List.take_of_length_le (by simp)]
      have := owns_rebase (base := base) ho hbase
      simpa using this
  · have ho : Own w g e cap xs := by
      have := hown
      refine ⟨this.1, .inr ⟨g, cap, cur, rfl, Nat.zero_le _, rest⟩⟩
    obtain ⟨q', c', w', hrun, h2, h3, h4⟩ := own_zeros E htn hzc hz1 w ty kq k ho hx hk hb
    refine ⟨_, w', hrun, ?_, h3.mono (fun i _ h => by simp only [One] at h; simp [Value.ownBlock, h])⟩
    have hq : base ≤ q' := by rcases h4 with h | h <;> omega
    have := owns_rebase (base := base) h2 hq
    simpa using this
theorem wpList_app0 {P : Program} {t tn e : TypeId} {z : Value} {kn kq : IntKind} {bytes base : Nat} {w : World} {ops : Array Oper} {rest : List Oper} {o : Oper} {a : Act} {Q : Exit → Act → World → Prop} {s x : Operand} {v : Value} {k : Nat} {xs : List Value} (E : ElemOk P t e 1 bytes z) (htn : P.underlying tn = some (.int kn)) (hzc : z.cells = #[z]) (hz1 : z.oneCell' = true) (hgd : o.guard = none)
    (ho : o.op = .call { callee := .builtin .append, args := #[s, x], argTypes := #[t, tn] })
    (hs : a.eval s = v) (hx : a.eval x = .int kq (k : Int)) (hown : w.ownsRow base e 1 v xs.length xs) (hl : xs.length ≤ 1000000) (hk : k ≤ 1000000) (hb : bytes ≤ 64) (hbase : base ≤ w.heap.size)
    (h : ∀ (v' : Value) (w' : World), w'.ownsRow base e 1 v' (xs.length + k) (xs ++ List.replicate k z) → Fr (fun i => some i = v.ownBlock) w w' → wpList P ops Q rest (a.put o.dst v') w') : wpList P ops Q (o :: rest) a w := by
  refine wpList_plain hgd fun K hK => ?_
  obtain ⟨v', w', hrun, h2, h3⟩ := row_zeros E htn hzc hz1 w o.type kq k hown hl hk hb hbase
  unfold Oper.wp execOp
  simp only [ho, resolve, invoke, builtin, Sem.run_bind, Sem.run_pure, Result.andThen_ok, List.map_toArray, List.map_cons, List.map_nil, hs, hx, hrun]
  exact hK _ _ (h v' w' h2 h3)
def RgTo (l : Lim) (A0 : Option Addr) (B0 B : List Int) (r : Int) (w : World) (e : Ending) (w' : World) : Prop :=
  ∃ (A : Option Addr) (c : Nat), e = .returned (.tuple #[.agg #[.int .i64 l.min, .int .i64 l.max, .bool l.has, .slice A B.length c], .int .u64 r]) ∧ RmIn w' A c B ∧ ((A = A0 ∧ B = B0) ∨ ∀ q o, A = some ⟨q, o, none⟩ → w.heap.size ≤ q) ∧ Fr No w w'
set_option maxRecDepth 100000 in
set_option maxHeartbeats 3200000 in
theorem rmgrow_any (l : Lim) (A : Option Addr) (c : Nat) (B : List Int) (xn : Int) (w : World) (hI : RmIn w A c B) (hn : B.length ≤ 65536) (hw : ((B.length / 256 : Nat) : Int) ≤ most l) (hm : most l ≤ 256) (h3 : 0 ≤ xn ∧ xn < 18446744073709551616) :
    Calls Try.prog 31 #[rmv l A B.length c, .int .u64 xn] w (RgTo l A B (growR l B (lo xn)).1 (growR l B (lo xn)).2 w) := by
  have F := hid (((Fr.refl No w).alloc (.cells #[.int .i64 l.min, .int .i64 l.max, .bool l.has, .slice A B.length c] 28)).alloc (.cells #[.int .i64 0, .int .i64 0, .bool false, .slice none 0 0] 28))
  have G := hid ((Blk.new w 28 #[.int .i64 l.min, .int .i64 l.max, .bool l.has, .slice A B.length c]).alloc (.cells #[.int .i64 0, .int .i64 0, .bool false, .slice none 0 0] 28))
  have GR := hid (Blk.new1 w (.cells #[.int .i64 l.min, .int .i64 l.max, .bool l.has, .slice A B.length c] 28) 28 #[.int .i64 0, .int .i64 0, .bool false, .slice none 0 0])
  have HN := hid (fun W => rlo_any xn W h3)
  have b3 := lo_lt xn
  have HI := hid hI
  have HP := hid (fun W => rpages_any l A B.length c W (by omega))
  generalize lo xn = n at *
  unfold growR
  generalize hwas : B.length / 256 = s at *
  have hs : s * 256 ≤ B.length := by omega
  unfold rmv at HP ⊢
  clear hI h3 hwas
  cases hhas : l.has with
  | false =>
    have hmo : most l = 256 := by rw [most, hhas]; rfl
    rw [hmo] at hw hm ⊢
    unfold RgTo
    rw [hhas] at F G GR HP
    rw [hhas]
    by_cases hg : (n : Int) ≤ 256 - s
    · rw [if_pos hg]
      go_enter Try.func31, Try.ntmps31
      go_wp2_with fail
      generalize (w.alloc (.cells #[.int .i64 l.min, .int .i64 l.max, .bool false, .slice A B.length c] 28)).alloc (.cells #[.int .i64 0, .int .i64 0, .bool false, .slice none 0 0] 28) = W0 at *
      refine (HP.out _).mono ?_
      rintro e w1 ⟨rfl, f⟩
      replace F := hid (F.out.trans f (fun _ _ h => h))
      replace G := hid (G.out.fr f (fun x => x))
      replace GR := hid (GR.out.fr f (fun x => x))
      clear f
      have y0 : w1.cell? ⟨w.heap.size, 0, none⟩ = some (.int .i64 l.min) := G.out.cell 0
      have y1 : w1.cell? ⟨w.heap.size, 1, none⟩ = some (.int .i64 l.max) := G.out.cell 1
      have y2 : w1.cell? ⟨w.heap.size, 2, none⟩ = some (.bool false) := G.out.cell 2
      have y3 : w1.cell? ⟨w.heap.size, 3, none⟩ = some (.slice A B.length c) := G.out.cell 3
      have z0 : w1.cell? ⟨w.heap.size + 1, 0, none⟩ = some (.int .i64 0) := GR.out.cell 0
      have z1 : w1.cell? ⟨w.heap.size + 1, 1, none⟩ = some (.int .i64 0) := GR.out.cell 1
      have z2 : w1.cell? ⟨w.heap.size + 1, 2, none⟩ = some (.bool false) := GR.out.cell 2
      have z3 : w1.cell? ⟨w.heap.size + 1, 3, none⟩ = some (.slice none 0 0) := GR.out.cell 3
      have q0 : w1.frozen? ⟨w.heap.size + 1, 0, none⟩ = false := GR.out.frozen 0
      have q1 : w1.frozen? ⟨w.heap.size + 1, 1, none⟩ = false := GR.out.frozen 1
      have q2 : w1.frozen? ⟨w.heap.size + 1, 2, none⟩ = false := GR.out.frozen 2
      have q3 : w1.frozen? ⟨w.heap.size + 1, 3, none⟩ = false := GR.out.frozen 3
      have hw1lt : w.heap.size + 1 < w1.heap.size := GR.out.lt
      go_wp2_with fail
      refine (HN.out _).mono ?_
      rintro e w' ⟨rfl, rfl⟩
      have hn9 : n * 256 ≤ 1000000 := by omega
      have HI1 := hid (HI.out.fr F.out)
      go_upto_region 9 with (at_builtin; refine wpList_appC (t := tB) (base := w1.heap.size) (S := Emp) (xs := []) (ys := B) (dss := B.map fun b => [.int .u8 b]) (B2 := w1.heap.size) elBs rfl rfl rfl rfl (Ty.row.nil _ _ _ _) (css_bts HI1.out.bts) (by rw [flat_bts]; exact HI1.out.rd) rfl (by simp; omega) (by simp; omega) (fun _ h => h.elim) (Nat.le_refl _) ?_; intro v1 w2 hr1 fr1 hv1; have F1 := hid (fr1.mono (N := fun k => some k = (Value.slice none 0 0).ownBlock) (M := No) (fun _ _ h => by simp [Value.ownBlock] at h)); have R1 := hid hr1; clear hr1 fr1 hv1)
      go_wp2_with fail
      refine (HN.out _).mono ?_
      rintro e w' ⟨rfl, rfl⟩
      have hro : w2.ownsRow w1.heap.size 5 1 v1 (Ks .u8 B).length (Ks .u8 B) := by
        obtain ⟨css, h1, h2⟩ := R1.out
        rw [(css_ks h1).1] at h2
        have e : tB.size = 1 := rfl
        rw [e] at h2
        simpa using h2
      have HRO := hid hro
      clear hro
      go_upto_region 10 with (at_builtin; refine wpList_app0 (k := n * 256) elBs Try.underlying3 rfl rfl rfl rfl rfl (by show (Value.int .i64 ((n : Int) * 256)) = _; rw [show ((n : Int) * 256) = ((n * 256 : Nat) : Int) by omega]) HRO.out (by simp; omega) hn9 (by omega) F1.out.size ?_; intro v2 w3 ho2 fr2; have O2 := hid ho2; have F2 := hid fr2; clear ho2 fr2)
      have F3 := hid (own_frame R1.out F1.out F2.out (Nat.le_refl _))
      have hrow : tB.row w3 w1.heap.size Emp 5 v2 (B ++ List.replicate (n * 256) 0) := row_of (by have := O2.out; simpa [Ks] using this) (Bts.app HI1.out.bts (zeros_bts _))
      obtain ⟨A2, k2, e2, _, _, _⟩ := hrow.els (S' := fun _ => True) (fun _ _ => trivial) (fun _ _ => trivial)
      have HROW := hid hrow
      subst e2
      have hlen2 : (B ++ List.replicate (n * 256) (0 : Int)).length = B.length + n * 256 := by simp
      clear hrow R1 O2 F2 F1 HRO
      replace G := hid (G.out.fr F3.out (fun x => x))
      replace GR := hid (GR.out.fr F3.out (fun x => x))
      clear y0 y1 y2 y3 z0 z1 z2 z3 q0 q1 q2 q3
      have y0 : w3.cell? ⟨w.heap.size, 0, none⟩ = some (.int .i64 l.min) := G.out.cell 0
      have y1 : w3.cell? ⟨w.heap.size, 1, none⟩ = some (.int .i64 l.max) := G.out.cell 1
      have y2 : w3.cell? ⟨w.heap.size, 2, none⟩ = some (.bool false) := G.out.cell 2
      have y3 : w3.cell? ⟨w.heap.size, 3, none⟩ = some (.slice A B.length c) := G.out.cell 3
      have z0 : w3.cell? ⟨w.heap.size + 1, 0, none⟩ = some (.int .i64 0) := GR.out.cell 0
      have z1 : w3.cell? ⟨w.heap.size + 1, 1, none⟩ = some (.int .i64 0) := GR.out.cell 1
      have z2 : w3.cell? ⟨w.heap.size + 1, 2, none⟩ = some (.bool false) := GR.out.cell 2
      have z3 : w3.cell? ⟨w.heap.size + 1, 3, none⟩ = some (.slice none 0 0) := GR.out.cell 3
      have q0 : w3.frozen? ⟨w.heap.size + 1, 0, none⟩ = false := GR.out.frozen 0
      have q1 : w3.frozen? ⟨w.heap.size + 1, 1, none⟩ = false := GR.out.frozen 1
      have q2 : w3.frozen? ⟨w.heap.size + 1, 2, none⟩ = false := GR.out.frozen 2
      have q3 : w3.frozen? ⟨w.heap.size + 1, 3, none⟩ = false := GR.out.frozen 3
      have hlt0 := G.out.lt
      have hlt1 := GR.out.lt
      have hw1l : w.heap.size + 1 < w1.heap.size := hw1lt
      go_wp2
      have FZ := (((((Fr.refl (One (w.heap.size + 1)) w3).setCell ⟨w.heap.size + 1, 0, none⟩ (.int .i64 l.min) (fun _ => rfl)).setCell ⟨w.heap.size + 1, 1, none⟩ (.int .i64 l.max) (fun _ => rfl)).setCell ⟨w.heap.size + 1, 2, none⟩ (.bool false) (fun _ => rfl)).setCell ⟨w.heap.size + 1, 3, none⟩ (.slice A2 (B.length + n * 256) k2) (fun _ => rfl))
      have FF := (F.out.trans F3.out (fun _ _ h => h)).trans FZ (fun i hi h => by simp only [One] at h; omega)
      have hfresh : ∀ q o, A2 = some ⟨q, o, none⟩ → w.heap.size ≤ q := fun q o e => by
        subst e
        have h1 := (HROW.out.own (g := q) rfl).1
        omega
      have hRm := rmIn_of_row (HROW.out.fr FZ (fun _ h => h.elim) (fun k hk h => by have h1 := (HROW.out.own hk).1; simp only [One] at h; omega))
      exact bodyPost_ret (v := .tuple #[.agg #[.int .i64 l.min, .int .i64 l.max, .bool false, .slice A2 (B ++ List.replicate (n * 256) 0).length k2], .int .u64 s]) (by simp [results, Try.results31, go_sem, z0, z1, z2, z3]) rfl ⟨A2, k2, rfl, hRm, .inr hfresh, FF⟩
    · rw [if_neg hg]
      go_enter Try.func31, Try.ntmps31
      go_wp2_with fail
      generalize (w.alloc (.cells #[.int .i64 l.min, .int .i64 l.max, .bool false, .slice A B.length c] 28)).alloc (.cells #[.int .i64 0, .int .i64 0, .bool false, .slice none 0 0] 28) = W0 at *
      refine (HP.out _).mono ?_
      rintro e w1 ⟨rfl, f⟩
      replace F := hid (F.out.trans f (fun _ _ h => h))
      replace G := hid (G.out.fr f (fun x => x))
      replace GR := hid (GR.out.fr f (fun x => x))
      clear f
      have y0 : w1.cell? ⟨w.heap.size, 0, none⟩ = some (.int .i64 l.min) := G.out.cell 0
      have y1 : w1.cell? ⟨w.heap.size, 1, none⟩ = some (.int .i64 l.max) := G.out.cell 1
      have y2 : w1.cell? ⟨w.heap.size, 2, none⟩ = some (.bool false) := G.out.cell 2
      have y3 : w1.cell? ⟨w.heap.size, 3, none⟩ = some (.slice A B.length c) := G.out.cell 3
      have z0 : w1.cell? ⟨w.heap.size + 1, 0, none⟩ = some (.int .i64 0) := GR.out.cell 0
      have z1 : w1.cell? ⟨w.heap.size + 1, 1, none⟩ = some (.int .i64 0) := GR.out.cell 1
      have z2 : w1.cell? ⟨w.heap.size + 1, 2, none⟩ = some (.bool false) := GR.out.cell 2
      have z3 : w1.cell? ⟨w.heap.size + 1, 3, none⟩ = some (.slice none 0 0) := GR.out.cell 3
      have q0 : w1.frozen? ⟨w.heap.size + 1, 0, none⟩ = false := GR.out.frozen 0
      have q1 : w1.frozen? ⟨w.heap.size + 1, 1, none⟩ = false := GR.out.frozen 1
      have q2 : w1.frozen? ⟨w.heap.size + 1, 2, none⟩ = false := GR.out.frozen 2
      have q3 : w1.frozen? ⟨w.heap.size + 1, 3, none⟩ = false := GR.out.frozen 3
      have hw1lt : w.heap.size + 1 < w1.heap.size := GR.out.lt
      go_wp2_with fail
      refine (HN.out _).mono ?_
      rintro e w' ⟨rfl, rfl⟩
      go_wp2
      have FZ := (((((Fr.refl (One (w.heap.size + 1)) w1).setCell ⟨w.heap.size + 1, 0, none⟩ (.int .i64 l.min) (fun _ => rfl)).setCell ⟨w.heap.size + 1, 1, none⟩ (.int .i64 l.max) (fun _ => rfl)).setCell ⟨w.heap.size + 1, 2, none⟩ (.bool false) (fun _ => rfl)).setCell ⟨w.heap.size + 1, 3, none⟩ (.slice A B.length c) (fun _ => rfl))
      have FF := F.out.trans FZ (fun i hi h => by simp only [One] at h; omega)
      exact bodyPost_ret (v := .tuple #[.agg #[.int .i64 l.min, .int .i64 l.max, .bool false, .slice A B.length c], .int .u64 4294967295]) (by simp [results, Try.results31, go_sem, z0, z1, z2, z3]) rfl ⟨A, c, rfl, HI.out.fr FF, (by first | exact .inl ⟨rfl, rfl⟩ | simp), FF⟩
  | true =>
    have hmo : most l = l.max := by rw [most, hhas]; rfl
    rw [hmo] at hw hm ⊢
    unfold RgTo
    rw [hhas] at F G GR HP
    rw [hhas]
    generalize hmx : l.max = mx at *
    by_cases hg : (n : Int) ≤ mx - s
    · rw [if_pos hg]
      go_enter Try.func31, Try.ntmps31
      go_wp2_with fail
      generalize (w.alloc (.cells #[.int .i64 l.min, .int .i64 mx, .bool true, .slice A B.length c] 28)).alloc (.cells #[.int .i64 0, .int .i64 0, .bool false, .slice none 0 0] 28) = W0 at *
      refine (HP.out _).mono ?_
      rintro e w1 ⟨rfl, f⟩
      replace F := hid (F.out.trans f (fun _ _ h => h))
      replace G := hid (G.out.fr f (fun x => x))
      replace GR := hid (GR.out.fr f (fun x => x))
      clear f
      have y0 : w1.cell? ⟨w.heap.size, 0, none⟩ = some (.int .i64 l.min) := G.out.cell 0
      have y1 : w1.cell? ⟨w.heap.size, 1, none⟩ = some (.int .i64 mx) := G.out.cell 1
      have y2 : w1.cell? ⟨w.heap.size, 2, none⟩ = some (.bool true) := G.out.cell 2
      have y3 : w1.cell? ⟨w.heap.size, 3, none⟩ = some (.slice A B.length c) := G.out.cell 3
      have z0 : w1.cell? ⟨w.heap.size + 1, 0, none⟩ = some (.int .i64 0) := GR.out.cell 0
      have z1 : w1.cell? ⟨w.heap.size + 1, 1, none⟩ = some (.int .i64 0) := GR.out.cell 1
      have z2 : w1.cell? ⟨w.heap.size + 1, 2, none⟩ = some (.bool false) := GR.out.cell 2
      have z3 : w1.cell? ⟨w.heap.size + 1, 3, none⟩ = some (.slice none 0 0) := GR.out.cell 3
      have q0 : w1.frozen? ⟨w.heap.size + 1, 0, none⟩ = false := GR.out.frozen 0
      have q1 : w1.frozen? ⟨w.heap.size + 1, 1, none⟩ = false := GR.out.frozen 1
      have q2 : w1.frozen? ⟨w.heap.size + 1, 2, none⟩ = false := GR.out.frozen 2
      have q3 : w1.frozen? ⟨w.heap.size + 1, 3, none⟩ = false := GR.out.frozen 3
      have hw1lt : w.heap.size + 1 < w1.heap.size := GR.out.lt
      go_wp2_with fail
      refine (HN.out _).mono ?_
      rintro e w' ⟨rfl, rfl⟩
      have hn9 : n * 256 ≤ 1000000 := by omega
      have HI1 := hid (HI.out.fr F.out)
      go_upto_region 9 with (at_builtin; refine wpList_appC (t := tB) (base := w1.heap.size) (S := Emp) (xs := []) (ys := B) (dss := B.map fun b => [.int .u8 b]) (B2 := w1.heap.size) elBs rfl rfl rfl rfl (Ty.row.nil _ _ _ _) (css_bts HI1.out.bts) (by rw [flat_bts]; exact HI1.out.rd) rfl (by simp; omega) (by simp; omega) (fun _ h => h.elim) (Nat.le_refl _) ?_; intro v1 w2 hr1 fr1 hv1; have F1 := hid (fr1.mono (N := fun k => some k = (Value.slice none 0 0).ownBlock) (M := No) (fun _ _ h => by simp [Value.ownBlock] at h)); have R1 := hid hr1; clear hr1 fr1 hv1)
      go_wp2_with fail
      refine (HN.out _).mono ?_
      rintro e w' ⟨rfl, rfl⟩
      have hro : w2.ownsRow w1.heap.size 5 1 v1 (Ks .u8 B).length (Ks .u8 B) := by
        obtain ⟨css, h1, h2⟩ := R1.out
        rw [(css_ks h1).1] at h2
        have e : tB.size = 1 := rfl
        rw [e] at h2
        simpa using h2
      have HRO := hid hro
      clear hro
      go_upto_region 10 with (at_builtin; refine wpList_app0 (k := n * 256) elBs Try.underlying3 rfl rfl rfl rfl rfl (by show (Value.int .i64 ((n : Int) * 256)) = _; rw [show ((n : Int) * 256) = ((n * 256 : Nat) : Int) by omega]) HRO.out (by simp; omega) hn9 (by omega) F1.out.size ?_; intro v2 w3 ho2 fr2; have O2 := hid ho2; have F2 := hid fr2; clear ho2 fr2)
      have F3 := hid (own_frame R1.out F1.out F2.out (Nat.le_refl _))
      have hrow : tB.row w3 w1.heap.size Emp 5 v2 (B ++ List.replicate (n * 256) 0) := row_of (by have := O2.out; simpa [Ks] using this) (Bts.app HI1.out.bts (zeros_bts _))
      obtain ⟨A2, k2, e2, _, _, _⟩ := hrow.els (S' := fun _ => True) (fun _ _ => trivial) (fun _ _ => trivial)
      have HROW := hid hrow
      subst e2
      have hlen2 : (B ++ List.replicate (n * 256) (0 : Int)).length = B.length + n * 256 := by simp
      clear hrow R1 O2 F2 F1 HRO
      replace G := hid (G.out.fr F3.out (fun x => x))
      replace GR := hid (GR.out.fr F3.out (fun x => x))
      clear y0 y1 y2 y3 z0 z1 z2 z3 q0 q1 q2 q3
      have y0 : w3.cell? ⟨w.heap.size, 0, none⟩ = some (.int .i64 l.min) := G.out.cell 0
      have y1 : w3.cell? ⟨w.heap.size, 1, none⟩ = some (.int .i64 mx) := G.out.cell 1
      have y2 : w3.cell? ⟨w.heap.size, 2, none⟩ = some (.bool true) := G.out.cell 2
      have y3 : w3.cell? ⟨w.heap.size, 3, none⟩ = some (.slice A B.length c) := G.out.cell 3
      have z0 : w3.cell? ⟨w.heap.size + 1, 0, none⟩ = some (.int .i64 0) := GR.out.cell 0
      have z1 : w3.cell? ⟨w.heap.size + 1, 1, none⟩ = some (.int .i64 0) := GR.out.cell 1
      have z2 : w3.cell? ⟨w.heap.size + 1, 2, none⟩ = some (.bool false) := GR.out.cell 2
      have z3 : w3.cell? ⟨w.heap.size + 1, 3, none⟩ = some (.slice none 0 0) := GR.out.cell 3
      have q0 : w3.frozen? ⟨w.heap.size + 1, 0, none⟩ = false := GR.out.frozen 0
      have q1 : w3.frozen? ⟨w.heap.size + 1, 1, none⟩ = false := GR.out.frozen 1
      have q2 : w3.frozen? ⟨w.heap.size + 1, 2, none⟩ = false := GR.out.frozen 2
      have q3 : w3.frozen? ⟨w.heap.size + 1, 3, none⟩ = false := GR.out.frozen 3
      have hlt0 := G.out.lt
      have hlt1 := GR.out.lt
      have hw1l : w.heap.size + 1 < w1.heap.size := hw1lt
      go_wp2
      have FZ := (((((Fr.refl (One (w.heap.size + 1)) w3).setCell ⟨w.heap.size + 1, 0, none⟩ (.int .i64 l.min) (fun _ => rfl)).setCell ⟨w.heap.size + 1, 1, none⟩ (.int .i64 mx) (fun _ => rfl)).setCell ⟨w.heap.size + 1, 2, none⟩ (.bool true) (fun _ => rfl)).setCell ⟨w.heap.size + 1, 3, none⟩ (.slice A2 (B.length + n * 256) k2) (fun _ => rfl))
      have FF := (F.out.trans F3.out (fun _ _ h => h)).trans FZ (fun i hi h => by simp only [One] at h; omega)
      have hfresh : ∀ q o, A2 = some ⟨q, o, none⟩ → w.heap.size ≤ q := fun q o e => by
        subst e
        have h1 := (HROW.out.own (g := q) rfl).1
        omega
      have hRm := rmIn_of_row (HROW.out.fr FZ (fun _ h => h.elim) (fun k hk h => by have h1 := (HROW.out.own hk).1; simp only [One] at h; omega))
      exact bodyPost_ret (v := .tuple #[.agg #[.int .i64 l.min, .int .i64 mx, .bool true, .slice A2 (B ++ List.replicate (n * 256) 0).length k2], .int .u64 s]) (by simp [results, Try.results31, go_sem, z0, z1, z2, z3]) rfl ⟨A2, k2, rfl, hRm, .inr hfresh, FF⟩
    · rw [if_neg hg]
      go_enter Try.func31, Try.ntmps31
      go_wp2_with fail
      generalize (w.alloc (.cells #[.int .i64 l.min, .int .i64 mx, .bool true, .slice A B.length c] 28)).alloc (.cells #[.int .i64 0, .int .i64 0, .bool false, .slice none 0 0] 28) = W0 at *
      refine (HP.out _).mono ?_
      rintro e w1 ⟨rfl, f⟩
      replace F := hid (F.out.trans f (fun _ _ h => h))
      replace G := hid (G.out.fr f (fun x => x))
      replace GR := hid (GR.out.fr f (fun x => x))
      clear f
      have y0 : w1.cell? ⟨w.heap.size, 0, none⟩ = some (.int .i64 l.min) := G.out.cell 0
      have y1 : w1.cell? ⟨w.heap.size, 1, none⟩ = some (.int .i64 mx) := G.out.cell 1
      have y2 : w1.cell? ⟨w.heap.size, 2, none⟩ = some (.bool true) := G.out.cell 2
      have y3 : w1.cell? ⟨w.heap.size, 3, none⟩ = some (.slice A B.length c) := G.out.cell 3
      have z0 : w1.cell? ⟨w.heap.size + 1, 0, none⟩ = some (.int .i64 0) := GR.out.cell 0
      have z1 : w1.cell? ⟨w.heap.size + 1, 1, none⟩ = some (.int .i64 0) := GR.out.cell 1
      have z2 : w1.cell? ⟨w.heap.size + 1, 2, none⟩ = some (.bool false) := GR.out.cell 2
      have z3 : w1.cell? ⟨w.heap.size + 1, 3, none⟩ = some (.slice none 0 0) := GR.out.cell 3
      have q0 : w1.frozen? ⟨w.heap.size + 1, 0, none⟩ = false := GR.out.frozen 0
      have q1 : w1.frozen? ⟨w.heap.size + 1, 1, none⟩ = false := GR.out.frozen 1
      have q2 : w1.frozen? ⟨w.heap.size + 1, 2, none⟩ = false := GR.out.frozen 2
      have q3 : w1.frozen? ⟨w.heap.size + 1, 3, none⟩ = false := GR.out.frozen 3
      have hw1lt : w.heap.size + 1 < w1.heap.size := GR.out.lt
      go_wp2_with fail
      refine (HN.out _).mono ?_
      rintro e w' ⟨rfl, rfl⟩
      go_wp2
      have FZ := (((((Fr.refl (One (w.heap.size + 1)) w1).setCell ⟨w.heap.size + 1, 0, none⟩ (.int .i64 l.min) (fun _ => rfl)).setCell ⟨w.heap.size + 1, 1, none⟩ (.int .i64 mx) (fun _ => rfl)).setCell ⟨w.heap.size + 1, 2, none⟩ (.bool true) (fun _ => rfl)).setCell ⟨w.heap.size + 1, 3, none⟩ (.slice A B.length c) (fun _ => rfl))
      have FF := F.out.trans FZ (fun i hi h => by simp only [One] at h; omega)
      exact bodyPost_ret (v := .tuple #[.agg #[.int .i64 l.min, .int .i64 mx, .bool true, .slice A B.length c], .int .u64 4294967295]) (by simp [results, Try.results31, go_sem, z0, z1, z2, z3]) rfl ⟨A, c, rfl, HI.out.fr FF, (by first | exact .inl ⟨rfl, rfl⟩ | simp), FF⟩
end Go.Proofs.Ytpmnijjfadhocaa
