/- The walks of 'does', one for each kind of operation. -/
import Derived.Test.YtndhbamfgihncaaTabRg
namespace Go.Proofs.Ytndhbamfgihncaa
open Go.RowKit

set_option maxHeartbeats 1600000 in
set_option maxRecDepth 100000 in
theorem does_0 (p q c p2 q2 c2 : Nat) (e mn mx e2 mn2 mx2 : Int) (h h2 : Bool) (xs ys ls : List Int) (A D LA : Option Addr) (ca cd lc : Nat) (kind to at_ n ref : Int) (oth : Bool) (w : World)
    (t : TabAt w p q c e mn mx h xs) (u : TabAt w p2 q2 c2 e2 mn2 mx2 h2 ys) (hca : xs.length ≤ ca) (hcd : ys.length ≤ cd) (hlc : ls.length ≤ lc) (hll : ls.length ≤ 1048576)
    (HA : Hid (∀ X, Fr (Two p q) w X → Rd X w.heap.size A (Us xs))) (HD : Hid (∀ X, Fr (Two p q) w X → Rd X w.heap.size D (Us ys))) (HL : Hid (∀ X, Fr (Two p q) w X → Rd X w.heap.size LA (Us ls)))
    (k0 : 0 ≤ kind) (k1 : kind ≤ 255) (t0 : 0 ≤ to) (t1 : to < 18446744073709551616) (a0 : 0 ≤ at_) (a1 : at_ < 18446744073709551616) (n0 : 0 ≤ n) (n1 : n < 18446744073709551616) (hk : kind % 6 = 0) :
    Calls Try.prog 22 #[.pointer (some ⟨p, 0, none⟩), .pointer (some ⟨p2, 0, none⟩), .agg #[.int .i64 e, .int .i64 mn, .int .i64 mx, .bool h, .slice A xs.length ca], .agg #[.int .i64 e2, .int .i64 mn2, .int .i64 mx2, .bool h2, .slice D ys.length cd], .agg #[.int .u8 kind, .bool oth, .int .u64 to, .int .u64 at_, .int .u64 n, .int .u64 ref, .slice LA ls.length lc]] w (DoesTo p q e mn mx h A w) := by
  have F0 : Fr (Two p q) w ((((w.alloc (.cells #[.int .i64 e, .int .i64 mn, .int .i64 mx, .bool h, .slice A xs.length ca] 51)).alloc (.cells #[.int .i64 e2, .int .i64 mn2, .int .i64 mx2, .bool h2, .slice D ys.length cd] 51)).alloc (.cells #[.int .u8 kind, .bool oth, .int .u64 to, .int .u64 at_, .int .u64 n, .int .u64 ref, .slice LA ls.length lc] 55)).alloc (.cells #[.int .i64 0, .int .i64 0, .int .i64 0, .bool false, .slice none 0 0] 51)) := (((((Fr.refl (Two p q) w).alloc _).alloc _).alloc _).alloc _)
  have pl : p < w.heap.size := t.blk.lt
  have ql : q < w.heap.size := t.own.lt
  have T0 := t.fr ((((((Fr.refl No w).alloc (.cells #[.int .i64 e, .int .i64 mn, .int .i64 mx, .bool h, .slice A xs.length ca] 51)).alloc (.cells #[.int .i64 e2, .int .i64 mn2, .int .i64 mx2, .bool h2, .slice D ys.length cd] 51)).alloc (.cells #[.int .u8 kind, .bool oth, .int .u64 to, .int .u64 at_, .int .u64 n, .int .u64 ref, .slice LA ls.length lc] 55)).alloc (.cells #[.int .i64 0, .int .i64 0, .int .i64 0, .bool false, .slice none 0 0] 51))) (fun x => x) (fun x => x)
  have U0 := u.fr ((((((Fr.refl No w).alloc (.cells #[.int .i64 e, .int .i64 mn, .int .i64 mx, .bool h, .slice A xs.length ca] 51)).alloc (.cells #[.int .i64 e2, .int .i64 mn2, .int .i64 mx2, .bool h2, .slice D ys.length cd] 51)).alloc (.cells #[.int .u8 kind, .bool oth, .int .u64 to, .int .u64 at_, .int .u64 n, .int .u64 ref, .slice LA ls.length lc] 55)).alloc (.cells #[.int .i64 0, .int .i64 0, .int .i64 0, .bool false, .slice none 0 0] 51))) (fun x => x) (fun x => x)
  have BA := hid ((((Blk.new w 51 #[.int .i64 e, .int .i64 mn, .int .i64 mx, .bool h, .slice A xs.length ca]).alloc (.cells #[.int .i64 e2, .int .i64 mn2, .int .i64 mx2, .bool h2, .slice D ys.length cd] 51)).alloc (.cells #[.int .u8 kind, .bool oth, .int .u64 to, .int .u64 at_, .int .u64 n, .int .u64 ref, .slice LA ls.length lc] 55)).alloc (.cells #[.int .i64 0, .int .i64 0, .int .i64 0, .bool false, .slice none 0 0] 51))
  have BB := hid (((Blk.new1 w (.cells #[.int .i64 e, .int .i64 mn, .int .i64 mx, .bool h, .slice A xs.length ca] 51) 51 #[.int .i64 e2, .int .i64 mn2, .int .i64 mx2, .bool h2, .slice D ys.length cd]).alloc (.cells #[.int .u8 kind, .bool oth, .int .u64 to, .int .u64 at_, .int .u64 n, .int .u64 ref, .slice LA ls.length lc] 55)).alloc (.cells #[.int .i64 0, .int .i64 0, .int .i64 0, .bool false, .slice none 0 0] 51))
  have BX := hid ((Blk.new2 w (.cells #[.int .i64 e, .int .i64 mn, .int .i64 mx, .bool h, .slice A xs.length ca] 51) (.cells #[.int .i64 e2, .int .i64 mn2, .int .i64 mx2, .bool h2, .slice D ys.length cd] 51) 55 #[.int .u8 kind, .bool oth, .int .u64 to, .int .u64 at_, .int .u64 n, .int .u64 ref, .slice LA ls.length lc]).alloc (.cells #[.int .i64 0, .int .i64 0, .int .i64 0, .bool false, .slice none 0 0] 51))
  have BR := hid (Blk.new3 w (.cells #[.int .i64 e, .int .i64 mn, .int .i64 mx, .bool h, .slice A xs.length ca] 51) (.cells #[.int .i64 e2, .int .i64 mn2, .int .i64 mx2, .bool h2, .slice D ys.length cd] 51) (.cells #[.int .u8 kind, .bool oth, .int .u64 to, .int .u64 at_, .int .u64 n, .int .u64 ref, .slice LA ls.length lc] 55) 51 #[.int .i64 0, .int .i64 0, .int .i64 0, .bool false, .slice none 0 0])
  have C1 := hid (get_all T0 to t0)
  have C2 : Hid (∀ X, Fr (Two p q) w X → w.heap.size ≤ X.heap.size → Calls Try.prog 32 #[.agg #[.int .i64 e, .int .i64 mn, .int .i64 mx, .bool h, .slice A xs.length ca], .int .u64 to] X fun e' w' => e' = .returned (.tuple #[.int .u64 (getS xs to).1, .int .i64 (getS xs to).2]) ∧ Fr No X w') := fun X hX hs => rget_all e mn mx h A xs ca X to t.len ((HA.out X hX).more hs) t0 t1
  have FF := hid F0
  have TP := hid t
  have TT := hid T0
  have HA' := HA
  clear T0 U0 F0 t u HA HD HL
  generalize getS xs to = S at *
  obtain ⟨sr, st⟩ := S
  have k0' : ((kind % 6 : Int) == 0) = true := by simp; omega
  clear hk
  go_enter Try.func22, Try.ntmps22
  go_wp2_with fail
  generalize (((w.alloc (.cells #[.int .i64 e, .int .i64 mn, .int .i64 mx, .bool h, .slice A xs.length ca] 51)).alloc (.cells #[.int .i64 e2, .int .i64 mn2, .int .i64 mx2, .bool h2, .slice D ys.length cd] 51)).alloc (.cells #[.int .u8 kind, .bool oth, .int .u64 to, .int .u64 at_, .int .u64 n, .int .u64 ref, .slice LA ls.length lc] 55)).alloc (.cells #[.int .i64 0, .int .i64 0, .int .i64 0, .bool false, .slice none 0 0] 51) = W at *
  have hW4 : w.heap.size + 3 < W.heap.size := BR.out.lt
  refine C1.out.mono ?_
  rintro e1 w1 ⟨rfl, f1⟩
  have F1 := hid f1
  have BX1 := hid (BX.out.fr f1 (fun x => x))
  have BA1 := hid (BA.out.fr f1 (fun x => x))
  have BR1 := hid (BR.out.fr f1 (fun x => x))
  have FA := hid (FF.out.trans f1 (fun _ _ h => h.elim))
  have sz1 := f1.size
  obtain ⟨a0', a1', a2', a3', a4'⟩ := five BA1.out
  obtain ⟨x0, x1, x2, x3, x4, x5, x6⟩ := seven BX1.out
  clear f1 C1 BX BA BB BR
  go_wp2_with fail
  refine (C2.out _ FA.out (by omega)).mono ?_
  rintro e2' w2 ⟨rfl, f2⟩
  have F2 := hid f2
  have BR2 := hid (BR1.out.fr f2 (fun x => x))
  have BA2 := hid (BA1.out.fr f2 (fun x => x))
  clear f2 C2 a0' a1' a2' a3' a4' x0 x1 x2 x3 x4 x5 x6
  obtain ⟨a0', a1', a2', a3', a4'⟩ := five BA2.out
  obtain ⟨r0, r1, r2, r3, r4⟩ := five BR2.out
  obtain ⟨z0, z1, z2, z3, z4⟩ := fz BR2.out
  go_wp2_with fail
  refine bodyPost_ret (v := .tuple #[.agg #[.int .i64 e, .int .i64 mn, .int .i64 mx, .bool h, .slice A xs.length ca], .bool true]) (by simp [results, Try.results22, go_sem, *]) rfl ?_
  exact does_end0 TP.out pl ql hW4 FF.out F1.out F2.out TT.out hca HA'.out

set_option maxHeartbeats 1600000 in
set_option maxRecDepth 100000 in
theorem does_1 (p q c p2 q2 c2 : Nat) (e mn mx e2 mn2 mx2 : Int) (h h2 : Bool) (xs ys ls : List Int) (A D LA : Option Addr) (ca cd lc : Nat) (kind to at_ n ref : Int) (oth : Bool) (w : World)
    (t : TabAt w p q c e mn mx h xs) (u : TabAt w p2 q2 c2 e2 mn2 mx2 h2 ys) (hca : xs.length ≤ ca) (hcd : ys.length ≤ cd) (hlc : ls.length ≤ lc) (hll : ls.length ≤ 1048576)
    (HA : Hid (∀ X, Fr (Two p q) w X → Rd X w.heap.size A (Us xs))) (HD : Hid (∀ X, Fr (Two p q) w X → Rd X w.heap.size D (Us ys))) (HL : Hid (∀ X, Fr (Two p q) w X → Rd X w.heap.size LA (Us ls)))
    (k0 : 0 ≤ kind) (k1 : kind ≤ 255) (t0 : 0 ≤ to) (t1 : to < 18446744073709551616) (a0 : 0 ≤ at_) (a1 : at_ < 18446744073709551616) (n0 : 0 ≤ n) (n1 : n < 18446744073709551616) (hk : kind % 6 = 1) :
    Calls Try.prog 22 #[.pointer (some ⟨p, 0, none⟩), .pointer (some ⟨p2, 0, none⟩), .agg #[.int .i64 e, .int .i64 mn, .int .i64 mx, .bool h, .slice A xs.length ca], .agg #[.int .i64 e2, .int .i64 mn2, .int .i64 mx2, .bool h2, .slice D ys.length cd], .agg #[.int .u8 kind, .bool oth, .int .u64 to, .int .u64 at_, .int .u64 n, .int .u64 ref, .slice LA ls.length lc]] w (DoesTo p q e mn mx h A w) := by
  have F0 : Fr (Two p q) w ((((w.alloc (.cells #[.int .i64 e, .int .i64 mn, .int .i64 mx, .bool h, .slice A xs.length ca] 51)).alloc (.cells #[.int .i64 e2, .int .i64 mn2, .int .i64 mx2, .bool h2, .slice D ys.length cd] 51)).alloc (.cells #[.int .u8 kind, .bool oth, .int .u64 to, .int .u64 at_, .int .u64 n, .int .u64 ref, .slice LA ls.length lc] 55)).alloc (.cells #[.int .i64 0, .int .i64 0, .int .i64 0, .bool false, .slice none 0 0] 51)) := (((((Fr.refl (Two p q) w).alloc _).alloc _).alloc _).alloc _)
  have pl : p < w.heap.size := t.blk.lt
  have ql : q < w.heap.size := t.own.lt
  have T0 := t.fr ((((((Fr.refl No w).alloc (.cells #[.int .i64 e, .int .i64 mn, .int .i64 mx, .bool h, .slice A xs.length ca] 51)).alloc (.cells #[.int .i64 e2, .int .i64 mn2, .int .i64 mx2, .bool h2, .slice D ys.length cd] 51)).alloc (.cells #[.int .u8 kind, .bool oth, .int .u64 to, .int .u64 at_, .int .u64 n, .int .u64 ref, .slice LA ls.length lc] 55)).alloc (.cells #[.int .i64 0, .int .i64 0, .int .i64 0, .bool false, .slice none 0 0] 51))) (fun x => x) (fun x => x)
  have U0 := u.fr ((((((Fr.refl No w).alloc (.cells #[.int .i64 e, .int .i64 mn, .int .i64 mx, .bool h, .slice A xs.length ca] 51)).alloc (.cells #[.int .i64 e2, .int .i64 mn2, .int .i64 mx2, .bool h2, .slice D ys.length cd] 51)).alloc (.cells #[.int .u8 kind, .bool oth, .int .u64 to, .int .u64 at_, .int .u64 n, .int .u64 ref, .slice LA ls.length lc] 55)).alloc (.cells #[.int .i64 0, .int .i64 0, .int .i64 0, .bool false, .slice none 0 0] 51))) (fun x => x) (fun x => x)
  have BA := hid ((((Blk.new w 51 #[.int .i64 e, .int .i64 mn, .int .i64 mx, .bool h, .slice A xs.length ca]).alloc (.cells #[.int .i64 e2, .int .i64 mn2, .int .i64 mx2, .bool h2, .slice D ys.length cd] 51)).alloc (.cells #[.int .u8 kind, .bool oth, .int .u64 to, .int .u64 at_, .int .u64 n, .int .u64 ref, .slice LA ls.length lc] 55)).alloc (.cells #[.int .i64 0, .int .i64 0, .int .i64 0, .bool false, .slice none 0 0] 51))
  have BB := hid (((Blk.new1 w (.cells #[.int .i64 e, .int .i64 mn, .int .i64 mx, .bool h, .slice A xs.length ca] 51) 51 #[.int .i64 e2, .int .i64 mn2, .int .i64 mx2, .bool h2, .slice D ys.length cd]).alloc (.cells #[.int .u8 kind, .bool oth, .int .u64 to, .int .u64 at_, .int .u64 n, .int .u64 ref, .slice LA ls.length lc] 55)).alloc (.cells #[.int .i64 0, .int .i64 0, .int .i64 0, .bool false, .slice none 0 0] 51))
  have BX := hid ((Blk.new2 w (.cells #[.int .i64 e, .int .i64 mn, .int .i64 mx, .bool h, .slice A xs.length ca] 51) (.cells #[.int .i64 e2, .int .i64 mn2, .int .i64 mx2, .bool h2, .slice D ys.length cd] 51) 55 #[.int .u8 kind, .bool oth, .int .u64 to, .int .u64 at_, .int .u64 n, .int .u64 ref, .slice LA ls.length lc]).alloc (.cells #[.int .i64 0, .int .i64 0, .int .i64 0, .bool false, .slice none 0 0] 51))
  have BR := hid (Blk.new3 w (.cells #[.int .i64 e, .int .i64 mn, .int .i64 mx, .bool h, .slice A xs.length ca] 51) (.cells #[.int .i64 e2, .int .i64 mn2, .int .i64 mx2, .bool h2, .slice D ys.length cd] 51) (.cells #[.int .u8 kind, .bool oth, .int .u64 to, .int .u64 at_, .int .u64 n, .int .u64 ref, .slice LA ls.length lc] 55) 51 #[.int .i64 0, .int .i64 0, .int .i64 0, .bool false, .slice none 0 0])
  have C1 := hid (set_all T0 to ref t0)
  have C2 : Hid (∀ X, Fr (Two p q) w X → w.heap.size ≤ X.heap.size → Calls Try.prog 33 #[.agg #[.int .i64 e, .int .i64 mn, .int .i64 mx, .bool h, .slice A xs.length ca], .int .u64 to, .int .u64 ref] X (RTo e mn mx h w.heap.size A (setS xs to ref).2 (.int .i64 (setS xs to ref).1) X)) := fun X hX hs => rset_all e mn mx h A xs ca X to ref t.len hca (HA.out X hX) hs t0 t1
  have FF := hid F0
  have TP := hid t
  clear T0 U0 F0 t u HA HD HL
  generalize setS xs to ref = S at *
  obtain ⟨sr, zs⟩ := S
  have k0' : ((kind % 6 : Int) == 0) = false := by simp; omega
  have k1' : ((kind % 6 : Int) == 1) = true := by simp; omega
  clear hk
  go_enter Try.func22, Try.ntmps22
  go_wp2_with fail
  generalize (((w.alloc (.cells #[.int .i64 e, .int .i64 mn, .int .i64 mx, .bool h, .slice A xs.length ca] 51)).alloc (.cells #[.int .i64 e2, .int .i64 mn2, .int .i64 mx2, .bool h2, .slice D ys.length cd] 51)).alloc (.cells #[.int .u8 kind, .bool oth, .int .u64 to, .int .u64 at_, .int .u64 n, .int .u64 ref, .slice LA ls.length lc] 55)).alloc (.cells #[.int .i64 0, .int .i64 0, .int .i64 0, .bool false, .slice none 0 0] 51) = W at *
  have hW4 : w.heap.size + 3 < W.heap.size := BR.out.lt
  refine C1.out.mono ?_
  rintro e1 w1 ⟨rfl, T1, f1⟩
  have F1 : Hid (Fr (Two p q) W w1) := f1.mono (fun i hi h => .inr h)
  have TT := hid T1
  have BX1 := hid (BX.out.fr F1.out (fun h => by rcases h with h | h <;> omega))
  have BA1 := hid (BA.out.fr F1.out (fun h => by rcases h with h | h <;> omega))
  have BB1 := hid (BB.out.fr F1.out (fun h => by rcases h with h | h <;> omega))
  have BR1 := hid (BR.out.fr F1.out (fun h => by rcases h with h | h <;> omega))
  have FA := hid (FF.out.trans F1.out (fun _ _ h => h))
  have sz1 := F1.out.size
  obtain ⟨a0', a1', a2', a3', a4'⟩ := five BA1.out
  obtain ⟨b0', b1', b2', b3', b4'⟩ := five BB1.out
  obtain ⟨x0, x1, x2, x3, x4, x5, x6⟩ := seven BX1.out
  clear T1 f1 C1 BX BA BB BR
  go_wp2_with fail
  refine (C2.out _ FA.out (by omega)).mono ?_
  rintro e2' w2 ⟨A2, c2', rfl, hc2, r2', f2, hA2⟩
  have HR2 := hid r2'
  have HA2 := hid hA2
  have F2 := hid f2
  have BR2 := hid (BR1.out.fr f2 (fun x => x))
  clear r2' f2 hA2 C2 a0' a1' a2' a3' a4' b0' b1' b2' b3' b4' x0 x1 x2 x3 x4 x5 x6
  obtain ⟨r0, r1, r2, r3, r4⟩ := five BR2.out
  obtain ⟨z0, z1, z2, z3, z4⟩ := fz BR2.out
  have hz1 : w.heap.size + 3 < w2.heap.size := BR2.out.lt
  go_wp2_with fail
  refine bodyPost_ret (v := .tuple #[.agg #[.int .i64 e, .int .i64 mn, .int .i64 mx, .bool h, .slice A2 zs.length c2'], .bool true]) (by simp [results, Try.results22, go_sem, *]) rfl ?_
  exact does_end TP.out pl ql (by omega) hW4 FF.out F1.out F2.out TT.out (.inl rfl) hc2 HR2.out HA2.out

set_option maxHeartbeats 1600000 in
set_option maxRecDepth 100000 in
theorem does_2 (p q c p2 q2 c2 : Nat) (e mn mx e2 mn2 mx2 : Int) (h h2 : Bool) (xs ys ls : List Int) (A D LA : Option Addr) (ca cd lc : Nat) (kind to at_ n ref : Int) (oth : Bool) (w : World)
    (t : TabAt w p q c e mn mx h xs) (u : TabAt w p2 q2 c2 e2 mn2 mx2 h2 ys) (hca : xs.length ≤ ca) (hcd : ys.length ≤ cd) (hlc : ls.length ≤ lc) (hll : ls.length ≤ 1048576)
    (HA : Hid (∀ X, Fr (Two p q) w X → Rd X w.heap.size A (Us xs))) (HD : Hid (∀ X, Fr (Two p q) w X → Rd X w.heap.size D (Us ys))) (HL : Hid (∀ X, Fr (Two p q) w X → Rd X w.heap.size LA (Us ls)))
    (k0 : 0 ≤ kind) (k1 : kind ≤ 255) (t0 : 0 ≤ to) (t1 : to < 18446744073709551616) (a0 : 0 ≤ at_) (a1 : at_ < 18446744073709551616) (n0 : 0 ≤ n) (n1 : n < 18446744073709551616) (hk : kind % 6 = 2) :
    Calls Try.prog 22 #[.pointer (some ⟨p, 0, none⟩), .pointer (some ⟨p2, 0, none⟩), .agg #[.int .i64 e, .int .i64 mn, .int .i64 mx, .bool h, .slice A xs.length ca], .agg #[.int .i64 e2, .int .i64 mn2, .int .i64 mx2, .bool h2, .slice D ys.length cd], .agg #[.int .u8 kind, .bool oth, .int .u64 to, .int .u64 at_, .int .u64 n, .int .u64 ref, .slice LA ls.length lc]] w (DoesTo p q e mn mx h A w) := by
  have F0 : Fr (Two p q) w ((((w.alloc (.cells #[.int .i64 e, .int .i64 mn, .int .i64 mx, .bool h, .slice A xs.length ca] 51)).alloc (.cells #[.int .i64 e2, .int .i64 mn2, .int .i64 mx2, .bool h2, .slice D ys.length cd] 51)).alloc (.cells #[.int .u8 kind, .bool oth, .int .u64 to, .int .u64 at_, .int .u64 n, .int .u64 ref, .slice LA ls.length lc] 55)).alloc (.cells #[.int .i64 0, .int .i64 0, .int .i64 0, .bool false, .slice none 0 0] 51)) := (((((Fr.refl (Two p q) w).alloc _).alloc _).alloc _).alloc _)
  have pl : p < w.heap.size := t.blk.lt
  have ql : q < w.heap.size := t.own.lt
  have T0 := t.fr ((((((Fr.refl No w).alloc (.cells #[.int .i64 e, .int .i64 mn, .int .i64 mx, .bool h, .slice A xs.length ca] 51)).alloc (.cells #[.int .i64 e2, .int .i64 mn2, .int .i64 mx2, .bool h2, .slice D ys.length cd] 51)).alloc (.cells #[.int .u8 kind, .bool oth, .int .u64 to, .int .u64 at_, .int .u64 n, .int .u64 ref, .slice LA ls.length lc] 55)).alloc (.cells #[.int .i64 0, .int .i64 0, .int .i64 0, .bool false, .slice none 0 0] 51))) (fun x => x) (fun x => x)
  have U0 := u.fr ((((((Fr.refl No w).alloc (.cells #[.int .i64 e, .int .i64 mn, .int .i64 mx, .bool h, .slice A xs.length ca] 51)).alloc (.cells #[.int .i64 e2, .int .i64 mn2, .int .i64 mx2, .bool h2, .slice D ys.length cd] 51)).alloc (.cells #[.int .u8 kind, .bool oth, .int .u64 to, .int .u64 at_, .int .u64 n, .int .u64 ref, .slice LA ls.length lc] 55)).alloc (.cells #[.int .i64 0, .int .i64 0, .int .i64 0, .bool false, .slice none 0 0] 51))) (fun x => x) (fun x => x)
  have BA := hid ((((Blk.new w 51 #[.int .i64 e, .int .i64 mn, .int .i64 mx, .bool h, .slice A xs.length ca]).alloc (.cells #[.int .i64 e2, .int .i64 mn2, .int .i64 mx2, .bool h2, .slice D ys.length cd] 51)).alloc (.cells #[.int .u8 kind, .bool oth, .int .u64 to, .int .u64 at_, .int .u64 n, .int .u64 ref, .slice LA ls.length lc] 55)).alloc (.cells #[.int .i64 0, .int .i64 0, .int .i64 0, .bool false, .slice none 0 0] 51))
  have BB := hid (((Blk.new1 w (.cells #[.int .i64 e, .int .i64 mn, .int .i64 mx, .bool h, .slice A xs.length ca] 51) 51 #[.int .i64 e2, .int .i64 mn2, .int .i64 mx2, .bool h2, .slice D ys.length cd]).alloc (.cells #[.int .u8 kind, .bool oth, .int .u64 to, .int .u64 at_, .int .u64 n, .int .u64 ref, .slice LA ls.length lc] 55)).alloc (.cells #[.int .i64 0, .int .i64 0, .int .i64 0, .bool false, .slice none 0 0] 51))
  have BX := hid ((Blk.new2 w (.cells #[.int .i64 e, .int .i64 mn, .int .i64 mx, .bool h, .slice A xs.length ca] 51) (.cells #[.int .i64 e2, .int .i64 mn2, .int .i64 mx2, .bool h2, .slice D ys.length cd] 51) 55 #[.int .u8 kind, .bool oth, .int .u64 to, .int .u64 at_, .int .u64 n, .int .u64 ref, .slice LA ls.length lc]).alloc (.cells #[.int .i64 0, .int .i64 0, .int .i64 0, .bool false, .slice none 0 0] 51))
  have BR := hid (Blk.new3 w (.cells #[.int .i64 e, .int .i64 mn, .int .i64 mx, .bool h, .slice A xs.length ca] 51) (.cells #[.int .i64 e2, .int .i64 mn2, .int .i64 mx2, .bool h2, .slice D ys.length cd] 51) (.cells #[.int .u8 kind, .bool oth, .int .u64 to, .int .u64 at_, .int .u64 n, .int .u64 ref, .slice LA ls.length lc] 55) 51 #[.int .i64 0, .int .i64 0, .int .i64 0, .bool false, .slice none 0 0])
  have C1 := hid (grow_all T0 n ref n0)
  have C2 : Hid (∀ X, Fr (Two p q) w X → w.heap.size ≤ X.heap.size → Calls Try.prog 34 #[.agg #[.int .i64 e, .int .i64 mn, .int .i64 mx, .bool h, .slice A xs.length ca], .int .u64 n, .int .u64 ref] X (RTo e mn mx h w.heap.size A (growS mx h xs n ref).2 (.int .u64 (growS mx h xs n ref).1) X)) := fun X hX hs => rgrow_all e mn mx h A xs ca X n ref t.len hca (most_bd t) (HA.out X hX) hs n0 n1
  have FF := hid F0
  have TP := hid t
  clear T0 U0 F0 t u HA HD HL
  generalize growS mx h xs n ref = S at *
  obtain ⟨sr, zs⟩ := S
  have k0' : ((kind % 6 : Int) == 0) = false := by simp; omega
  have k1' : ((kind % 6 : Int) == 1) = false := by simp; omega
  have k2' : ((kind % 6 : Int) == 2) = true := by simp; omega
  clear hk
  go_enter Try.func22, Try.ntmps22
  go_wp2_with fail
  generalize (((w.alloc (.cells #[.int .i64 e, .int .i64 mn, .int .i64 mx, .bool h, .slice A xs.length ca] 51)).alloc (.cells #[.int .i64 e2, .int .i64 mn2, .int .i64 mx2, .bool h2, .slice D ys.length cd] 51)).alloc (.cells #[.int .u8 kind, .bool oth, .int .u64 to, .int .u64 at_, .int .u64 n, .int .u64 ref, .slice LA ls.length lc] 55)).alloc (.cells #[.int .i64 0, .int .i64 0, .int .i64 0, .bool false, .slice none 0 0] 51) = W at *
  have hW4 : w.heap.size + 3 < W.heap.size := BR.out.lt
  refine C1.out.mono ?_
  rintro e1 w1 ⟨rfl, q', c', T1, f1, hq1⟩
  have F1 : Hid (Fr (Two p q) W w1) := f1
  have TT := hid T1
  have QQ := hid hq1
  have BX1 := hid (BX.out.fr F1.out (fun h => by rcases h with h | h <;> omega))
  have BA1 := hid (BA.out.fr F1.out (fun h => by rcases h with h | h <;> omega))
  have BB1 := hid (BB.out.fr F1.out (fun h => by rcases h with h | h <;> omega))
  have BR1 := hid (BR.out.fr F1.out (fun h => by rcases h with h | h <;> omega))
  have FA := hid (FF.out.trans F1.out (fun _ _ h => h))
  have sz1 := F1.out.size
  obtain ⟨a0', a1', a2', a3', a4'⟩ := five BA1.out
  obtain ⟨b0', b1', b2', b3', b4'⟩ := five BB1.out
  obtain ⟨x0, x1, x2, x3, x4, x5, x6⟩ := seven BX1.out
  clear T1 f1 hq1 C1 BX BA BB BR
  go_wp2_with fail
  refine (C2.out _ FA.out (by omega)).mono ?_
  rintro e2' w2 ⟨A2, c2', rfl, hc2, r2', f2, hA2⟩
  have HR2 := hid r2'
  have HA2 := hid hA2
  have F2 := hid f2
  have BR2 := hid (BR1.out.fr f2 (fun x => x))
  clear r2' f2 hA2 C2 a0' a1' a2' a3' a4' b0' b1' b2' b3' b4' x0 x1 x2 x3 x4 x5 x6
  obtain ⟨r0, r1, r2, r3, r4⟩ := five BR2.out
  obtain ⟨z0, z1, z2, z3, z4⟩ := fz BR2.out
  have hz1 : w.heap.size + 3 < w2.heap.size := BR2.out.lt
  go_wp2_with fail
  refine bodyPost_ret (v := .tuple #[.agg #[.int .i64 e, .int .i64 mn, .int .i64 mx, .bool h, .slice A2 zs.length c2'], .bool true]) (by simp [results, Try.results22, go_sem, *]) rfl ?_
  exact does_end TP.out pl ql (by omega) hW4 FF.out F1.out F2.out TT.out QQ.out hc2 HR2.out HA2.out

set_option maxHeartbeats 1600000 in
set_option maxRecDepth 100000 in
theorem does_3 (p q c p2 q2 c2 : Nat) (e mn mx e2 mn2 mx2 : Int) (h h2 : Bool) (xs ys ls : List Int) (A D LA : Option Addr) (ca cd lc : Nat) (kind to at_ n ref : Int) (oth : Bool) (w : World)
    (t : TabAt w p q c e mn mx h xs) (u : TabAt w p2 q2 c2 e2 mn2 mx2 h2 ys) (hca : xs.length ≤ ca) (hcd : ys.length ≤ cd) (hlc : ls.length ≤ lc) (hll : ls.length ≤ 1048576)
    (HA : Hid (∀ X, Fr (Two p q) w X → Rd X w.heap.size A (Us xs))) (HD : Hid (∀ X, Fr (Two p q) w X → Rd X w.heap.size D (Us ys))) (HL : Hid (∀ X, Fr (Two p q) w X → Rd X w.heap.size LA (Us ls)))
    (k0 : 0 ≤ kind) (k1 : kind ≤ 255) (t0 : 0 ≤ to) (t1 : to < 18446744073709551616) (a0 : 0 ≤ at_) (a1 : at_ < 18446744073709551616) (n0 : 0 ≤ n) (n1 : n < 18446744073709551616) (hk : kind % 6 = 3) :
    Calls Try.prog 22 #[.pointer (some ⟨p, 0, none⟩), .pointer (some ⟨p2, 0, none⟩), .agg #[.int .i64 e, .int .i64 mn, .int .i64 mx, .bool h, .slice A xs.length ca], .agg #[.int .i64 e2, .int .i64 mn2, .int .i64 mx2, .bool h2, .slice D ys.length cd], .agg #[.int .u8 kind, .bool oth, .int .u64 to, .int .u64 at_, .int .u64 n, .int .u64 ref, .slice LA ls.length lc]] w (DoesTo p q e mn mx h A w) := by
  have F0 : Fr (Two p q) w ((((w.alloc (.cells #[.int .i64 e, .int .i64 mn, .int .i64 mx, .bool h, .slice A xs.length ca] 51)).alloc (.cells #[.int .i64 e2, .int .i64 mn2, .int .i64 mx2, .bool h2, .slice D ys.length cd] 51)).alloc (.cells #[.int .u8 kind, .bool oth, .int .u64 to, .int .u64 at_, .int .u64 n, .int .u64 ref, .slice LA ls.length lc] 55)).alloc (.cells #[.int .i64 0, .int .i64 0, .int .i64 0, .bool false, .slice none 0 0] 51)) := (((((Fr.refl (Two p q) w).alloc _).alloc _).alloc _).alloc _)
  have pl : p < w.heap.size := t.blk.lt
  have ql : q < w.heap.size := t.own.lt
  have T0 := t.fr ((((((Fr.refl No w).alloc (.cells #[.int .i64 e, .int .i64 mn, .int .i64 mx, .bool h, .slice A xs.length ca] 51)).alloc (.cells #[.int .i64 e2, .int .i64 mn2, .int .i64 mx2, .bool h2, .slice D ys.length cd] 51)).alloc (.cells #[.int .u8 kind, .bool oth, .int .u64 to, .int .u64 at_, .int .u64 n, .int .u64 ref, .slice LA ls.length lc] 55)).alloc (.cells #[.int .i64 0, .int .i64 0, .int .i64 0, .bool false, .slice none 0 0] 51))) (fun x => x) (fun x => x)
  have U0 := u.fr ((((((Fr.refl No w).alloc (.cells #[.int .i64 e, .int .i64 mn, .int .i64 mx, .bool h, .slice A xs.length ca] 51)).alloc (.cells #[.int .i64 e2, .int .i64 mn2, .int .i64 mx2, .bool h2, .slice D ys.length cd] 51)).alloc (.cells #[.int .u8 kind, .bool oth, .int .u64 to, .int .u64 at_, .int .u64 n, .int .u64 ref, .slice LA ls.length lc] 55)).alloc (.cells #[.int .i64 0, .int .i64 0, .int .i64 0, .bool false, .slice none 0 0] 51))) (fun x => x) (fun x => x)
  have BA := hid ((((Blk.new w 51 #[.int .i64 e, .int .i64 mn, .int .i64 mx, .bool h, .slice A xs.length ca]).alloc (.cells #[.int .i64 e2, .int .i64 mn2, .int .i64 mx2, .bool h2, .slice D ys.length cd] 51)).alloc (.cells #[.int .u8 kind, .bool oth, .int .u64 to, .int .u64 at_, .int .u64 n, .int .u64 ref, .slice LA ls.length lc] 55)).alloc (.cells #[.int .i64 0, .int .i64 0, .int .i64 0, .bool false, .slice none 0 0] 51))
  have BB := hid (((Blk.new1 w (.cells #[.int .i64 e, .int .i64 mn, .int .i64 mx, .bool h, .slice A xs.length ca] 51) 51 #[.int .i64 e2, .int .i64 mn2, .int .i64 mx2, .bool h2, .slice D ys.length cd]).alloc (.cells #[.int .u8 kind, .bool oth, .int .u64 to, .int .u64 at_, .int .u64 n, .int .u64 ref, .slice LA ls.length lc] 55)).alloc (.cells #[.int .i64 0, .int .i64 0, .int .i64 0, .bool false, .slice none 0 0] 51))
  have BX := hid ((Blk.new2 w (.cells #[.int .i64 e, .int .i64 mn, .int .i64 mx, .bool h, .slice A xs.length ca] 51) (.cells #[.int .i64 e2, .int .i64 mn2, .int .i64 mx2, .bool h2, .slice D ys.length cd] 51) 55 #[.int .u8 kind, .bool oth, .int .u64 to, .int .u64 at_, .int .u64 n, .int .u64 ref, .slice LA ls.length lc]).alloc (.cells #[.int .i64 0, .int .i64 0, .int .i64 0, .bool false, .slice none 0 0] 51))
  have BR := hid (Blk.new3 w (.cells #[.int .i64 e, .int .i64 mn, .int .i64 mx, .bool h, .slice A xs.length ca] 51) (.cells #[.int .i64 e2, .int .i64 mn2, .int .i64 mx2, .bool h2, .slice D ys.length cd] 51) (.cells #[.int .u8 kind, .bool oth, .int .u64 to, .int .u64 at_, .int .u64 n, .int .u64 ref, .slice LA ls.length lc] 55) 51 #[.int .i64 0, .int .i64 0, .int .i64 0, .bool false, .slice none 0 0])
  have C1 := hid (fill_any T0 to ref n t0 n0)
  have C2 : Hid (∀ X, Fr (Two p q) w X → w.heap.size ≤ X.heap.size → Calls Try.prog 35 #[.agg #[.int .i64 e, .int .i64 mn, .int .i64 mx, .bool h, .slice A xs.length ca], .int .u64 to, .int .u64 ref, .int .u64 n] X (RTo e mn mx h w.heap.size A (fillS xs to ref n).2 (.int .i64 (fillS xs to ref n).1) X)) := fun X hX hs => rfill_all e mn mx h A xs ca X to ref n t.len hca (HA.out X hX) hs t0 t1 n0 n1
  have FF := hid F0
  have TP := hid t
  clear T0 U0 F0 t u HA HD HL
  generalize fillS xs to ref n = S at *
  obtain ⟨sr, zs⟩ := S
  have k0' : ((kind % 6 : Int) == 0) = false := by simp; omega
  have k1' : ((kind % 6 : Int) == 1) = false := by simp; omega
  have k2' : ((kind % 6 : Int) == 2) = false := by simp; omega
  have k3' : ((kind % 6 : Int) == 3) = true := by simp; omega
  clear hk
  go_enter Try.func22, Try.ntmps22
  go_wp2_with fail
  generalize (((w.alloc (.cells #[.int .i64 e, .int .i64 mn, .int .i64 mx, .bool h, .slice A xs.length ca] 51)).alloc (.cells #[.int .i64 e2, .int .i64 mn2, .int .i64 mx2, .bool h2, .slice D ys.length cd] 51)).alloc (.cells #[.int .u8 kind, .bool oth, .int .u64 to, .int .u64 at_, .int .u64 n, .int .u64 ref, .slice LA ls.length lc] 55)).alloc (.cells #[.int .i64 0, .int .i64 0, .int .i64 0, .bool false, .slice none 0 0] 51) = W at *
  have hW4 : w.heap.size + 3 < W.heap.size := BR.out.lt
  refine C1.out.mono ?_
  rintro e1 w1 ⟨rfl, T1, f1⟩
  have F1 : Hid (Fr (Two p q) W w1) := f1.mono (fun i hi h => .inr h)
  have TT := hid T1
  have BX1 := hid (BX.out.fr F1.out (fun h => by rcases h with h | h <;> omega))
  have BA1 := hid (BA.out.fr F1.out (fun h => by rcases h with h | h <;> omega))
  have BB1 := hid (BB.out.fr F1.out (fun h => by rcases h with h | h <;> omega))
  have BR1 := hid (BR.out.fr F1.out (fun h => by rcases h with h | h <;> omega))
  have FA := hid (FF.out.trans F1.out (fun _ _ h => h))
  have sz1 := F1.out.size
  obtain ⟨a0', a1', a2', a3', a4'⟩ := five BA1.out
  obtain ⟨b0', b1', b2', b3', b4'⟩ := five BB1.out
  obtain ⟨x0, x1, x2, x3, x4, x5, x6⟩ := seven BX1.out
  clear T1 f1 C1 BX BA BB BR
  go_wp2_with fail
  refine (C2.out _ FA.out (by omega)).mono ?_
  rintro e2' w2 ⟨A2, c2', rfl, hc2, r2', f2, hA2⟩
  have HR2 := hid r2'
  have HA2 := hid hA2
  have F2 := hid f2
  have BR2 := hid (BR1.out.fr f2 (fun x => x))
  clear r2' f2 hA2 C2 a0' a1' a2' a3' a4' b0' b1' b2' b3' b4' x0 x1 x2 x3 x4 x5 x6
  obtain ⟨r0, r1, r2, r3, r4⟩ := five BR2.out
  obtain ⟨z0, z1, z2, z3, z4⟩ := fz BR2.out
  have hz1 : w.heap.size + 3 < w2.heap.size := BR2.out.lt
  go_wp2_with fail
  refine bodyPost_ret (v := .tuple #[.agg #[.int .i64 e, .int .i64 mn, .int .i64 mx, .bool h, .slice A2 zs.length c2'], .bool true]) (by simp [results, Try.results22, go_sem, *]) rfl ?_
  exact does_end TP.out pl ql (by omega) hW4 FF.out F1.out F2.out TT.out (.inl rfl) hc2 HR2.out HA2.out

set_option maxHeartbeats 1600000 in
set_option maxRecDepth 100000 in
theorem does_4 (p q c p2 q2 c2 : Nat) (e mn mx e2 mn2 mx2 : Int) (h h2 : Bool) (xs ys ls : List Int) (A D LA : Option Addr) (ca cd lc : Nat) (kind to at_ n ref : Int) (oth : Bool) (w : World)
    (t : TabAt w p q c e mn mx h xs) (u : TabAt w p2 q2 c2 e2 mn2 mx2 h2 ys) (hca : xs.length ≤ ca) (hcd : ys.length ≤ cd) (hlc : ls.length ≤ lc) (hll : ls.length ≤ 1048576)
    (HA : Hid (∀ X, Fr (Two p q) w X → Rd X w.heap.size A (Us xs))) (HD : Hid (∀ X, Fr (Two p q) w X → Rd X w.heap.size D (Us ys))) (HL : Hid (∀ X, Fr (Two p q) w X → Rd X w.heap.size LA (Us ls)))
    (k0 : 0 ≤ kind) (k1 : kind ≤ 255) (t0 : 0 ≤ to) (t1 : to < 18446744073709551616) (a0 : 0 ≤ at_) (a1 : at_ < 18446744073709551616) (n0 : 0 ≤ n) (n1 : n < 18446744073709551616) (hk : kind % 6 = 4) :
    Calls Try.prog 22 #[.pointer (some ⟨p, 0, none⟩), .pointer (some ⟨p2, 0, none⟩), .agg #[.int .i64 e, .int .i64 mn, .int .i64 mx, .bool h, .slice A xs.length ca], .agg #[.int .i64 e2, .int .i64 mn2, .int .i64 mx2, .bool h2, .slice D ys.length cd], .agg #[.int .u8 kind, .bool oth, .int .u64 to, .int .u64 at_, .int .u64 n, .int .u64 ref, .slice LA ls.length lc]] w (DoesTo p q e mn mx h A w) := by
  have F0 : Fr (Two p q) w ((((w.alloc (.cells #[.int .i64 e, .int .i64 mn, .int .i64 mx, .bool h, .slice A xs.length ca] 51)).alloc (.cells #[.int .i64 e2, .int .i64 mn2, .int .i64 mx2, .bool h2, .slice D ys.length cd] 51)).alloc (.cells #[.int .u8 kind, .bool oth, .int .u64 to, .int .u64 at_, .int .u64 n, .int .u64 ref, .slice LA ls.length lc] 55)).alloc (.cells #[.int .i64 0, .int .i64 0, .int .i64 0, .bool false, .slice none 0 0] 51)) := (((((Fr.refl (Two p q) w).alloc _).alloc _).alloc _).alloc _)
  have pl : p < w.heap.size := t.blk.lt
  have ql : q < w.heap.size := t.own.lt
  have T0 := t.fr ((((((Fr.refl No w).alloc (.cells #[.int .i64 e, .int .i64 mn, .int .i64 mx, .bool h, .slice A xs.length ca] 51)).alloc (.cells #[.int .i64 e2, .int .i64 mn2, .int .i64 mx2, .bool h2, .slice D ys.length cd] 51)).alloc (.cells #[.int .u8 kind, .bool oth, .int .u64 to, .int .u64 at_, .int .u64 n, .int .u64 ref, .slice LA ls.length lc] 55)).alloc (.cells #[.int .i64 0, .int .i64 0, .int .i64 0, .bool false, .slice none 0 0] 51))) (fun x => x) (fun x => x)
  have U0 := u.fr ((((((Fr.refl No w).alloc (.cells #[.int .i64 e, .int .i64 mn, .int .i64 mx, .bool h, .slice A xs.length ca] 51)).alloc (.cells #[.int .i64 e2, .int .i64 mn2, .int .i64 mx2, .bool h2, .slice D ys.length cd] 51)).alloc (.cells #[.int .u8 kind, .bool oth, .int .u64 to, .int .u64 at_, .int .u64 n, .int .u64 ref, .slice LA ls.length lc] 55)).alloc (.cells #[.int .i64 0, .int .i64 0, .int .i64 0, .bool false, .slice none 0 0] 51))) (fun x => x) (fun x => x)
  have BA := hid ((((Blk.new w 51 #[.int .i64 e, .int .i64 mn, .int .i64 mx, .bool h, .slice A xs.length ca]).alloc (.cells #[.int .i64 e2, .int .i64 mn2, .int .i64 mx2, .bool h2, .slice D ys.length cd] 51)).alloc (.cells #[.int .u8 kind, .bool oth, .int .u64 to, .int .u64 at_, .int .u64 n, .int .u64 ref, .slice LA ls.length lc] 55)).alloc (.cells #[.int .i64 0, .int .i64 0, .int .i64 0, .bool false, .slice none 0 0] 51))
  have BB := hid (((Blk.new1 w (.cells #[.int .i64 e, .int .i64 mn, .int .i64 mx, .bool h, .slice A xs.length ca] 51) 51 #[.int .i64 e2, .int .i64 mn2, .int .i64 mx2, .bool h2, .slice D ys.length cd]).alloc (.cells #[.int .u8 kind, .bool oth, .int .u64 to, .int .u64 at_, .int .u64 n, .int .u64 ref, .slice LA ls.length lc] 55)).alloc (.cells #[.int .i64 0, .int .i64 0, .int .i64 0, .bool false, .slice none 0 0] 51))
  have BX := hid ((Blk.new2 w (.cells #[.int .i64 e, .int .i64 mn, .int .i64 mx, .bool h, .slice A xs.length ca] 51) (.cells #[.int .i64 e2, .int .i64 mn2, .int .i64 mx2, .bool h2, .slice D ys.length cd] 51) 55 #[.int .u8 kind, .bool oth, .int .u64 to, .int .u64 at_, .int .u64 n, .int .u64 ref, .slice LA ls.length lc]).alloc (.cells #[.int .i64 0, .int .i64 0, .int .i64 0, .bool false, .slice none 0 0] 51))
  have BR := hid (Blk.new3 w (.cells #[.int .i64 e, .int .i64 mn, .int .i64 mx, .bool h, .slice A xs.length ca] 51) (.cells #[.int .i64 e2, .int .i64 mn2, .int .i64 mx2, .bool h2, .slice D ys.length cd] 51) (.cells #[.int .u8 kind, .bool oth, .int .u64 to, .int .u64 at_, .int .u64 n, .int .u64 ref, .slice LA ls.length lc] 55) 51 #[.int .i64 0, .int .i64 0, .int .i64 0, .bool false, .slice none 0 0])
  have C1 := hid (copy_at T0 (some ⟨q2, 0, none⟩) ys _ c2 to at_ n t0 a0 n0 (by have := u.len; omega) U0.cap (U0.own.rd U0.own.lt) U0.c4)
  have C2 : Hid (∀ X, Fr (Two p q) w X → w.heap.size ≤ X.heap.size → Calls Try.prog 36 #[.agg #[.int .i64 e, .int .i64 mn, .int .i64 mx, .bool h, .slice A xs.length ca], .agg #[.int .i64 e2, .int .i64 mn2, .int .i64 mx2, .bool h2, .slice D ys.length cd], .int .u64 to, .int .u64 at_, .int .u64 n] X (RTo e mn mx h w.heap.size A (initS xs ys to at_ n).2 (.int .i64 (initS xs ys to at_ n).1) X)) := fun X hX hs => rcopy_any e mn mx h A xs ca X e2 mn2 mx2 h2 D ys _ cd to at_ n t.len hca (by have := u.len; omega) hcd hs (HA.out X hX) (HD.out X hX) t0 t1 n0 n1 a0 a1
  have FF := hid F0
  have TP := hid t
  clear T0 U0 F0 t u HA HD HL
  generalize initS xs ys to at_ n = S at *
  obtain ⟨sr, zs⟩ := S
  have k0' : ((kind % 6 : Int) == 0) = false := by simp; omega
  have k1' : ((kind % 6 : Int) == 1) = false := by simp; omega
  have k2' : ((kind % 6 : Int) == 2) = false := by simp; omega
  have k3' : ((kind % 6 : Int) == 3) = false := by simp; omega
  have k4' : ((kind % 6 : Int) == 4) = true := by simp; omega
  clear hk
  go_enter Try.func22, Try.ntmps22
  go_wp2_with fail
  generalize (((w.alloc (.cells #[.int .i64 e, .int .i64 mn, .int .i64 mx, .bool h, .slice A xs.length ca] 51)).alloc (.cells #[.int .i64 e2, .int .i64 mn2, .int .i64 mx2, .bool h2, .slice D ys.length cd] 51)).alloc (.cells #[.int .u8 kind, .bool oth, .int .u64 to, .int .u64 at_, .int .u64 n, .int .u64 ref, .slice LA ls.length lc] 55)).alloc (.cells #[.int .i64 0, .int .i64 0, .int .i64 0, .bool false, .slice none 0 0] 51) = W at *
  have hW4 : w.heap.size + 3 < W.heap.size := BR.out.lt
  refine C1.out.mono ?_
  rintro e1 w1 ⟨rfl, T1, f1⟩
  have F1 : Hid (Fr (Two p q) W w1) := f1.mono (fun i hi h => .inr h)
  have TT := hid T1
  have BX1 := hid (BX.out.fr F1.out (fun h => by rcases h with h | h <;> omega))
  have BA1 := hid (BA.out.fr F1.out (fun h => by rcases h with h | h <;> omega))
  have BB1 := hid (BB.out.fr F1.out (fun h => by rcases h with h | h <;> omega))
  have BR1 := hid (BR.out.fr F1.out (fun h => by rcases h with h | h <;> omega))
  have FA := hid (FF.out.trans F1.out (fun _ _ h => h))
  have sz1 := F1.out.size
  obtain ⟨a0', a1', a2', a3', a4'⟩ := five BA1.out
  obtain ⟨b0', b1', b2', b3', b4'⟩ := five BB1.out
  obtain ⟨x0, x1, x2, x3, x4, x5, x6⟩ := seven BX1.out
  clear T1 f1 C1 BX BA BB BR
  go_wp2_with fail
  refine (C2.out _ FA.out (by omega)).mono ?_
  rintro e2' w2 ⟨A2, c2', rfl, hc2, r2', f2, hA2⟩
  have HR2 := hid r2'
  have HA2 := hid hA2
  have F2 := hid f2
  have BR2 := hid (BR1.out.fr f2 (fun x => x))
  clear r2' f2 hA2 C2 a0' a1' a2' a3' a4' b0' b1' b2' b3' b4' x0 x1 x2 x3 x4 x5 x6
  obtain ⟨r0, r1, r2, r3, r4⟩ := five BR2.out
  obtain ⟨z0, z1, z2, z3, z4⟩ := fz BR2.out
  have hz1 : w.heap.size + 3 < w2.heap.size := BR2.out.lt
  go_wp2_with fail
  refine bodyPost_ret (v := .tuple #[.agg #[.int .i64 e, .int .i64 mn, .int .i64 mx, .bool h, .slice A2 zs.length c2'], .bool true]) (by simp [results, Try.results22, go_sem, *]) rfl ?_
  exact does_end TP.out pl ql (by omega) hW4 FF.out F1.out F2.out TT.out (.inl rfl) hc2 HR2.out HA2.out

set_option maxHeartbeats 1600000 in
set_option maxRecDepth 100000 in
theorem does_5 (p q c p2 q2 c2 : Nat) (e mn mx e2 mn2 mx2 : Int) (h h2 : Bool) (xs ys ls : List Int) (A D LA : Option Addr) (ca cd lc : Nat) (kind to at_ n ref : Int) (oth : Bool) (w : World)
    (t : TabAt w p q c e mn mx h xs) (u : TabAt w p2 q2 c2 e2 mn2 mx2 h2 ys) (hca : xs.length ≤ ca) (hcd : ys.length ≤ cd) (hlc : ls.length ≤ lc) (hll : ls.length ≤ 1048576)
    (HA : Hid (∀ X, Fr (Two p q) w X → Rd X w.heap.size A (Us xs))) (HD : Hid (∀ X, Fr (Two p q) w X → Rd X w.heap.size D (Us ys))) (HL : Hid (∀ X, Fr (Two p q) w X → Rd X w.heap.size LA (Us ls)))
    (k0 : 0 ≤ kind) (k1 : kind ≤ 255) (t0 : 0 ≤ to) (t1 : to < 18446744073709551616) (a0 : 0 ≤ at_) (a1 : at_ < 18446744073709551616) (n0 : 0 ≤ n) (n1 : n < 18446744073709551616) (hk : kind % 6 = 5) :
    Calls Try.prog 22 #[.pointer (some ⟨p, 0, none⟩), .pointer (some ⟨p2, 0, none⟩), .agg #[.int .i64 e, .int .i64 mn, .int .i64 mx, .bool h, .slice A xs.length ca], .agg #[.int .i64 e2, .int .i64 mn2, .int .i64 mx2, .bool h2, .slice D ys.length cd], .agg #[.int .u8 kind, .bool oth, .int .u64 to, .int .u64 at_, .int .u64 n, .int .u64 ref, .slice LA ls.length lc]] w (DoesTo p q e mn mx h A w) := by
  have F0 : Fr (Two p q) w ((((w.alloc (.cells #[.int .i64 e, .int .i64 mn, .int .i64 mx, .bool h, .slice A xs.length ca] 51)).alloc (.cells #[.int .i64 e2, .int .i64 mn2, .int .i64 mx2, .bool h2, .slice D ys.length cd] 51)).alloc (.cells #[.int .u8 kind, .bool oth, .int .u64 to, .int .u64 at_, .int .u64 n, .int .u64 ref, .slice LA ls.length lc] 55)).alloc (.cells #[.int .i64 0, .int .i64 0, .int .i64 0, .bool false, .slice none 0 0] 51)) := (((((Fr.refl (Two p q) w).alloc _).alloc _).alloc _).alloc _)
  have pl : p < w.heap.size := t.blk.lt
  have ql : q < w.heap.size := t.own.lt
  have T0 := t.fr ((((((Fr.refl No w).alloc (.cells #[.int .i64 e, .int .i64 mn, .int .i64 mx, .bool h, .slice A xs.length ca] 51)).alloc (.cells #[.int .i64 e2, .int .i64 mn2, .int .i64 mx2, .bool h2, .slice D ys.length cd] 51)).alloc (.cells #[.int .u8 kind, .bool oth, .int .u64 to, .int .u64 at_, .int .u64 n, .int .u64 ref, .slice LA ls.length lc] 55)).alloc (.cells #[.int .i64 0, .int .i64 0, .int .i64 0, .bool false, .slice none 0 0] 51))) (fun x => x) (fun x => x)
  have U0 := u.fr ((((((Fr.refl No w).alloc (.cells #[.int .i64 e, .int .i64 mn, .int .i64 mx, .bool h, .slice A xs.length ca] 51)).alloc (.cells #[.int .i64 e2, .int .i64 mn2, .int .i64 mx2, .bool h2, .slice D ys.length cd] 51)).alloc (.cells #[.int .u8 kind, .bool oth, .int .u64 to, .int .u64 at_, .int .u64 n, .int .u64 ref, .slice LA ls.length lc] 55)).alloc (.cells #[.int .i64 0, .int .i64 0, .int .i64 0, .bool false, .slice none 0 0] 51))) (fun x => x) (fun x => x)
  have BA := hid ((((Blk.new w 51 #[.int .i64 e, .int .i64 mn, .int .i64 mx, .bool h, .slice A xs.length ca]).alloc (.cells #[.int .i64 e2, .int .i64 mn2, .int .i64 mx2, .bool h2, .slice D ys.length cd] 51)).alloc (.cells #[.int .u8 kind, .bool oth, .int .u64 to, .int .u64 at_, .int .u64 n, .int .u64 ref, .slice LA ls.length lc] 55)).alloc (.cells #[.int .i64 0, .int .i64 0, .int .i64 0, .bool false, .slice none 0 0] 51))
  have BB := hid (((Blk.new1 w (.cells #[.int .i64 e, .int .i64 mn, .int .i64 mx, .bool h, .slice A xs.length ca] 51) 51 #[.int .i64 e2, .int .i64 mn2, .int .i64 mx2, .bool h2, .slice D ys.length cd]).alloc (.cells #[.int .u8 kind, .bool oth, .int .u64 to, .int .u64 at_, .int .u64 n, .int .u64 ref, .slice LA ls.length lc] 55)).alloc (.cells #[.int .i64 0, .int .i64 0, .int .i64 0, .bool false, .slice none 0 0] 51))
  have BX := hid ((Blk.new2 w (.cells #[.int .i64 e, .int .i64 mn, .int .i64 mx, .bool h, .slice A xs.length ca] 51) (.cells #[.int .i64 e2, .int .i64 mn2, .int .i64 mx2, .bool h2, .slice D ys.length cd] 51) 55 #[.int .u8 kind, .bool oth, .int .u64 to, .int .u64 at_, .int .u64 n, .int .u64 ref, .slice LA ls.length lc]).alloc (.cells #[.int .i64 0, .int .i64 0, .int .i64 0, .bool false, .slice none 0 0] 51))
  have BR := hid (Blk.new3 w (.cells #[.int .i64 e, .int .i64 mn, .int .i64 mx, .bool h, .slice A xs.length ca] 51) (.cells #[.int .i64 e2, .int .i64 mn2, .int .i64 mx2, .bool h2, .slice D ys.length cd] 51) (.cells #[.int .u8 kind, .bool oth, .int .u64 to, .int .u64 at_, .int .u64 n, .int .u64 ref, .slice LA ls.length lc] 55) 51 #[.int .i64 0, .int .i64 0, .int .i64 0, .bool false, .slice none 0 0])
  have C1 := hid (init_any T0 LA ls _ lc to at_ n t0 a0 n0 hll hlc (HL.out _ F0))
  have C2 : Hid (∀ X, Fr (Two p q) w X → w.heap.size ≤ X.heap.size → Calls Try.prog 37 #[.agg #[.int .i64 e, .int .i64 mn, .int .i64 mx, .bool h, .slice A xs.length ca], .slice LA ls.length lc, .int .u64 to, .int .u64 at_, .int .u64 n] X (RTo e mn mx h w.heap.size A (initS xs ls to at_ n).2 (.int .i64 (initS xs ls to at_ n).1) X)) := fun X hX hs => rinit_any e mn mx h A xs ca X LA ls _ lc to at_ n t.len hca hll hlc hs (HA.out X hX) (HL.out X hX) t0 t1 n0 n1 a0 a1
  have FF := hid F0
  have TP := hid t
  clear T0 U0 F0 t u HA HD HL
  generalize initS xs ls to at_ n = S at *
  obtain ⟨sr, zs⟩ := S
  have k0' : ((kind % 6 : Int) == 0) = false := by simp; omega
  have k1' : ((kind % 6 : Int) == 1) = false := by simp; omega
  have k2' : ((kind % 6 : Int) == 2) = false := by simp; omega
  have k3' : ((kind % 6 : Int) == 3) = false := by simp; omega
  have k4' : ((kind % 6 : Int) == 4) = false := by simp; omega
  clear hk
  go_enter Try.func22, Try.ntmps22
  go_wp2_with fail
  generalize (((w.alloc (.cells #[.int .i64 e, .int .i64 mn, .int .i64 mx, .bool h, .slice A xs.length ca] 51)).alloc (.cells #[.int .i64 e2, .int .i64 mn2, .int .i64 mx2, .bool h2, .slice D ys.length cd] 51)).alloc (.cells #[.int .u8 kind, .bool oth, .int .u64 to, .int .u64 at_, .int .u64 n, .int .u64 ref, .slice LA ls.length lc] 55)).alloc (.cells #[.int .i64 0, .int .i64 0, .int .i64 0, .bool false, .slice none 0 0] 51) = W at *
  have hW4 : w.heap.size + 3 < W.heap.size := BR.out.lt
  refine C1.out.mono ?_
  rintro e1 w1 ⟨rfl, T1, f1⟩
  have F1 : Hid (Fr (Two p q) W w1) := f1.mono (fun i hi h => .inr h)
  have TT := hid T1
  have BX1 := hid (BX.out.fr F1.out (fun h => by rcases h with h | h <;> omega))
  have BA1 := hid (BA.out.fr F1.out (fun h => by rcases h with h | h <;> omega))
  have BB1 := hid (BB.out.fr F1.out (fun h => by rcases h with h | h <;> omega))
  have BR1 := hid (BR.out.fr F1.out (fun h => by rcases h with h | h <;> omega))
  have FA := hid (FF.out.trans F1.out (fun _ _ h => h))
  have sz1 := F1.out.size
  obtain ⟨a0', a1', a2', a3', a4'⟩ := five BA1.out
  obtain ⟨b0', b1', b2', b3', b4'⟩ := five BB1.out
  obtain ⟨x0, x1, x2, x3, x4, x5, x6⟩ := seven BX1.out
  clear T1 f1 C1 BX BA BB BR
  go_wp2_with fail
  refine (C2.out _ FA.out (by omega)).mono ?_
  rintro e2' w2 ⟨A2, c2', rfl, hc2, r2', f2, hA2⟩
  have HR2 := hid r2'
  have HA2 := hid hA2
  have F2 := hid f2
  have BR2 := hid (BR1.out.fr f2 (fun x => x))
  clear r2' f2 hA2 C2 a0' a1' a2' a3' a4' b0' b1' b2' b3' b4' x0 x1 x2 x3 x4 x5 x6
  obtain ⟨r0, r1, r2, r3, r4⟩ := five BR2.out
  obtain ⟨z0, z1, z2, z3, z4⟩ := fz BR2.out
  have hz1 : w.heap.size + 3 < w2.heap.size := BR2.out.lt
  go_wp2_with fail
  refine bodyPost_ret (v := .tuple #[.agg #[.int .i64 e, .int .i64 mn, .int .i64 mx, .bool h, .slice A2 zs.length c2'], .bool true]) (by simp [results, Try.results22, go_sem, *]) rfl ?_
  exact does_end TP.out pl ql (by omega) hW4 FF.out F1.out F2.out TT.out (.inl rfl) hc2 HR2.out HA2.out


theorem does_any (p q c p2 q2 c2 : Nat) (e mn mx e2 mn2 mx2 : Int) (h h2 : Bool) (xs ys ls : List Int) (A D LA : Option Addr) (ca cd lc : Nat) (kind to at_ n ref : Int) (oth : Bool) (w : World)
    (t : TabAt w p q c e mn mx h xs) (u : TabAt w p2 q2 c2 e2 mn2 mx2 h2 ys) (hca : xs.length ≤ ca) (hcd : ys.length ≤ cd) (hlc : ls.length ≤ lc) (hll : ls.length ≤ 1048576)
    (HA : Hid (∀ X, Fr (Two p q) w X → Rd X w.heap.size A (Us xs))) (HD : Hid (∀ X, Fr (Two p q) w X → Rd X w.heap.size D (Us ys))) (HL : Hid (∀ X, Fr (Two p q) w X → Rd X w.heap.size LA (Us ls)))
    (k0 : 0 ≤ kind) (k1 : kind ≤ 255) (t0 : 0 ≤ to) (t1 : to < 18446744073709551616) (a0 : 0 ≤ at_) (a1 : at_ < 18446744073709551616) (n0 : 0 ≤ n) (n1 : n < 18446744073709551616) :
    Calls Try.prog 22 #[.pointer (some ⟨p, 0, none⟩), .pointer (some ⟨p2, 0, none⟩), .agg #[.int .i64 e, .int .i64 mn, .int .i64 mx, .bool h, .slice A xs.length ca], .agg #[.int .i64 e2, .int .i64 mn2, .int .i64 mx2, .bool h2, .slice D ys.length cd], .agg #[.int .u8 kind, .bool oth, .int .u64 to, .int .u64 at_, .int .u64 n, .int .u64 ref, .slice LA ls.length lc]] w (DoesTo p q e mn mx h A w) := by
  rcases (by omega : kind % 6 = 0 ∨ kind % 6 = 1 ∨ kind % 6 = 2 ∨ kind % 6 = 3 ∨ kind % 6 = 4 ∨ kind % 6 = 5) with hk | hk | hk | hk | hk | hk
  · exact does_0 p q c p2 q2 c2 e mn mx e2 mn2 mx2 h h2 xs ys ls A D LA ca cd lc kind to at_ n ref oth w t u hca hcd hlc hll HA HD HL k0 k1 t0 t1 a0 a1 n0 n1 hk
  · exact does_1 p q c p2 q2 c2 e mn mx e2 mn2 mx2 h h2 xs ys ls A D LA ca cd lc kind to at_ n ref oth w t u hca hcd hlc hll HA HD HL k0 k1 t0 t1 a0 a1 n0 n1 hk
  · exact does_2 p q c p2 q2 c2 e mn mx e2 mn2 mx2 h h2 xs ys ls A D LA ca cd lc kind to at_ n ref oth w t u hca hcd hlc hll HA HD HL k0 k1 t0 t1 a0 a1 n0 n1 hk
  · exact does_3 p q c p2 q2 c2 e mn mx e2 mn2 mx2 h h2 xs ys ls A D LA ca cd lc kind to at_ n ref oth w t u hca hcd hlc hll HA HD HL k0 k1 t0 t1 a0 a1 n0 n1 hk
  · exact does_4 p q c p2 q2 c2 e mn mx e2 mn2 mx2 h h2 xs ys ls A D LA ca cd lc kind to at_ n ref oth w t u hca hcd hlc hll HA HD HL k0 k1 t0 t1 a0 a1 n0 n1 hk
  · exact does_5 p q c p2 q2 c2 e mn mx e2 mn2 mx2 h h2 xs ys ls A D LA ca cd lc kind to at_ n ref oth w t u hca hcd hlc hll HA HD HL k0 k1 t0 t1 a0 a1 n0 n1 hk
end Go.Proofs.Ytndhbamfgihncaa
