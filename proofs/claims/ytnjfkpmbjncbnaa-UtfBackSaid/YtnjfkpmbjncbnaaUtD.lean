/- Contracts of the functions of chapter 03, part 4: Put. -/
import Derived.Test.YtnjfkpmbjncbnaaUtC
namespace Go.Proofs.Ytnjfkpmbjncbnaa
open Go.RowKit

section
variable {P : Program} {t e : TypeId} {bytes : Nat} {z : Value} {B : Nat} {A : Option Addr}
variable {ops : Array Oper} {rest : List Oper} {o : Oper} {a : Act} {Q : Exit → Act → World → Prop} {w : World}
/-- append of what a slice reads as, onto a row of the caller's own (nil or not), elements of one cell. -/
theorem wpList_appR {base n m cs : Nat} {s x : Operand} {v : Value} {xs news : List Value} (E : ElemOk P t e 1 bytes z) (hgd : o.guard = none)
    (ho : o.op = .call { callee := .builtin .append, args := #[s, x], argTypes := #[t, t] })
    (hs : a.eval s = v) (hx : a.eval x = .slice A m cs) (hown : w.ownsRow base e 1 v n xs)
    (hr : Rd w B A news) (hl : news.length = m) (h1 : ∀ u ∈ news, u.oneCell' = true) (h63 : n + m ≤ 16777216) (hbytes : bytes ≤ 64) (hbase : base ≤ w.heap.size)
    (h : ∀ v' w', w'.ownsRow base e 1 v' (n + m) (xs ++ news) → Fr (fun k => some k = v.ownBlock) w w' → (v'.ownBlock = v.ownBlock ∨ v'.ownBlock = some w.heap.size) → wpList P ops Q rest (a.put o.dst v') w') :
    wpList P ops Q (o :: rest) a w := by
  refine wpList_plain hgd fun K hK => ?_
  obtain ⟨v', w', hrun, h2, h3, h4, h5⟩ := run_app E w o.type cs hown hr (by simpa using hl) h1
    (by simp only [maxLen]; omega) (Nat.le_trans (Nat.mul_le_mul h63 hbytes) (by decide)) hbase
  unfold Oper.wp execOp
  simp only [ho, resolve, invoke, builtin, Sem.run_bind, Sem.run_pure, Result.andThen_ok, List.map_toArray, List.map_cons, List.map_nil, hs, hx, hrun]
  exact hK _ _ (h v' w' h2 h3 h5)
end

def BytesTo (l : List UInt8) (w : World) (e : Ending) (w' : World) : Prop :=
  ∃ A c, e = .returned (.slice A l.length c) ∧ Rd w' w'.heap.size A (Ks .u8 (Bs l)) ∧ Fr No w w'

theorem bytesTo_lit {w : World} {t : TypeId} {l : List UInt8} {vs : List Value} {n : Nat} (h : vs = Ks .u8 (Bs l)) (hn : n = l.length) :
    BytesTo l w (.returned (.slice (some ⟨w.heap.size, 0, none⟩) n n)) (w.alloc (.cells vs.toArray t)) := by
  subst h; subst hn
  exact ⟨_, _, rfl, by simpa using rd_lit w (Ks .u8 (Bs l)) t, (Fr.refl No w).alloc _⟩

theorem u8v {n : Nat} (h : n < 256) : Value.int .u8 ((UInt8.ofNat n).toNat : Int) = .int .u8 (n : Int) := by rw [ofNat_toNat h]


theorem enc_0 {x : Nat} (h0 : x < 128) : Ks .u8 (Bs (enc x)) = [.int .u8 ((x : Nat) : Int)] ∧ (enc x).length = 1 := by
  have e : enc x = [UInt8.ofNat (x)] := by unfold enc; rw [if_pos (by omega)]
  rw [e]
  refine ⟨?_, rfl⟩
  show [Value.int .u8 ((UInt8.ofNat (x)).toNat : Int)] = _
  rw [u8v (n := x) (by omega)]
set_option maxHeartbeats 400000 in
theorem rbytes_0 (x : Nat) (w : World) (h0 : x < 128) :
    Calls Try.prog 25 #[.int .i64 x] w (BytesTo (enc x) w) := by
  have HE := hid (enc_0 h0)
  have d0 : decide ((x : Int) < 128) = true := by simp; omega
  have b0 : (x : Int) ≤ 127 := by omega
  clear h0
  go_enter Try.func25, Try.ntmps25
  go_wp2
  go_ret
  obtain ⟨e1, e2⟩ := HE.out
  exact bytesTo_lit e1.symm e2.symm

theorem enc_1 {x : Nat} (h1 : x < 2048) (g1 : 128 ≤ x) : Ks .u8 (Bs (enc x)) = [.int .u8 ((192 + x / 64 : Nat) : Int), .int .u8 ((128 + x % 64 : Nat) : Int)] ∧ (enc x).length = 2 := by
  have e : enc x = [UInt8.ofNat (192 + x / 64), UInt8.ofNat (128 + x % 64)] := by unfold enc; rw [if_neg (by omega), if_pos (by omega)]
  rw [e]
  refine ⟨?_, rfl⟩
  show [Value.int .u8 ((UInt8.ofNat (192 + x / 64)).toNat : Int), Value.int .u8 ((UInt8.ofNat (128 + x % 64)).toNat : Int)] = _
  rw [u8v (n := 192 + x / 64) (by omega), u8v (n := 128 + x % 64) (by omega)]
set_option maxHeartbeats 400000 in
theorem rbytes_1 (x : Nat) (w : World) (h1 : x < 2048) (g1 : 128 ≤ x) :
    Calls Try.prog 25 #[.int .i64 x] w (BytesTo (enc x) w) := by
  have HE := hid (enc_1 h1 g1)
  have d0 : decide ((x : Int) < 128) = false := by simp; omega
  have d1 : decide ((x : Int) < 2048) = true := by simp; omega
  have b0 : (x : Int) / 64 ≤ 31 := by omega
  clear h1 g1
  go_enter Try.func25, Try.ntmps25
  go_wp2
  go_ret
  obtain ⟨e1, e2⟩ := HE.out
  exact bytesTo_lit e1.symm e2.symm

theorem enc_2 {x : Nat} (h2 : x < 65536) (g2 : 2048 ≤ x) : Ks .u8 (Bs (enc x)) = [.int .u8 ((224 + x / 4096 : Nat) : Int), .int .u8 ((128 + x / 64 % 64 : Nat) : Int), .int .u8 ((128 + x % 64 : Nat) : Int)] ∧ (enc x).length = 3 := by
  have e : enc x = [UInt8.ofNat (224 + x / 4096), UInt8.ofNat (128 + x / 64 % 64), UInt8.ofNat (128 + x % 64)] := by unfold enc; rw [if_neg (by omega), if_neg (by omega), if_pos (by omega)]
  rw [e]
  refine ⟨?_, rfl⟩
  show [Value.int .u8 ((UInt8.ofNat (224 + x / 4096)).toNat : Int), Value.int .u8 ((UInt8.ofNat (128 + x / 64 % 64)).toNat : Int), Value.int .u8 ((UInt8.ofNat (128 + x % 64)).toNat : Int)] = _
  rw [u8v (n := 224 + x / 4096) (by omega), u8v (n := 128 + x / 64 % 64) (by omega), u8v (n := 128 + x % 64) (by omega)]
set_option maxHeartbeats 400000 in
theorem rbytes_2 (x : Nat) (w : World) (h2 : x < 65536) (g2 : 2048 ≤ x) :
    Calls Try.prog 25 #[.int .i64 x] w (BytesTo (enc x) w) := by
  have HE := hid (enc_2 h2 g2)
  have d0 : decide ((x : Int) < 128) = false := by simp; omega
  have d1 : decide ((x : Int) < 2048) = false := by simp; omega
  have d2 : decide ((x : Int) < 65536) = true := by simp; omega
  have b0 : (x : Int) / 4096 ≤ 15 := by omega
  clear h2 g2
  go_enter Try.func25, Try.ntmps25
  go_wp2
  go_ret
  obtain ⟨e1, e2⟩ := HE.out
  exact bytesTo_lit e1.symm e2.symm

theorem enc_3 {x : Nat} (h3 : x ≤ 1114111) (g3 : 65536 ≤ x) : Ks .u8 (Bs (enc x)) = [.int .u8 ((240 + x / 262144 : Nat) : Int), .int .u8 ((128 + x / 4096 % 64 : Nat) : Int), .int .u8 ((128 + x / 64 % 64 : Nat) : Int), .int .u8 ((128 + x % 64 : Nat) : Int)] ∧ (enc x).length = 4 := by
  have e : enc x = [UInt8.ofNat (240 + x / 262144), UInt8.ofNat (128 + x / 4096 % 64), UInt8.ofNat (128 + x / 64 % 64), UInt8.ofNat (128 + x % 64)] := by unfold enc; rw [if_neg (by omega), if_neg (by omega), if_neg (by omega)]
  rw [e]
  refine ⟨?_, rfl⟩
  show [Value.int .u8 ((UInt8.ofNat (240 + x / 262144)).toNat : Int), Value.int .u8 ((UInt8.ofNat (128 + x / 4096 % 64)).toNat : Int), Value.int .u8 ((UInt8.ofNat (128 + x / 64 % 64)).toNat : Int), Value.int .u8 ((UInt8.ofNat (128 + x % 64)).toNat : Int)] = _
  rw [u8v (n := 240 + x / 262144) (by omega), u8v (n := 128 + x / 4096 % 64) (by omega), u8v (n := 128 + x / 64 % 64) (by omega), u8v (n := 128 + x % 64) (by omega)]
set_option maxHeartbeats 400000 in
theorem rbytes_3 (x : Nat) (w : World) (h3 : x ≤ 1114111) (g3 : 65536 ≤ x) :
    Calls Try.prog 25 #[.int .i64 x] w (BytesTo (enc x) w) := by
  have HE := hid (enc_3 h3 g3)
  have d0 : decide ((x : Int) < 128) = false := by simp; omega
  have d1 : decide ((x : Int) < 2048) = false := by simp; omega
  have d2 : decide ((x : Int) < 65536) = false := by simp; omega
  have b0 : (x : Int) / 262144 ≤ 4 := by omega
  clear h3 g3
  go_enter Try.func25, Try.ntmps25
  go_wp2
  go_ret
  obtain ⟨e1, e2⟩ := HE.out
  exact bytesTo_lit e1.symm e2.symm

theorem rbytes_any (x : Nat) (w : World) (hx : x ≤ 1114111) :
    Calls Try.prog 25 #[.int .i64 x] w (BytesTo (enc x) w) := by
  by_cases h0 : x < 128
  · exact rbytes_0 x w h0
  · by_cases h1 : x < 2048
    · exact rbytes_1 x w h1 (by omega)
    · by_cases h2 : x < 65536
      · exact rbytes_2 x w h2 (by omega)
      · exact rbytes_3 x w hx (by omega)
end Go.Proofs.Ytnjfkpmbjncbnaa
