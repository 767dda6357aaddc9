/- Part 3 of the proof: lemmas and contracts of functions. No condition. -/
import Derived.Test.YtdckghiipijobaaGreatQ2
import Derived.Test.YtdckghiipijobaaGreatQ1
set_option maxRecDepth 100000
set_option maxHeartbeats 12800000
set_option linter.unusedVariables false
set_option linter.unusedSimpArgs false
set_option linter.unusedSectionVars false
namespace Go.Proofs.YtdckghiipijobaaGreat
open Go.RowKit Go.Proofs.Tryz
def It (w : World) (g : Nat) (s : ByteArray) (pos : Nat) : Prop := w.heap[g]? = some (.stringIter s pos)
def stepIt (w : World) (g : Nat) (s : ByteArray) (pos : Nat) : World := { w with heap := w.heap.setIfInBounds g (.stringIter s pos) }
theorem kNy {w w' : World} {M : Nat → Prop} {base size n : Nat} {e : TypeId} {v : Value} {xs : LV} (h : w.ownsRow base e size v n xs) (f : Fr M w w') (hM : ∀ k, v.ownBlock = some k → ¬ M k) : w'.ownsRow base e size v n xs := by
 refine ⟨h.1, ?_⟩
 rcases h.2 with hn | ⟨g, cap, cur, rfl, hb, hgg, rest⟩
 · exact .inl hn
 refine .inr ⟨g, cap, cur, rfl, hb, ?_, rest⟩
 have hlt : g < w.heap.size := by
  rcases Nat.lt_or_ge g w.heap.size with h' | h'
  · exact h'
  rw [Array.getElem?_eq_none h'] at hgg; cases hgg
 exact (f.block g hlt (hM g rfl)).trans hgg
section
variable {w w' : World} {g pos : Nat} {s : ByteArray} {M : Nat → Prop}
theorem It.lt (h : It w g s pos) : g < w.heap.size := by
 rcases Nat.lt_or_ge g w.heap.size with hlt | hge
 · exact hlt
 unfold It at h; rw [Array.getElem?_eq_none hge] at h; cases h
theorem It.fr (h : It w g s pos) (f : Fr M w w') (hg : ¬ M g) : It w' g s pos := (f.block g h.lt hg).trans h
theorem It.new (w : World) (s : ByteArray) : It (w.iter s 0) w.heap.size s 0 := World.iter_heap w s 0
theorem It.step (h : It w g s pos) (p : Nat) : It (stepIt w g s p) g s p := by
 have := h.lt
 simp [It, stepIt, this]
theorem It.pos_ (h : It w g s pos) : w.iterPos g = pos := by unfold World.iterPos; rw [show w.heap[g]? = _ from h]
theorem Fr.stepIt {a : World} (h : Fr M a w) (g : Nat) (s : ByteArray) (p : Nat) (hg : g < a.heap.size → M g) : Fr M a (stepIt w g s p) :=
 ⟨h.os, h.tape, h.output, by simpa [Go.Proofs.YtdckghiipijobaaGreat.stepIt] using h.size, fun k hk hn => by
  by_cases e : g = k
  · subst e; exact absurd (hg hk) hn
  · rw [← h.block k hk hn]; simp [Go.Proofs.YtdckghiipijobaaGreat.stepIt, e]⟩
theorem Fr.iter {a : World} (h : Fr M a w) (s : ByteArray) (p : Nat) : Fr M a (w.iter s p) := h.alloc _
theorem kIL {P : Program} (h : It w g s pos) (ty : TypeId) (hp : pos < s.size) :
    (Instr.next (.pointer (some ⟨g, 0, none⟩)) true ty).run P w = .ok (.tuple #[.bool true, .int .i64 pos, .int .i32 (Utf8.decode s pos).1]) (Go.Proofs.YtdckghiipijobaaGreat.stepIt w g s (pos + (Utf8.decode s pos).2)) := by
 have h : w.heap[g]? = some (.stringIter s pos) := h
 simp only [Instr.next, getObj, setObj, Sem.run_bind, Sem.run, h, Result.andThen, hp, if_true]
 simp [goInt, Go.Proofs.YtdckghiipijobaaGreat.stepIt]
theorem kFX {P : Program} (h : It w g s pos) (ty : TypeId) (hp : ¬ pos < s.size) :
    (Instr.next (.pointer (some ⟨g, 0, none⟩)) true ty).run P w = .ok (.tuple #[.bool false]) w := by
 have h : w.heap[g]? = some (.stringIter s pos) := h
 simp [Instr.next, getObj, Sem.run, h, hp]
end
theorem kNh (n : Int) : okI n = decide ((0 ≤ n ∧ n < 55296) ∨ (57343 < n ∧ n ≤ 1114111)) := by
 simp only [okI, isR]; rw [Bool.eq_iff_iff]; simp; omega
theorem is_any (n : Int) (w : World) :
    Calls prog 212 #[.int .i64 n] w fun e w' => e = .returned (.bool (okI n)) ∧ w = w' := by
 go_enter func212, ntmps212
 go_wp2
 all_goals
  go_ret
  refine ⟨ret_bool ?_, rfl⟩
  rw [kNh, Bool.eq_iff_iff]
  simp <;> omega
theorem kBk (s : ByteArray) (i : Nat) (h : i < s.size) : s.data.toList.drop i = s[i] :: s.data.toList.drop (i + 1) := by
 have hl : i < s.data.toList.length := by simpa using h
 rw [List.drop_eq_getElem_cons hl]
 rfl
theorem kEA (s : ByteArray) (i k : Nat) (x : Nat) (h : i < s.size) (hc : cb s[i] = true) : conts (k + 1) (s.data.toList.drop i) x = conts k (s.data.toList.drop (i + 1)) (x * 64 + (s[i].toNat - 128)) := by
 rw [kBk s i h]; simp [conts, hc]
theorem kEY (s : ByteArray) (i k : Nat) (x : Nat) (h : i < s.size) (hc : cb s[i] = false) : conts (k + 1) (s.data.toList.drop i) x = none := by
 rw [kBk s i h]; simp [conts, hc]
def decI (l : List UInt8) : Int × Int := match dec l with | some (c, n) => ((c : Int), (n : Int)) | none => (0, 0)
def kCs (l : List UInt8) (w : World) (e : Ending) (w' : World) : Prop := e = .returned (.tuple #[.int .i64 (decI l).1, .int .i64 (decI l).2]) ∧ w = w'
theorem kNS (s : ByteArray) (i : Nat) (w : World) (hs : s.size ≤ 1048576) (hi : i < s.size) (g0 : 192 ≤ s[i].toNat) (g1 : s[i].toNat < 224) (hn : i + 2 ≤ s.size) :
    Calls prog 210 #[.string s, .int .i64 i] w (kCs (s.data.toList.drop i) w) := by
 have hd : Hid (dec (s.data.toList.drop i) = match conts 1 (s.data.toList.drop (i + 1)) (s[i].toNat - 192) with
     | none => none
     | some x => if x < 128 ∨ isR x = false then none else some (x, 2)) := by
  unfold Hid
  rw [kBk s i hi]
  simp only [dec]
  have e1 : headN s[i].toNat = 2 := by unfold headN; rw [if_pos (by omega)]
  have e2 : headX s[i].toNat = s[i].toNat - 192 := by unfold headX; rw [if_pos (by omega)]
  have e3 : headL s[i].toNat = 128 := by unfold headL; rw [if_pos (by omega)]
  rw [e1, e2, e3, if_neg (by omega), if_neg (by simp; omega)]
  try rfl
 have z0 : decide ((s[i].toNat : Int) < 128) = false := by simp; omega
 go_enter func210, ntmps210
 go_wp2_with fail
 clear z0
 go_loop [9, 10] (fun x k => ∃ k' x' : Nat, 1 ≤ k' ∧ k' ≤ 2 ∧ k = .int .i64 k' ∧ x = .int .i64 x' ∧ (k' = 1 → x' < 32) ∧ (k' = 2 → x' < 2048) ∧ (k' = 3 → x' < 131072) ∧ (k' = 4 → x' < 8388608) ∧ Hid (conts 1 (s.data.toList.drop (i + 1)) (s[i].toNat - 192) = conts (2 - k') (s.data.toList.drop (i + k')) x')) (fun _ k => 2 - (intOf k).toNat)
 case atStart => exact ⟨1, s[i].toNat - 192, by omega, by omega, rfl, by go_num, by omega, by omega, by omega, by omega, rfl⟩
 obtain ⟨k, x, hk1, hk2, rfl, rfl, b1, b2, b3, b4, HC⟩ := hrel
 by_cases hlt : k < 2
 · have hb := s[i + k].toNat_lt
   have i0 : (0 : Int) ≤ (i : Int) + k := om
   have i1 : (i : Int) + k < s.size := om
   by_cases hc : 128 ≤ s[i + k].toNat ∧ s[i + k].toNat < 192
   · have hcb : Hid (cb s[i + k] = true) := by simpa [cb, Hid] using hc
     obtain ⟨c0, c1⟩ := hc
     go_wp2_with fail
     go_round
     case rel =>
      refine ⟨_, _, .int .i64 ((x * 64 + (s[i + k].toNat - 128) : Nat) : Int), .int .i64 ((k + 1 : Nat) : Int), ⟨k + 1, by omega, by omega, rfl, x * 64 + (s[i + k].toNat - 128), rfl, by omega, by omega, by omega, by omega, ?_⟩, rfl, rfl, by go_num, by go_num⟩
      have := kEA s (i + k) (2 - (k + 1)) x om hcb.o
      rw [show 2 - (k + 1) + 1 = 2 - k by omega] at this
      rw [Hid, HC.o, this, Nat.add_assoc]
     simp [intOf]; omega
   have hcb : Hid (cb s[i + k] = false) := by unfold Hid; simp [cb]; omega
   have HD : Hid (dec (s.data.toList.drop i) = none) := by
    have := kEY s (i + k) (2 - (k + 1)) x om hcb.o
    rw [show 2 - (k + 1) + 1 = 2 - k by omega] at this
    rw [Hid, hd.o, HC.o, this]
   exact yy51
 obtain rfl : k = 2 := om
 clear b1 b2 b3 b4
 have HD : Hid (dec (s.data.toList.drop i) = if x < 128 ∨ isR x = false then none else some (x, 2)) := by
  rw [Hid, hd.o, HC.o]
  simp only [Nat.sub_self, conts]
 clear hd HC
 have hok : Hid (okI (x : Int) = isR x) := by simp [okI, Hid]
 by_cases hx : x < 128
 · exact yy57
 have HX := hid hx
 have hxi : decide ((x : Int) < 128) = false := by simp; omega
 exact yy17
theorem kNR (s : ByteArray) (i : Nat) (w : World) (hs : s.size ≤ 1048576) (hi : i < s.size) (g0 : 224 ≤ s[i].toNat) (g1 : s[i].toNat < 240) (hn : i + 3 ≤ s.size) :
    Calls prog 210 #[.string s, .int .i64 i] w (kCs (s.data.toList.drop i) w) := by
 have hd : Hid (dec (s.data.toList.drop i) = match conts 2 (s.data.toList.drop (i + 1)) (s[i].toNat - 224) with
     | none => none
     | some x => if x < 2048 ∨ isR x = false then none else some (x, 3)) := by
  unfold Hid
  rw [kBk s i hi]
  simp only [dec]
  have e1 : headN s[i].toNat = 3 := by unfold headN; rw [if_neg (by omega), if_pos (by omega)]
  have e2 : headX s[i].toNat = s[i].toNat - 224 := by unfold headX; rw [if_neg (by omega), if_pos (by omega)]
  have e3 : headL s[i].toNat = 2048 := by unfold headL; rw [if_neg (by omega), if_pos (by omega)]
  rw [e1, e2, e3, if_neg (by omega), if_neg (by simp; omega)]
  try rfl
 have z0 : decide ((s[i].toNat : Int) < 128) = false := by simp; omega
 go_enter func210, ntmps210
 go_wp2_with fail
 clear z0
 go_loop [9, 10] (fun x k => ∃ k' x' : Nat, 1 ≤ k' ∧ k' ≤ 3 ∧ k = .int .i64 k' ∧ x = .int .i64 x' ∧ (k' = 1 → x' < 32) ∧ (k' = 2 → x' < 2048) ∧ (k' = 3 → x' < 131072) ∧ (k' = 4 → x' < 8388608) ∧ Hid (conts 2 (s.data.toList.drop (i + 1)) (s[i].toNat - 224) = conts (3 - k') (s.data.toList.drop (i + k')) x')) (fun _ k => 3 - (intOf k).toNat)
 case atStart => exact ⟨1, s[i].toNat - 224, by omega, by omega, rfl, by go_num, by omega, by omega, by omega, by omega, rfl⟩
 obtain ⟨k, x, hk1, hk2, rfl, rfl, b1, b2, b3, b4, HC⟩ := hrel
 by_cases hlt : k < 3
 · have hb := s[i + k].toNat_lt
   have i0 : (0 : Int) ≤ (i : Int) + k := om
   have i1 : (i : Int) + k < s.size := om
   by_cases hc : 128 ≤ s[i + k].toNat ∧ s[i + k].toNat < 192
   · have hcb : Hid (cb s[i + k] = true) := by simpa [cb, Hid] using hc
     obtain ⟨c0, c1⟩ := hc
     go_wp2_with fail
     go_round
     case rel =>
      refine ⟨_, _, .int .i64 ((x * 64 + (s[i + k].toNat - 128) : Nat) : Int), .int .i64 ((k + 1 : Nat) : Int), ⟨k + 1, by omega, by omega, rfl, x * 64 + (s[i + k].toNat - 128), rfl, by omega, by omega, by omega, by omega, ?_⟩, rfl, rfl, by go_num, by go_num⟩
      have := kEA s (i + k) (3 - (k + 1)) x om hcb.o
      rw [show 3 - (k + 1) + 1 = 3 - k by omega] at this
      rw [Hid, HC.o, this, Nat.add_assoc]
     simp [intOf]; omega
   have hcb : Hid (cb s[i + k] = false) := by unfold Hid; simp [cb]; omega
   have HD : Hid (dec (s.data.toList.drop i) = none) := by
    have := kEY s (i + k) (3 - (k + 1)) x om hcb.o
    rw [show 3 - (k + 1) + 1 = 3 - k by omega] at this
    rw [Hid, hd.o, HC.o, this]
   exact yy51
 obtain rfl : k = 3 := om
 clear b1 b2 b3 b4
 have HD : Hid (dec (s.data.toList.drop i) = if x < 2048 ∨ isR x = false then none else some (x, 3)) := by
  rw [Hid, hd.o, HC.o]
  simp only [Nat.sub_self, conts]
 clear hd HC
 have hok : Hid (okI (x : Int) = isR x) := by simp [okI, Hid]
 by_cases hx : x < 2048
 · exact yy57
 have HX := hid hx
 have hxi : decide ((x : Int) < 2048) = false := by simp; omega
 exact yy17
theorem kNQ (s : ByteArray) (i : Nat) (w : World) (hs : s.size ≤ 1048576) (hi : i < s.size) (g0 : 240 ≤ s[i].toNat) (g1 : s[i].toNat < 248) (hn : i + 4 ≤ s.size) :
    Calls prog 210 #[.string s, .int .i64 i] w (kCs (s.data.toList.drop i) w) := by
 have hd : Hid (dec (s.data.toList.drop i) = match conts 3 (s.data.toList.drop (i + 1)) (s[i].toNat - 240) with
     | none => none
     | some x => if x < 65536 ∨ isR x = false then none else some (x, 4)) := by
  unfold Hid
  rw [kBk s i hi]
  simp only [dec]
  have e1 : headN s[i].toNat = 4 := by unfold headN; rw [if_neg (by omega), if_neg (by omega), if_pos (by omega)]
  have e2 : headX s[i].toNat = s[i].toNat - 240 := by unfold headX; rw [if_neg (by omega), if_neg (by omega), if_pos (by omega)]
  have e3 : headL s[i].toNat = 65536 := by unfold headL; rw [if_neg (by omega), if_neg (by omega), if_pos (by omega)]
  rw [e1, e2, e3, if_neg (by omega), if_neg (by simp; omega)]
  try rfl
 have z0 : decide ((s[i].toNat : Int) < 128) = false := by simp; omega
 go_enter func210, ntmps210
 go_wp2_with fail
 clear z0
 go_loop [9, 10] (fun x k => ∃ k' x' : Nat, 1 ≤ k' ∧ k' ≤ 4 ∧ k = .int .i64 k' ∧ x = .int .i64 x' ∧ (k' = 1 → x' < 32) ∧ (k' = 2 → x' < 2048) ∧ (k' = 3 → x' < 131072) ∧ (k' = 4 → x' < 8388608) ∧ Hid (conts 3 (s.data.toList.drop (i + 1)) (s[i].toNat - 240) = conts (4 - k') (s.data.toList.drop (i + k')) x')) (fun _ k => 4 - (intOf k).toNat)
 case atStart => exact ⟨1, s[i].toNat - 240, by omega, by omega, rfl, by go_num, by omega, by omega, by omega, by omega, rfl⟩
 obtain ⟨k, x, hk1, hk2, rfl, rfl, b1, b2, b3, b4, HC⟩ := hrel
 by_cases hlt : k < 4
 · have hb := s[i + k].toNat_lt
   have i0 : (0 : Int) ≤ (i : Int) + k := om
   have i1 : (i : Int) + k < s.size := om
   by_cases hc : 128 ≤ s[i + k].toNat ∧ s[i + k].toNat < 192
   · have hcb : Hid (cb s[i + k] = true) := by simpa [cb, Hid] using hc
     obtain ⟨c0, c1⟩ := hc
     go_wp2_with fail
     go_round
     case rel =>
      refine ⟨_, _, .int .i64 ((x * 64 + (s[i + k].toNat - 128) : Nat) : Int), .int .i64 ((k + 1 : Nat) : Int), ⟨k + 1, by omega, by omega, rfl, x * 64 + (s[i + k].toNat - 128), rfl, by omega, by omega, by omega, by omega, ?_⟩, rfl, rfl, by go_num, by go_num⟩
      have := kEA s (i + k) (4 - (k + 1)) x om hcb.o
      rw [show 4 - (k + 1) + 1 = 4 - k by omega] at this
      rw [Hid, HC.o, this, Nat.add_assoc]
     simp [intOf]; omega
   have hcb : Hid (cb s[i + k] = false) := by unfold Hid; simp [cb]; omega
   have HD : Hid (dec (s.data.toList.drop i) = none) := by
    have := kEY s (i + k) (4 - (k + 1)) x om hcb.o
    rw [show 4 - (k + 1) + 1 = 4 - k by omega] at this
    rw [Hid, hd.o, HC.o, this]
   exact yy51
 obtain rfl : k = 4 := om
 clear b1 b2 b3 b4
 have HD : Hid (dec (s.data.toList.drop i) = if x < 65536 ∨ isR x = false then none else some (x, 4)) := by
  rw [Hid, hd.o, HC.o]
  simp only [Nat.sub_self, conts]
 clear hd HC
 have hok : Hid (okI (x : Int) = isR x) := by simp [okI, Hid]
 by_cases hx : x < 65536
 · exact yy57
 have HX := hid hx
 have hxi : decide ((x : Int) < 65536) = false := by simp; omega
 exact yy17
theorem kLu (s : ByteArray) (i : Nat) (w : World) (hs : s.size ≤ 1048576) (hi : i < s.size) (g0 : 128 ≤ s[i].toNat) (hn : headN s[i].toNat = 0 ∨ s.size < i + headN s[i].toNat) :
    Calls prog 210 #[.string s, .int .i64 i] w (kCs (s.data.toList.drop i) w) := by
 have hb := s[i].toNat_lt
 have hd : Hid (decI (s.data.toList.drop i) = (0, 0)) := by
  unfold Hid decI
  rw [kBk s i hi]
  simp only [dec]
  rw [if_neg (by omega), if_pos (by simp; omega)]
 unfold headN at hn
 go_enter func210, ntmps210
 go_wp2_with fail
 all_goals first
  | (exfalso; split at hn <;> (try split at hn) <;> (try split at hn) <;> omega)
  | (go_ret2
     refine ⟨?_, rfl⟩
     rw [hd.o]
     rfl)
theorem kNT (s : ByteArray) (i : Nat) (w : World) (_hs : s.size ≤ 1048576) (hi : i < s.size) (g0 : s[i].toNat < 128) :
    Calls prog 210 #[.string s, .int .i64 i] w (kCs (s.data.toList.drop i) w) := by
 have hd : Hid (decI (s.data.toList.drop i) = ((s[i].toNat : Int), 1)) := by
  unfold Hid decI
  rw [kBk s i hi]
  simp only [dec]
  rw [if_pos g0]
  rfl
 go_enter func210, ntmps210
 go_wp2_with fail
 go_ret2
 refine ⟨?_, rfl⟩
 rw [hd.o]
 rfl
theorem kGP (s : ByteArray) (i : Nat) (w : World) (hs : s.size ≤ 1048576) (hi : i < s.size) :
    Calls prog 210 #[.string s, .int .i64 i] w (kCs (s.data.toList.drop i) w) := by
 by_cases h1 : s[i].toNat < 128
 · exact kNT s i w hs hi h1
 by_cases hn : headN s[i].toNat = 0 ∨ s.size < i + headN s[i].toNat
 · exact kLu s i w hs hi om hn
 by_cases h2 : 192 ≤ s[i].toNat ∧ s[i].toNat < 224
 · exact kNS s i w hs hi h2.1 h2.2 (by simp [headN, h2] at hn; omega)
 by_cases h3 : 224 ≤ s[i].toNat ∧ s[i].toNat < 240
 · exact kNR s i w hs hi h3.1 h3.2 (by simp [headN, h2, h3] at hn; omega)
 by_cases h4 : 240 ≤ s[i].toNat ∧ s[i].toNat < 248
 · exact kNQ s i w hs hi h4.1 h4.2 (by simp [headN, h2, h3, h4] at hn; omega)
 simp [headN, h2, h3, h4] at hn
def hpB (s p : ByteArray) : Bool := Lib.hasPrefix s.data.toList p.data.toList
theorem kNj (s p : ByteArray) (w : World) (_hs : s.size ≤ 1048576) (_hp : p.size ≤ 1048576) :
    Calls prog 211 #[.string s, .string p] w fun e w' => e = .returned (.bool (hpB s p)) ∧ w = w' := by
 have hr : Hid ((decide (p.size ≤ s.size) && ((s.extract 0 p.size).toList == p.toList)) = hpB s p) := Lib.hasPrefix_raw s p
 by_cases h : p.size ≤ s.size
 · go_enter func211, ntmps211
   go_wp2
   go_ret
   refine ⟨ret_bool ?_, rfl⟩
   rw [← hr.o]
   simp [h]
 go_enter func211, ntmps211
 go_wp2
 go_ret
 refine ⟨ret_bool ?_, rfl⟩
 rw [← hr.o]
 simp [h]
theorem kLJ (s p : ByteArray) (w : World) (hs : s.size ≤ 1048576) (hp : p.size ≤ 1048576) :
    Calls prog 209 #[.string s, .string p] w fun e w' => e = .returned (.bool (hpB s p)) ∧ w = w' := by
 go_enter func209, ntmps209
 go_wp2_with (go_at_call 211; refine (kNj _ _ _ om om).mono ?_; rintro e w' ⟨rfl, rfl⟩)
 go_ret
 exact ⟨rfl, rfl⟩
theorem kLP (s : ByteArray) (i : Nat) (hi : i < s.size) (h : (Utf8.decode s i).1 ≠ 65533) : ∃ n, dec (s.data.toList.drop i) = some ((Utf8.decode s i).1, n) ∧ (Utf8.decode s i).2 = n := by
 rw [kDz s i hi] at h ⊢
 cases hd : dec (s.data.toList.drop i) with
 | none => rw [hd] at h; exact absurd rfl h
 | some p => exact ⟨p.2, rfl, rfl⟩
theorem kKQ (s : ByteArray) (i : Nat) (hi : i < s.size) (h : (Utf8.decode s i).1 = 65533) :
    (hpB (s.extract i s.size) ⟨#[239, 191, 189]⟩ = true ∧ dec (s.data.toList.drop i) = some (65533, (Utf8.decode s i).2)) ∨ (hpB (s.extract i s.size) ⟨#[239, 191, 189]⟩ = false ∧ dec (s.data.toList.drop i) = none) := by
 have e1 : (s.extract i s.size).data.toList = s.data.toList.drop i := by
  rw [Lib.extract_data, List.take_of_length_le (by simp)]
 have e2 : enc 65533 = [239, 191, 189] := by decide
 have hp : hpB (s.extract i s.size) ⟨#[239, 191, 189]⟩ = List.isPrefixOf [239, 191, 189] (s.data.toList.drop i) := by
  unfold hpB Lib.hasPrefix; rw [e1]
 rw [hp]
 cases hd : dec (s.data.toList.drop i) with
 | none =>
  right
  refine ⟨?_, rfl⟩
  cases hq : List.isPrefixOf [239, 191, 189] (s.data.toList.drop i) with
  | false => rfl
  | true =>
   obtain ⟨t, ht⟩ := List.isPrefixOf_iff_prefix.1 hq
   have := kNp 65533 t dc
   rw [e2, ht, hd] at this
   cases this
 | some p =>
  left
  rw [kDz s i hi, hd] at h ⊢
  obtain ⟨c, n⟩ := p
  simp only [Option.getD_some] at h ⊢
  subst h
  refine ⟨List.isPrefixOf_iff_prefix.2 ?_, rfl⟩
  have := kNn hd
  rw [e2] at this
  rw [this]
  exact List.take_prefix _ _
def kJI (o : Option (List Int)) (w : World) (e : Ending) (w' : World) : Prop :=
 ∃ A c, e = .returned (.tuple #[.slice A (o.getD []).length c, .bool o.isSome]) ∧ Rd w' w'.heap.size A (Ks .i32 (o.getD [])) ∧ Fr No w w'
theorem i32s : ElemOk prog 343 21 1 4 (.int .i32 0) := ElemOk.mk' underlying343 kr rfl dc
theorem kFW {l : List UInt8} {c n : Nat} (hd : dec l = some (c, n)) : runes l = (runes (l.drop n)).map ((c : Int) :: ·) := by
 rw [kHK (kIl hd), hd]
theorem kFV {l : List UInt8} (h : l ≠ []) (hd : dec l = none) : runes l = none := by
 rw [kHK h, hd]
theorem kHO {w : World} {base n : Nat} {e : TypeId} {v : Value} {acc : List Int} {x : Int} {k : IntKind} (h : w.ownsRow base e 1 v n (Ks k acc ++ [.int k x])) : w.ownsRow base e 1 v n (Ks k (acc ++ [x])) := by
 rw [kLk]; exact h
theorem kEt {s : ByteArray} {w wr W1 w2 : World} {i n c : Nat} {acc : List Int} {v v2 : Value} (hlt : i < s.size) (hk : acc.length ≤ i) (HC : runes s.data.toList = (runes (s.data.toList.drop i)).map (acc ++ ·))
    (hd : dec (s.data.toList.drop i) = some (c, n)) (I0 : It wr w.heap.size s i) (I1 : It W1 w.heap.size s (i + n)) (F1 : Fr No w W1) (O1 : W1.ownsRow (w.heap.size + 1) 21 1 v acc.length (Ks .i32 acc))
    (ho2 : w2.ownsRow (w.heap.size + 1) 21 1 v2 (acc.length + 1) (Ks .i32 acc ++ [.int .i32 (c : Int)])) (hf2 : Fr (fun k => some k = v.ownBlock) W1 w2) :
    (∃ (i : Nat) (acc : List Int), i ≤ s.size ∧ acc.length ≤ i ∧ It w2 w.heap.size s i ∧ Fr No w w2 ∧ w2.ownsRow (w.heap.size + 1) 21 1 v2 acc.length (Ks .i32 acc) ∧ Hid (runes s.data.toList = (runes (s.data.toList.drop i)).map (acc ++ ·))) ∧
     s.size - w2.iterPos w.heap.size < s.size - wr.iterPos w.heap.size := by
 have hnb : ∀ k, some k = v.ownBlock → w.heap.size + 1 ≤ k := fun k h => (O1.lt k h.symm).1
 obtain ⟨h1, h2, _⟩ := kEX hd
 simp at h2
 have I2 := I1.fr hf2 (fun h => by have := hnb _ h; omega)
 refine ⟨⟨i + n, acc ++ [(c : Int)], by omega, by simp; omega, I2, F1.trans hf2 (fun k hk h => by have := hnb _ h; omega), ?_, ?_⟩, ?_⟩
 · simpa using kHO ho2
 · rw [Hid, HC, kFW hd, List.drop_drop, Option.map_map]
   congr 1
   funext x
   simp
 rw [I2.pos_, I0.pos_]; omega
theorem kKj (s : ByteArray) (w : World) (hs : s.size ≤ 1048576) :
    Calls prog 201 #[.string s] w (kJI (runes s.data.toList) w) := by
 go_enter func201, ntmps201
 go_wp2
 go_loopw [4] (fun v wr => ∃ (i : Nat) (acc : List Int), i ≤ s.size ∧ acc.length ≤ i ∧ It wr w.heap.size s i ∧ Fr No w wr ∧ wr.ownsRow (w.heap.size + 1) 21 1 v acc.length (Ks .i32 acc) ∧ Hid (runes s.data.toList = (runes (s.data.toList.drop i)).map (acc ++ ·))) (fun _ wr => s.size - wr.iterPos w.heap.size)
 case atStart => exact ⟨0, [], by omega, by simp, It.new w s, (Fr.refl No w).iter s 0, World.ownsRow_nil _ _ _ _, by simp [Hid]⟩
 obtain ⟨i, acc, hi, hk, hit, hf, ho, HC⟩ := hrel
 by_cases hlt : i < s.size
 · have hn := fun ty => kIL (P := prog) hit ty hlt
   have hne : Hid (s.data.toList.drop i ≠ []) := by unfold Hid; simp; omega
   have HW := hid (kKP s i hlt)
   have HB : Hid (1 ≤ wid (s.data.toList.drop i) ∧ i + wid (s.data.toList.drop i) ≤ s.size) := by
    obtain ⟨h1, h2, _⟩ := kNt _ hne.o
    simp at h2
    exact ⟨h1, by omega⟩
   have hle := decode_le s i
   have I1 := hid (hit.step (i + (Utf8.decode s i).2))
   have I0 := hid hit
   have F1 := hid (hf.stepIt w.heap.size s (i + (Utf8.decode s i).2) (fun h => by omega))
   have O1 := hid (kNy ho ((Fr.refl (One w.heap.size) wr).stepIt w.heap.size s (i + (Utf8.decode s i).2) (fun _ => rfl)) (fun k hk h => by have := (ho.lt k hk).1; have h : k = w.heap.size := h; omega))
   have hsz : w.heap.size + 1 ≤ (stepIt wr w.heap.size s (i + (Utf8.decode s i).2)).heap.size := I1.o.lt
   clear hit ho hf
   by_cases hb : (Utf8.decode s i).1 = 65533
   · have hb' : (((Utf8.decode s i).1 : Int) == 65533) = true := by simp [hb]
     rcases kKQ s i hlt hb with ⟨g1, g2⟩ | ⟨g1, g2⟩
     · have HD : Hid (dec (s.data.toList.drop i) = some ((Utf8.decode s i).1, (Utf8.decode s i).2)) := by rw [Hid, g2, hb]
       clear g2 hb
       go_wp2_with (first
        | (go_at_call 209; refine (kLJ _ _ _ (by have := Lib.size_eq (s.extract i s.size); rw [Lib.extract_data] at this; simp at this ⊢; omega) dc).mono ?_; rintro e w' ⟨rfl, rfl⟩)
        | (at_builtin; refine kCv i32s rfl rfl rfl rfl O1.o rfl om om hsz ?_; intro v2 w2 ho2 hf2 hq2))
       exact kEt hlt hk HC.o HD.o I0.o I1.o F1.o O1.o ho2 hf2
     have HD := hid (kFV hne.o g2)
     clear g2 hb
     go_wp2_with (go_at_call 209; refine (kLJ _ _ _ (by have := Lib.size_eq (s.extract i s.size); rw [Lib.extract_data] at this; simp at this ⊢; omega) dc).mono ?_; rintro e w' ⟨rfl, rfl⟩)
     go_ret2
     have e : runes s.data.toList = none := by rw [HC.o, HD.o]; rfl
     rw [e]
     exact ⟨none, 0, rfl, .inl rfl, F1.o⟩
   obtain ⟨n, hd, hq⟩ := kLP s i hlt hb
   have HD : Hid (dec (s.data.toList.drop i) = some ((Utf8.decode s i).1, (Utf8.decode s i).2)) := by rw [Hid, hq]; exact hd
   have hb' : (((Utf8.decode s i).1 : Int) == 65533) = false := by simp; omega
   clear hd hq hb
   go_wp2_with (at_builtin; refine kCv i32s rfl rfl rfl rfl O1.o rfl om om hsz ?_; intro v2 w2 ho2 hf2 hq2)
   exact kEt hlt hk HC.o HD.o I0.o I1.o F1.o O1.o ho2 hf2
 have hn := fun ty => kFX (P := prog) hit ty hlt
 obtain rfl : i = s.size := om
 obtain ⟨A, c, hv, hc, hr, _⟩ := kFC ho
 rw [kDb] at hv
 subst hv
 have HR := hid hr
 clear hit ho hr
 exact yy84
theorem kJZ (s : ByteArray) (w : World) (hs : s.size ≤ 1048576) :
    Calls prog 203 #[.string s] w (kJI (runes s.data.toList) w) := by
 go_enter func203, ntmps203
 go_wp2
 go_loopw [4, 5] (fun v iv wr => ∃ (i : Nat) (acc : List Int), iv = .int .i64 i ∧ i ≤ s.size ∧ acc.length ≤ i ∧ Fr No w wr ∧ wr.ownsRow w.heap.size 21 1 v acc.length (Ks .i32 acc) ∧ Hid (runes s.data.toList = (runes (s.data.toList.drop i)).map (acc ++ ·))) (fun _ iv _ => s.size - (intOf iv).toNat)
 case atStart => exact ⟨0, [], rfl, by omega, by simp, Fr.refl No w, World.ownsRow_nil _ _ _ _, by simp [Hid]⟩
 obtain ⟨i, acc, rfl, hi, hk, hf, ho, HC⟩ := hrel
 by_cases hlt : i < s.size
 · have hne : Hid (s.data.toList.drop i ≠ []) := by unfold Hid; simp; omega
   have O1 := hid ho
   have hsz := hf.size
   clear ho
   cases hd : dec (s.data.toList.drop i) with
   | none =>
    have HD := hid hd
    have h2 : decI (s.data.toList.drop i) = (0, 0) := by unfold decI; rw [hd]
    have H2 := hid h2
    clear hd h2
    go_wp2_with (go_at_call 210; refine (kGP _ _ _ om om).mono ?_; rintro e w' ⟨rfl, rfl⟩; rw [H2.o])
    go_ret2
    have e : runes s.data.toList = none := by rw [HC.o, kFV hne.o HD.o]; rfl
    rw [e]
    exact ⟨none, 0, rfl, .inl rfl, hf⟩
   | some p =>
    obtain ⟨c, n⟩ := p
    have HD := hid hd
    obtain ⟨b1, b2, b3, b4⟩ := kEX hd
    have b5 := kLG b4
    rw [show (s.data.toList.drop i).length = s.size - i from by simp] at b2
    have h2 : decI (s.data.toList.drop i) = ((c : Int), (n : Int)) := by unfold decI; rw [hd]
    have H2 := hid h2
    clear hd h2 b4
    go_wp2_with (first
     | (go_at_call 210; refine (kGP _ _ _ om om).mono ?_; rintro e w' ⟨rfl, rfl⟩; rw [H2.o])
     | (at_builtin; refine kCv i32s rfl rfl rfl rfl O1.o rfl om om hsz ?_; intro v2 w2 ho2 hf2 hq2))
    go_roundw
    case rel =>
     have hf2 : Fr (fun k => some k = u4.ownBlock) wr w2 := hf2
     refine ⟨i + n, acc ++ [(c : Int)], by go_num, by omega, by simp; omega, hf.trans hf2 (fun k hk h => by have := (O1.o.lt k h.symm).1; omega), by simpa using kHO ho2, ?_⟩
     rw [Hid, HC.o, kFW HD.o, List.drop_drop, Option.map_map]
     congr 1
     funext x
     simp
    case measure => simp [intOf]; omega
 obtain rfl : i = s.size := om
 obtain ⟨A, c, hv, hc, hr, _⟩ := kFC ho
 rw [kDb] at hv
 subst hv
 have HR := hid hr
 clear ho hr
 exact yy84
theorem kKe (s : ByteArray) (w : World) (hs : s.size ≤ 1048576) :
    Calls prog 187 #[.string s] w fun e w' => e = .returned (.bool (runes s.data.toList).isSome) ∧ Fr No w w' := by
 go_enter func187, ntmps187
 go_wp2_with (go_at_call 201; refine (kKj _ _ om).mono ?_; rintro e w' ⟨A, c, rfl, hr, hf⟩)
 go_ret
 exact ⟨rfl, hf⟩
theorem rt_bool {a b : Bool} (h : a = b) : Ending.returned (.bool a) = .returned (.bool b) := by rw [h]
def kAf (t : Int) : Bool := decide (1 ≤ t ∧ t ≤ 4)
def kBy (l : List Int) : Bool := decide (l.length ≤ 8) && l.all kAf
def fnB (f : Fn) : Bool := kBy f.params && kBy f.results
def vlB (v : Vl) : Bool := kAf v.t && (decide (v.t ≠ 1) || decide (v.n < 4294967296))
theorem kNb (t : Int) (w : World) : Calls prog 195 #[.int .i64 t] w fun e w' => e = .returned (.bool (t == 1 || t == 2)) ∧ w = w' := by
 go_enter func195, ntmps195
 go_wp2
 all_goals
  go_ret
  refine ⟨rt_bool ?_, rfl⟩
  simp_all
theorem kNV (t : Int) (w : World) : Calls prog 158 #[.int .i64 t] w fun e w' => e = .returned (.bool (t == 3 || t == 4)) ∧ w = w' := by
 go_enter func158, ntmps158
 go_wp2
 all_goals
  go_ret
  refine ⟨rt_bool ?_, rfl⟩
  simp_all
theorem kEa (t : Int) (w : World) : Calls prog 155 #[.int .i64 t] w fun e w' => e = .returned (.bool (kAf t)) ∧ w = w' := by
 go_enter func155, ntmps155
 go_wp2_with (first
  | (go_at_call 195; refine (kNb _ _).mono ?_; rintro e w' ⟨rfl, rfl⟩)
  | (go_at_call 158; refine (kNV _ _).mono ?_; rintro e w' ⟨rfl, rfl⟩))
 all_goals
  go_ret
  refine ⟨rt_bool ?_, rfl⟩
  rw [Bool.eq_iff_iff]
  simp_all [kAf] <;> omega
theorem kEQ (t : Int) (w : World) : Calls prog 202 #[.int .i64 t] w fun e w' => e = .returned (.bool (kAf t)) ∧ w = w' := by
 go_enter func202, ntmps202
 go_wp2
 all_goals
  go_ret
  refine ⟨rt_bool ?_, rfl⟩
  simp_all [kAf]
  try omega
theorem kMD (t : Int) (w : World) : Calls prog 193 #[.int .i64 t] w fun e w' => e = .returned (.bool (kAf t)) ∧ w = w' := by
 go_enter func193, ntmps193
 go_wp2
 all_goals
  go_ret
  refine ⟨rt_bool ?_, rfl⟩
  simp_all [kAf]
  try omega
theorem kFS (v : Vl) (w : World) : Calls prog 160 #[.agg #[.int .i64 v.t, .int .u64 v.n]] w fun e w' => e = .returned (.bool (vlB v)) ∧ Fr No w w' := by
 go_enter func160, ntmps160
 go_wp2_with (first
  | (go_at_call 155; refine (kEa _ _).mono ?_; rintro e w' ⟨rfl, rfl⟩))
 all_goals
  go_ret
  refine ⟨rt_bool ?_, (Fr.refl No w).alloc _⟩
  simp_all [vlB]
theorem kBe (v : Vl) (w : World) : Calls prog 126 #[.agg #[.int .i64 v.t, .int .u64 v.n]] w fun e w' => e = .returned (.bool (vlB v)) ∧ Fr No w w' := by
 go_enter func126, ntmps126
 go_wp2_with (first
  | (go_at_call 193; refine (kMD _ _).mono ?_; rintro e w' ⟨rfl, rfl⟩))
 all_goals
  go_ret
  refine ⟨rt_bool ?_, (Fr.refl No w).alloc _⟩
  simp_all [vlB]
theorem kHr {l : List Int} {k : Nat} (hk : k < l.length) (h : (l.take k).all kAf = true) (hv : kAf l[k] = true) : (l.take (k + 1)).all kAf = true := by
 rw [List.take_succ_eq_append_getElem hk, List.all_append, h]; simp [hv]
theorem kHq {l : List Int} {k : Nat} (hk : k < l.length) (hv : kAf l[k] = false) : l.all kAf = false := by
 rw [← Bool.not_eq_true]; intro h
 have := List.all_eq_true.1 h l[k] (List.getElem_mem hk)
 rw [hv] at this; cases this
theorem kDp (A : OA) (l : List Int) (c B : Nat) (w : World) (hr : (Ty.int .i64).els w (· < B) A l) (hl : l.length ≤ 140737488351232) :
    Calls prog 188 #[.slice A l.length c] w fun e w' => e = .returned (.bool (kBy l)) ∧ w = w' := by
 go_enter func188, ntmps188
 go_wp2
 go_loop [3] (fun i => ∃ k : Nat, k ≤ l.length ∧ i = .int .i64 k ∧ Hid ((l.take k).all kAf = true)) (fun i => l.length - (intOf i).toNat)
 case atStart => exact ⟨0, by omega, rfl, by simp [Hid]⟩
 obtain ⟨k, hk, rfl, HA⟩ := hrel
 by_cases hlt : k < l.length
 · obtain ⟨b, o, rfl, _, hc, _⟩ := kFh hr k hlt
   cases hv : kAf l[k] with
   | true =>
    have HV := hid hv
    go_wp2_with (first
     | (go_at_call 202; refine (kEQ _ _).mono ?_; rintro e w' ⟨rfl, rfl⟩))
    go_round
    case rel => exact ⟨k + 1, by omega, by go_num, kHr hlt HA.o HV.o⟩
    case measure => simp [intOf]; omega
   | false =>
    have HV := hid hv
    go_wp2_with (first
     | (go_at_call 202; refine (kEQ _ _).mono ?_; rintro e w' ⟨rfl, rfl⟩))
    go_ret
    refine ⟨rt_bool ?_, rfl⟩
    simp [kBy, kHq hlt HV.o]
 go_wp2
 all_goals
  go_ret
  refine ⟨rt_bool ?_, rfl⟩
  have h := HA.o
  rw [List.take_of_length_le (by omega)] at h
  rw [kBy, h]
  simp
  try omega
theorem kGG (A : OA) (l : List Int) (c B : Nat) (w : World) (hr : (Ty.int .i64).els w (· < B) A l) (hl : l.length ≤ 140737488351232) :
    Calls prog 154 #[.slice A l.length c, .func (.func 155) #[] #[]] w fun e w' => e = .returned (.bool (kBy l)) ∧ w = w' := by
 by_cases h8 : 8 < l.length
 · go_enter func154, ntmps154
   go_wp2
   go_ret
   refine ⟨rt_bool ?_, rfl⟩
   simp [kBy]; omega
 go_enter func154, ntmps154
 go_wp2
 go_loop [12] (fun i => ∃ k : Nat, k ≤ l.length ∧ i = .int .i64 k ∧ Hid ((l.take k).all kAf = true)) (fun i => l.length - (intOf i).toNat)
 case atStart => exact ⟨0, by omega, rfl, by simp [Hid]⟩
 obtain ⟨k, hk, rfl, HA⟩ := hrel
 by_cases hlt : k < l.length
 · obtain ⟨b, o, rfl, _, hc, _⟩ := kFh hr k hlt
   cases hv : kAf l[k] with
   | true =>
    have HV := hid hv
    go_wp2_with (first
     | (go_at_call 155; refine (kEa _ _).mono ?_; rintro e w' ⟨rfl, rfl⟩))
    go_round
    case rel => exact ⟨k + 1, by omega, by go_num, kHr hlt HA.o HV.o⟩
    case measure => simp [intOf]; omega
   | false =>
    have HV := hid hv
    go_wp2_with (first
     | (go_at_call 155; refine (kEa _ _).mono ?_; rintro e w' ⟨rfl, rfl⟩))
    go_ret
    refine ⟨rt_bool ?_, rfl⟩
    simp [kBy, kHq hlt HV.o]
 go_wp2
 go_ret
 refine ⟨rt_bool ?_, rfl⟩
 have h := HA.o
 rw [List.take_of_length_le (by omega)] at h
 rw [kBy, h]
 simp
 try omega
theorem kBn (f : Fn) (A1 A2 : OA) (c1 c2 B : Nat) (w : World) (hB : B ≤ w.heap.size) (h1 : (Ty.int .i64).els w (· < B) A1 f.params) (h2 : (Ty.int .i64).els w (· < B) A2 f.results) (l1 : f.params.length ≤ 140737488351232) (l2 : f.results.length ≤ 140737488351232) :
    Calls prog 70 #[.agg #[.slice A1 f.params.length c1, .slice A2 f.results.length c2]] w fun e w' => e = .returned (.bool (fnB f)) ∧ Fr No w w' := by
 have F := hid ((Fr.refl No w).alloc (.cells #[.slice A1 f.params.length c1, .slice A2 f.results.length c2] 45))
 have H1 := hid (h1.frB hB F.o (fun _ _ x => x))
 have H2 := hid (h2.frB hB F.o (fun _ _ x => x))
 cases hp : kBy f.params with
 | true =>
  go_enter func70, ntmps70
  go_wp2_with fail
  refine (kGG _ _ _ _ _ H1.o om).mono ?_
  rintro e w' ⟨rfl, rfl⟩
  rw [hp]
  go_wp2_with fail
  refine (kGG _ _ _ _ _ H2.o om).mono ?_
  rintro e w' ⟨rfl, rfl⟩
  exact yy85
 | false =>
  go_enter func70, ntmps70
  go_wp2_with fail
  refine (kGG _ _ _ _ _ H1.o om).mono ?_
  rintro e w' ⟨rfl, rfl⟩
  rw [hp]
  exact yy85
theorem kAe (f : Fn) (A1 A2 : OA) (c1 c2 B : Nat) (w : World) (hB : B ≤ w.heap.size) (h1 : (Ty.int .i64).els w (· < B) A1 f.params) (h2 : (Ty.int .i64).els w (· < B) A2 f.results) (l1 : f.params.length ≤ 140737488351232) (l2 : f.results.length ≤ 140737488351232) :
    Calls prog 116 #[.agg #[.slice A1 f.params.length c1, .slice A2 f.results.length c2]] w fun e w' => e = .returned (.bool (fnB f)) ∧ Fr No w w' := by
 have F := hid ((Fr.refl No w).alloc (.cells #[.slice A1 f.params.length c1, .slice A2 f.results.length c2] 45))
 have H1 := hid (h1.frB hB F.o (fun _ _ x => x))
 have H2 := hid (h2.frB hB F.o (fun _ _ x => x))
 cases hp : kBy f.params with
 | true =>
  go_enter func116, ntmps116
  go_wp2_with fail
  refine (kDp _ _ _ _ _ H1.o om).mono ?_
  rintro e w' ⟨rfl, rfl⟩
  rw [hp]
  go_wp2_with fail
  refine (kDp _ _ _ _ _ H2.o om).mono ?_
  rintro e w' ⟨rfl, rfl⟩
  exact yy85
 | false =>
  go_enter func116, ntmps116
  go_wp2_with fail
  refine (kDp _ _ _ _ _ H1.o om).mono ?_
  rintro e w' ⟨rfl, rfl⟩
  rw [hp]
  exact yy85
theorem kEi (a b c d : Int) (w : World) : (Op.equalIn 10000 57 (.agg #[.int .i64 a, .int .u64 b]) (.agg #[.int .i64 c, .int .u64 d])).run prog w = .ok (a == c && (b == d && true)) w :=
 kEf kr kr (kAX dc (kAK (kAV underlying48) rfl) (kAK (kAV underlying48) rfl) (run_equalIn_int w 9998 _ _ _ _ _ underlying48)
  (kAX dc (kAK (kAV underlying55) rfl) (kAK (kAV underlying55) rfl) (run_equalIn_int w 9998 _ _ _ _ _ underlying55) kCm))
def vneq (x y : Vl) : Bool := !decide (x = y)
theorem kMS {α : Type} (x y : Vl) (f : Bool → α) : (if x.t = y.t then if x.n = y.n then f false else f true else f true) = f (vneq x y) := by
 obtain ⟨a, b⟩ := x
 obtain ⟨c, d⟩ := y
 by_cases h : a = c <;> by_cases h' : b = d <;> simp [vneq, h, h']
theorem kNd {x y : Vl} (h : x = y) : vneq x y = false := by simp [vneq, h]
theorem kOE {x y : Vl} (h : ¬ x = y) : vneq x y = true := by simp [vneq, h]
theorem kHE {α : Type} {xs ys : List α} {k : Nat} (h1 : k < xs.length) (h2 : k < ys.length) (h : xs.take k = ys.take k) (he : xs[k] = ys[k]) : xs.take (k + 1) = ys.take (k + 1) := by
 rw [List.take_succ_eq_append_getElem h1, List.take_succ_eq_append_getElem h2, h, he]
theorem kCU (A A' : OA) (xs ys : List Vl) (c c' B B' : Nat) (w : World) (ha : tVl.els w (· < B) A xs) (hb : tVl.els w (· < B') A' ys) (h1 : xs.length ≤ 140737488351232) (h2 : ys.length ≤ 140737488351232) :
    Calls prog 33 #[.slice A xs.length c, .slice A' ys.length c'] w fun e w' => e = .returned (.bool (decide (xs = ys))) ∧ ∃ n, w' = w.drewN n := by
 by_cases hl : xs.length = ys.length
 · have e1 : (((xs.length : Nat) : Int) != ((ys.length : Nat) : Int)) = false := by simp [hl]
   have hL := hid hl
   have hl1 : xs.length ≤ ys.length := om
   clear hl
   go_enter func33, ntmps33
   go_wp2
   go_loopw [5] (fun i wr => ∃ k m : Nat, k ≤ xs.length ∧ i = .int .i64 k ∧ wr = w.drewN m ∧ xs.take k = ys.take k) (fun i _ => xs.length - (intOf i).toNat)
   case atStart => exact ⟨0, 0, by omega, rfl, rfl, by simp⟩
   obtain ⟨k, m, hk, rfl, rfl, hq⟩ := hrel
   have HQ := hid hq
   clear hq e1
   by_cases hlt : k < xs.length
   · obtain ⟨b, o, rfl, _, c1, c2, _⟩ := kGn ha k hlt
     obtain ⟨b', o', rfl, _, c3, c4, _⟩ := kGn hb k om
     have i0 := nki k
     have i1 : (k : Int) < xs.length := om
     have i2 : (k : Int) < ys.length := om
     generalize hx : xs[k] = x at *
     generalize hy : ys[k] = y at *
     have HX := hid hx
     have HY := hid hy
     clear hx hy ha hb
     go_wp2
     refine rwO (fun X => Ce X b (o + k * 2) (.int .i64 x.t) ∧ Ce X b (o + k * 2 + 1) (.int .u64 x.n) ∧ Ce X b' (o' + k * 2) (.int .i64 y.t) ∧ Ce X b' (o' + k * 2 + 1) (.int .u64 y.n)) [] (List.range 9) [] ⟨c1, c2, c3, c4⟩ ?_
     refine rC ?_
     refine kCu rfl rfl ?_
     simp only [zA]
     apply Exists.intro
     refine ⟨fun X hX => ?_, ?_⟩
     · (rcases id hX with ⟨s0, s1, s2, s3⟩; go_simp; rw [kMS x y (fun r => Result.ok (Next.value (Value.bool r)) X)]; exact stillUpon_value)
     simp only [zC, Act.put]
     refine wpO_nil ?_
     by_cases hxy : x = y
     · rw [kNd hxy]
       have HXY := hid hxy
       clear hxy
       go_wp2
       refine ⟨⟨k + 1, m + 1, by omega, by go_num, rfl, kHE hlt om HQ.o (by rw [HX.o, HY.o, HXY.o])⟩, by simp [intOf]; omega⟩
     rw [kOE hxy]
     have HXY := hid hxy
     clear hxy
     go_wp2
     go_ret
     refine ⟨rt_bool ?_, m + 1, rfl⟩
     symm
     rw [decide_eq_false_iff_not]
     intro h
     apply HXY.o
     rw [← HX.o, ← HY.o]
     simp [h]
   go_wp2
   go_ret
   refine ⟨rt_bool ?_, _, rfl⟩
   exact yy21
 have e1 : (((xs.length : Nat) : Int) != ((ys.length : Nat) : Int)) = true := by simp; omega
 have hL := hid hl
 clear hl
 go_enter func33, ntmps33
 go_wp2
 go_ret
 refine ⟨rt_bool ?_, 0, rfl⟩
 exact yy42
def kCX (vs : List Vl) (ts : List Int) (i : Nat) : Bool :=
 match vs[i]?, ts[i]? with
 | some v, some t => vlB v && decide (v.t = t)
 | _, _ => false
def fitB (vs : List Vl) (ts : List Int) : Bool := decide (vs.length = ts.length) && kBY (kCX vs ts) vs.length
theorem kLN {vs : List Vl} {ts : List Int} {i : Nat} (h : i < vs.length) (h' : i < ts.length) : kCX vs ts i = (vlB vs[i] && decide (vs[i].t = ts[i])) := by
 simp [kCX, h, h']
theorem kLM {vs : List Vl} {ts : List Int} (h : ¬ vs.length = ts.length) : false = fitB vs ts := by simp [fitB, h]
theorem kFk {vs : List Vl} {ts : List Int} {i : Nat} (h : i < vs.length) (hp : kCX vs ts i = false) : false = fitB vs ts := by simp [fitB, kFq h hp]
theorem kJF {vs : List Vl} {ts : List Int} (hl : vs.length = ts.length) (h : kBY (kCX vs ts) vs.length = true) : true = fitB vs ts := by simp [fitB, hl]; rw [← hl, h]
theorem kHh {vs : List Vl} {ts : List Int} {i : Nat} {v : Vl} {t : Int} (h : i < vs.length) (h' : i < ts.length) (hv : vs[i] = v) (ht : ts[i] = t) {r : Bool} (hr : (vlB v && decide (v.t = t)) = r) : kCX vs ts i = r := by
 rw [kLN h h', hv, ht, hr]
theorem kCJ (A A' : OA) (vs : List Vl) (ts : List Int) (c c' B B' : Nat) (w : World) (hB : B ≤ w.heap.size) (hB' : B' ≤ w.heap.size) (ha : tVl.els w (· < B) A vs) (hb : (Ty.int .i64).els w (· < B') A' ts) (h1 : vs.length ≤ 140737488351232) (h2 : ts.length ≤ 140737488351232) :
    Calls prog 127 #[.slice A vs.length c, .slice A' ts.length c'] w fun e w' => e = .returned (.bool (fitB vs ts)) ∧ Fr No w w' := by
 by_cases hl : vs.length = ts.length
 · have e1 : (((vs.length : Nat) : Int) != ((ts.length : Nat) : Int)) = false := by simp [hl]
   have hL := hid hl
   have hl1 : vs.length ≤ ts.length := om
   clear hl
   go_enter func127, ntmps127
   go_wp2
   go_loopw [5] (fun i wr => ∃ k : Nat, k ≤ vs.length ∧ i = .int .i64 k ∧ Hid (Fr No w wr) ∧ Hid (kBY (kCX vs ts) k = true)) (fun i _ => vs.length - (intOf i).toNat)
   case atStart => exact ⟨0, by omega, rfl, Fr.refl _ _, rfl⟩
   obtain ⟨k, hk, rfl, HF, HQ⟩ := hrel
   clear e1
   by_cases hlt : k < vs.length
   · obtain ⟨b, o, rfl, hbB, c1, c2, _⟩ := kGn ha k hlt
     obtain ⟨b', o', rfl, hbB', c3, _⟩ := kFh hb k om
     have i0 := nki k
     have i1 : (k : Int) < vs.length := om
     have i2 : (k : Int) < ts.length := om
     have HX : Hid (∀ X, Fr No w X → Ce X b (o + k * 2) (.int .i64 vs[k].t) ∧ Ce X b (o + k * 2 + 1) (.int .u64 vs[k].n) ∧ Ce X b' (o' + k) (.int .i64 ts[k])) := fun X f =>
      ⟨(f.cell (p := ⟨b, _, none⟩) (ltl hbB hB) id).trans c1, (f.cell (p := ⟨b, _, none⟩) (ltl hbB hB) id).trans c2, (f.cell (p := ⟨b', _, none⟩) (ltl hbB' hB') id).trans c3⟩
     clear c1 c2 c3
     have HM : Hid (∀ r, (vlB vs[k] && decide (vs[k].t = ts[k])) = r → kCX vs ts k = r) := fun r hr => kHh hlt om rfl rfl hr
     generalize vs[k] = x at *
     generalize ts[k] = t at *
     clear ha hb
     obtain ⟨s0, s1, s2⟩ := HX.o _ HF.o
     go_wp2
     refine rwO (fun X => Ce X b (o + k * 2) (.int .i64 x.t) ∧ Ce X b (o + k * 2 + 1) (.int .u64 x.n) ∧ Ce X b' (o' + k) (.int .i64 t)) [] (List.range 18) [4] (HX.o _ HF.o.drew) ?_
     clear s0 s1 s2
     refine rC ?_
     refine wpO_eff rfl rfl fun K hK => sz ?_
     refine (kBe x _).mono ?_
     cases hv : vlB x with
     | true =>
      rintro e w1 ⟨rfl, f1⟩
      have F1 := hid ((HF.o.drew).trans f1 i3)
      clear f1
      refine hK _ _ (fun _ => HX.o _ F1.o) ?_
      clear hK K
      have HV := hid hv
      clear hv
      by_cases ht : x.t = t
      · subst ht
        refine rC ?_
        refine wpO_nil ?_
        go_wp2
        go_roundw
        case rel => exact ⟨k + 1, by omega, by go_num, F1.o, allUp_step HQ.o (HM.o _ (by rw [HV.o]; simp))⟩
        simp [intOf]; omega
      · have ht' : decide (x.t = t) = false := decide_eq_false ht
        refine rC ?_
        refine wpO_nil ?_
        go_wp2
        go_ret
        exact ⟨rt_bool (kFk hlt (HM.o _ (by rw [HV.o]; simpa using ht))), F1.o⟩
     | false =>
      rintro e w1 ⟨rfl, f1⟩
      have F1 := hid ((HF.o.drew).trans f1 i3)
      clear f1
      refine hK _ _ (fun _ => HX.o _ F1.o) ?_
      clear hK K
      have HV := hid hv
      clear hv
      refine rC ?_
      refine wpO_nil ?_
      go_wp2
      go_ret
      exact ⟨rt_bool (kFk hlt (HM.o _ (by rw [HV.o]; simp))), F1.o⟩
   go_wp2
   go_ret
   refine ⟨rt_bool ?_, HF.o⟩
   obtain rfl : k = vs.length := om
   exact kJF hL.o HQ.o
 have e1 : (((vs.length : Nat) : Int) != ((ts.length : Nat) : Int)) = true := by simp; omega
 have hL := hid hl
 clear hl
 go_enter func127, ntmps127
 go_wp2
 go_ret
 exact ⟨rt_bool (kLM hL.o), Fr.refl _ _⟩
theorem kCx (A A' : OA) (vs : List Vl) (ts : List Int) (c c' B B' : Nat) (w : World) (hB : B ≤ w.heap.size) (hB' : B' ≤ w.heap.size) (ha : tVl.els w (· < B) A vs) (hb : (Ty.int .i64).els w (· < B') A' ts) (h1 : vs.length ≤ 140737488351232) (h2 : ts.length ≤ 140737488351232) :
    Calls prog 89 #[.slice A vs.length c, .slice A' ts.length c'] w fun e w' => e = .returned (.bool (fitB vs ts)) ∧ Fr No w w' := by
 by_cases hl : vs.length = ts.length
 · have e1 : (((vs.length : Nat) : Int) != ((ts.length : Nat) : Int)) = false := by simp [hl]
   have hL := hid hl
   have hl1 : vs.length ≤ ts.length := om
   clear hl
   go_enter func89, ntmps89
   go_wp2
   go_loopw [14] (fun i wr => ∃ k : Nat, k ≤ vs.length ∧ i = .int .i64 k ∧ Hid (Fr No w wr) ∧ Hid (kBY (kCX vs ts) k = true)) (fun i _ => vs.length - (intOf i).toNat)
   case atStart => exact ⟨0, by omega, rfl, Fr.refl _ _, rfl⟩
   obtain ⟨k, hk, rfl, HF, HQ⟩ := hrel
   clear e1
   by_cases hlt : k < vs.length
   · obtain ⟨b, o, rfl, hbB, c1, c2, _⟩ := kGn ha k hlt
     obtain ⟨b', o', rfl, hbB', c3, _⟩ := kFh hb k om
     have i0 := nki k
     have i1 : (k : Int) < vs.length := om
     have i2 : (k : Int) < ts.length := om
     have HX : Hid (∀ X, Fr No w X → Ce X b (o + k * 2) (.int .i64 vs[k].t) ∧ Ce X b (o + k * 2 + 1) (.int .u64 vs[k].n) ∧ Ce X b' (o' + k) (.int .i64 ts[k])) := fun X f =>
      ⟨(f.cell (p := ⟨b, _, none⟩) (ltl hbB hB) id).trans c1, (f.cell (p := ⟨b, _, none⟩) (ltl hbB hB) id).trans c2, (f.cell (p := ⟨b', _, none⟩) (ltl hbB' hB') id).trans c3⟩
     clear c1 c2 c3
     have HM : Hid (∀ r, (vlB vs[k] && decide (vs[k].t = ts[k])) = r → kCX vs ts k = r) := fun r hr => kHh hlt om rfl rfl hr
     generalize vs[k] = x at *
     generalize ts[k] = t at *
     clear ha hb
     obtain ⟨s0, s1, s2⟩ := HX.o _ HF.o
     go_wp2
     clear s0 s1 s2
     have NB := hid (Blk.new wr 57 #[.int .i64 x.t, .int .u64 x.n])
     have HF1 := hid (HF.o.alloc (.cells #[.int .i64 x.t, .int .u64 x.n] 57))
     generalize wr.heap.size = g at *
     generalize wr.alloc (.cells #[.int .i64 x.t, .int .u64 x.n] 57) = W0 at *
     have HY : Hid (∀ X, Fr No W0 X → Ce X g 0 (.int .i64 x.t) ∧ Ce X g 1 (.int .u64 x.n) ∧ Ce X b' (o' + k) (.int .i64 t)) := fun X f =>
      ⟨(NB.o.fr f id).cell 0, (NB.o.fr f id).cell 1, (HX.o X (HF1.o.trans f i3)).2.2⟩
     clear HX
     refine rwO (fun X => Ce X g 0 (.int .i64 x.t) ∧ Ce X g 1 (.int .u64 x.n) ∧ Ce X b' (o' + k) (.int .i64 t)) [] (List.range 14) [1] (HY.o _ (Fr.refl _ _).drew) ?_
     refine rC ?_
     refine wpO_eff rfl rfl fun K hK => sz ?_
     refine (kFS x _).mono ?_
     cases hv : vlB x with
     | true =>
      rintro e w1 ⟨rfl, f1⟩
      have F1 := hid ((Fr.refl No W0).drew.trans f1 i3)
      clear f1
      refine hK _ _ (fun _ => HY.o _ F1.o) ?_
      clear hK K
      have HV := hid hv
      clear hv
      by_cases ht : x.t = t
      · subst ht
        refine rC ?_
        refine wpO_nil ?_
        go_wp2
        go_roundw
        case rel => exact ⟨k + 1, by omega, by go_num, HF1.o.trans F1.o i3, allUp_step HQ.o (HM.o _ (by rw [HV.o]; simp))⟩
        simp [intOf]; omega
      · have ht' : decide (x.t = t) = false := decide_eq_false ht
        refine rC ?_
        refine wpO_nil ?_
        go_wp2
        go_ret
        exact ⟨rt_bool (kFk hlt (HM.o _ (by rw [HV.o]; simpa using ht))), HF1.o.trans F1.o i3⟩
     | false =>
      rintro e w1 ⟨rfl, f1⟩
      have F1 := hid ((Fr.refl No W0).drew.trans f1 i3)
      clear f1
      refine hK _ _ (fun _ => HY.o _ F1.o) ?_
      clear hK K
      have HV := hid hv
      clear hv
      refine rC ?_
      refine wpO_nil ?_
      go_wp2
      go_ret
      exact ⟨rt_bool (kFk hlt (HM.o _ (by rw [HV.o]; simp))), HF1.o.trans F1.o i3⟩
   go_wp2
   go_ret
   refine ⟨rt_bool ?_, HF.o⟩
   obtain rfl : k = vs.length := om
   exact kJF hL.o HQ.o
 have e1 : (((vs.length : Nat) : Int) != ((ts.length : Nat) : Int)) = true := by simp; omega
 have hL := hid hl
 clear hl
 go_enter func89, ntmps89
 go_wp2
 go_ret
 exact ⟨rt_bool (kLM hL.o), Fr.refl _ _⟩
def actB (a : Ac) (r : List Int) : Bool :=
 if a.kind = 0 then fitB a.vals r && (decide (a.mem = 0) && (decide (a.at_ = 0) && decide (a.byte = 0)))
 else if a.kind = 1 then decide (a.vals.length = 0) && (decide (a.mem = 0) && (decide (a.at_ = 0) && decide (a.byte = 0)))
 else if a.kind = 2 then fitB a.vals r && (decide (0 ≤ a.mem) && decide (0 ≤ a.at_))
 else false
theorem kCr {w w1 : World} {kind v mem at_ byte : Value} {t u : TypeId} {ds : Array Value} (f : Fr No ((w.alloc (.cells #[kind, v, mem, at_, byte] t)).alloc (.cells ds u)) w1) :
    w1.cell? ⟨w.heap.size, 0, none⟩ = some kind ∧ w1.cell? ⟨w.heap.size, 1, none⟩ = some v ∧ w1.cell? ⟨w.heap.size, 2, none⟩ = some mem ∧ w1.cell? ⟨w.heap.size, 3, none⟩ = some at_ ∧ w1.cell? ⟨w.heap.size, 4, none⟩ = some byte := by
 have h := ((Blk.new w t #[kind, v, mem, at_, byte]).alloc (.cells ds u)).fr f id
 exact ⟨h.cell 0, h.cell 1, h.cell 2, h.cell 3, h.cell 4⟩
theorem kNe (kind mem at_ byte : Int) (vals : List Vl) (np : Nat) (rs : List Int) (A A1 A2 : OA) (c c1 c2 B : Nat) (w : World) (hB : B ≤ w.heap.size) (ha : tVl.els w (· < B) A vals) (h2 : (Ty.int .i64).els w (· < B) A2 rs) (l1 : vals.length ≤ 140737488351232) (l2 : rs.length ≤ 140737488351232) :
    Calls prog 114 #[.agg #[.int .i64 kind, .slice A vals.length c, .int .i64 mem, .int .i64 at_, .int .u8 byte], .agg #[.slice A1 np c1, .slice A2 rs.length c2]] w fun e w' => e = .returned (.bool (actB ⟨kind, vals, mem, at_, byte⟩ rs)) ∧ Fr No w w' := by
 have H1 := hid ha
 have H2 := hid h2
 have HB := hid hB
 have L1 := hid l1
 have L2 := hid l2
 clear ha h2 hB l1 l2
 cases hf : fitB vals rs
 all_goals
  have HV := hid hf
  clear hf
  go_enter func114, ntmps114
  go_wp2_with (first
   | (go_at_call 89; refine (kCx _ _ vals rs _ _ B B _ (Nat.le_trans HB.o (((Fr.refl No w).alloc _).alloc _).size) (Nat.le_trans HB.o (((Fr.refl No w).alloc _).alloc _).size) (H1.o.frB HB.o (((Fr.refl No w).alloc _).alloc _) (fun _ _ x => x)) (H2.o.frB HB.o (((Fr.refl No w).alloc _).alloc _) (fun _ _ x => x)) L1.o L2.o).mono ?_; rintro e w1 ⟨rfl, f1⟩; rw [HV.o]; obtain ⟨z0, z1, z2, z3, z4⟩ := kCr f1; have F1 := hid ((((Fr.refl No w).alloc _).alloc _).trans f1 i3); clear f1))
  all_goals
   go_ret
   exact yy58
theorem kMA (kind mem at_ byte : Int) (vals : List Vl) (np : Nat) (rs : List Int) (A A1 A2 : OA) (c c1 c2 B : Nat) (w : World) (hB : B ≤ w.heap.size) (ha : tVl.els w (· < B) A vals) (h2 : (Ty.int .i64).els w (· < B) A2 rs) (l1 : vals.length ≤ 140737488351232) (l2 : rs.length ≤ 140737488351232) :
    Calls prog 118 #[.agg #[.int .i64 kind, .slice A vals.length c, .int .i64 mem, .int .i64 at_, .int .u8 byte], .agg #[.slice A1 np c1, .slice A2 rs.length c2]] w fun e w' => e = .returned (.bool (actB ⟨kind, vals, mem, at_, byte⟩ rs)) ∧ Fr No w w' := by
 have H1 := hid ha
 have H2 := hid h2
 have HB := hid hB
 have L1 := hid l1
 have L2 := hid l2
 clear ha h2 hB l1 l2
 cases hf : fitB vals rs
 all_goals
  have HV := hid hf
  clear hf
  go_enter func118, ntmps118
  go_wp2_with (first
   | (go_at_call 127; refine (kCJ _ _ vals rs _ _ B B _ (Nat.le_trans HB.o (((Fr.refl No w).alloc _).alloc _).size) (Nat.le_trans HB.o (((Fr.refl No w).alloc _).alloc _).size) (H1.o.frB HB.o (((Fr.refl No w).alloc _).alloc _) (fun _ _ x => x)) (H2.o.frB HB.o (((Fr.refl No w).alloc _).alloc _) (fun _ _ x => x)) L1.o L2.o).mono ?_; rintro e w1 ⟨rfl, f1⟩; rw [HV.o]; obtain ⟨z0, z1, z2, z3, z4⟩ := kCr f1; have F1 := hid ((((Fr.refl No w).alloc _).alloc _).trans f1 i3); clear f1))
  all_goals
   go_ret
   exact yy58
def kAb (s : ByteArray) : Bool := decide (s.size ≤ 64) && (runes s.data.toList).isSome
theorem kIf (s : ByteArray) (w : World) (hs : s.size ≤ 1048576) :
    Calls prog 189 #[.string s] w fun e w' => e = .returned (.bool (runes s.data.toList).isSome) ∧ Fr No w w' := by
 go_enter func189, ntmps189
 go_wp2_with (go_at_call 203; refine (kJZ _ _ om).mono ?_; rintro e w' ⟨A, c, rfl, hr, hf⟩)
 go_ret
 exact ⟨rfl, hf⟩
theorem kCB (s : ByteArray) (w : World) (hs : s.size ≤ maxLen) :
    Calls prog 113 #[.string s] w fun e w' => e = .returned (.bool (kAb s)) ∧ Fr No w w' := by
 by_cases h : s.size ≤ 64
 · go_enter func113, ntmps113
   go_wp2_with (go_at_call 187; refine (kKe _ _ om).mono ?_; rintro e w' ⟨rfl, hf⟩)
   go_ret
   exact ⟨rt_bool (by simp [kAb, h]), hf⟩
 have h' : 64 < s.size := om
 unfold maxLen at hs
 go_enter func113, ntmps113
 go_wp2
 go_ret
 exact ⟨rt_bool (by simp [kAb]; omega), Fr.refl _ _⟩
theorem kBc (s : ByteArray) (w : World) (hs : s.size ≤ 1048576) :
    Calls prog 117 #[.string s] w fun e w' => e = .returned (.bool (kAb s)) ∧ Fr No w w' := by
 cases hr : (runes s.data.toList).isSome
 all_goals
  have HV := hid hr
  clear hr
  go_enter func117, ntmps117
  go_wp2_with (go_at_call 189; refine (kIf _ _ hs).mono ?_; rintro e w' ⟨rfl, hf⟩; rw [HV.o])
  go_ret
  exact ⟨rt_bool (by rw [Bool.eq_iff_iff]; first | (simp [kAb, HV.o]; done) | (simp [kAb, HV.o]; omega)), hf⟩
instance : TyMore tVl := by unfold tVl tVl0; infer_instance
instance : TyMore tAc := by unfold tAc tAc0; infer_instance
structure HoOk (w : World) (B : Nat) (h : Ho) (A1 A2 A3 : OA) : Prop where
 p : (Ty.int .i64).els w (· < B) A1 h.ty.params
 r : (Ty.int .i64).els w (· < B) A2 h.ty.results
 a : tAc.els w (· < B) A3 h.acts
 lp : h.ty.params.length ≤ 140737488351232
 lr : h.ty.results.length ≤ 140737488351232
 la : h.acts.length ≤ 140737488351232
 lm : h.mod.size ≤ maxLen
 ln : h.name.size ≤ maxLen
 lv : ∀ a ∈ h.acts, a.vals.length ≤ 140737488351232
theorem HoOk.frB {w w' : World} {B : Nat} {h : Ho} {A1 A2 A3 : OA} (o : HoOk w B h A1 A2 A3) (hB : B ≤ w.heap.size) (f : Fr No w w') : HoOk w' B h A1 A2 A3 :=
 ⟨o.p.frB hB f (fun _ _ x => x), o.r.frB hB f (fun _ _ x => x), o.a.frB hB f (fun _ _ x => x), o.lp, o.lr, o.la, o.lm, o.ln, o.lv⟩
theorem kBG {w w1 : World} {a b c d e : Value} {t : TypeId} (f : Fr No (w.alloc (.cells #[a, b, c, d, e] t)) w1) :
    w1.cell? ⟨w.heap.size, 0, none⟩ = some a ∧ w1.cell? ⟨w.heap.size, 1, none⟩ = some b ∧ w1.cell? ⟨w.heap.size, 2, none⟩ = some c ∧ w1.cell? ⟨w.heap.size, 3, none⟩ = some d ∧ w1.cell? ⟨w.heap.size, 4, none⟩ = some e := by
 have h := (Blk.new w t #[a, b, c, d, e]).fr f id
 exact ⟨h.cell 0, h.cell 1, h.cell 2, h.cell 3, h.cell 4⟩
def kCN (h : Ho) (i : Nat) : Bool := match h.acts[i]? with | some a => actB a h.ty.results | none => false
def hoB (h : Ho) : Bool := fnB h.ty && (kAb h.mod && (kAb h.name && (decide (h.acts.length ≠ 0) && kBY (kCN h) h.acts.length)))
theorem kJE {h : Ho} (h1 : fnB h.ty = true) (h2 : kAb h.mod = true) (h3 : kAb h.name = true) (h4 : h.acts.length ≠ 0) (h5 : kBY (kCN h) h.acts.length = true) : hoB h = true := by simp [hoB, h1, h2, h3, h5]; intro e; simp [e] at h4
theorem hoB_no1 {h : Ho} (h1 : fnB h.ty = false) : hoB h = false := by simp [hoB, h1]
theorem hoB_no2 {h : Ho} (h1 : kAb h.mod = false) : hoB h = false := by simp [hoB, h1]
theorem hoB_no3 {h : Ho} (h1 : kAb h.name = false) : hoB h = false := by simp [hoB, h1]
theorem hoB_no4 {h : Ho} (h1 : h.acts.length = 0) : hoB h = false := by simp [hoB, h1]
theorem hoB_no5 {h : Ho} {k : Nat} (hk : k < h.acts.length) (h1 : kCN h k = false) : hoB h = false := by simp [hoB, kFq hk h1]
abbrev q3x0 (a0 : Ho) (a1 a2 a3 : Option Addr) (a4 a5 a6 : Nat) : Array Value := #[.agg #[.string a0.mod, .string a0.name, .slice a1 a0.ty.params.length a4, .slice a2 a0.ty.results.length a5, .slice a3 a0.acts.length a6]]
abbrev q3x2 (a0 : Ho) (a1 a2 a3 : Option Addr) (a4 a5 a6 : Nat) : Array Value := #[.string a0.mod, .string a0.name, .slice a1 a0.ty.params.length a4, .slice a2 a0.ty.results.length a5, .slice a3 a0.acts.length a6]
theorem kKH (h : Ho) (A1 A2 A3 : OA) (c1 c2 c3 B : Nat) (w : World) (hB : B ≤ w.heap.size) (ok : HoOk w B h A1 A2 A3) (H1 : Hid (fnB h.ty = false)) :
    Calls prog 34 (q3x0 h A1 A2 A3 c1 c2 c3) w fun e w' => e = .returned (.bool (hoB h)) ∧ Fr No w w' := by
 have F0 := hid ((Fr.refl No w).alloc (.cells (q3x2 h A1 A2 A3 c1 c2 c3) 108))
 have OK := hid (ok.frB hB F0.o)
 have HB := hid (Nat.le_trans hB F0.o.size)
 have HX : Hid (∀ X, Fr No (w.alloc (.cells (q3x2 h A1 A2 A3 c1 c2 c3) 108)) X → Ce X w.heap.size 0 (.string h.mod) ∧ Ce X w.heap.size 1 (.string h.name) ∧ Ce X w.heap.size 2 (.slice A1 h.ty.params.length c1) ∧ Ce X w.heap.size 3 (.slice A2 h.ty.results.length c2) ∧ Ce X w.heap.size 4 (.slice A3 h.acts.length c3)) := fun X f => kBG f
 clear ok hB
 go_enter func34, ntmps34
 go_wp2_with fail
 generalize w.alloc (.cells (q3x2 h A1 A2 A3 c1 c2 c3) 108) = W at *
 generalize w.heap.size = g at *
 refine (kBn h.ty _ _ _ _ _ _ HB.o OK.o.p OK.o.r OK.o.lp OK.o.lr).mono ?_
 exact yy77
theorem kKG (h : Ho) (A1 A2 A3 : OA) (c1 c2 c3 B : Nat) (w : World) (hB : B ≤ w.heap.size) (ok : HoOk w B h A1 A2 A3) (H1 : Hid (fnB h.ty = true)) (H2 : Hid (kAb h.mod = false)) :
    Calls prog 34 (q3x0 h A1 A2 A3 c1 c2 c3) w fun e w' => e = .returned (.bool (hoB h)) ∧ Fr No w w' := by
 have F0 := hid ((Fr.refl No w).alloc (.cells (q3x2 h A1 A2 A3 c1 c2 c3) 108))
 have OK := hid (ok.frB hB F0.o)
 have HB := hid (Nat.le_trans hB F0.o.size)
 have HX : Hid (∀ X, Fr No (w.alloc (.cells (q3x2 h A1 A2 A3 c1 c2 c3) 108)) X → Ce X w.heap.size 0 (.string h.mod) ∧ Ce X w.heap.size 1 (.string h.name) ∧ Ce X w.heap.size 2 (.slice A1 h.ty.params.length c1) ∧ Ce X w.heap.size 3 (.slice A2 h.ty.results.length c2) ∧ Ce X w.heap.size 4 (.slice A3 h.acts.length c3)) := fun X f => kBG f
 clear ok hB
 go_enter func34, ntmps34
 go_wp2_with fail
 generalize w.alloc (.cells (q3x2 h A1 A2 A3 c1 c2 c3) 108) = W at *
 generalize w.heap.size = g at *
 refine (kBn h.ty _ _ _ _ _ _ HB.o OK.o.p OK.o.r OK.o.lp OK.o.lr).mono ?_
 rintro e w1 ⟨rfl, f1⟩
 rw [H1.o]
 have F1 := hid f1
 clear f1
 obtain ⟨x0, x1, x2, x3, x4⟩ := HX.o _ F1.o
 go_wp2_with fail
 refine (kCB h.mod _ OK.o.lm).mono ?_
 exact yy73
theorem kKF (h : Ho) (A1 A2 A3 : OA) (c1 c2 c3 B : Nat) (w : World) (hB : B ≤ w.heap.size) (ok : HoOk w B h A1 A2 A3) (H1 : Hid (fnB h.ty = true)) (H2 : Hid (kAb h.mod = true)) (H3 : Hid (kAb h.name = false)) :
    Calls prog 34 (q3x0 h A1 A2 A3 c1 c2 c3) w fun e w' => e = .returned (.bool (hoB h)) ∧ Fr No w w' := by
 have F0 := hid ((Fr.refl No w).alloc (.cells (q3x2 h A1 A2 A3 c1 c2 c3) 108))
 have OK := hid (ok.frB hB F0.o)
 have HB := hid (Nat.le_trans hB F0.o.size)
 have HX : Hid (∀ X, Fr No (w.alloc (.cells (q3x2 h A1 A2 A3 c1 c2 c3) 108)) X → Ce X w.heap.size 0 (.string h.mod) ∧ Ce X w.heap.size 1 (.string h.name) ∧ Ce X w.heap.size 2 (.slice A1 h.ty.params.length c1) ∧ Ce X w.heap.size 3 (.slice A2 h.ty.results.length c2) ∧ Ce X w.heap.size 4 (.slice A3 h.acts.length c3)) := fun X f => kBG f
 clear ok hB
 go_enter func34, ntmps34
 go_wp2_with fail
 generalize w.alloc (.cells (q3x2 h A1 A2 A3 c1 c2 c3) 108) = W at *
 generalize w.heap.size = g at *
 refine (kBn h.ty _ _ _ _ _ _ HB.o OK.o.p OK.o.r OK.o.lp OK.o.lr).mono ?_
 rintro e w1 ⟨rfl, f1⟩
 rw [H1.o]
 have F1 := hid f1
 clear f1
 obtain ⟨x0, x1, x2, x3, x4⟩ := HX.o _ F1.o
 go_wp2_with fail
 refine (kCB h.mod _ OK.o.lm).mono ?_
 rintro e w2 ⟨rfl, f2⟩
 rw [H2.o]
 have F2 := ftr F1 f2
 clear f2 x0 x1 x2 x3 x4
 obtain ⟨x0, x1, x2, x3, x4⟩ := HX.o _ F2.o
 go_wp2_with fail
 refine (kCB h.name _ OK.o.ln).mono ?_
 exact yy72
theorem kKE (h : Ho) (A1 A2 A3 : OA) (c1 c2 c3 B : Nat) (w : World) (hB : B ≤ w.heap.size) (ok : HoOk w B h A1 A2 A3) (H1 : Hid (fnB h.ty = true)) (H2 : Hid (kAb h.mod = true)) (H3 : Hid (kAb h.name = true)) (h4 : h.acts.length = 0) :
    Calls prog 34 (q3x0 h A1 A2 A3 c1 c2 c3) w fun e w' => e = .returned (.bool (hoB h)) ∧ Fr No w w' := by
 have H4 := hid h4
 have e4 : (((h.acts.length : Nat) : Int) == 0) = true := by simp [h4]
 clear h4
 have F0 := hid ((Fr.refl No w).alloc (.cells (q3x2 h A1 A2 A3 c1 c2 c3) 108))
 have OK := hid (ok.frB hB F0.o)
 have HB := hid (Nat.le_trans hB F0.o.size)
 have HX : Hid (∀ X, Fr No (w.alloc (.cells (q3x2 h A1 A2 A3 c1 c2 c3) 108)) X → Ce X w.heap.size 0 (.string h.mod) ∧ Ce X w.heap.size 1 (.string h.name) ∧ Ce X w.heap.size 2 (.slice A1 h.ty.params.length c1) ∧ Ce X w.heap.size 3 (.slice A2 h.ty.results.length c2) ∧ Ce X w.heap.size 4 (.slice A3 h.acts.length c3)) := fun X f => kBG f
 clear ok hB
 go_enter func34, ntmps34
 go_wp2_with fail
 generalize w.alloc (.cells (q3x2 h A1 A2 A3 c1 c2 c3) 108) = W at *
 generalize w.heap.size = g at *
 refine (kBn h.ty _ _ _ _ _ _ HB.o OK.o.p OK.o.r OK.o.lp OK.o.lr).mono ?_
 rintro e w1 ⟨rfl, f1⟩
 rw [H1.o]
 have F1 := hid f1
 clear f1
 obtain ⟨x0, x1, x2, x3, x4⟩ := HX.o _ F1.o
 go_wp2_with fail
 refine (kCB h.mod _ OK.o.lm).mono ?_
 rintro e w2 ⟨rfl, f2⟩
 rw [H2.o]
 have F2 := ftr F1 f2
 clear f2 x0 x1 x2 x3 x4
 obtain ⟨x0, x1, x2, x3, x4⟩ := HX.o _ F2.o
 go_wp2_with fail
 refine (kCB h.name _ OK.o.ln).mono ?_
 exact yy71
theorem kKD (h : Ho) (A1 A2 A3 : OA) (c1 c2 c3 B : Nat) (w : World) (hB : B ≤ w.heap.size) (ok : HoOk w B h A1 A2 A3) (H1 : Hid (fnB h.ty = true)) (H2 : Hid (kAb h.mod = true)) (H3 : Hid (kAb h.name = true)) (h4 : h.acts.length ≠ 0) :
    Calls prog 34 (q3x0 h A1 A2 A3 c1 c2 c3) w fun e w' => e = .returned (.bool (hoB h)) ∧ Fr No w w' := by
 have H4 := hid h4
 have e4 : (((h.acts.length : Nat) : Int) == 0) = false := by simp; intro e; simp [e] at h4
 clear h4
 have F0 := hid ((Fr.refl No w).alloc (.cells (q3x2 h A1 A2 A3 c1 c2 c3) 108))
 have OK := hid (ok.frB hB F0.o)
 have HB := hid (Nat.le_trans hB F0.o.size)
 have HX : Hid (∀ X, Fr No (w.alloc (.cells (q3x2 h A1 A2 A3 c1 c2 c3) 108)) X → Ce X w.heap.size 0 (.string h.mod) ∧ Ce X w.heap.size 1 (.string h.name) ∧ Ce X w.heap.size 2 (.slice A1 h.ty.params.length c1) ∧ Ce X w.heap.size 3 (.slice A2 h.ty.results.length c2) ∧ Ce X w.heap.size 4 (.slice A3 h.acts.length c3)) := fun X f => kBG f
 clear ok hB
 go_enter func34, ntmps34
 go_wp2_with fail
 generalize w.alloc (.cells (q3x2 h A1 A2 A3 c1 c2 c3) 108) = W at *
 generalize w.heap.size = g at *
 refine (kBn h.ty _ _ _ _ _ _ HB.o OK.o.p OK.o.r OK.o.lp OK.o.lr).mono ?_
 rintro e w1 ⟨rfl, f1⟩
 rw [H1.o]
 have F1 := hid f1
 clear f1
 obtain ⟨x0, x1, x2, x3, x4⟩ := HX.o _ F1.o
 go_wp2_with fail
 refine (kCB h.mod _ OK.o.lm).mono ?_
 rintro e w2 ⟨rfl, f2⟩
 rw [H2.o]
 have F2 := ftr F1 f2
 clear f2 x0 x1 x2 x3 x4
 obtain ⟨x0, x1, x2, x3, x4⟩ := HX.o _ F2.o
 go_wp2_with fail
 refine (kCB h.name _ OK.o.ln).mono ?_
 rintro e w3 ⟨rfl, f3⟩
 rw [H3.o]
 have F3 := ftr F2 f3
 clear f3 x0 x1 x2 x3 x4
 obtain ⟨x0, x1, x2, x3, x4⟩ := HX.o _ F3.o
 have hn : h.acts.length ≤ 140737488351232 := OK.o.la
 go_wp2
 go_loopw [29] (fun i wr => ∃ k : Nat, k ≤ h.acts.length ∧ i = .int .i64 k ∧ Hid (Fr No W wr) ∧ Hid (kBY (kCN h) k = true)) (fun i _ => h.acts.length - (intOf i).toNat)
 case atStart => exact ⟨0, by omega, rfl, F3.o, rfl⟩
 obtain ⟨k, hk, rfl, HF, HQ⟩ := hrel
 clear F1 F2 F3 x0 x1 x2 x3 x4 e4
 by_cases hlt : k < h.acts.length
 · obtain ⟨b, o, LA, c, rfl, hb, y0, y1, y2, y3, y4, hc, hcm, hv, j0, j1, j2, j3, j4⟩ := kNC OK.o.a k hlt
   have i0 := nki k
   have i1 : (k : Int) < h.acts.length := om
   have HY : Hid (∀ X, Fr No W X → Ce X b (o + k * 5) (.int .i64 h.acts[k].kind) ∧ Ce X b (o + k * 5 + 1) (.slice LA h.acts[k].vals.length c) ∧ Ce X b (o + k * 5 + 2) (.int .i64 h.acts[k].mem) ∧
       Ce X b (o + k * 5 + 3) (.int .i64 h.acts[k].at_) ∧ Ce X b (o + k * 5 + 4) (.int .u8 h.acts[k].byte) ∧ Ce X g 2 (.slice A1 h.ty.params.length c1) ∧ Ce X g 3 (.slice A2 h.ty.results.length c2) ∧ Ce X g 4 (.slice (some ⟨b, o, none⟩) h.acts.length c3)) := fun X f => by
    obtain ⟨_, _, x2, x3, x4⟩ := HX.o X f
    exact yy56
   have HV := hid hv
   have HL := hid (OK.o.lv _ (List.getElem_mem hlt))
   have HA : Hid (kCN h k = actB h.acts[k] h.ty.results) := by simp [Hid, kCN, hlt]
   clear y0 y1 y2 y3 y4 hv j0 j1 j2 j3 j4 hc hcm
   generalize h.acts[k] = act at *
   obtain ⟨kind, vals, mem, at_, byte⟩ := act
   simp only at HY HV HL
   obtain ⟨s0, s1, s2, s3, s4, s5, s6, s7⟩ := HY.o _ HF.o
   go_wp2
   refine rwO (fun X => Ce X b (o + k * 5) (.int .i64 kind) ∧ Ce X b (o + k * 5 + 1) (.slice LA vals.length c) ∧ Ce X b (o + k * 5 + 2) (.int .i64 mem) ∧
       Ce X b (o + k * 5 + 3) (.int .i64 at_) ∧ Ce X b (o + k * 5 + 4) (.int .u8 byte) ∧ Ce X g 2 (.slice A1 h.ty.params.length c1) ∧ Ce X g 3 (.slice A2 h.ty.results.length c2) ∧ Ce X g 4 (.slice (some ⟨b, o, none⟩) h.acts.length c3)) [] (List.range 9) [7] (HY.o _ HF.o.drew) ?_
   clear s0 s1 s2 s3 s4 s5 s6 s7
   refine rC ?_
   refine wpO_eff rfl rfl fun K hK => sz ?_
   refine (kNe kind mem at_ byte vals h.ty.params.length h.ty.results _ _ _ _ _ _ B _ (Nat.le_trans HB.o HF.o.drew.size) (HV.o.frB HB.o HF.o.drew (fun _ _ x => x)) (OK.o.r.frB HB.o HF.o.drew (fun _ _ x => x)) HL.o OK.o.lr).mono ?_
   exact yy33
 go_wp2
 go_ret
 obtain rfl : k = h.acts.length := om
 exact ⟨rt_bool (kJE H1.o H2.o H3.o H4.o HQ.o).symm, F0.o.trans HF.o i3⟩
theorem kKI (h : Ho) (A1 A2 A3 : OA) (c1 c2 c3 B : Nat) (w : World) (hB : B ≤ w.heap.size) (ok : HoOk w B h A1 A2 A3) :
    Calls prog 34 (q3x0 h A1 A2 A3 c1 c2 c3) w fun e w' => e = .returned (.bool (hoB h)) ∧ Fr No w w' := by
 cases h1 : fnB h.ty with
 | false => exact kKH h A1 A2 A3 c1 c2 c3 B w hB ok h1
 | true =>
  cases h2 : kAb h.mod with
  | false => exact kKG h A1 A2 A3 c1 c2 c3 B w hB ok h1 h2
  | true =>
   cases h3 : kAb h.name with
   | false => exact kKF h A1 A2 A3 c1 c2 c3 B w hB ok h1 h2 h3
   | true =>
    by_cases h4 : h.acts.length = 0
    · exact kKE h A1 A2 A3 c1 c2 c3 B w hB ok h1 h2 h3 h4
    · exact kKD h A1 A2 A3 c1 c2 c3 B w hB ok h1 h2 h3 h4
theorem kJe (h : Ho) (A1 A2 A3 : OA) (c1 c2 c3 B : Nat) (w : World) (hB : B ≤ w.heap.size) (ok : HoOk w B h A1 A2 A3) (hnm : h.mod.size ≤ 1048576 ∧ h.name.size ≤ 1048576) (H1 : Hid (fnB h.ty = false)) :
    Calls prog 36 (q3x0 h A1 A2 A3 c1 c2 c3) w fun e w' => e = .returned (.bool (hoB h)) ∧ Fr No w w' := by
 have F0 := hid ((Fr.refl No w).alloc (.cells (q3x2 h A1 A2 A3 c1 c2 c3) 108))
 have OK := hid (ok.frB hB F0.o)
 have HB := hid (Nat.le_trans hB F0.o.size)
 have HX : Hid (∀ X, Fr No (w.alloc (.cells (q3x2 h A1 A2 A3 c1 c2 c3) 108)) X → Ce X w.heap.size 0 (.string h.mod) ∧ Ce X w.heap.size 1 (.string h.name) ∧ Ce X w.heap.size 2 (.slice A1 h.ty.params.length c1) ∧ Ce X w.heap.size 3 (.slice A2 h.ty.results.length c2) ∧ Ce X w.heap.size 4 (.slice A3 h.acts.length c3)) := fun X f => kBG f
 clear ok hB
 go_enter func36, ntmps36
 go_wp2_with fail
 generalize w.alloc (.cells (q3x2 h A1 A2 A3 c1 c2 c3) 108) = W at *
 generalize w.heap.size = g at *
 refine (kAe h.ty _ _ _ _ _ _ HB.o OK.o.p OK.o.r OK.o.lp OK.o.lr).mono ?_
 exact yy77
theorem kJd (h : Ho) (A1 A2 A3 : OA) (c1 c2 c3 B : Nat) (w : World) (hB : B ≤ w.heap.size) (ok : HoOk w B h A1 A2 A3) (hnm : h.mod.size ≤ 1048576 ∧ h.name.size ≤ 1048576) (H1 : Hid (fnB h.ty = true)) (H2 : Hid (kAb h.mod = false)) :
    Calls prog 36 (q3x0 h A1 A2 A3 c1 c2 c3) w fun e w' => e = .returned (.bool (hoB h)) ∧ Fr No w w' := by
 have F0 := hid ((Fr.refl No w).alloc (.cells (q3x2 h A1 A2 A3 c1 c2 c3) 108))
 have OK := hid (ok.frB hB F0.o)
 have HB := hid (Nat.le_trans hB F0.o.size)
 have HX : Hid (∀ X, Fr No (w.alloc (.cells (q3x2 h A1 A2 A3 c1 c2 c3) 108)) X → Ce X w.heap.size 0 (.string h.mod) ∧ Ce X w.heap.size 1 (.string h.name) ∧ Ce X w.heap.size 2 (.slice A1 h.ty.params.length c1) ∧ Ce X w.heap.size 3 (.slice A2 h.ty.results.length c2) ∧ Ce X w.heap.size 4 (.slice A3 h.acts.length c3)) := fun X f => kBG f
 clear ok hB
 go_enter func36, ntmps36
 go_wp2_with fail
 generalize w.alloc (.cells (q3x2 h A1 A2 A3 c1 c2 c3) 108) = W at *
 generalize w.heap.size = g at *
 refine (kAe h.ty _ _ _ _ _ _ HB.o OK.o.p OK.o.r OK.o.lp OK.o.lr).mono ?_
 rintro e w1 ⟨rfl, f1⟩
 rw [H1.o]
 have F1 := hid f1
 clear f1
 obtain ⟨x0, x1, x2, x3, x4⟩ := HX.o _ F1.o
 go_wp2_with fail
 refine (kBc h.mod _ hnm.1).mono ?_
 exact yy73
theorem kJc (h : Ho) (A1 A2 A3 : OA) (c1 c2 c3 B : Nat) (w : World) (hB : B ≤ w.heap.size) (ok : HoOk w B h A1 A2 A3) (hnm : h.mod.size ≤ 1048576 ∧ h.name.size ≤ 1048576) (H1 : Hid (fnB h.ty = true)) (H2 : Hid (kAb h.mod = true)) (H3 : Hid (kAb h.name = false)) :
    Calls prog 36 (q3x0 h A1 A2 A3 c1 c2 c3) w fun e w' => e = .returned (.bool (hoB h)) ∧ Fr No w w' := by
 have F0 := hid ((Fr.refl No w).alloc (.cells (q3x2 h A1 A2 A3 c1 c2 c3) 108))
 have OK := hid (ok.frB hB F0.o)
 have HB := hid (Nat.le_trans hB F0.o.size)
 have HX : Hid (∀ X, Fr No (w.alloc (.cells (q3x2 h A1 A2 A3 c1 c2 c3) 108)) X → Ce X w.heap.size 0 (.string h.mod) ∧ Ce X w.heap.size 1 (.string h.name) ∧ Ce X w.heap.size 2 (.slice A1 h.ty.params.length c1) ∧ Ce X w.heap.size 3 (.slice A2 h.ty.results.length c2) ∧ Ce X w.heap.size 4 (.slice A3 h.acts.length c3)) := fun X f => kBG f
 clear ok hB
 go_enter func36, ntmps36
 go_wp2_with fail
 generalize w.alloc (.cells (q3x2 h A1 A2 A3 c1 c2 c3) 108) = W at *
 generalize w.heap.size = g at *
 refine (kAe h.ty _ _ _ _ _ _ HB.o OK.o.p OK.o.r OK.o.lp OK.o.lr).mono ?_
 rintro e w1 ⟨rfl, f1⟩
 rw [H1.o]
 have F1 := hid f1
 clear f1
 obtain ⟨x0, x1, x2, x3, x4⟩ := HX.o _ F1.o
 go_wp2_with fail
 refine (kBc h.mod _ hnm.1).mono ?_
 rintro e w2 ⟨rfl, f2⟩
 rw [H2.o]
 have F2 := ftr F1 f2
 clear f2 x0 x1 x2 x3 x4
 obtain ⟨x0, x1, x2, x3, x4⟩ := HX.o _ F2.o
 go_wp2_with fail
 refine (kBc h.name _ hnm.2).mono ?_
 exact yy72
theorem kJb (h : Ho) (A1 A2 A3 : OA) (c1 c2 c3 B : Nat) (w : World) (hB : B ≤ w.heap.size) (ok : HoOk w B h A1 A2 A3) (hnm : h.mod.size ≤ 1048576 ∧ h.name.size ≤ 1048576) (H1 : Hid (fnB h.ty = true)) (H2 : Hid (kAb h.mod = true)) (H3 : Hid (kAb h.name = true)) (h4 : h.acts.length = 0) :
    Calls prog 36 (q3x0 h A1 A2 A3 c1 c2 c3) w fun e w' => e = .returned (.bool (hoB h)) ∧ Fr No w w' := by
 have H4 := hid h4
 have e4 : (((h.acts.length : Nat) : Int) == 0) = true := by simp [h4]
 clear h4
 have F0 := hid ((Fr.refl No w).alloc (.cells (q3x2 h A1 A2 A3 c1 c2 c3) 108))
 have OK := hid (ok.frB hB F0.o)
 have HB := hid (Nat.le_trans hB F0.o.size)
 have HX : Hid (∀ X, Fr No (w.alloc (.cells (q3x2 h A1 A2 A3 c1 c2 c3) 108)) X → Ce X w.heap.size 0 (.string h.mod) ∧ Ce X w.heap.size 1 (.string h.name) ∧ Ce X w.heap.size 2 (.slice A1 h.ty.params.length c1) ∧ Ce X w.heap.size 3 (.slice A2 h.ty.results.length c2) ∧ Ce X w.heap.size 4 (.slice A3 h.acts.length c3)) := fun X f => kBG f
 clear ok hB
 go_enter func36, ntmps36
 go_wp2_with fail
 generalize w.alloc (.cells (q3x2 h A1 A2 A3 c1 c2 c3) 108) = W at *
 generalize w.heap.size = g at *
 refine (kAe h.ty _ _ _ _ _ _ HB.o OK.o.p OK.o.r OK.o.lp OK.o.lr).mono ?_
 rintro e w1 ⟨rfl, f1⟩
 rw [H1.o]
 have F1 := hid f1
 clear f1
 obtain ⟨x0, x1, x2, x3, x4⟩ := HX.o _ F1.o
 go_wp2_with fail
 refine (kBc h.mod _ hnm.1).mono ?_
 rintro e w2 ⟨rfl, f2⟩
 rw [H2.o]
 have F2 := ftr F1 f2
 clear f2 x0 x1 x2 x3 x4
 obtain ⟨x0, x1, x2, x3, x4⟩ := HX.o _ F2.o
 go_wp2_with fail
 refine (kBc h.name _ hnm.2).mono ?_
 exact yy71
theorem kJa (h : Ho) (A1 A2 A3 : OA) (c1 c2 c3 B : Nat) (w : World) (hB : B ≤ w.heap.size) (ok : HoOk w B h A1 A2 A3) (hnm : h.mod.size ≤ 1048576 ∧ h.name.size ≤ 1048576) (H1 : Hid (fnB h.ty = true)) (H2 : Hid (kAb h.mod = true)) (H3 : Hid (kAb h.name = true)) (h4 : h.acts.length ≠ 0) :
    Calls prog 36 (q3x0 h A1 A2 A3 c1 c2 c3) w fun e w' => e = .returned (.bool (hoB h)) ∧ Fr No w w' := by
 have H4 := hid h4
 have e4 : (((h.acts.length : Nat) : Int) == 0) = false := by simp; intro e; simp [e] at h4
 clear h4
 have F0 := hid ((Fr.refl No w).alloc (.cells (q3x2 h A1 A2 A3 c1 c2 c3) 108))
 have OK := hid (ok.frB hB F0.o)
 have HB := hid (Nat.le_trans hB F0.o.size)
 have HX : Hid (∀ X, Fr No (w.alloc (.cells (q3x2 h A1 A2 A3 c1 c2 c3) 108)) X → Ce X w.heap.size 0 (.string h.mod) ∧ Ce X w.heap.size 1 (.string h.name) ∧ Ce X w.heap.size 2 (.slice A1 h.ty.params.length c1) ∧ Ce X w.heap.size 3 (.slice A2 h.ty.results.length c2) ∧ Ce X w.heap.size 4 (.slice A3 h.acts.length c3)) := fun X f => kBG f
 clear ok hB
 go_enter func36, ntmps36
 go_wp2_with fail
 generalize w.alloc (.cells (q3x2 h A1 A2 A3 c1 c2 c3) 108) = W at *
 generalize w.heap.size = g at *
 refine (kAe h.ty _ _ _ _ _ _ HB.o OK.o.p OK.o.r OK.o.lp OK.o.lr).mono ?_
 rintro e w1 ⟨rfl, f1⟩
 rw [H1.o]
 have F1 := hid f1
 clear f1
 obtain ⟨x0, x1, x2, x3, x4⟩ := HX.o _ F1.o
 go_wp2_with fail
 refine (kBc h.mod _ hnm.1).mono ?_
 rintro e w2 ⟨rfl, f2⟩
 rw [H2.o]
 have F2 := ftr F1 f2
 clear f2 x0 x1 x2 x3 x4
 obtain ⟨x0, x1, x2, x3, x4⟩ := HX.o _ F2.o
 go_wp2_with fail
 refine (kBc h.name _ hnm.2).mono ?_
 rintro e w3 ⟨rfl, f3⟩
 rw [H3.o]
 have F3 := ftr F2 f3
 clear f3 x0 x1 x2 x3 x4
 obtain ⟨x0, x1, x2, x3, x4⟩ := HX.o _ F3.o
 have hn : h.acts.length ≤ 140737488351232 := OK.o.la
 go_wp2
 go_loopw [3] (fun i wr => ∃ k : Nat, k ≤ h.acts.length ∧ i = .int .i64 k ∧ Hid (Fr No W wr) ∧ Hid (kBY (kCN h) k = true)) (fun i _ => h.acts.length - (intOf i).toNat)
 case atStart => exact ⟨0, by omega, rfl, F3.o, rfl⟩
 obtain ⟨k, hk, rfl, HF, HQ⟩ := hrel
 clear F1 F2 F3 x0 x1 x2 x3 x4 e4
 by_cases hlt : k < h.acts.length
 · obtain ⟨b, o, LA, c, rfl, hb, y0, y1, y2, y3, y4, hc, hcm, hv, j0, j1, j2, j3, j4⟩ := kNC OK.o.a k hlt
   have i0 := nki k
   have i1 : (k : Int) < h.acts.length := om
   have HY : Hid (∀ X, Fr No W X → Ce X b (o + k * 5) (.int .i64 h.acts[k].kind) ∧ Ce X b (o + k * 5 + 1) (.slice LA h.acts[k].vals.length c) ∧ Ce X b (o + k * 5 + 2) (.int .i64 h.acts[k].mem) ∧
       Ce X b (o + k * 5 + 3) (.int .i64 h.acts[k].at_) ∧ Ce X b (o + k * 5 + 4) (.int .u8 h.acts[k].byte) ∧ Ce X g 2 (.slice A1 h.ty.params.length c1) ∧ Ce X g 3 (.slice A2 h.ty.results.length c2) ∧ Ce X g 4 (.slice (some ⟨b, o, none⟩) h.acts.length c3)) := fun X f => by
    obtain ⟨_, _, x2, x3, x4⟩ := HX.o X f
    exact yy56
   have HV := hid hv
   have HL := hid (OK.o.lv _ (List.getElem_mem hlt))
   have HA : Hid (kCN h k = actB h.acts[k] h.ty.results) := by simp [Hid, kCN, hlt]
   clear y0 y1 y2 y3 y4 hv j0 j1 j2 j3 j4 hc hcm
   generalize h.acts[k] = act at *
   obtain ⟨kind, vals, mem, at_, byte⟩ := act
   simp only at HY HV HL
   obtain ⟨s0, s1, s2, s3, s4, s5, s6, s7⟩ := HY.o _ HF.o
   go_wp2
   refine rwO (fun X => Ce X b (o + k * 5) (.int .i64 kind) ∧ Ce X b (o + k * 5 + 1) (.slice LA vals.length c) ∧ Ce X b (o + k * 5 + 2) (.int .i64 mem) ∧
       Ce X b (o + k * 5 + 3) (.int .i64 at_) ∧ Ce X b (o + k * 5 + 4) (.int .u8 byte) ∧ Ce X g 2 (.slice A1 h.ty.params.length c1) ∧ Ce X g 3 (.slice A2 h.ty.results.length c2) ∧ Ce X g 4 (.slice (some ⟨b, o, none⟩) h.acts.length c3)) [] (List.range 9) [7] (HY.o _ HF.o.drew) ?_
   clear s0 s1 s2 s3 s4 s5 s6 s7
   refine rC ?_
   refine wpO_eff rfl rfl fun K hK => sz ?_
   refine (kMA kind mem at_ byte vals h.ty.params.length h.ty.results _ _ _ _ _ _ B _ (Nat.le_trans HB.o HF.o.drew.size) (HV.o.frB HB.o HF.o.drew (fun _ _ x => x)) (OK.o.r.frB HB.o HF.o.drew (fun _ _ x => x)) HL.o OK.o.lr).mono ?_
   exact yy33
 obtain ⟨x0, x1, x2, x3, x4⟩ := HX.o _ HF.o
 go_wp2
 go_ret
 obtain rfl : k = h.acts.length := om
 exact ⟨rt_bool (kJE H1.o H2.o H3.o H4.o HQ.o).symm, F0.o.trans HF.o i3⟩
theorem kJf (h : Ho) (A1 A2 A3 : OA) (c1 c2 c3 B : Nat) (w : World) (hB : B ≤ w.heap.size) (ok : HoOk w B h A1 A2 A3) (hnm : h.mod.size ≤ 1048576 ∧ h.name.size ≤ 1048576) :
    Calls prog 36 (q3x0 h A1 A2 A3 c1 c2 c3) w fun e w' => e = .returned (.bool (hoB h)) ∧ Fr No w w' := by
 cases h1 : fnB h.ty with
 | false => exact kJe h A1 A2 A3 c1 c2 c3 B w hB ok hnm h1
 | true =>
  cases h2 : kAb h.mod with
  | false => exact kJd h A1 A2 A3 c1 c2 c3 B w hB ok hnm h1 h2
  | true =>
   cases h3 : kAb h.name with
   | false => exact kJc h A1 A2 A3 c1 c2 c3 B w hB ok hnm h1 h2 h3
   | true =>
    by_cases h4 : h.acts.length = 0
    · exact kJb h A1 A2 A3 c1 c2 c3 B w hB ok hnm h1 h2 h3 h4
    · exact kJa h A1 A2 A3 c1 c2 c3 B w hB ok hnm h1 h2 h3 h4
instance : kAh tVl := by unfold tVl tVl0; infer_instance
def kPL (a : Ac) (w : World) (e : Ending) (w' : World) : Prop :=
 ∃ (A : OA) (c : Nat), e = .returned (.tuple #[.agg #[.int .i64 a.kind, .slice A a.vals.length c, .int .i64 a.mem, .int .i64 a.at_, .int .u8 a.byte], .bool true]) ∧ a.vals.length ≤ c ∧ tVl.els w' (fun k => w.heap.size ≤ k ∧ k < w'.heap.size) A a.vals ∧ Fr No w w'
def kOW (a : Ac) (S : Nat → Prop) (w : World) (e : Ending) (w' : World) : Prop :=
 ∃ (A : OA) (c : Nat), e = .returned (.tuple #[.agg #[.int .i64 a.kind, .slice A a.vals.length c, .int .i64 a.mem, .int .i64 a.at_, .int .u8 a.byte], .bool true]) ∧ a.vals.length ≤ c ∧ tVl.els w' S A a.vals ∧ Fr No w w'
abbrev q3x1 (a0 : Ho) (a1 a2 : Option Addr) (a3 a4 a5 a6 a7 a8 : Nat) : Array Value := #[.string a0.mod, .string a0.name, .slice a1 a0.ty.params.length a3, .slice a2 a0.ty.results.length a4, .slice (some ⟨a5, a6, none⟩) a7 a8]
abbrev q3x3 : Array Value := #[.int .i64 0, .slice none 0 0, .int .i64 0, .int .i64 0, .int .u8 0]
theorem kMi (h : Ho) (A1 A2 A3 : OA) (c1 c2 c3 : Nat) (S : Nat → Prop) (n : Int) (k : Nat) (w : World) (hS : Lt S w) (ha : tAc.els w S A3 h.acts) (hla : h.acts.length ≤ 140737488351232) (hn : 0 ≤ n) (hn' : n ≤ 9223372036854775807) (hk : k < h.acts.length) (hnk : n.tmod h.acts.length = k) (hv : h.acts[k].vals.length ≤ 500) :
    Calls prog 91 #[.agg #[.string h.mod, .string h.name, .slice A1 h.ty.params.length c1, .slice A2 h.ty.results.length c2, .slice A3 h.acts.length c3], .int .i64 n] w (kPL h.acts[k] w) := by
 obtain ⟨b, o, LA, c, rfl, hb, y0, y1, y2, y3, y4, j0, hc, hcm, hvl, j2, j3, j4⟩ := kGy ha k hk
 have e0 : (((h.acts.length : Nat) : Int) == 0) = false := by simp; intro e; simp [e] at hk
 have hl0 : (1 : Int) ≤ h.acts.length := om
 generalize h.acts[k] = a at *
 generalize h.acts.length = L at *
 clear ha j0 j2 j3 j4
 have hne : IntKind.i64.wrap (n.tmod (L : Int)) = (k : Int) := by rw [hnk]; exact IntWalk.i64_in _ (by omega)
 have hnm : n % (L : Int) = (k : Int) := by rw [← hnk, Int.tmod_eq_emod_of_nonneg hn]
 have hk0 := nki k
 have hL0 : ¬ L = 0 := om
 have hk1 : (k : Int) < L := om
 have F0 := hid (((Fr.refl No w).alloc (.cells (q3x1 h A1 A2 c1 c2 b o L c3) 108)).alloc (.cells q3x3 110))
 have HB1 := hid ((Blk.new w 108 (q3x1 h A1 A2 c1 c2 b o L c3)).alloc (.cells q3x3 110))
 have HB2 := hid (Blk.new1 w (.cells (q3x1 h A1 A2 c1 c2 b o L c3) 108) 110 q3x3)
 have HY : Hid (∀ X, Fr No w X → Ce X b (o + k * 5) (.int .i64 a.kind) ∧ Ce X b (o + k * 5 + 1) (.slice LA a.vals.length c) ∧ Ce X b (o + k * 5 + 2) (.int .i64 a.mem) ∧
     Ce X b (o + k * 5 + 3) (.int .i64 a.at_) ∧ Ce X b (o + k * 5 + 4) (.int .u8 a.byte)) := fun X f => by
  have hbW : b < w.heap.size := hS _ hb
  exact yy63
 obtain ⟨css, hcs, hrd⟩ := kDy hvl hS
 have HC := hid hcs
 have HV := hid hrd
 clear hcs hrd
 have HN := hid hnk
 clear y0 y1 y2 y3 y4 hvl
 go_enter func91, ntmps91
 go_wp2
 generalize hW : (w.alloc (.cells (q3x1 h A1 A2 c1 c2 b o L c3) 108)).alloc (.cells q3x3 110) = W at *
 have hWs : W.heap.size = w.heap.size + 2 := by rw [← hW]; simp
 clear hW
 have HW := hid hWs
 have hWl : w.heap.size < W.heap.size := om
 clear hWs
 have HS : Hid (∀ X, Fr No W X → Ce X w.heap.size 4 (.slice (some ⟨b, o, none⟩) L c3) ∧ Ce X b (o + k * 5) (.int .i64 a.kind) ∧ Ce X b (o + k * 5 + 1) (.slice LA a.vals.length c) ∧ Ce X b (o + k * 5 + 2) (.int .i64 a.mem) ∧
     Ce X b (o + k * 5 + 3) (.int .i64 a.at_) ∧ Ce X b (o + k * 5 + 4) (.int .u8 a.byte)) := fun X f => ⟨(HB1.o.fr f id).cell 4, HY.o X (F0.o.trans f i3)⟩
 refine rwO (fun X => Ce X w.heap.size 4 (.slice (some ⟨b, o, none⟩) L c3) ∧ Ce X b (o + k * 5) (.int .i64 a.kind) ∧ Ce X b (o + k * 5 + 1) (.slice LA a.vals.length c) ∧ Ce X b (o + k * 5 + 2) (.int .i64 a.mem) ∧
     Ce X b (o + k * 5 + 3) (.int .i64 a.at_) ∧ Ce X b (o + k * 5 + 4) (.int .u8 a.byte)) [] (List.range 11) [9, 10] (HS.o _ (Fr.refl _ _).drew) ?_
 refine rC ?_
 refine wpO_eff rfl rfl fun K hK => sz ?_
 refine hK _ _ (fun _ => HS.o _ ((Fr.refl _ _).drew.alloc _)) ?_
 clear hK K
 refine wpO_eff rfl rfl fun K hK => sz ?_
 refine hK _ _ (fun _ => HS.o _ (((Fr.refl _ _).alloc _).drew)) ?_
 clear hK K
 refine wpO_nil ?_
 have GA := hid (Blk.new W 110 #[.int .i64 a.kind, .slice LA a.vals.length c, .int .i64 a.mem, .int .i64 a.at_, .int .u8 a.byte]).drew
 have FA := hid ((F0.o.alloc (.cells #[.int .i64 a.kind, .slice LA a.vals.length c, .int .i64 a.mem, .int .i64 a.at_, .int .u8 a.byte] 110)).drew)
 have HB3 := hid (HB2.o.alloc (.cells #[.int .i64 a.kind, .slice LA a.vals.length c, .int .i64 a.mem, .int .i64 a.at_, .int .u8 a.byte] 110)).drew
 have hXs : W.heap.size < (W.alloc (.cells #[.int .i64 a.kind, .slice LA a.vals.length c, .int .i64 a.mem, .int .i64 a.at_, .int .u8 a.byte] 110)).drew.heap.size := GA.o.lt
 generalize (W.alloc (.cells #[.int .i64 a.kind, .slice LA a.vals.length c, .int .i64 a.mem, .int .i64 a.at_, .int .u8 a.byte] 110)).drew = X at *
 obtain ⟨x0, x1, x2, x3, x4⟩ : Ce X W.heap.size 0 (.int .i64 a.kind) ∧ Ce X W.heap.size 1 (.slice LA a.vals.length c) ∧ Ce X W.heap.size 2 (.int .i64 a.mem) ∧ Ce X W.heap.size 3 (.int .i64 a.at_) ∧ Ce X W.heap.size 4 (.int .u8 a.byte) := ⟨GA.o.cell 0, GA.o.cell 1, GA.o.cell 2, GA.o.cell 3, GA.o.cell 4⟩
 clear HS HY HB1
 go_wp2_with (at_builtin; refine wpList_appC (t := tVl) (base := X.heap.size) (S := Emp) (xs := []) (ys := a.vals) (dss := css) (B2 := w.heap.size) elVl rfl rfl rfl rfl (Ty.row.nil _ _ _ _) (HC.o _ _) (HV.o.frNo FA.o) rfl ?h1 ?h2 (fun _ h => h.elim) nr ?_)
 case h1 => simp; omega
 case h2 => simp; omega
 intro v' w1 hr fr hv'
 have G1 := hid (GA.o.fr fr (fun x => by simp [Value.ownBlock] at x))
 have G2 := hid (HB3.o.fr fr (fun x => by simp [Value.ownBlock] at x))
 have R1 := hid hr
 have F1 := hid (FA.o.trans (fr.mono (M := No) (fun _ _ h => by simp [Value.ownBlock] at h)) i3)
 have hqX : ∀ q, v'.ownBlock = some q → X.heap.size ≤ q := fun q hq => by
  rcases hv' with h | h
  · rw [h] at hq; simp [Value.ownBlock] at hq
  rw [h] at hq; injection hq with hq; omega
 have HQ := hid hqX
 have hXw := fr.size
 clear hr fr hv' hqX GA HB3 x0 x1 x2 x3 x4 FA
 obtain ⟨z0, z2, z3, z4⟩ : w1.cell? ⟨W.heap.size, 0, none⟩ = some (.int .i64 a.kind) ∧ w1.cell? ⟨W.heap.size, 2, none⟩ = some (.int .i64 a.mem) ∧ w1.cell? ⟨W.heap.size, 3, none⟩ = some (.int .i64 a.at_) ∧ w1.cell? ⟨W.heap.size, 4, none⟩ = some (.int .u8 a.byte) := ⟨G1.o.cell 0, G1.o.cell 2, G1.o.cell 3, G1.o.cell 4⟩
 have z1 : w1.cell? ⟨W.heap.size, 1, none⟩ = some (.slice LA a.vals.length c) := G1.o.cell 1
 have zf : w1.frozen? ⟨W.heap.size, 1, none⟩ = false := G1.o.frozen 1
 have y0 : w1.cell? ⟨w.heap.size + 1, 0, none⟩ = some (.int .i64 0) := G2.o.cell 0
 have y1 : w1.cell? ⟨w.heap.size + 1, 1, none⟩ = some (.slice none 0 0) := G2.o.cell 1
 have y2 : w1.cell? ⟨w.heap.size + 1, 2, none⟩ = some (.int .i64 0) := G2.o.cell 2
 have y3 : w1.cell? ⟨w.heap.size + 1, 3, none⟩ = some (.int .i64 0) := G2.o.cell 3
 have y4 : w1.cell? ⟨w.heap.size + 1, 4, none⟩ = some (.int .u8 0) := G2.o.cell 4
 have f0 : w1.frozen? ⟨w.heap.size + 1, 0, none⟩ = false := G2.o.frozen 0
 have f1 : w1.frozen? ⟨w.heap.size + 1, 1, none⟩ = false := G2.o.frozen 1
 have f2 : w1.frozen? ⟨w.heap.size + 1, 2, none⟩ = false := G2.o.frozen 2
 have f3 : w1.frozen? ⟨w.heap.size + 1, 3, none⟩ = false := G2.o.frozen 3
 have f4 : w1.frozen? ⟨w.heap.size + 1, 4, none⟩ = false := G2.o.frozen 4
 obtain ⟨A', c', rfl, hc1, hc2, _⟩ := R1.o.els (S' := fun _ => True) tvv tvv
 have d1 : ¬ W.heap.size = w.heap.size + 1 := by have := HW.o; omega
 have d2 : ¬ w.heap.size + 1 = W.heap.size := by have := HW.o; omega
 go_wp2
 have FZ := ((((((Fr.refl (Two W.heap.size (w.heap.size + 1)) w1).setCell ⟨W.heap.size, 1, none⟩ (.slice A' a.vals.length c') (fun _ => .inl rfl)).setCell ⟨w.heap.size + 1, 0, none⟩ (.int .i64 a.kind) (fun _ => .inr rfl)).setCell ⟨w.heap.size + 1, 1, none⟩ (.slice A' a.vals.length c') (fun _ => .inr rfl)).setCell ⟨w.heap.size + 1, 2, none⟩ (.int .i64 a.mem) (fun _ => .inr rfl)).setCell ⟨w.heap.size + 1, 3, none⟩ (.int .i64 a.at_) (fun _ => .inr rfl)).setCell ⟨w.heap.size + 1, 4, none⟩ (.int .u8 a.byte) (fun _ => .inr rfl)
 have hW2 := HW.o
 refine bodyPost_ret (v := .tuple #[.agg #[.int .i64 a.kind, .slice A' a.vals.length c', .int .i64 a.mem, .int .i64 a.at_, .int .u8 a.byte], .bool true]) (by simp [results, Tryz.results91, go_sem, y0, y1, y2, y3, y4]) rfl ⟨A', c', rfl, hc1, ?_, ?_⟩
 · refine (R1.o.fr FZ (fun _ h => h.elim) (fun q hq h => ?_)).els' (fun _ h => h.elim) (fun g hg => ?_)
   · have := HQ.o q hq
     rcases h with h | h <;> omega
   obtain ⟨h1, cs, h2⟩ := R1.o.own hg
   have := h2.lt
   have := FZ.size
   exact ⟨by omega, by omega⟩
 refine F1.o.trans FZ (fun i hi h => ?_)
 rcases h with h | h <;> omega
theorem kKq (h : Ho) (A1 A2 A3 : OA) (c1 c2 c3 : Nat) (S : Nat → Prop) (n : Int) (k : Nat) (w : World) (hS : Lt S w) (ha : tAc.els w S A3 h.acts) (hla : h.acts.length ≤ 140737488351232) (hn : 0 ≤ n) (hn' : n ≤ 9223372036854775807) (hk : k < h.acts.length) (hnk : n.tmod h.acts.length = k) (hv : h.acts[k].vals.length ≤ 500) :
    Calls prog 128 #[.agg #[.string h.mod, .string h.name, .slice A1 h.ty.params.length c1, .slice A2 h.ty.results.length c2, .slice A3 h.acts.length c3], .int .i64 n] w (kOW h.acts[k] S w) := by
 obtain ⟨b, o, LA, c, rfl, hb, y0, y1, y2, y3, y4, j0, hc, hcm, hvl, j2, j3, j4⟩ := kGy ha k hk
 have e0 : (((h.acts.length : Nat) : Int) == 0) = false := by simp; intro e; simp [e] at hk
 have hl0 : (1 : Int) ≤ h.acts.length := om
 generalize h.acts[k] = a at *
 generalize h.acts.length = L at *
 clear ha j0 j2 j3 j4
 have hne : IntKind.i64.wrap (n.tmod (L : Int)) = (k : Int) := by rw [hnk]; exact IntWalk.i64_in _ (by omega)
 have hnm : n % (L : Int) = (k : Int) := by rw [← hnk, Int.tmod_eq_emod_of_nonneg hn]
 have hk0 := nki k
 have hL0 : ¬ L = 0 := om
 have hk1 : (k : Int) < L := om
 have F0 := hid (((Fr.refl No w).alloc (.cells (q3x1 h A1 A2 c1 c2 b o L c3) 108)).alloc (.cells q3x3 110))
 have HB1 := hid ((Blk.new w 108 (q3x1 h A1 A2 c1 c2 b o L c3)).alloc (.cells q3x3 110))
 have HB2 := hid (Blk.new1 w (.cells (q3x1 h A1 A2 c1 c2 b o L c3) 108) 110 q3x3)
 have HY : Hid (∀ X, Fr No w X → Ce X b (o + k * 5) (.int .i64 a.kind) ∧ Ce X b (o + k * 5 + 1) (.slice LA a.vals.length c) ∧ Ce X b (o + k * 5 + 2) (.int .i64 a.mem) ∧
     Ce X b (o + k * 5 + 3) (.int .i64 a.at_) ∧ Ce X b (o + k * 5 + 4) (.int .u8 a.byte)) := fun X f => by
  have hbW : b < w.heap.size := hS _ hb
  exact yy63
 have HV := hid hvl
 have HN := hid hnk
 clear y0 y1 y2 y3 y4 hvl
 go_enter func128, ntmps128
 go_wp2
 generalize hW : (w.alloc (.cells (q3x1 h A1 A2 c1 c2 b o L c3) 108)).alloc (.cells q3x3 110) = W at *
 have hWs : W.heap.size = w.heap.size + 2 := by rw [← hW]; simp
 clear hW
 have HW := hid hWs
 have hWl : w.heap.size < W.heap.size := om
 clear hWs
 obtain ⟨u0, u1, u2, u3, u4⟩ : W.cell? ⟨w.heap.size + 1, 0, none⟩ = some (.int .i64 0) ∧ W.cell? ⟨w.heap.size + 1, 1, none⟩ = some (.slice none 0 0) ∧ W.cell? ⟨w.heap.size + 1, 2, none⟩ = some (.int .i64 0) ∧ W.cell? ⟨w.heap.size + 1, 3, none⟩ = some (.int .i64 0) ∧ W.cell? ⟨w.heap.size + 1, 4, none⟩ = some (.int .u8 0) := ⟨HB2.o.cell 0, HB2.o.cell 1, HB2.o.cell 2, HB2.o.cell 3, HB2.o.cell 4⟩
 have f0 : W.frozen? ⟨w.heap.size + 1, 0, none⟩ = false := HB2.o.frozen 0
 have f1 : W.frozen? ⟨w.heap.size + 1, 1, none⟩ = false := HB2.o.frozen 1
 have f2 : W.frozen? ⟨w.heap.size + 1, 2, none⟩ = false := HB2.o.frozen 2
 have f3 : W.frozen? ⟨w.heap.size + 1, 3, none⟩ = false := HB2.o.frozen 3
 have f4 : W.frozen? ⟨w.heap.size + 1, 4, none⟩ = false := HB2.o.frozen 4
 have HS : Hid (∀ X, Fr (One (w.heap.size + 1)) W X → Ce X w.heap.size 4 (.slice (some ⟨b, o, none⟩) L c3) ∧ Ce X b (o + k * 5) (.int .i64 a.kind) ∧ Ce X b (o + k * 5 + 1) (.slice LA a.vals.length c) ∧ Ce X b (o + k * 5 + 2) (.int .i64 a.mem) ∧
     Ce X b (o + k * 5 + 3) (.int .i64 a.at_) ∧ Ce X b (o + k * 5 + 4) (.int .u8 a.byte)) := fun X f => ⟨(HB1.o.fr f (fun x => by simp [One] at x)).cell 4, HY.o X (F0.o.trans f (fun i hi h => by simp only [One] at h; omega))⟩
 refine rwO (fun X => Ce X w.heap.size 4 (.slice (some ⟨b, o, none⟩) L c3) ∧ Ce X b (o + k * 5) (.int .i64 a.kind) ∧ Ce X b (o + k * 5 + 1) (.slice LA a.vals.length c) ∧ Ce X b (o + k * 5 + 2) (.int .i64 a.mem) ∧
     Ce X b (o + k * 5 + 3) (.int .i64 a.at_) ∧ Ce X b (o + k * 5 + 4) (.int .u8 a.byte)) [] (List.range 11) [9] (HS.o _ (Fr.refl _ _).drew) ?_
 refine rC ?_
 refine wpO_eff rfl rfl fun K hK => sz ?_
 have FZ := hid ((((((Fr.refl (One (w.heap.size + 1)) W).setCell ⟨w.heap.size + 1, 0, none⟩ (.int .i64 a.kind) (fun _ => rfl)).setCell ⟨w.heap.size + 1, 1, none⟩ (.slice LA a.vals.length c) (fun _ => rfl)).setCell ⟨w.heap.size + 1, 2, none⟩ (.int .i64 a.mem) (fun _ => rfl)).setCell ⟨w.heap.size + 1, 3, none⟩ (.int .i64 a.at_) (fun _ => rfl)).setCell ⟨w.heap.size + 1, 4, none⟩ (.int .u8 a.byte) (fun _ => rfl)).drew
 refine hK _ _ (fun _ => HS.o _ FZ.o) ?_
 clear hK K
 have FT := hid (F0.o.trans FZ.o (fun i hi h => by simp only [One] at h; omega))
 have HZ := hid (((((HB2.o.set_ 0 (.int .i64 a.kind)).set_ 1 (.slice LA a.vals.length c)).set_ 2 (.int .i64 a.mem)).set_ 3 (.int .i64 a.at_)).set_ 4 (.int .u8 a.byte)).drew
 clear u0 u1 u2 u3 u4 f0 f1 f2 f3 f4 HS FZ
 generalize (((((W.setCell ⟨w.heap.size + 1, 0, none⟩ (.int .i64 a.kind)).setCell ⟨w.heap.size + 1, 1, none⟩ (.slice LA a.vals.length c)).setCell ⟨w.heap.size + 1, 2, none⟩ (.int .i64 a.mem)).setCell ⟨w.heap.size + 1, 3, none⟩ (.int .i64 a.at_)).setCell ⟨w.heap.size + 1, 4, none⟩ (.int .u8 a.byte)).drew = X at *
 refine rC ?_
 refine wpO_nil ?_
 go_wp2
 have y0 : Ce X (w.heap.size + 1) 0 (.int .i64 a.kind) := HZ.o.cell 0
 have y1 : Ce X (w.heap.size + 1) 1 (.slice LA a.vals.length c) := HZ.o.cell 1
 have y2 : Ce X (w.heap.size + 1) 2 (.int .i64 a.mem) := HZ.o.cell 2
 have y3 : Ce X (w.heap.size + 1) 3 (.int .i64 a.at_) := HZ.o.cell 3
 have y4 : Ce X (w.heap.size + 1) 4 (.int .u8 a.byte) := HZ.o.cell 4
 refine bodyPost_ret (v := .tuple #[.agg #[.int .i64 a.kind, .slice LA a.vals.length c, .int .i64 a.mem, .int .i64 a.at_, .int .u8 a.byte], .bool true]) (by simp [results, Tryz.results128, go_sem, y0, y1, y2, y3, y4]) rfl ⟨LA, c, rfl, hc, ?_, FT.o⟩
 exact HV.o.fr FT.o (fun k hk => ⟨hS k hk, fun x => x⟩)
def kPJ (vals : List Vl) (w : World) (e : Ending) (w' : World) : Prop :=
 ∃ (A : OA) (c : Nat), e = .returned (.tuple #[.slice A vals.length c, .int .i64 0]) ∧ vals.length ≤ c ∧ tVl.els w' (fun k => w.heap.size ≤ k ∧ k < w'.heap.size) A vals ∧ Fr No w w'
def kOV (vals : List Vl) (S : Nat → Prop) (w : World) (e : Ending) (w' : World) : Prop :=
 ∃ (A : OA) (c : Nat), e = .returned (.tuple #[.slice A vals.length c, .int .i64 0]) ∧ vals.length ≤ c ∧ tVl.els w' S A vals ∧ Fr No w w'
def kGx (w : World) (e : Ending) (w' : World) : Prop := e = .returned (.tuple #[.slice none 0 0, .int .i64 11]) ∧ Fr No w w'
def ansB (a : Ac) (rs : List Int) : Bool := (decide (a.kind = 0) || decide (a.kind = 2)) && fitB a.vals rs
theorem kMT (kind mem at_ byte : Int) (vals : List Vl) (np : Nat) (rs : List Int) (A A1 A2 : OA) (c c1 c2 : Nat) (S : Nat → Prop) (w : World) (hB : Lt S w) (ha : tVl.els w S A vals) (h2 : (Ty.int .i64).els w S A2 rs) (hc : vals.length ≤ c) (l1 : vals.length ≤ 500) (l2 : rs.length ≤ 140737488351232) (hk : kind = 0 ∨ kind = 2) (hf : fitB vals rs = true) :
    Calls prog 93 #[.agg #[.int .i64 kind, .slice A vals.length c, .int .i64 mem, .int .i64 at_, .int .u8 byte], .agg #[.slice A1 np c1, .slice A2 rs.length c2]] w (kPJ vals w) := by
 have HA := hid ha
 have HS := hid hB
 have H1 := hid (ha.more (S' := (· < w.heap.size)) hB)
 have H2 := hid (h2.more (S' := (· < w.heap.size)) hB)
 have HB := hid (Nat.le_refl w.heap.size)
 have L1 := hid (show vals.length ≤ 140737488351232 by omega)
 have L2 := hid l2
 obtain ⟨css, hcs, hrd⟩ := kDy ha hB
 have HC := hid hcs
 have HR := hid hrd
 clear hcs hrd
 clear ha h2 hB l2
 have HV := hid hf
 clear hf
 rcases hk with rfl | rfl
 all_goals
  go_enter func93, ntmps93
  go_wp2_with (first
   | (go_at_call 89; refine (kCx _ _ vals rs _ _ w.heap.size w.heap.size _ (Nat.le_trans HB.o (((Fr.refl No w).alloc _).alloc _).size) (Nat.le_trans HB.o (((Fr.refl No w).alloc _).alloc _).size) (H1.o.frB HB.o (((Fr.refl No w).alloc _).alloc _) (fun _ _ x => x)) (H2.o.frB HB.o (((Fr.refl No w).alloc _).alloc _) (fun _ _ x => x)) L1.o L2.o).mono ?_; rintro e w1 ⟨rfl, f1⟩; rw [HV.o]; obtain ⟨z0, z1, z2, z3, z4⟩ := kCr f1; have F1 := hid ((((Fr.refl No w).alloc _).alloc _).trans f1 i3); clear f1)
   | (at_builtin; refine wpList_appC (t := tVl) (v := .slice none 0 0) (base := w1.heap.size) (S := Emp) (xs := []) (ys := vals) (dss := css) (B2 := w.heap.size) elVl rfl rfl rfl rfl (Ty.row.nil _ _ _ _) (HC.o _ _) (HR.o.frNo F1.o) rfl so so (fun _ h => h.elim) nr ?_; intro v' w2 hr fr _; have R2 := hid hr; have F2 := hid (F1.o.trans (fr.mono (M := No) (fun _ _ h => by simp [Value.ownBlock] at h)) i3); obtain ⟨A', c', rfl, hc', _, _⟩ := R2.o.els (S' := fun _ => True) tvv tvv; clear hr fr))
  go_ret2
  refine ⟨_, _, rfl, hc', R2.o.els' (fun _ h => h.elim) (fun g hg => ?_), F2.o⟩
  obtain ⟨h1, cs, h2⟩ := R2.o.own hg
  have := F1.o.size
  exact ⟨by omega, h2.lt⟩
theorem kNl (kind mem at_ byte : Int) (vals : List Vl) (np : Nat) (rs : List Int) (A A1 A2 : OA) (c c1 c2 : Nat) (S : Nat → Prop) (w : World) (hB : Lt S w) (ha : tVl.els w S A vals) (h2 : (Ty.int .i64).els w S A2 rs) (hc : vals.length ≤ c) (l1 : vals.length ≤ 500) (l2 : rs.length ≤ 140737488351232) (hk : kind = 0 ∨ kind = 2) (hf : fitB vals rs = false) :
    Calls prog 93 #[.agg #[.int .i64 kind, .slice A vals.length c, .int .i64 mem, .int .i64 at_, .int .u8 byte], .agg #[.slice A1 np c1, .slice A2 rs.length c2]] w (kGx w) := by
 have HA := hid ha
 have HS := hid hB
 have H1 := hid (ha.more (S' := (· < w.heap.size)) hB)
 have H2 := hid (h2.more (S' := (· < w.heap.size)) hB)
 have HB := hid (Nat.le_refl w.heap.size)
 have L1 := hid (show vals.length ≤ 140737488351232 by omega)
 have L2 := hid l2
 clear ha h2 hB l2
 have HV := hid hf
 clear hf
 rcases hk with rfl | rfl
 all_goals
  go_enter func93, ntmps93
  go_wp2_with (first
   | (go_at_call 89; refine (kCx _ _ vals rs _ _ w.heap.size w.heap.size _ (Nat.le_trans HB.o (((Fr.refl No w).alloc _).alloc _).size) (Nat.le_trans HB.o (((Fr.refl No w).alloc _).alloc _).size) (H1.o.frB HB.o (((Fr.refl No w).alloc _).alloc _) (fun _ _ x => x)) (H2.o.frB HB.o (((Fr.refl No w).alloc _).alloc _) (fun _ _ x => x)) L1.o L2.o).mono ?_; rintro e w1 ⟨rfl, f1⟩; rw [HV.o]; obtain ⟨z0, z1, z2, z3, z4⟩ := kCr f1; have F1 := hid ((((Fr.refl No w).alloc _).alloc _).trans f1 i3); clear f1))
  go_ret2
  exact ⟨rfl, F1.o⟩
theorem kMU (kind mem at_ byte : Int) (vals : List Vl) (np : Nat) (rs : List Int) (A A1 A2 : OA) (c c1 c2 : Nat) (S : Nat → Prop) (w : World) (hB : Lt S w) (ha : tVl.els w S A vals) (h2 : (Ty.int .i64).els w S A2 rs) (hc : vals.length ≤ c) (l1 : vals.length ≤ 500) (l2 : rs.length ≤ 140737488351232) (hk0 : ¬ kind = 0) (hk2 : ¬ kind = 2) :
    Calls prog 93 #[.agg #[.int .i64 kind, .slice A vals.length c, .int .i64 mem, .int .i64 at_, .int .u8 byte], .agg #[.slice A1 np c1, .slice A2 rs.length c2]] w (kGx w) := by
 have HA := hid ha
 have HS := hid hB
 have H1 := hid (ha.more (S' := (· < w.heap.size)) hB)
 have H2 := hid (h2.more (S' := (· < w.heap.size)) hB)
 have HB := hid (Nat.le_refl w.heap.size)
 have L1 := hid (show vals.length ≤ 140737488351232 by omega)
 have L2 := hid l2
 clear ha h2 hB l2
 have e0 : (kind == 0) = false := by simpa using hk0
 have e2 : (kind == 2) = false := by simpa using hk2
 have g0 : (kind != 0) = true := by simpa using hk0
 have g2 : (kind != 2) = true := by simpa using hk2
 go_enter func93, ntmps93
 go_wp2
 go_ret2
 exact ⟨rfl, (((Fr.refl No w).alloc _).alloc _)⟩
theorem kLy (kind mem at_ byte : Int) (vals : List Vl) (np : Nat) (rs : List Int) (A A1 A2 : OA) (c c1 c2 : Nat) (S : Nat → Prop) (w : World) (hB : Lt S w) (ha : tVl.els w S A vals) (h2 : (Ty.int .i64).els w S A2 rs) (hc : vals.length ≤ c) (l1 : vals.length ≤ 500) (l2 : rs.length ≤ 140737488351232) (hk : kind = 0 ∨ kind = 2) (hf : fitB vals rs = true) :
    Calls prog 130 #[.agg #[.int .i64 kind, .slice A vals.length c, .int .i64 mem, .int .i64 at_, .int .u8 byte], .agg #[.slice A1 np c1, .slice A2 rs.length c2]] w (kOV vals S w) := by
 have HA := hid ha
 have HS := hid hB
 have H1 := hid (ha.more (S' := (· < w.heap.size)) hB)
 have H2 := hid (h2.more (S' := (· < w.heap.size)) hB)
 have HB := hid (Nat.le_refl w.heap.size)
 have L1 := hid (show vals.length ≤ 140737488351232 by omega)
 have L2 := hid l2
 clear ha h2 hB l2
 have HV := hid hf
 clear hf
 rcases hk with rfl | rfl
 all_goals
  go_enter func130, ntmps130
  go_wp2_with (first
   | (go_at_call 127; refine (kCJ _ _ vals rs _ _ w.heap.size w.heap.size _ (Nat.le_trans HB.o (((Fr.refl No w).alloc _).alloc _).size) (Nat.le_trans HB.o (((Fr.refl No w).alloc _).alloc _).size) (H1.o.frB HB.o (((Fr.refl No w).alloc _).alloc _) (fun _ _ x => x)) (H2.o.frB HB.o (((Fr.refl No w).alloc _).alloc _) (fun _ _ x => x)) L1.o L2.o).mono ?_; rintro e w1 ⟨rfl, f1⟩; rw [HV.o]; obtain ⟨z0, z1, z2, z3, z4⟩ := kCr f1; have F1 := hid ((((Fr.refl No w).alloc _).alloc _).trans f1 i3); clear f1))
  go_ret2
  exact ⟨_, _, rfl, hc, HA.o.fr F1.o (fun k hk => ⟨HS.o k hk, fun x => x⟩), F1.o⟩
theorem kNW (kind mem at_ byte : Int) (vals : List Vl) (np : Nat) (rs : List Int) (A A1 A2 : OA) (c c1 c2 : Nat) (S : Nat → Prop) (w : World) (hB : Lt S w) (ha : tVl.els w S A vals) (h2 : (Ty.int .i64).els w S A2 rs) (hc : vals.length ≤ c) (l1 : vals.length ≤ 500) (l2 : rs.length ≤ 140737488351232) (hk : kind = 0 ∨ kind = 2) (hf : fitB vals rs = false) :
    Calls prog 130 #[.agg #[.int .i64 kind, .slice A vals.length c, .int .i64 mem, .int .i64 at_, .int .u8 byte], .agg #[.slice A1 np c1, .slice A2 rs.length c2]] w (kGx w) := by
 have HA := hid ha
 have HS := hid hB
 have H1 := hid (ha.more (S' := (· < w.heap.size)) hB)
 have H2 := hid (h2.more (S' := (· < w.heap.size)) hB)
 have HB := hid (Nat.le_refl w.heap.size)
 have L1 := hid (show vals.length ≤ 140737488351232 by omega)
 have L2 := hid l2
 clear ha h2 hB l2
 have HV := hid hf
 clear hf
 rcases hk with rfl | rfl
 all_goals
  go_enter func130, ntmps130
  go_wp2_with (first
   | (go_at_call 127; refine (kCJ _ _ vals rs _ _ w.heap.size w.heap.size _ (Nat.le_trans HB.o (((Fr.refl No w).alloc _).alloc _).size) (Nat.le_trans HB.o (((Fr.refl No w).alloc _).alloc _).size) (H1.o.frB HB.o (((Fr.refl No w).alloc _).alloc _) (fun _ _ x => x)) (H2.o.frB HB.o (((Fr.refl No w).alloc _).alloc _) (fun _ _ x => x)) L1.o L2.o).mono ?_; rintro e w1 ⟨rfl, f1⟩; rw [HV.o]; obtain ⟨z0, z1, z2, z3, z4⟩ := kCr f1; have F1 := hid ((((Fr.refl No w).alloc _).alloc _).trans f1 i3); clear f1))
  go_ret2
  exact ⟨rfl, F1.o⟩
theorem kLz (kind mem at_ byte : Int) (vals : List Vl) (np : Nat) (rs : List Int) (A A1 A2 : OA) (c c1 c2 : Nat) (S : Nat → Prop) (w : World) (hB : Lt S w) (ha : tVl.els w S A vals) (h2 : (Ty.int .i64).els w S A2 rs) (hc : vals.length ≤ c) (l1 : vals.length ≤ 500) (l2 : rs.length ≤ 140737488351232) (hk0 : ¬ kind = 0) (hk2 : ¬ kind = 2) :
    Calls prog 130 #[.agg #[.int .i64 kind, .slice A vals.length c, .int .i64 mem, .int .i64 at_, .int .u8 byte], .agg #[.slice A1 np c1, .slice A2 rs.length c2]] w (kGx w) := by
 have HA := hid ha
 have HS := hid hB
 have H1 := hid (ha.more (S' := (· < w.heap.size)) hB)
 have H2 := hid (h2.more (S' := (· < w.heap.size)) hB)
 have HB := hid (Nat.le_refl w.heap.size)
 have L1 := hid (show vals.length ≤ 140737488351232 by omega)
 have L2 := hid l2
 clear ha h2 hB l2
 have e0 : (kind == 0) = false := by simpa using hk0
 have e2 : (kind == 2) = false := by simpa using hk2
 have g0 : (kind != 0) = true := by simpa using hk0
 have g2 : (kind != 2) = true := by simpa using hk2
 go_enter func130, ntmps130
 go_wp2
 go_ret2
 exact ⟨rfl, (((Fr.refl No w).alloc _).alloc _)⟩
end Go.Proofs.YtdckghiipijobaaGreat
