/- Contracts of the reference of tables: low, there, most, same, put. -/
import Derived.Test.YtndhbamfgihncaaTabR6
import Derived.Test.YtndhbamfgihncaaTabD
import Derived.Test.YtndhbamfgihncaaTabE
import Derived.Test.YtndhbamfgihncaaTabF
import Derived.Test.YtndhbamfgihncaaOrd
namespace Go.Proofs.Ytndhbamfgihncaa
open Go.RowKit

set_option maxHeartbeats 400000 in
theorem rlow_any (n : Int) (w : World) (h0 : 0 ≤ n) (h1 : n < 18446744073709551616) :
    Calls Try.prog 41 #[.int .u64 n] w fun e w' => e = .returned (.int .i64 (n % 4294967296)) ∧ w = w' := by
  have hm : 0 ≤ n % 4294967296 ∧ n % 4294967296 < 4294967296 := by omega
  go_enter Try.func41, Try.ntmps41
  go_wp2
  go_ret
  exact ⟨rfl, rfl⟩

set_option maxHeartbeats 400000 in
theorem rthere_any (A : Option Addr) (len c : Nat) (f n : Int) (w : World) (hl : len ≤ 9223372036854775807) (h0 : 0 ≤ f) (h1 : 0 ≤ n) (h2 : f < 18446744073709551616) (h3 : n < 18446744073709551616) :
    Calls Try.prog 40 #[.slice A len c, .int .u64 f, .int .u64 n] w fun e w' => e = .returned (.bool (thereB len f n)) ∧ w = w' := by
  go_enter Try.func40, Try.ntmps40
  go_wp2_with (go_at_call 41; refine (rlow_any _ _ (by omega) (by omega)).mono ?_; rintro e w' ⟨rfl, rfl⟩)
  go_ret
  exact ⟨ret_bool rfl, rfl⟩

set_option maxHeartbeats 400000 in
theorem rmost_any (e mn mx : Int) (h : Bool) (v : Value) (w : World) (h1 : v.oneCell' = true) (hv : v.cells = #[v]) :
    Calls Try.prog 43 #[.agg #[.int .i64 e, .int .i64 mn, .int .i64 mx, .bool h, v]] w fun e w' => e = .returned (.int .i64 (mostS mx h)) ∧ Fr No w w' := by
  cases h
  all_goals
    go_enter Try.func43, Try.ntmps43
    go_wp2
    go_ret
    exact ⟨rfl, (Fr.refl No w).alloc _⟩

def SameTo (x : Int) (n : Nat) (w : World) (e : Ending) (w' : World) : Prop :=
  ∃ v, e = .returned v ∧ w'.ownsRow w.heap.size 23 1 v n (Us (List.replicate n x)) ∧ Fr No w w'

set_option maxHeartbeats 400000 in
theorem rsame_any (x : Int) (n : Nat) (w : World) (hn : n ≤ 1048576) :
    Calls Try.prog 44 #[.int .u64 x, .int .i64 n] w (SameTo x n w) := by
  go_enter Try.func44, Try.ntmps44
  go_wp2
  go_loopw [5, 6] (fun v i wr => ∃ k : Nat, k ≤ n ∧ i = .int .i64 k ∧ wr.ownsRow w.heap.size 23 1 v k (Us (List.replicate k x)) ∧ Fr No w wr) (fun _ i _ => n - (intOf i).toNat)
  case atStart => exact ⟨0, by omega, rfl, World.ownsRow_nil _ _ _ _, Fr.refl _ _⟩
  case round =>
    obtain ⟨k, hk, rfl, ho, hf⟩ := hrel
    have HO := hid ho
    clear ho
    by_cases hlt : k < n
    · have hs := hf.size
      go_wp2_with (at_builtin; refine wpList_pushR u64s rfl rfl rfl rfl HO.out rfl (by omega) (by omega) hs ?_; intro v2 w2 ho2 hf2 hq2)
      refine ⟨⟨k + 1, by omega, by go_num, ?_, ?_⟩, by simp [intOf]; omega⟩
      · rw [List.replicate_succ']; simpa [Us] using ho2
      · exact hf.trans hf2 (fun i hi h => by have := (HO.out.lt i h.symm).1; omega)
    · obtain rfl : k = n := by omega
      go_wp2
      go_ret
      exact ⟨_, rfl, HO.out, hf⟩

def PutTo (e mn mx : Int) (h : Bool) (zs : List Int) (n : Nat) (w : World) (e' : Ending) (w' : World) : Prop :=
  ∃ q c, e' = .returned (.agg #[.int .i64 e, .int .i64 mn, .int .i64 mx, .bool h, .slice (some ⟨q, 0, none⟩) n c]) ∧ Own w' q 23 c (Us zs) ∧ w.heap.size ≤ q ∧ Fr No w w'

set_option maxHeartbeats 1600000 in
theorem rput_any (e mn mx : Int) (h : Bool) (A D : Option Addr) (xs ls : List Int) (c d T B1 B2 : Nat) (w : World) (ha : Rd w B1 A (Us xs)) (hd : Rd w B2 D (Us ls)) (hx : xs.length ≤ 1024) (hT : T + ls.length ≤ xs.length) :
    Calls Try.prog 42 #[.agg #[.int .i64 e, .int .i64 mn, .int .i64 mx, .bool h, .slice A xs.length c], .int .i64 T, .slice D ls.length d] w (PutTo e mn mx h (splice xs T ls) xs.length w) := by
  go_enter Try.func42, Try.ntmps42
  have f3 : Fr No w (((w.alloc (.cells #[.int .i64 e, .int .i64 mn, .int .i64 mx, .bool h, .slice A xs.length c] 51)).alloc (.cells #[.int .i64 0, .int .i64 0, .int .i64 0, .bool false, .slice none 0 0] 51)).alloc (.cells #[] 23)) := (((Fr.refl No w).alloc _).alloc _).alloc _
  have hol : Own (((w.alloc (.cells #[.int .i64 e, .int .i64 mn, .int .i64 mx, .bool h, .slice A xs.length c] 51)).alloc (.cells #[.int .i64 0, .int .i64 0, .int .i64 0, .bool false, .slice none 0 0] 51)).alloc (.cells #[] 23)) (w.heap.size + 1 + 1) 23 0 [] := by
    have := own_lit ((w.alloc (.cells #[.int .i64 e, .int .i64 mn, .int .i64 mx, .bool h, .slice A xs.length c] 51)).alloc (.cells #[.int .i64 0, .int .i64 0, .int .i64 0, .bool false, .slice none 0 0] 51)) 23 [] (by simp)
    simpa using this
  go_wp2_with (at_builtin; refine wpList_app1 c u64s rfl rfl (xs := []) rfl rfl hol (ha.frNo f3) (len_Us _) (one_Us _) (by simp; omega) (by omega) ?_; intro q c4 w4 ho4 hf4 hq4)
  have O4 := hid (show Own w4 q 23 c4 (Us xs) from by simpa using ho4)
  have g4 : w.heap.size + 2 ≤ q := by simp at hq4; omega
  have F4 : Fr No w w4 := f3.trans hf4 (fun i hi h => by have h : i = w.heap.size + 1 + 1 := h; omega)
  have B4 := hid ((((Blk.new w 51 #[.int .i64 e, .int .i64 mn, .int .i64 mx, .bool h, .slice A xs.length c]).alloc (.cells #[.int .i64 0, .int .i64 0, .int .i64 0, .bool false, .slice none 0 0] 51)).alloc (.cells #[] 23)).fr hf4 (fun h => by have h : w.heap.size = w.heap.size + 1 + 1 := h; omega))
  have R4 := hid (((Blk.new1 w (.cells #[.int .i64 e, .int .i64 mn, .int .i64 mx, .bool h, .slice A xs.length c] 51) 51 #[.int .i64 0, .int .i64 0, .int .i64 0, .bool false, .slice none 0 0]).alloc (.cells #[] 23)).fr hf4 (fun h => by have h : w.heap.size + 1 = w.heap.size + 1 + 1 := h; omega))
  have s4 := F4.size
  clear ho4 hq4 hf4 f3
  go_wp2_with fail
  go_loopw [8] (fun i wr => ∃ k : Nat, k ≤ ls.length ∧ i = .int .i64 k ∧ Own wr q 23 c4 (Us (splice xs T (ls.take k))) ∧ Fr (One q) w4 wr) (fun i _ => ls.length - (intOf i).toNat)
  case atStart => exact ⟨0, by omega, rfl, by rw [List.take_zero, splice_nil]; exact O4.out, Fr.refl _ _⟩
  case round =>
    obtain ⟨k, hk, rfl, ho, hfr⟩ := hrel
    have Fw : Fr No w wr := F4.trans hfr (fun i hi h => by have h : i = q := h; omega)
    by_cases hlt : k < ls.length
    · have hln : (splice xs T (ls.take k)).length = xs.length := length_splice _ _ _ (by simp; omega)
      obtain ⟨b, o, rfl, cc⟩ := Us_rd (hd.frNo Fw) k hlt
      obtain ⟨u, hc⟩ : ∃ u, wr.cell? ⟨q, T + k, none⟩ = some u := ⟨_, ho.cell (T + k) (by rw [len_Us, hln]; omega)⟩
      have hz := ho.frozen (T + k)
      have hy : Hid ((splice xs T (ls.take k)).set (T + k) ls[k] = splice xs T (ls.take (k + 1))) := by
        have hl : (ls.take k).length = k := by simp; omega
        have := splice_set xs (ls.take k) T ls[k] (by rw [hl]; omega)
        rw [hl] at this
        rw [Hid, this, List.take_succ_eq_append_getElem hlt]
      have HO := hid ho
      generalize splice xs T (ls.take k) = zs at HO hy
      generalize ls[k] = x at cc hy
      have i0 : (0 : Int) ≤ (T : Int) + k := by omega
      have i1 : (T : Int) + k < xs.length := by omega
      have i2 : (0 : Int) ≤ k := by omega
      have i3 : (k : Int) < ls.length := by omega
      clear ho hln
      go_wp2
      go_roundw
      case rel =>
        refine ⟨k + 1, by omega, by go_num, ?_, hfr.setCell ⟨q, T + k, none⟩ (.int .u64 x) (fun _ => rfl)⟩
        rw [← hy.out]
        have := HO.out.set_ (T + k) (.int .u64 x)
        simpa [Us] using this
      case measure => simp [intOf]; omega
    · obtain rfl : k = ls.length := by omega
      rw [List.take_length] at ho
      have HO := hid ho
      have Bw := hid (B4.out.fr hfr (fun h => by have h : w.heap.size = q := h; omega))
      have Rw := hid (R4.out.fr hfr (fun h => by have h : w.heap.size + 1 = q := h; omega))
      have b0 : wr.cell? ⟨w.heap.size, 0, none⟩ = some (.int .i64 e) := by rw [Bw.out.cell]; rfl
      have b1 : wr.cell? ⟨w.heap.size, 1, none⟩ = some (.int .i64 mn) := by rw [Bw.out.cell]; rfl
      have b2 : wr.cell? ⟨w.heap.size, 2, none⟩ = some (.int .i64 mx) := by rw [Bw.out.cell]; rfl
      have b3 : wr.cell? ⟨w.heap.size, 3, none⟩ = some (.bool h) := by rw [Bw.out.cell]; rfl
      have b4 : wr.cell? ⟨w.heap.size, 4, none⟩ = some (.slice A xs.length c) := by rw [Bw.out.cell]; rfl
      have bz : wr.frozen? ⟨w.heap.size, 4, none⟩ = false := Bw.out.frozen 4
      have r0 : wr.cell? ⟨w.heap.size + 1, 0, none⟩ = some (.int .i64 0) := by rw [Rw.out.cell]; rfl
      have r1 : wr.cell? ⟨w.heap.size + 1, 1, none⟩ = some (.int .i64 0) := by rw [Rw.out.cell]; rfl
      have r2 : wr.cell? ⟨w.heap.size + 1, 2, none⟩ = some (.int .i64 0) := by rw [Rw.out.cell]; rfl
      have r3 : wr.cell? ⟨w.heap.size + 1, 3, none⟩ = some (.bool false) := by rw [Rw.out.cell]; rfl
      have r4 : wr.cell? ⟨w.heap.size + 1, 4, none⟩ = some (.slice none 0 0) := by rw [Rw.out.cell]; rfl
      have z0 := Rw.out.frozen 0
      have z1 := Rw.out.frozen 1
      have z2 := Rw.out.frozen 2
      have z3 := Rw.out.frozen 3
      have z4 := Rw.out.frozen 4
      clear ho hfr
      go_wp2
      refine bodyPost_ret (v := .agg #[.int .i64 e, .int .i64 mn, .int .i64 mx, .bool h, .slice (some ⟨q, 0, none⟩) xs.length c4]) (by simp [results, Try.results42, go_sem, *]) rfl ?_
      have FF : Fr (Two w.heap.size (w.heap.size + 1)) wr _ := ((((((Fr.refl (Two w.heap.size (w.heap.size + 1)) wr).setCell ⟨w.heap.size, 4, none⟩ (.slice (some ⟨q, 0, none⟩) xs.length c4) (fun _ => .inl rfl)).setCell ⟨w.heap.size + 1, 0, none⟩ (.int .i64 e) (fun _ => .inr rfl)).setCell ⟨w.heap.size + 1, 1, none⟩ (.int .i64 mn) (fun _ => .inr rfl)).setCell ⟨w.heap.size + 1, 2, none⟩ (.int .i64 mx) (fun _ => .inr rfl)).setCell ⟨w.heap.size + 1, 3, none⟩ (.bool h) (fun _ => .inr rfl)).setCell ⟨w.heap.size + 1, 4, none⟩ (.slice (some ⟨q, 0, none⟩) xs.length c4) (fun _ => .inr rfl)
      exact ⟨q, c4, rfl, HO.out.fr FF (fun h => by rcases h with h | h <;> omega), by omega, Fw.trans FF (fun i hi h => by rcases h with h | h <;> omega)⟩
end Go.Proofs.Ytndhbamfgihncaa
