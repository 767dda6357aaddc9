/- Chapter 28: the law MemoryBack. -/
import Derived.Test.YtpmnijjfadhocaaMmZ
namespace Go.Proofs.Ytpmnijjfadhocaa
open Go.RowKit

def lOne : Lim := ⟨1, 0, false⟩
theorem lOne_valid : validB lOne = true := by decide
/-- The bytes that a load reads, with the frame from the world of the memory. -/
theorem mload_any {w : World} {p q c : Nat} {l : Lim} {B : List Int} (h : Mo w p q c l B) (op addr off : Int) (hn : B.length ≤ 100000) (ha : 0 ≤ addr ∧ addr < 18446744073709551616) (ho : 0 ≤ off ∧ off < 18446744073709551616) (t : Int × Int) (ht : loadR op B addr off = t) :
    Calls Try.prog 14 #[.pointer (some ⟨p, 0, none⟩), .int .i64 op, .int .u64 addr, .int .u64 off] w fun e w' => e = .returned (.tuple #[.int .u64 t.1, .int .i64 t.2]) ∧ Fr No w w' := by
  subst ht
  exact load_any p _ c B op addr off (· < w.heap.size) w (h.hp.cell 3) h.hp.lt (own_els h).els (fun _ x => x) h.cap (by omega) ha ho
set_option maxRecDepth 100000 in
set_option maxHeartbeats 800000 in
theorem back_t (addr x : Int) (w : World) (ha : 0 ≤ addr ∧ addr < 18446744073709551616) (hx : 0 ≤ x ∧ x < 18446744073709551616) :
    Calls Try.prog 4 #[.int .u64 addr, .int .u64 x] w fun e w' => e = .returned (.bool true) ∧ Fr No w w' := by
  have HN := hid (fun W => new_any lOne W)
  unfold NewTo at HN
  rw [lOne_valid] at HN
  simp only [if_true] at HN
  have hband := hid (and_low addr ha)
  have hm : 0 ≤ addr % 4294967296 ∧ addr % 4294967296 < 4294967296 := by omega
  have hle : addr % 4294967296 ≤ 248 ∨ 248 < addr % 4294967296 := by omega
  rcases hle with hle | hle
  · obtain ⟨k1, k2, k3, k4, k5⟩ := back_yes addr x hx hle
    have dc : decide (wrap64 (bits BinOp.and IntKind.u64 addr 4294967295) ≤ 248) = true := by
      rw [hband.out]
      exact decide_eq_true (by unfold wrap64; omega)
    go_enter Try.func4, Try.ntmps4
    go_wp2_with fail
    refine (HN.out _).mono ?_
    rintro e w1 ⟨p, q, c, rfl, hm, hp, hq, f⟩
    have F := hid f
    have HM := hid hm
    clear f hm
    go_wp2_with fail
    refine (mstore_any p q c lOne _ 55 addr 0 x _ HM.out (by decide) ha (by decide) hx).mono ?_
    rintro e w2 ⟨rfl, hm, f⟩
    rw [show lOne.min.toNat * 256 = 256 from rfl] at hm
    rw [show lOne.min.toNat * 256 = 256 from rfl, k1]
    replace F := hid (F.out.trans f (fun _ h1 h2 => by subst h2; omega))
    replace HM := hid hm
    clear f hm
    generalize (storeR 55 (List.replicate 256 0) addr 0 x).1 = B at *
    go_wp2_with fail
    refine (mload_any HM.out 41 addr 0 (by omega) ha (by decide) _ k3).mono ?_
    rintro e w3 ⟨rfl, f⟩
    replace F := hid (F.out.trans f (fun _ _ h => h))
    replace HM := hid (HM.out.frNo f)
    clear f
    go_wp2_with fail
    refine (mload_any HM.out 40 addr 4 (by omega) ha (by decide) _ k4).mono ?_
    rintro e w4 ⟨rfl, f⟩
    replace F := hid (F.out.trans f (fun _ _ h => h))
    replace HM := hid (HM.out.frNo f)
    clear f
    go_wp2_with fail
    refine (mload_any HM.out 49 addr 7 (by omega) ha (by decide) _ k5).mono ?_
    rintro e w5 ⟨rfl, f⟩
    replace F := hid (F.out.trans f (fun _ _ h => h))
    replace HM := hid (HM.out.frNo f)
    clear f
    go_wp2_with fail
    refine (alive_any _).mono ?_
    rintro e w6 ⟨rfl, f⟩
    replace F := hid (F.out.trans f (fun _ _ h => h))
    clear f
    go_wp2
    go_ret
    exact ⟨rfl, F.out⟩
  · obtain ⟨k1, k3, k4, k5⟩ := back_no addr x hle
    have k2 : (storeR 55 (List.replicate 256 0) addr 0 x).1.length = 256 := by rw [k1]; rfl
    rw [← show (storeR 55 (List.replicate 256 0) addr 0 x).1 = List.replicate 256 0 from by rw [k1]] at k3 k4 k5
    replace k1 : (storeR 55 (List.replicate 256 0) addr 0 x).2 = 2 := by rw [k1]
    have dc : decide (wrap64 (bits BinOp.and IntKind.u64 addr 4294967295) ≤ 248) = false := by
      rw [hband.out]
      exact decide_eq_false (by unfold wrap64; omega)
    go_enter Try.func4, Try.ntmps4
    go_wp2_with fail
    refine (HN.out _).mono ?_
    rintro e w1 ⟨p, q, c, rfl, hm, hp, hq, f⟩
    have F := hid f
    have HM := hid hm
    clear f hm
    go_wp2_with fail
    refine (mstore_any p q c lOne _ 55 addr 0 x _ HM.out (by decide) ha (by decide) hx).mono ?_
    rintro e w2 ⟨rfl, hm, f⟩
    rw [show lOne.min.toNat * 256 = 256 from rfl] at hm
    rw [show lOne.min.toNat * 256 = 256 from rfl, k1]
    replace F := hid (F.out.trans f (fun _ h1 h2 => by subst h2; omega))
    replace HM := hid hm
    clear f hm
    generalize (storeR 55 (List.replicate 256 0) addr 0 x).1 = B at *
    go_wp2_with fail
    refine (mload_any HM.out 41 addr 0 (by omega) ha (by decide) _ k3).mono ?_
    rintro e w3 ⟨rfl, f⟩
    replace F := hid (F.out.trans f (fun _ _ h => h))
    replace HM := hid (HM.out.frNo f)
    clear f
    go_wp2_with fail
    refine (mload_any HM.out 40 addr 4 (by omega) ha (by decide) _ k4).mono ?_
    rintro e w4 ⟨rfl, f⟩
    replace F := hid (F.out.trans f (fun _ _ h => h))
    replace HM := hid (HM.out.frNo f)
    clear f
    go_wp2_with fail
    refine (mload_any HM.out 49 addr 7 (by omega) ha (by decide) _ k5).mono ?_
    rintro e w5 ⟨rfl, f⟩
    replace F := hid (F.out.trans f (fun _ _ h => h))
    replace HM := hid (HM.out.frNo f)
    clear f
    go_wp2_with fail
    refine (alive_any _).mono ?_
    rintro e w6 ⟨rfl, f⟩
    replace F := hid (F.out.trans f (fun _ _ h => h))
    clear f
    go_wp2
    go_ret
    exact ⟨rfl, F.out⟩
theorem memoryBack_walk (w : World) (v0 v1 : Value) (x0 x1 : Int) (y0 : (Ty.int .u64).rd w (· < w.heap.size) v0.cells.toList x0) (y1 : (Ty.int .u64).rd w (· < w.heap.size) v1.cells.toList x1) (_u0 : (Ty.int .u64).lw 140737488351232 x0) (_u1 : (Ty.int .u64).lw 140737488351232 x1) (hv0 : ∃ n, v0 = .int .u64 n) (hv1 : ∃ n, v1 = .int .u64 n) :
    Calls Try.prog 4 #[v0, v1] w fun e w' => e = .returned (.bool true) ∧ Below w.heap.size w w' := by
  obtain ⟨n, rfl⟩ := hv0
  obtain ⟨m, rfl⟩ := hv1
  obtain ⟨hy, hw⟩ := y0
  obtain ⟨hz, hv⟩ := y1
  have hn : n = x0 := by have : [Value.int .u64 n] = [Value.int .u64 x0] := hy; simpa using this
  have hm : m = x1 := by have : [Value.int .u64 m] = [Value.int .u64 x1] := hz; simpa using this
  subst hn hm
  exact (back_t n m w (wf_u64 hw) (wf_u64 hv)).mono fun e w' ⟨a, b⟩ => ⟨a, b.below⟩
end Go.Proofs.Ytpmnijjfadhocaa
