/- Chapter 28: Bytes, Limits. -/
import Derived.Test.YtpmnijjfadhocaaMmV
namespace Go.Proofs.Ytpmnijjfadhocaa
open Go.RowKit

set_option maxHeartbeats 1600000 in
theorem bytes_any (p c : Nat) (A : Option Addr) (B : List Int) (w : World) (h3 : w.cell? ⟨p, 3, none⟩ = some (.slice A B.length c)) (hp : p < w.heap.size) (hI : RmIn w A c B) (hn : B.length ≤ 100000) :
    Calls Try.prog 12 #[.pointer (some ⟨p, 0, none⟩)] w (WrTo B w) := by
  have F0 := hid ((Fr.refl No w).alloc (.cells #[] 5))
  have R0 := hid (Ty.row.lit (t := tB) (S := Emp) (base := w.heap.size) (css := []) (xs := []) (Blk.new w 5 #[]) (Nat.le_refl _) Css.nil (by decide))
  have h3' : (w.alloc (.cells #[] 5)).cell? ⟨p, 3, none⟩ = some (.slice A B.length c) := (F0.out.cell (p := ⟨p, 3, none⟩) hp (fun x => x)).trans h3
  have HI := hid (hI.fr F0.out)
  clear hI h3
  go_enter Try.func12, Try.ntmps12
  go_wp2_with (at_builtin; refine wpList_appC (t := tB) (base := w.heap.size) (S := Emp) (xs := []) (ys := B) (dss := B.map fun b => [.int .u8 b]) (B2 := (w.alloc (.cells #[] 5)).heap.size) elBs rfl rfl rfl rfl R0.out (css_bts HI.out.bts) (by rw [flat_bts]; exact HI.out.rd) rfl (by simp; omega) (by simp; omega) (fun _ h => h.elim) F0.out.size ?_; intro v1 w2 hr1 fr1 hv1; have F2 := hid (own_frame R0.out F0.out fr1 (Nat.le_refl _)); have R1 := hid hr1; clear hr1 fr1 hv1)
  obtain ⟨A1, k1, e1, _, _, _⟩ := R1.out.els (S' := fun _ => True) (fun _ _ => trivial) (fun _ _ => trivial)
  subst e1
  go_ret
  exact ⟨A1, k1, rfl, R1.out, F2.out⟩
theorem bytes_nil (w : World) : Calls Try.prog 12 #[.pointer none] w fun e w' => e = .returned (.slice none 0 0) ∧ w = w' := by
  go_enter Try.func12, Try.ntmps12
  go_wp2
  go_ret
  exact ⟨rfl, rfl⟩
set_option maxHeartbeats 800000 in
theorem limits_any (p : Nat) (l : Lim) (v : Value) (w : World) (hb : Blk w p 54 #[.int .i64 l.min, .int .i64 l.max, .bool l.has, v]) :
    Calls Try.prog 19 #[.pointer (some ⟨p, 0, none⟩)] w fun e w' => e = .returned (.agg #[.int .i64 l.min, .int .i64 l.max, .bool l.has]) ∧ Fr No w w' := by
  have F0 := hid ((Fr.refl No w).alloc (.cells #[.int .i64 l.min, .int .i64 l.max, .bool l.has] 23))
  have G := hb.alloc (.cells #[.int .i64 0, .int .i64 0, .bool false] 23)
  have y0 := G.cell 0
  have y1 := G.cell 1
  have y2 := G.cell 2
  have hp := hb.lt
  clear hb G
  go_enter Try.func19, Try.ntmps19
  go_wp2
  exact bodyPost_ret (v := .agg #[.int .i64 l.min, .int .i64 l.max, .bool l.has]) (by simp [results, Try.results19, go_sem]) rfl ⟨rfl, F0.out⟩
theorem limits_nil (w : World) : Calls Try.prog 19 #[.pointer none] w fun e w' => e = .returned (.agg #[.int .i64 0, .int .i64 0, .bool false]) ∧ Fr No w w' := by
  have F0 := hid ((Fr.refl No w).alloc (.cells #[.int .i64 0, .int .i64 0, .bool false] 23))
  go_enter Try.func19, Try.ntmps19
  go_wp2
  exact bodyPost_ret (v := .agg #[.int .i64 0, .int .i64 0, .bool false]) (by simp [results, Try.results19, go_sem]) rfl ⟨rfl, F0.out⟩
end Go.Proofs.Ytpmnijjfadhocaa
