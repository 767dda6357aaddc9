/- Chapter 28: loads of a memory. -/
import Derived.Test.YtpmnijjfadhocaaMmG
namespace Go.Proofs.Ytpmnijjfadhocaa
open Go.RowKit

theorem els_sub {w : World} {S : Nat → Prop} {A : Option Addr} {B : List Int} {k n : Nat} (h : tB.els w S A B) (hk : k + n ≤ B.length) (hn : 0 < n) : ∃ q o, A = some ⟨q, o, none⟩ ∧ tB.els w S (some ⟨q, o + k, none⟩) ((B.drop k).take n) := by
  rcases h with h | ⟨q, o, rfl, hq, h⟩
  · rw [h] at hk; simp at hk; omega
  · refine ⟨q, o, rfl, .inr ⟨q, o + k, rfl, hq, fun i x hx => ?_⟩⟩
    have hB : B[k + i]? = some x := by
      rw [List.getElem?_take] at hx
      split at hx
      · rwa [List.getElem?_drop] at hx
      · cases hx
    obtain ⟨ds, h1, h2⟩ := h (k + i) x hB
    refine ⟨ds, fun j u hu => ?_, h2⟩
    have := h1 j u hu
    have e : tB.size = 1 := rfl
    rw [e] at this ⊢
    rw [show o + k + (i * 1 + j) = o + ((k + i) * 1 + j) by omega]
    exact this
def loadR (op : Int) (B : List Int) (addr off : Int) : Int × Int :=
  if wid op = 0 then (0, 12) else if hasB B.length addr off (wid op) then (ldV op ((B.drop (addr % 4294967296 + off).toNat).take (wid op)), 0) else (0, 2)
set_option maxRecDepth 100000 in
set_option maxHeartbeats 1600000 in
theorem load_any (p : Nat) (A : Option Addr) (c : Nat) (B : List Int) (op addr off : Int) (S : Nat → Prop) (w : World) (h3 : w.cell? ⟨p, 3, none⟩ = some (.slice A B.length c)) (hp : p < w.heap.size) (hB : tB.els w S A B) (hS : ∀ k, S k → k < w.heap.size) (hc : B.length ≤ c) (hn : B.length ≤ 1000000) (ha : 0 ≤ addr ∧ addr < 18446744073709551616) (ho : 0 ≤ off ∧ off < 18446744073709551616) :
    Calls Try.prog 14 #[.pointer (some ⟨p, 0, none⟩), .int .i64 op, .int .u64 addr, .int .u64 off] w fun e w' => e = .returned (.tuple #[.int .u64 (loadR op B addr off).1, .int .i64 (loadR op B addr off).2]) ∧ Fr No w w' := by
  have hw := hid (width_any op w)
  by_cases h0 : wid op = 0
  · rw [loadR, if_pos h0]
    rw [h0] at hw
    clear hB hS
    go_enter Try.func14, Try.ntmps14
    go_wp2_with fail
    refine hw.out.mono ?_
    rintro e w' ⟨rfl, f⟩
    have F := hid f
    clear f h3
    go_wp2
    go_ret2
    exact ⟨rfl, F.out⟩
  · rw [loadR, if_neg h0]
    have hf := wid_form h0
    have hz : ((wid op : Int) == 0) = false := by simp; omega
    cases hh : hasB B.length addr off (wid op) with
    | false =>
      simp only [Bool.false_eq_true, if_false]
      generalize wid op = m at *
      have HH := hid hh
      clear hB hh
      go_enter Try.func14, Try.ntmps14
      go_wp2_with fail
      refine hw.out.mono ?_
      rintro e w' ⟨rfl, f⟩
      have F := hid f
      have h3' := (f.cell (p := ⟨p, 3, none⟩) hp (fun x => x)).trans h3
      have hs := has_any p A B.length c addr off m w' h3' hn ha ho (by omega)
      rw [HH.out] at hs
      have hs := hid hs
      clear f h3
      go_wp2_with fail
      refine hs.out.mono ?_
      rintro e w2 ⟨rfl, rfl⟩
      go_wp2
      go_ret2
      exact ⟨rfl, F.out⟩
    | true =>
      simp only [if_true]
      have HH := hid hh
      have hd := of_decide_eq_true hh
      have HL := hid (fun W => low_any addr W ha)
      obtain ⟨a, haa⟩ : ∃ a : Nat, addr % 4294967296 = a := ⟨(addr % 4294967296).toNat, by omega⟩
      obtain ⟨f', hff⟩ : ∃ f' : Nat, off = f' := ⟨off.toNat, by omega⟩
      subst hff
      rw [haa] at HL
      have e1 : ((a : Int) + (f' : Int)).toNat = a + f' := by omega
      rw [haa, e1]
      have hs1 := has_any p A B.length c addr f' (wid op)
      rw [hh] at hs1
      have HS1 := hid hs1
      rw [haa] at hd
      obtain ⟨q, o, rfl, hE⟩ := els_sub (k := a + f') (n := wid op) hB (by omega) (by omega)
      have hlen : ((B.drop (a + f')).take (wid op)).length = wid op := by rw [List.length_take, List.length_drop]; omega
      have hld : ldD op ((B.drop (a + f')).take (wid op)) = (ldV op ((B.drop (a + f')).take (wid op)), true) := by rw [ldD, if_neg (by rw [hlen]; simp [h0])]
      have HA := hid (fun W (F : Fr No w W) (c' : Nat) => aload_any (some ⟨q, o + (a + f'), none⟩) ((B.drop (a + f')).take (wid op)) c' op S W (hE.fr F (fun k hk => ⟨hS k hk, fun x => x⟩)) (by rw [hlen]; omega))
      rw [hld, hlen] at HA
      generalize ldV op ((B.drop (a + f')).take (wid op)) = V at *
      generalize wid op = m at *
      generalize B.length = n at *
      clear hB hh hE hld hlen hS hs1 e1
      have j1 : (a : Int) + f' + m ≤ n := by omega
      have j2 : (0 : Int) ≤ a + f' := by omega
      go_enter Try.func14, Try.ntmps14
      go_wp2_with fail
      refine hw.out.mono ?_
      rintro e w' ⟨rfl, f⟩
      have F := hid f
      have h3' := (f.cell (p := ⟨p, 3, none⟩) hp (fun x => x)).trans h3
      clear f h3
      go_wp2_with fail
      refine (HS1.out w' h3' hn ha ho (by omega)).mono ?_
      rintro e w2 ⟨rfl, rfl⟩
      go_wp2_with fail
      refine (HL.out _).mono ?_
      rintro e w2 ⟨rfl, rfl⟩
      go_wp2_with fail
      refine (HA.out _ F.out _).mono ?_
      rintro e w2 ⟨rfl, rfl⟩
      go_wp2
      go_ret2
      exact ⟨rfl, F.out⟩
set_option maxRecDepth 100000 in
set_option maxHeartbeats 1600000 in
theorem rmload_any (l : Lim) (A : Option Addr) (c : Nat) (B : List Int) (op addr off : Int) (S : Nat → Prop) (w : World) (hB : tB.els w S A B) (hS : ∀ k, S k → k < w.heap.size) (hc : B.length ≤ c) (hn : B.length ≤ 1000000) (ha : 0 ≤ addr ∧ addr < 18446744073709551616) (ho : 0 ≤ off ∧ off < 18446744073709551616) :
    Calls Try.prog 20 #[rmv l A B.length c, .int .i64 op, .int .u64 addr, .int .u64 off] w fun e w' => e = .returned (.tuple #[.int .u64 (loadR op B addr off).1, .int .i64 (loadR op B addr off).2]) ∧ Fr No w w' := by
  have F0 := hid ((Fr.refl No w).alloc (.cells #[.int .i64 l.min, .int .i64 l.max, .bool l.has, .slice A B.length c] 28))
  have G0 := hid (Blk.new w 28 #[.int .i64 l.min, .int .i64 l.max, .bool l.has, .slice A B.length c])
  have hw := hid (wide_any op (w.alloc (.cells #[.int .i64 l.min, .int .i64 l.max, .bool l.has, .slice A B.length c] 28)))
  by_cases h0 : wid op = 0
  · rw [loadR, if_pos h0]
    rw [h0] at hw
    clear hB hS
    unfold rmv
    go_enter Try.func20, Try.ntmps20
    go_wp2_with fail
    refine hw.out.mono ?_
    rintro e w' ⟨rfl, f⟩
    have F := hid (F0.out.trans f (fun _ _ h => h))
    clear f
    go_wp2
    go_ret2
    exact ⟨rfl, F.out⟩
  · rw [loadR, if_neg h0]
    have hf := wid_form h0
    have hz : ((wid op : Int) == 0) = false := by simp; omega
    cases hh : hasB B.length addr off (wid op) with
    | false =>
      simp only [Bool.false_eq_true, if_false]
      have HS := hid (fun W => rhas_any l A B.length c addr off (wid op) W hn ha ho (by omega))
      rw [hh] at HS
      unfold rmv at HS ⊢
      generalize wid op = m at *
      clear hB hh
      go_enter Try.func20, Try.ntmps20
      go_wp2_with fail
      refine hw.out.mono ?_
      rintro e w' ⟨rfl, f⟩
      have F := hid (F0.out.trans f (fun _ _ h => h))
      have G := G0.out.fr f (fun x => x)
      have y0 := G.cell 0
      have y1 := G.cell 1
      have y2 := G.cell 2
      have y3 := G.cell 3
      clear f G
      go_wp2_with fail
      refine (HS.out _).mono ?_
      rintro e w2 ⟨rfl, f⟩
      have F2 := hid (F.out.trans f (fun _ _ h => h))
      clear f
      go_wp2
      go_ret2
      exact ⟨rfl, F2.out⟩
    | true =>
      simp only [if_true]
      have hd := of_decide_eq_true hh
      have HS := hid (fun W => rhas_any l A B.length c addr off (wid op) W hn ha ho (by omega))
      rw [hh] at HS
      have HL := hid (fun W => rlow_any addr W ha)
      obtain ⟨a, haa⟩ : ∃ a : Nat, addr % 4294967296 = a := ⟨(addr % 4294967296).toNat, by omega⟩
      obtain ⟨f', hff⟩ : ∃ f' : Nat, off = f' := ⟨off.toNat, by omega⟩
      subst hff
      rw [haa] at HL
      have e1 : ((a : Int) + (f' : Int)).toNat = a + f' := by omega
      rw [haa, e1]
      rw [haa] at hd
      obtain ⟨q, o, rfl, hE⟩ := els_sub (k := a + f') (n := wid op) hB (by omega) (by omega)
      have hlen : ((B.drop (a + f')).take (wid op)).length = wid op := by rw [List.length_take, List.length_drop]; omega
      have hld : ldD op ((B.drop (a + f')).take (wid op)) = (ldV op ((B.drop (a + f')).take (wid op)), true) := by rw [ldD, if_neg (by rw [hlen]; simp [h0])]
      have HA := hid (fun W (F : Fr No w W) (c' : Nat) => rload_any (some ⟨q, o + (a + f'), none⟩) ((B.drop (a + f')).take (wid op)) c' op S W (hE.fr F (fun k hk => ⟨hS k hk, fun x => x⟩)) (by rw [hlen]; omega))
      rw [hld, hlen] at HA
      generalize ldV op ((B.drop (a + f')).take (wid op)) = V at *
      unfold rmv at HS ⊢
      generalize wid op = m at *
      generalize B.length = n at *
      clear hB hh hE hld hlen hS e1
      have j1 : (a : Int) + f' + m ≤ n := by omega
      have j2 : (0 : Int) ≤ a + f' := by omega
      go_enter Try.func20, Try.ntmps20
      go_wp2_with fail
      refine hw.out.mono ?_
      rintro e w' ⟨rfl, f⟩
      have F := hid (F0.out.trans f (fun _ _ h => h))
      have G1 := hid (G0.out.fr f (fun x => x))
      have y0 := G1.out.cell 0
      have y1 := G1.out.cell 1
      have y2 := G1.out.cell 2
      have y3 := G1.out.cell 3
      clear f
      go_wp2_with fail
      refine (HS.out _).mono ?_
      rintro e w2 ⟨rfl, f⟩
      have F2 := hid (F.out.trans f (fun _ _ h => h))
      have y3 := (G1.out.fr f (fun x => x)).cell 3
      clear f
      go_wp2_with fail
      refine (HL.out _).mono ?_
      rintro e w3 ⟨rfl, rfl⟩
      go_wp2_with fail
      refine (HA.out _ F2.out _).mono ?_
      rintro e w4 ⟨rfl, f⟩
      have F3 := hid (F2.out.trans f (fun _ _ h => h))
      clear f
      go_wp2
      go_ret2
      exact ⟨rfl, F3.out⟩
end Go.Proofs.Ytpmnijjfadhocaa
