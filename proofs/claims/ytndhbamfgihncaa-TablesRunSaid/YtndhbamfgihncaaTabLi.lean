/- TablesLimits: the walk. -/
import Derived.Test.YtndhbamfgihncaaTabG
import Derived.Test.YtndhbamfgihncaaTabR6
import Derived.Test.YtndhbamfgihncaaTy
namespace Go.Proofs.Ytndhbamfgihncaa
open Go.RowKit

def Hs (xs : List Int) : List Value := xs.map (Value.int .u16)
theorem Hs_rd {w : World} {B : Nat} {A : Option Addr} {xs : List Int} (h : Rd w B A (Hs xs)) (k : Nat) (hk : k < xs.length) : ∃ b o, A = some ⟨b, o, none⟩ ∧ w.cell? ⟨b, o + k, none⟩ = some (.int .u16 xs[k]) := by
  obtain ⟨b, o, h1, _, h2⟩ := h.at_ (k := k) (by simpa [Hs] using hk)
  exact ⟨b, o, h1, by rw [h2]; simp [Hs]⟩

section
variable (e mn mx : Int) (A : Option Addr) (ls : List Int) (cl : Nat) (w : World)
set_option maxHeartbeats 800000 in
theorem limits_big (h : Bool) (n0 : Nat) (hn : 30 < n0) (hn2 : n0 ≤ 9223372036854775807) :
    Calls Try.prog 4 #[.agg #[.int .i64 e, .int .i64 mn, .int .i64 mx, .bool h], .slice A n0 cl] w fun e' w' => e' = .returned (.bool true) ∧ Fr No w w' := by
  go_enter Try.func4, Try.ntmps4
  go_wp2_with (go_at_call 8; refine (alive_any _).mono ?_; rintro e w1 ⟨rfl, hf⟩)
  go_ret
  exact ⟨rfl, ((Fr.refl No w).alloc _).trans hf (fun _ _ h => h)⟩

set_option maxHeartbeats 800000 in
theorem limits_no (h : Bool) (n0 : Nat) (hn : n0 ≤ 30) (hk : tabB e mn mx h = false) :
    Calls Try.prog 4 #[.agg #[.int .i64 e, .int .i64 mn, .int .i64 mx, .bool h], .slice A n0 cl] w fun e' w' => e' = .returned (.bool true) ∧ Fr No w w' := by
  go_enter Try.func4, Try.ntmps4
  go_wp2_with fail
  refine (new_no e mn mx h _ hk).mono ?_
  rintro e' w1 ⟨rfl, f1⟩
  obtain ⟨b0, b1, b2, b3⟩ : w1.cell? ⟨w.heap.size, 0, none⟩ = some (.int .i64 e) ∧ w1.cell? ⟨w.heap.size, 1, none⟩ = some (.int .i64 mn) ∧ w1.cell? ⟨w.heap.size, 2, none⟩ = some (.int .i64 mx) ∧ w1.cell? ⟨w.heap.size, 3, none⟩ = some (.bool h) := by
    have hb := (Blk.new w 37 #[.int .i64 e, .int .i64 mn, .int .i64 mx, .bool h]).fr f1 (fun x => x)
    exact ⟨by rw [hb.cell]; rfl, by rw [hb.cell]; rfl, by rw [hb.cell]; rfl, by rw [hb.cell]; rfl⟩
  go_wp2_with fail
  refine (r6table_any e mn mx h _).mono ?_
  rw [hk]
  rintro e' w2 ⟨rfl, f2⟩
  go_wp2_with (go_at_call 8; refine (alive_any _).mono ?_; rintro e w3 ⟨rfl, hf⟩)
  go_ret
  exact ⟨rfl, ((((Fr.refl No w).alloc _).trans f1 (fun _ _ h => h)).trans (Fr.of_below (M := No) f2) (fun _ _ h => h)).trans hf (fun _ _ h => h)⟩

set_option maxHeartbeats 1600000 in
theorem limits_false (hn : ls.length ≤ 30) (hk : tabB e mn mx false = true) (hr : Rd w w.heap.size A (Hs ls)) (hls : ∀ x ∈ ls, 0 ≤ x ∧ x ≤ 65535) :
    Calls Try.prog 4 #[.agg #[.int .i64 e, .int .i64 mn, .int .i64 mx, .bool false], .slice A ls.length cl] w fun e' w' => e' = .returned (.bool true) ∧ Fr No w w' := by
  obtain ⟨l1, l2, l3⟩ := tabB_lim hk
  have l4 : mn ≤ 1024 ∧ 1024 ≤ 1024 := by simp at l3; omega
  have HLS := hid hls
  have HK := hid hk
  clear l3 hls hk
  have d30 : decide ((30 : Int) < ls.length) = false := by simp; omega
  go_enter Try.func4, Try.ntmps4
  go_wp2_with fail
  refine (new_yes e mn mx false _ HK.out).mono ?_
  rintro e' w1 ⟨p, q, rfl, t, hp, hq, f1⟩
  have HT := hid t
  have hb1 := hid ((Blk.new w 37 #[.int .i64 e, .int .i64 mn, .int .i64 mx, .bool false]).fr f1 (fun x => x))
  have b0 : w1.cell? ⟨w.heap.size, 0, none⟩ = some (.int .i64 e) := by rw [hb1.out.cell]; rfl
  have b1 : w1.cell? ⟨w.heap.size, 1, none⟩ = some (.int .i64 mn) := by rw [hb1.out.cell]; rfl
  have b2 : w1.cell? ⟨w.heap.size, 2, none⟩ = some (.int .i64 mx) := by rw [hb1.out.cell]; rfl
  have b3 : w1.cell? ⟨w.heap.size, 3, none⟩ = some (.bool false) := by rw [hb1.out.cell]; rfl
  clear t
  simp at hp hq
  go_wp2_with fail
  clear b0 b1 b2 b3
  go_loopw [7, 8] (fun n i wr => ∃ (k q' c' : Nat) (xs : List Int), k ≤ ls.length ∧ i = .int .i64 k ∧ n = .int .i64 xs.length ∧ (xs.length : Int) ≤ 1024 ∧ TabAt wr p q' c' e mn mx false xs ∧ w.heap.size + 1 ≤ q' ∧ Fr No (w.alloc (.cells #[.int .i64 e, .int .i64 mn, .int .i64 mx, .bool false] 37)) wr) (fun _ i _ => ls.length - (intOf i).toNat)
  case atStart => exact ⟨0, q, _, _, by omega, rfl, by simp; omega, by simp; omega, HT.out, hq, f1⟩
  case round =>
    obtain ⟨k, q', c', xs, hk, rfl, rfl, hx, t', hq', f'⟩ := hrel
    have hln := t'.len
    have T' := hid t'
    clear t' HT hb1
    have Fw : Fr No w wr := ((Fr.refl No w).alloc _).trans f' (fun _ _ h => h)
    by_cases hlt : k < ls.length
    · obtain ⟨b, o, rfl, cc⟩ := Hs_rd (hr.frNo Fw) k hlt
      obtain ⟨g1, g2⟩ := HLS.out ls[k] (List.getElem_mem hlt)
      generalize hz : ls[k] = z at cc g1 g2
      clear hz
      have i0 : (0 : Int) ≤ k := by omega
      have i1 : (k : Int) < ls.length := by omega
      obtain ⟨Z, rfl⟩ := Int.eq_ofNat_of_zero_le g1
      by_cases hg : (xs.length : Int) + Z ≤ 1024
      · go_wp2_with fail
        refine (grow_yes T'.out Z 1 Z (by omega) (by omega) (by simp [mostS]; omega)).mono ?_
        rintro e' w2 ⟨rfl, q2, c2, t2, f2, hq2⟩
        have hl2 : (xs ++ List.replicate Z 1).length = xs.length + Z := by simp
        have HL2 := hid hl2
        have cc2 := (f2.cell (p := ⟨b, o + k, none⟩) (World.block_lt_of_cell? _ _ cc) (fun h => by
          have hb : b < w.heap.size := (World.block_lt_of_cell? w ⟨b, o + k, none⟩ (by
            obtain ⟨b', o', e1, c1⟩ := Hs_rd hr k hlt
            injection e1 with e1; injection e1 with e1 e2; subst e1; subst e2; exact c1))
          rcases h with h | h
          · have h : b = p := h; omega
          · have h : b = q' := h; omega)).trans cc
        have hne : ((xs.length : Int) != 4294967295) = true := by rw [bne_iff_ne]; omega
        have T2 := hid t2
        have sz := hid (size_any t2)
        generalize xs ++ List.replicate Z 1 = ys at *
        clear t2 hl2
        go_wp2_with fail
        have sz' := sz.out
        rw [HL2.out] at sz'
        refine sz'.mono ?_
        rintro e' w2' ⟨rfl, rfl⟩
        clear sz'
        have hlt2 : (xs.length : Int) + Z ≤ 1024 := by omega
        go_wp2_with fail
        refine ⟨⟨k + 1, q2, c2, ys, by omega, by go_num, by rw [HL2.out]; go_num, by rw [HL2.out]; omega, T2.out, ?_, ?_⟩, by simp [intOf]; omega⟩
        · have := f'.size; simp at this; rcases hq2 with h | h <;> omega
        · exact f'.trans f2 (fun i hi h => by simp at hi; rcases h with h | h <;> omega)
      · go_wp2_with fail
        refine (grow_no T'.out Z 1 (by omega) (by simp [mostS]; omega)).mono ?_
        rintro e' w2 ⟨rfl, rfl⟩
        go_wp2_with fail
        refine (size_any T'.out).mono ?_
        rintro e' w2' ⟨rfl, rfl⟩
        go_wp2_with fail
        exact ⟨⟨k + 1, q', c', xs, by omega, by go_num, rfl, hx, T'.out, hq', f'⟩, by simp [intOf]; omega⟩
    · have hb2 := hid ((Blk.new w 37 #[.int .i64 e, .int .i64 mn, .int .i64 mx, .bool false]).fr f' (fun x => x))
      have b0 : wr.cell? ⟨w.heap.size, 0, none⟩ = some (.int .i64 e) := by rw [hb2.out.cell]; rfl
      have b1 : wr.cell? ⟨w.heap.size, 1, none⟩ = some (.int .i64 mn) := by rw [hb2.out.cell]; rfl
      have b2 : wr.cell? ⟨w.heap.size, 2, none⟩ = some (.int .i64 mx) := by rw [hb2.out.cell]; rfl
      have b3 : wr.cell? ⟨w.heap.size, 3, none⟩ = some (.bool false) := by rw [hb2.out.cell]; rfl
      go_wp2_with fail
      have ht := r6table_any e mn mx false wr
      rw [HK.out] at ht
      refine ht.mono ?_
      clear ht
      rintro e' w2 ⟨rfl, f2⟩
      go_wp2_with (go_at_call 8; refine (alive_any _).mono ?_; rintro e w3 ⟨rfl, hf⟩)
      go_ret
      exact ⟨rfl, (Fw.trans (Fr.of_below (M := No) f2) (fun _ _ h => h)).trans hf (fun _ _ h => h)⟩

set_option maxHeartbeats 1600000 in
theorem limits_true (hn : ls.length ≤ 30) (hk : tabB e mn mx true = true) (hr : Rd w w.heap.size A (Hs ls)) (hls : ∀ x ∈ ls, 0 ≤ x ∧ x ≤ 65535) :
    Calls Try.prog 4 #[.agg #[.int .i64 e, .int .i64 mn, .int .i64 mx, .bool true], .slice A ls.length cl] w fun e' w' => e' = .returned (.bool true) ∧ Fr No w w' := by
  obtain ⟨l1, l2, l3⟩ := tabB_lim hk
  have l4 : mn ≤ mx ∧ mx ≤ 1024 := by simp at l3; omega
  have HLS := hid hls
  have HK := hid hk
  clear l3 hls hk
  have d30 : decide ((30 : Int) < ls.length) = false := by simp; omega
  go_enter Try.func4, Try.ntmps4
  go_wp2_with fail
  refine (new_yes e mn mx true _ HK.out).mono ?_
  rintro e' w1 ⟨p, q, rfl, t, hp, hq, f1⟩
  have HT := hid t
  have hb1 := hid ((Blk.new w 37 #[.int .i64 e, .int .i64 mn, .int .i64 mx, .bool true]).fr f1 (fun x => x))
  have b0 : w1.cell? ⟨w.heap.size, 0, none⟩ = some (.int .i64 e) := by rw [hb1.out.cell]; rfl
  have b1 : w1.cell? ⟨w.heap.size, 1, none⟩ = some (.int .i64 mn) := by rw [hb1.out.cell]; rfl
  have b2 : w1.cell? ⟨w.heap.size, 2, none⟩ = some (.int .i64 mx) := by rw [hb1.out.cell]; rfl
  have b3 : w1.cell? ⟨w.heap.size, 3, none⟩ = some (.bool true) := by rw [hb1.out.cell]; rfl
  clear t
  simp at hp hq
  go_wp2_with fail
  clear b0 b1 b2 b3
  go_loopw [7, 8] (fun n i wr => ∃ (k q' c' : Nat) (xs : List Int), k ≤ ls.length ∧ i = .int .i64 k ∧ n = .int .i64 xs.length ∧ (xs.length : Int) ≤ mx ∧ TabAt wr p q' c' e mn mx true xs ∧ w.heap.size + 1 ≤ q' ∧ Fr No (w.alloc (.cells #[.int .i64 e, .int .i64 mn, .int .i64 mx, .bool true] 37)) wr) (fun _ i _ => ls.length - (intOf i).toNat)
  case atStart => exact ⟨0, q, _, _, by omega, rfl, by simp; omega, by simp; omega, HT.out, hq, f1⟩
  case round =>
    obtain ⟨k, q', c', xs, hk, rfl, rfl, hx, t', hq', f'⟩ := hrel
    have hln := t'.len
    have T' := hid t'
    clear t' HT hb1
    have Fw : Fr No w wr := ((Fr.refl No w).alloc _).trans f' (fun _ _ h => h)
    by_cases hlt : k < ls.length
    · obtain ⟨b, o, rfl, cc⟩ := Hs_rd (hr.frNo Fw) k hlt
      obtain ⟨g1, g2⟩ := HLS.out ls[k] (List.getElem_mem hlt)
      generalize hz : ls[k] = z at cc g1 g2
      clear hz
      have i0 : (0 : Int) ≤ k := by omega
      have i1 : (k : Int) < ls.length := by omega
      obtain ⟨Z, rfl⟩ := Int.eq_ofNat_of_zero_le g1
      by_cases hg : (xs.length : Int) + Z ≤ mx
      · go_wp2_with fail
        refine (grow_yes T'.out Z 1 Z (by omega) (by omega) (by simp [mostS]; omega)).mono ?_
        rintro e' w2 ⟨rfl, q2, c2, t2, f2, hq2⟩
        have hl2 : (xs ++ List.replicate Z 1).length = xs.length + Z := by simp
        have HL2 := hid hl2
        have cc2 := (f2.cell (p := ⟨b, o + k, none⟩) (World.block_lt_of_cell? _ _ cc) (fun h => by
          have hb : b < w.heap.size := (World.block_lt_of_cell? w ⟨b, o + k, none⟩ (by
            obtain ⟨b', o', e1, c1⟩ := Hs_rd hr k hlt
            injection e1 with e1; injection e1 with e1 e2; subst e1; subst e2; exact c1))
          rcases h with h | h
          · have h : b = p := h; omega
          · have h : b = q' := h; omega)).trans cc
        have hne : ((xs.length : Int) != 4294967295) = true := by rw [bne_iff_ne]; omega
        have T2 := hid t2
        have sz := hid (size_any t2)
        generalize xs ++ List.replicate Z 1 = ys at *
        clear t2 hl2
        go_wp2_with fail
        have sz' := sz.out
        rw [HL2.out] at sz'
        refine sz'.mono ?_
        rintro e' w2' ⟨rfl, rfl⟩
        clear sz'
        have hlt2 : (xs.length : Int) + Z ≤ 1024 := by omega
        go_wp2_with fail
        refine ⟨⟨k + 1, q2, c2, ys, by omega, by go_num, by rw [HL2.out]; go_num, by rw [HL2.out]; omega, T2.out, ?_, ?_⟩, by simp [intOf]; omega⟩
        · have := f'.size; simp at this; rcases hq2 with h | h <;> omega
        · exact f'.trans f2 (fun i hi h => by simp at hi; rcases h with h | h <;> omega)
      · go_wp2_with fail
        refine (grow_no T'.out Z 1 (by omega) (by simp [mostS]; omega)).mono ?_
        rintro e' w2 ⟨rfl, rfl⟩
        go_wp2_with fail
        refine (size_any T'.out).mono ?_
        rintro e' w2' ⟨rfl, rfl⟩
        go_wp2_with fail
        exact ⟨⟨k + 1, q', c', xs, by omega, by go_num, rfl, hx, T'.out, hq', f'⟩, by simp [intOf]; omega⟩
    · have hb2 := hid ((Blk.new w 37 #[.int .i64 e, .int .i64 mn, .int .i64 mx, .bool true]).fr f' (fun x => x))
      have b0 : wr.cell? ⟨w.heap.size, 0, none⟩ = some (.int .i64 e) := by rw [hb2.out.cell]; rfl
      have b1 : wr.cell? ⟨w.heap.size, 1, none⟩ = some (.int .i64 mn) := by rw [hb2.out.cell]; rfl
      have b2 : wr.cell? ⟨w.heap.size, 2, none⟩ = some (.int .i64 mx) := by rw [hb2.out.cell]; rfl
      have b3 : wr.cell? ⟨w.heap.size, 3, none⟩ = some (.bool true) := by rw [hb2.out.cell]; rfl
      go_wp2_with fail
      have ht := r6table_any e mn mx true wr
      rw [HK.out] at ht
      refine ht.mono ?_
      clear ht
      rintro e' w2 ⟨rfl, f2⟩
      go_wp2_with (go_at_call 8; refine (alive_any _).mono ?_; rintro e w3 ⟨rfl, hf⟩)
      go_ret
      exact ⟨rfl, (Fw.trans (Fr.of_below (M := No) f2) (fun _ _ h => h)).trans hf (fun _ _ h => h)⟩
end

def tTable : Ty (Int × Int × Int × Bool) := (Ty.int .i64).pair ((Ty.int .i64).pair ((Ty.int .i64).pair Ty.bool))
instance : TyOk tTable := by unfold tTable; infer_instance
theorem opens_table : Opens Try.prog 37 tTable :=
  opens_struct (fs := _) Try.underlying37 (by kernel_rfl) (Flds.cons rfl (by kernel_rfl) (opens_int Try.underlying33)
    (Flds.one rfl (by kernel_rfl) (opens_struct Try.underlying35 (by kernel_rfl)
      (Flds.cons rfl (by kernel_rfl) (opens_int Try.underlying3) (Flds.cons rfl (by kernel_rfl) (opens_int Try.underlying3) (Flds.one rfl (by kernel_rfl) (opens_bool Try.underlying4)))))))
theorem opens_u16s : Opens Try.prog 38 (Ty.int .u16).slice := opens_slice Try.underlying38 (by kernel_rfl) (by decide) (opens_int Try.underlying42)

theorem tablesLimits_walk (w : World) (v0 v1 : Value) (x0 : Int × Int × Int × Bool) (x1 : List Int) (y0 : tTable.rd w w.heap.size v0.cells.toList x0) (y1 : (Ty.int .u16).slice.rd w w.heap.size v1.cells.toList x1)
    (s0 : ∃ cs, v0 = .agg cs) (s1 : ∃ a l c, v1 = .slice a l c) :
    Calls Try.prog 4 #[v0, v1] w fun e w' => e = .returned (.bool true) ∧ Below w.heap.size w w' := by
  obtain ⟨cs, rfl⟩ := s0
  obtain ⟨a, l, c, rfl⟩ := s1
  obtain ⟨e, mn, mx, h⟩ := x0
  obtain ⟨A, cl, e1, h1, h2, h3⟩ := y1
  simp [Value.cells] at e1
  obtain ⟨rfl, rfl, rfl⟩ := e1
  obtain ⟨c1, r1, e1, ⟨rfl, _⟩, c2, r2, rfl, ⟨rfl, _⟩, c3, r3, rfl, ⟨rfl, _⟩, e4⟩ := y0
  have e4 : r3 = [.bool h] := e4
  subst e4
  have e5 : cs = #[.int .i64 e, .int .i64 mn, .int .i64 mx, .bool h] := by
    have : cs.toList = [.int .i64 e, .int .i64 mn, .int .i64 mx, .bool h] := by simpa [Value.cells] using e1
    exact Array.toList_inj.1 (by simpa using this)
  subst e5
  unfold maxLen at h2
  suffices Calls Try.prog 4 #[.agg #[.int .i64 e, .int .i64 mn, .int .i64 mx, .bool h], .slice a x1.length c] w fun e w' => e = .returned (.bool true) ∧ Fr No w w' from this.mono fun e w' ⟨a, b⟩ => ⟨a, b.below⟩
  by_cases hb : 30 < x1.length
  · exact limits_big e mn mx a c w h _ hb (by omega)
  · cases hk : tabB e mn mx h
    · exact limits_no e mn mx a c w h _ (by omega) hk
    · have hw : ∀ x ∈ x1, 0 ≤ x ∧ x ≤ 65535 := by
        intro x hx
        obtain ⟨i, hi, rfl⟩ := List.getElem_of_mem hx
        obtain ⟨_, _, ds, _, _, _, hd⟩ := h3.at_ i hi
        exact wf_u16 hd.2
      cases h
      · exact limits_false e mn mx a x1 c w (by omega) hk h3.ints hw
      · exact limits_true e mn mx a x1 c w (by omega) hk h3.ints hw
end Go.Proofs.Ytndhbamfgihncaa
