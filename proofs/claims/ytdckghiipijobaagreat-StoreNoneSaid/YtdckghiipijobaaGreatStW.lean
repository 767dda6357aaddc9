/- Contracts: alive (chapter 31). -/
import Derived.Test.YtdckghiipijobaaGreatStV
namespace Go.Proofs.YtdckghiipijobaaGreat
open Go.RowKit

def aV : Vl := ⟨1, 5⟩
def aH : Ho := ⟨⟨#[109]⟩, ⟨#[102]⟩, ⟨[1], []⟩, [⟨1, [], 0, 0, 0⟩, ⟨0, [], 0, 0, 0⟩]⟩
def aX1 : Rx := ⟨[aH], [1], [⟨0, [aV]⟩], [], [], [], [], [], [], []⟩
def aX2 : Rx := ⟨[aH], [2], [⟨0, [aV]⟩, ⟨0, [aV]⟩], [], [], [], [], [], [], []⟩
def aX3 : Rx := ⟨[aH], [2], [⟨0, [aV]⟩, ⟨0, [aV]⟩], [], [], [⟨⟨1, 0, false⟩, List.replicate 256 0⟩], [], [], [], []⟩
theorem a_may : mayB [aH] = true := by decide +kernel
theorem a_hoB : hoB aH = true := by decide +kernel
theorem a_fit : fitB [aV] [1] = true := by decide +kernel
theorem a_c1 : callS (sto0 [aH]) (0 : Nat) [aV] = (aX1, [], 11) := by kernel_rfl
theorem a_c2 : callS aX1 (0 : Nat) [aV] = (aX2, [], 0) := by kernel_rfl
theorem a_m1 : addMS aX2 ⟨1, 0, false⟩ = (aX3, 0) := by kernel_rfl
theorem a_m2 : addMS aX3 ⟨-1, 0, false⟩ = (aX3, -1) := by kernel_rfl
theorem a_g : addGS aX3 ⟨1, false⟩ ⟨2, 0⟩ = (aX3, -1) := by kernel_rfl
theorem a_s : shotS aX3 = ⟨[List.replicate 256 0], [], [], [], [], [⟨0, [aV]⟩, ⟨0, [aV]⟩]⟩ := rfl
theorem a_bd : HoBd aH := ⟨by decide, by decide, by decide, by decide⟩
theorem a_ok0 : StOk (sto0 [aH]) := ⟨by intro h hh; rw [List.mem_singleton.1 hh]; exact a_hoB, by intro h hh; rw [List.mem_singleton.1 hh]; exact a_bd, by decide, by decide, by intro c hc; rw [List.mem_singleton.1 hc]; decide, (fun m hm => nomatch hm), by decide, by decide⟩
theorem a_ok1 : StOk aX1 := ⟨by intro h hh; rw [List.mem_singleton.1 hh]; exact a_hoB, by intro h hh; rw [List.mem_singleton.1 hh]; exact a_bd, by decide, by decide, by intro c hc; rw [List.mem_singleton.1 hc]; decide, (fun m hm => nomatch hm), by decide, by decide⟩
theorem a_sh : ShOk aX3 := ⟨(fun t ht => nomatch ht), by intro m hm; rw [List.mem_singleton.1 hm]; show (List.replicate 256 (0 : Int)).length ≤ 100000; rw [List.length_replicate]; omega, by decide, by decide, by decide, by decide, by decide, by decide, by intro c hc; simp only [aX3, List.mem_cons, List.not_mem_nil, or_false, or_self] at hc; rw [hc]; decide⟩

theorem lit_els {α : Type} {t : Ty α} [TyOk t] [TyMore t] {w : World} {q : Nat} {e : TypeId} {css : List (List Value)} {xs : List α} (hb : Blk w q e css.flatten.toArray) (h : Css t w (· < w.heap.size) css xs) (hm : xs.length ≤ maxLen) : t.els w (· < w.heap.size) (some ⟨q, 0, none⟩) xs :=
  Ty.row.els' (Ty.row.lit (base := 0) hb (Nat.zero_le _) h hm) (fun _ h => h) (fun g hg => by
    have : q = g := by simpa [Value.ownBlock] using hg
    subst this
    exact hb.lt)
theorem Grown.no {w0 w w' : World} {R R' : Nat → Prop} {V V' : Pl} (h : Grown w w' R R' V V') (f : Fr No w0 w) (ho : ∀ k, V.own k → w0.heap.size ≤ k) : Fr No w0 w' :=
  f.trans h.fr (fun i hi o => by have := ho i o; omega)
theorem w3_size (w : World) (o1 o2 o3 : Obj) : (((w.alloc o1).alloc o2).alloc o3).heap.size = w.heap.size + 1 + 1 + 1 := by simp

set_option maxRecDepth 100000 in
set_option maxHeartbeats 6400000 in
theorem alive_any (w : World) : Calls Tryz.prog 7 #[] w fun e w' => e = .returned (.bool true) ∧ Fr No w w' := by
  have F0 : Hid (Fr No w ((((w.alloc (.cells #[.int .i64 1] 48)).alloc (.cells #[.int .i64 1, .slice none 0 0, .int .i64 0, .int .i64 0, .int .u8 0, .int .i64 0, .slice none 0 0, .int .i64 0, .int .i64 0, .int .u8 0] 110)).alloc (.cells #[.string ⟨#[109]⟩, .string ⟨#[102]⟩, .slice (some ⟨w.heap.size, 0, none⟩) 1 1, .slice none 0 0, .slice (some ⟨w.heap.size + 1, 0, none⟩) 2 2] 108)).alloc (.cells #[.string ⟨#[109]⟩, .string ⟨#[102]⟩, .slice (some ⟨w.heap.size, 0, none⟩) 1 1, .slice none 0 0, .slice (some ⟨w.heap.size + 1, 0, none⟩) 2 2] 108))) := ((((Fr.refl No w).alloc _).alloc _).alloc _).alloc _
  have B0 := hid ((((Blk.new w 48 #[.int .i64 1]).alloc (.cells #[.int .i64 1, .slice none 0 0, .int .i64 0, .int .i64 0, .int .u8 0, .int .i64 0, .slice none 0 0, .int .i64 0, .int .i64 0, .int .u8 0] 110)).alloc (.cells #[.string ⟨#[109]⟩, .string ⟨#[102]⟩, .slice (some ⟨w.heap.size, 0, none⟩) 1 1, .slice none 0 0, .slice (some ⟨w.heap.size + 1, 0, none⟩) 2 2] 108)).alloc (.cells #[.string ⟨#[109]⟩, .string ⟨#[102]⟩, .slice (some ⟨w.heap.size, 0, none⟩) 1 1, .slice none 0 0, .slice (some ⟨w.heap.size + 1, 0, none⟩) 2 2] 108))
  have B1 := hid (((Blk.new1 w (.cells #[.int .i64 1] 48) 110 #[.int .i64 1, .slice none 0 0, .int .i64 0, .int .i64 0, .int .u8 0, .int .i64 0, .slice none 0 0, .int .i64 0, .int .i64 0, .int .u8 0]).alloc (.cells #[.string ⟨#[109]⟩, .string ⟨#[102]⟩, .slice (some ⟨w.heap.size, 0, none⟩) 1 1, .slice none 0 0, .slice (some ⟨w.heap.size + 1, 0, none⟩) 2 2] 108)).alloc (.cells #[.string ⟨#[109]⟩, .string ⟨#[102]⟩, .slice (some ⟨w.heap.size, 0, none⟩) 1 1, .slice none 0 0, .slice (some ⟨w.heap.size + 1, 0, none⟩) 2 2] 108))
  have B3 := Blk.new (((w.alloc (.cells #[.int .i64 1] 48)).alloc (.cells #[.int .i64 1, .slice none 0 0, .int .i64 0, .int .i64 0, .int .u8 0, .int .i64 0, .slice none 0 0, .int .i64 0, .int .i64 0, .int .u8 0] 110)).alloc (.cells #[.string ⟨#[109]⟩, .string ⟨#[102]⟩, .slice (some ⟨w.heap.size, 0, none⟩) 1 1, .slice none 0 0, .slice (some ⟨w.heap.size + 1, 0, none⟩) 2 2] 108)) 108 #[.string ⟨#[109]⟩, .string ⟨#[102]⟩, .slice (some ⟨w.heap.size, 0, none⟩) 1 1, .slice none 0 0, .slice (some ⟨w.heap.size + 1, 0, none⟩) 2 2]
  rw [w3_size] at B3
  have B3 := hid B3
  go_enter Tryz.func7, Tryz.ntmps7
  go_wp2_with fail
  generalize (((w.alloc (.cells #[.int .i64 1] 48)).alloc (.cells #[.int .i64 1, .slice none 0 0, .int .i64 0, .int .i64 0, .int .u8 0, .int .i64 0, .slice none 0 0, .int .i64 0, .int .i64 0, .int .u8 0] 110)).alloc (.cells #[.string ⟨#[109]⟩, .string ⟨#[102]⟩, .slice (some ⟨w.heap.size, 0, none⟩) 1 1, .slice none 0 0, .slice (some ⟨w.heap.size + 1, 0, none⟩) 2 2] 108)).alloc (.cells #[.string ⟨#[109]⟩, .string ⟨#[102]⟩, .slice (some ⟨w.heap.size, 0, none⟩) 1 1, .slice none 0 0, .slice (some ⟨w.heap.size + 1, 0, none⟩) 2 2] 108) = W at *
  have EH : Hid (tHo.els W (· < W.heap.size) (some ⟨w.heap.size + 1 + 1 + 1, 0, none⟩) [aH]) := by
    refine lit_els (css := [[.string ⟨#[109]⟩, .string ⟨#[102]⟩, .slice (some ⟨w.heap.size, 0, none⟩) 1 1, .slice none 0 0, .slice (some ⟨w.heap.size + 1, 0, none⟩) 2 2]]) B3.out (Css.one ?_) (by decide)
    refine Ho_mk (a := aH) (by decide) (by decide) (by decide) (by decide) ?_ (by decide) (by decide) (.inl rfl) (by decide) (by decide) ?_
    · exact lit_els (css := [[.int .i64 1]]) B0.out (Css.one (int_mk rfl)) (by decide)
    · refine lit_els (css := [[.int .i64 1, .slice none 0 0, .int .i64 0, .int .i64 0, .int .u8 0], [.int .i64 0, .slice none 0 0, .int .i64 0, .int .i64 0, .int .u8 0]]) B1.out (Css.two ?_ ?_) (by decide)
      · exact Ac_mk (a := ⟨1, [], 0, 0, 0⟩) rfl (Nat.le_refl _) (by decide) (.inl rfl) rfl rfl rfl
      · exact Ac_mk (a := ⟨0, [], 0, 0, 0⟩) rfl (Nat.le_refl _) (by decide) (.inl rfl) rfl rfl rfl
  refine (newS_any (some ⟨w.heap.size + 1 + 1 + 1, 0, none⟩) 1 [aH] (· < W.heap.size) W EH.out (fun _ h => h) (by decide) (by intro h hh; rw [List.mem_singleton.1 hh]; exact a_bd)).mono ?_
  rintro e w1 hN
  unfold NewSTo at hN
  rw [a_may] at hN
  obtain ⟨V, rfl, h1, h2, f1⟩ := hN
  have F1 := hid (F0.out.trans f1 (fun _ _ h => h))
  have LO : Hid (∀ k, V.own k → w.heap.size ≤ k) := fun k hk => Nat.le_trans F0.out.size (h2 k hk)
  have K1 := hid h1
  clear h1 h2 f1 B0 B1 B3 EH F0
  have FV := hid ((Fr.refl No w1).alloc (.cells #[.int .i64 1, .int .u64 5] 57))
  have BV := hid (Blk.new w1 57 #[.int .i64 1, .int .u64 5])
  have HLT : Hid (∀ k, V.own k → k < w1.heap.size) := fun k hk => K1.out.lt hk
  go_wp2_with fail
  obtain ⟨g, hg⟩ : ∃ g, g = w1.heap.size := ⟨_, rfl⟩
  rw [← hg] at BV ⊢
  have HG := hid hg
  clear hg
  generalize w1.alloc (.cells #[.int .i64 1, .int .u64 5] 57) = W1 at *
  have K2 := hid (K1.out.frNo FV.out)
  have NG : Hid (¬ V.own g) := fun o => by have := HLT.out g o; have := HG.out; omega
  have EV : Hid (∀ X, Fr V.own W1 X → tVl.els X (· < X.heap.size) (some ⟨g, 0, none⟩) [aV]) := fun X f => lit_els (css := [[.int .i64 1, .int .u64 5]]) (BV.out.fr f NG.out) (Css.one (Vl_mk (a := aV) rfl rfl)) (by decide)
  have HC := call_fit K2.out a_ok0 0 [aV] (some ⟨g, 0, none⟩) 1 (by decide) (· < W1.heap.size) (fun _ h => h) (EV.out W1 (Fr.refl _ _)) (by decide) a_fit
  rw [a_c1] at HC
  refine HC.mono ?_
  rintro e w2 ⟨V2, R2, A2, c2, rfl, k2, g2, -, -⟩
  have K3 := hid k2
  have G3 := hid g2
  clear HC k2 g2
  go_wp2_with fail
  have HC := call_fit K3.out a_ok1 0 [aV] (some ⟨g, 0, none⟩) 1 (by decide) (· < w2.heap.size) (fun _ h => h) (EV.out w2 G3.out.fr) (by decide) a_fit
  rw [a_c2, G3.out.P] at HC
  refine HC.mono ?_
  rintro e w3 ⟨V3, R3, A3, c3, rfl, k2, g2, -, -⟩
  have K4 := hid k2
  have G4 := hid (G3.out.trans g2)
  clear HC k2 g2
  go_wp2_with fail
  have HC := addMem_any K4.out ⟨1, 0, false⟩ (by decide)
  rw [a_m1, G4.out.P] at HC
  refine HC.mono ?_
  rintro e w4 ⟨V4, R4, rfl, k2, g2⟩
  have K5 := hid k2
  have G5 := hid (G4.out.trans g2)
  clear HC k2 g2
  go_wp2_with fail
  have HC := addMem_any K5.out ⟨-1, 0, false⟩ (by decide)
  rw [a_m2, G5.out.P] at HC
  refine HC.mono ?_
  rintro e w5 ⟨V5, R5, rfl, k2, g2⟩
  have K6 := hid k2
  have G6 := hid (G5.out.trans g2)
  clear HC k2 g2
  go_wp2_with fail
  have HC := addGlobal_any K6.out ⟨1, false⟩ ⟨2, 0⟩ rfl rfl rfl (by decide)
  rw [a_g, G6.out.P] at HC
  refine HC.mono ?_
  rintro e w6 ⟨V6, R6, rfl, k2, g2⟩
  have K7 := hid k2
  have G7 := hid (G6.out.trans g2)
  clear HC k2 g2
  go_wp2_with fail
  have HC := shot_any K7.out a_sh
  rw [a_s, G7.out.P] at HC
  refine HC.mono ?_
  rintro e w7 ⟨cs, rfl, hr, f7⟩
  have F7 := hid f7
  obtain ⟨Am, cm, At, ct, Ag, cg, Ae, ce, Ad, cd, Ac_, cc, rfl, -, -, -, -, -, -, -, -, -, -, -, -, -, -, -, -, -, ec⟩ := Sh_cells hr
  obtain ⟨b, o, Aa, ca, rfl, hb, -, y1, -, l1, l2, ea⟩ := Ca_at ec 1 (by decide)
  have y1 : w7.cell? ⟨b, o + 2 + 1, none⟩ = some (.slice Aa 1 ca) := y1
  have EA := hid ea
  have hb7 : b < w7.heap.size := hb.2
  clear HC hr f7 ec l1 l2 ea
  have HCM := hid (fun X (f : Fr No w7 X) => r27same_any Aa (some ⟨g, 0, none⟩) [aV] [aV] ca 1 w7.heap.size X.heap.size X ((EA.out.fr f (fun k hk => ⟨hk.2, fun x => x⟩)).more (fun k hk => hk.2)) (EV.out X ((G7.out.fr.trans (F7.out.trans f (fun _ _ h => h)) (fun _ _ h => h.elim)))) (by decide) (by decide))
  go_wp2_with (go_at_call 33; refine (HCM.out _ ((Fr.refl No w7).alloc _)).mono ?_; rintro e w8 ⟨rfl, nn, rfl⟩)
  go_ret
  exact ⟨rfl, (((G7.out.no (F1.out.trans FV.out (fun _ _ h => h)) LO.out).trans F7.out (fun _ _ h => h)).alloc _).drewN nn⟩
end Go.Proofs.YtdckghiipijobaaGreat
