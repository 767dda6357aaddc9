/- Contracts: copyHost. -/
import Derived.Test.YtdckghiipijobaaGreatStH
namespace Go.Proofs.YtdckghiipijobaaGreat
open Go.RowKit

set_option maxRecDepth 100000 in
set_option maxHeartbeats 3200000 in
theorem copyHost_any (h : Ho) (A1 A2 A3 : Option Addr) (c1 c2 c3 : Nat) (S : Nat → Prop) (w : World) (hS : ∀ k, S k → k < w.heap.size) (h1 : tI.els w S A1 h.ty.params) (h2 : tI.els w S A2 h.ty.results) (h3 : tAc.els w S A3 h.acts)
    (b1 : h.ty.params.length * 8 ≤ 140737488351232) (b2 : h.ty.results.length * 8 ≤ 140737488351232) (b3 : h.acts.length * 56 ≤ 140737488351232) (b4 : ∀ a ∈ h.acts, a.vals.length * 16 ≤ 140737488351232) (b5 : h.mod.size ≤ maxLen) (b6 : h.name.size ≤ maxLen) :
    Calls Tryz.prog 35 #[.agg #[.string h.mod, .string h.name, .slice A1 h.ty.params.length c1, .slice A2 h.ty.results.length c2, .slice A3 h.acts.length c3]] w (FreshTo tHo h w) := by
  obtain ⟨md, nm, ⟨ps, rs⟩, acts⟩ := h
  simp only at h1 h2 h3 b1 b2 b3 b4 b5 b6 ⊢
  have F0 := hid (((Fr.refl No w).alloc (.cells #[.string md, .string nm, .slice A1 ps.length c1, .slice A2 rs.length c2, .slice A3 acts.length c3] 108)).alloc (.cells #[.string ⟨#[]⟩, .string ⟨#[]⟩, .slice none 0 0, .slice none 0 0, .slice none 0 0] 108))
  have G0 := hid ((Blk.new w 108 #[.string md, .string nm, .slice A1 ps.length c1, .slice A2 rs.length c2, .slice A3 acts.length c3]).alloc (.cells #[.string ⟨#[]⟩, .string ⟨#[]⟩, .slice none 0 0, .slice none 0 0, .slice none 0 0] 108))
  have G1 := hid (Blk.new1 w (.cells #[.string md, .string nm, .slice A1 ps.length c1, .slice A2 rs.length c2, .slice A3 acts.length c3] 108) 108 #[.string ⟨#[]⟩, .string ⟨#[]⟩, .slice none 0 0, .slice none 0 0, .slice none 0 0])
  have H1 := hid h1
  have H2 := hid h2
  have H3 := hid h3
  have HB1 := hid b1
  have HB2 := hid b2
  have HB3 := hid b3
  have HB4 := hid b4
  have HB5 := hid (And.intro b5 b6)
  have HS := hid hS
  have hl2 : acts.length ≤ 140737488351232 := by omega
  clear h1 h2 h3 b1 b2 b3 b4 b5 b6 hS
  go_enter Tryz.func35, Tryz.ntmps35
  go_wp2_with fail
  generalize (w.alloc (.cells #[.string md, .string nm, .slice A1 ps.length c1, .slice A2 rs.length c2, .slice A3 acts.length c3] 108)).alloc (.cells #[.string ⟨#[]⟩, .string ⟨#[]⟩, .slice none 0 0, .slice none 0 0, .slice none 0 0] 108) = W at *
  have hW : w.heap.size + 1 < W.heap.size := G1.out.lt
  have HSW : Hid (∀ k, S k → k < W.heap.size) := fun k hk => Nat.lt_of_lt_of_le (HS.out k hk) F0.out.size
  obtain ⟨g0, hg0⟩ : ∃ g0, g0 = w.heap.size := ⟨_, rfl⟩
  have HG0 := hid hg0
  rw [← hg0] at G0 G1 hW ⊢
  clear hg0
  refine (copyType_any ⟨ps, rs⟩ A1 A2 c1 c2 S _ HSW.out (fr_els H1.out F0.out HS.out) (fr_els H2.out F0.out HS.out) HB1.out HB2.out).mono ?_
  rintro e w1 ⟨cs, rfl, hr1, f1⟩
  obtain ⟨B1, d1, B2, d2, rfl, q1, q2, q3, q4, q5, q6⟩ := Fn_cells hr1
  have F1 := hid f1
  have G2 := hid (G0.out.fr f1 (fun x => x))
  have Q := hid (And.intro (And.intro q1 (And.intro q2 q3)) (And.intro q4 (And.intro q5 q6)))
  clear hr1 f1 q1 q2 q3 q4 q5 q6
  have u0 : w1.cell? ⟨g0, 0, none⟩ = some (.string md) := G2.out.cell 0
  have u1 : w1.cell? ⟨g0, 1, none⟩ = some (.string nm) := G2.out.cell 1
  have u2 : w1.cell? ⟨g0, 2, none⟩ = some (.slice A1 ps.length c1) := G2.out.cell 2
  have u3 : w1.cell? ⟨g0, 3, none⟩ = some (.slice A2 rs.length c2) := G2.out.cell 3
  have u4 : w1.cell? ⟨g0, 4, none⟩ = some (.slice A3 acts.length c3) := G2.out.cell 4
  have v2 : w1.frozen? ⟨g0, 2, none⟩ = false := G2.out.frozen 2
  have v3 : w1.frozen? ⟨g0, 3, none⟩ = false := G2.out.frozen 3
  go_wp2_with fail
  have f2 := ((Fr.refl (One g0) w1).setCell ⟨g0, 2, none⟩ (.slice B1 ps.length d1) (fun _ => rfl)).setCell ⟨g0, 3, none⟩ (.slice B2 rs.length d2) (fun _ => rfl)
  have G3 := hid ((G2.out.set_ 2 (.slice B1 ps.length d1)).set_ 3 (.slice B2 rs.length d2))
  generalize (w1.setCell ⟨g0, 2, none⟩ (.slice B1 ps.length d1)).setCell ⟨g0, 3, none⟩ (.slice B2 rs.length d2) = w2 at *
  have F2 := hid f2
  clear f2 u0 u1 u2 u3 u4 v2 v3
  have FT : Hid (Fr No w w2) := (F0.out.trans F1.out (fun _ _ h => h)).trans F2.out (fun i hi h => by have h : i = g0 := h; have := HG0.out; omega)
  have HS2 : Hid (∀ k, S k → k < w2.heap.size) := fun k hk => Nat.lt_of_lt_of_le (HS.out k hk) FT.out.size
  refine (cloneAc_any A3 c3 acts S _ (fr_els H3.out FT.out HS.out) HS2.out HB3.out).mono ?_
  rintro e w3 ⟨A4, k1, rfl, hr3, f3⟩
  have F3 := hid f3
  have G4 := hid (G3.out.fr f3 (fun x => x))
  obtain ⟨css, hcss, hown⟩ := hr3
  have hg3 : g0 < w3.heap.size := G4.out.lt
  have g12 : g0 + 1 < w3.heap.size := Nat.lt_of_lt_of_le hW (Nat.le_trans F1.out.size (Nat.le_trans F2.out.size F3.out.size))
  have G5 := hid (((G1.out.fr F1.out (fun x => x)).fr F2.out (fun x => by have x : g0 + 1 = g0 := x; omega)).fr F3.out (fun x => x))
  have KEY : ∀ (wr : World), Fr (fun k => ∃ g, A4 = some ⟨g, 0, none⟩ ∧ k = g) w3 wr → acts.length ≤ k1 → k1 ≤ maxLen → tAc.els wr (Nw w2 wr) A4 acts → (∀ g, A4 = some ⟨g, 0, none⟩ → w2.heap.size ≤ g) →
      Blk wr g0 108 #[.string md, .string nm, .slice B1 ps.length d1, .slice B2 rs.length d2, .slice A3 acts.length c3] ∧ Blk wr (g0 + 1) 108 #[.string ⟨#[]⟩, .string ⟨#[]⟩, .slice none 0 0, .slice none 0 0, .slice none 0 0] ∧
      Blk ((((((wr.setCell ⟨g0, 4, none⟩ (.slice A4 acts.length k1)).setCell ⟨g0 + 1, 0, none⟩ (.string md)).setCell ⟨g0 + 1, 1, none⟩ (.string nm)).setCell ⟨g0 + 1, 2, none⟩ (.slice B1 ps.length d1)).setCell ⟨g0 + 1, 3, none⟩ (.slice B2 rs.length d2)).setCell ⟨g0 + 1, 4, none⟩ (.slice A4 acts.length k1)) (g0 + 1) 108 #[.string md, .string nm, .slice B1 ps.length d1, .slice B2 rs.length d2, .slice A4 acts.length k1] ∧
      FreshTo tHo ⟨md, nm, ⟨ps, rs⟩, acts⟩ w (.returned (.agg #[.string md, .string nm, .slice B1 ps.length d1, .slice B2 rs.length d2, .slice A4 acts.length k1])) ((((((wr.setCell ⟨g0, 4, none⟩ (.slice A4 acts.length k1)).setCell ⟨g0 + 1, 0, none⟩ (.string md)).setCell ⟨g0 + 1, 1, none⟩ (.string nm)).setCell ⟨g0 + 1, 2, none⟩ (.slice B1 ps.length d1)).setCell ⟨g0 + 1, 3, none⟩ (.slice B2 rs.length d2)).setCell ⟨g0 + 1, 4, none⟩ (.slice A4 acts.length k1)) := by
    intro wr fr l1 l2 hel hgw
    have s0 := F0.out.size
    have s1 := F1.out.size
    have s2 := F2.out.size
    have s3 := F3.out.size
    have s4 := fr.size
    have n0 : ∀ b, b < w2.heap.size → ¬ ∃ g, A4 = some ⟨g, 0, none⟩ ∧ b = g := fun b hb ⟨g, e1, e2⟩ => by have := hgw g e1; omega
    have K1 := G4.out.fr fr (n0 _ (by omega))
    have K2 := G5.out.fr fr (n0 _ (by omega))
    have FZ := ((((((Fr.refl (Two g0 (g0 + 1)) wr).setCell ⟨g0, 4, none⟩ (.slice A4 acts.length k1) (fun _ => .inl rfl)).setCell ⟨g0 + 1, 0, none⟩ (.string md) (fun _ => .inr rfl)).setCell ⟨g0 + 1, 1, none⟩ (.string nm) (fun _ => .inr rfl)).setCell ⟨g0 + 1, 2, none⟩ (.slice B1 ps.length d1) (fun _ => .inr rfl)).setCell ⟨g0 + 1, 3, none⟩ (.slice B2 rs.length d2) (fun _ => .inr rfl)).setCell ⟨g0 + 1, 4, none⟩ (.slice A4 acts.length k1) (fun _ => .inr rfl)
    have K4 := (((((K2.far (p := ⟨g0, 4, none⟩) (by show g0 + 1 ≠ g0; omega) (.slice A4 acts.length k1)).set_ 0 (.string md)).set_ 1 (.string nm)).set_ 2 (.slice B1 ps.length d1)).set_ 3 (.slice B2 rs.length d2)).set_ 4 (.slice A4 acts.length k1)
    refine ⟨K1, K2, by simpa using K4, _, rfl, ?_, ?_⟩
    · generalize ((((((wr.setCell ⟨g0, 4, none⟩ (.slice A4 acts.length k1)).setCell ⟨g0 + 1, 0, none⟩ (.string md)).setCell ⟨g0 + 1, 1, none⟩ (.string nm)).setCell ⟨g0 + 1, 2, none⟩ (.slice B1 ps.length d1)).setCell ⟨g0 + 1, 3, none⟩ (.slice B2 rs.length d2)).setCell ⟨g0 + 1, 4, none⟩ (.slice A4 acts.length k1)) = wf at *
      have s5 := FZ.size
      have hB : ∀ {A : Option Addr} {l : List Int}, tI.els w1 (Nw W w1) A l → tI.els wf (Nw w wf) A l := fun hl =>
        ((((hl.fr F2.out (fun k hk => ⟨hk.2, fun e => by have e : k = g0 := e; have := hk.1; omega⟩)).fr F3.out (fun k hk => ⟨Nat.lt_of_lt_of_le hk.2 s2, fun x => x⟩)).fr fr (fun k hk => ⟨by have := hk.2; omega, n0 k (by have := hk.2; omega)⟩)).fr FZ (fun k hk => ⟨by have := hk.2; omega, fun e => by have := hk.1; rcases e with e | e <;> omega⟩)).more (fun k hk => ⟨by have := hk.1; omega, by have := hk.2; omega⟩)
      obtain ⟨⟨q1, q2, q3⟩, q4, q5, q6⟩ := Q.out
      exact Ho_mk (a := ⟨md, nm, ⟨ps, rs⟩, acts⟩) HB5.out.1 HB5.out.2 q1 q2 (hB q3) q4 q5 (hB q6) l1 l2 ((hel.fr FZ (fun k hk => ⟨hk.2, fun e => by have := hk.1; rcases e with e | e <;> omega⟩)).more (fun k hk => ⟨by have := hk.1; have := FT.out.size; omega, by have := hk.2; omega⟩))
    · have e0 := HG0.out
      exact (FT.out.trans F3.out (fun _ _ h => h)).trans ((fr.mono (M := fun k => w.heap.size ≤ k) (fun k _ ⟨g, e1, e2⟩ => by have := hgw g e1; show w.heap.size ≤ k; omega)).trans FZ (fun k hk h => by show w.heap.size ≤ k; rcases h with h | h <;> omega)) (fun k hk h => by have h : w.heap.size ≤ k := h; omega)
  have HK := hid KEY
  clear KEY
  rcases hown.2 with ⟨hv, h0⟩ | ⟨g, cap, cur, hv, hb, hg, -⟩
  · injection hv with e1 e2 e3
    subst e1 e3
    have hnil : acts = [] := List.eq_nil_of_length_eq_zero e2
    subst hnil
    clear hown hcss f3
    obtain ⟨K1, K2, K4, K3⟩ := HK.out w3 (Fr.refl _ _) (by simp) (by simp [maxLen]) (.inl rfl) (fun g h => by cases h)
    simp only [List.length_nil] at K1 K4 K3
    have HK3 := hid K3
    have HK4 := hid K4
    have u0 : w3.cell? ⟨g0, 0, none⟩ = some (.string md) := K1.cell 0
    have u1 : w3.cell? ⟨g0, 1, none⟩ = some (.string nm) := K1.cell 1
    have u2 : w3.cell? ⟨g0, 2, none⟩ = some (.slice B1 ps.length d1) := K1.cell 2
    have u3 : w3.cell? ⟨g0, 3, none⟩ = some (.slice B2 rs.length d2) := K1.cell 3
    have u4 : w3.cell? ⟨g0, 4, none⟩ = some (.slice A3 0 c3) := K1.cell 4
    have v4 : w3.frozen? ⟨g0, 4, none⟩ = false := K1.frozen 4
    have x0 : w3.cell? ⟨g0 + 1, 0, none⟩ = some (.string ⟨#[]⟩) := K2.cell 0
    have x1 : w3.cell? ⟨g0 + 1, 1, none⟩ = some (.string ⟨#[]⟩) := K2.cell 1
    have x2 : w3.cell? ⟨g0 + 1, 2, none⟩ = some (.slice none 0 0) := K2.cell 2
    have x3 : w3.cell? ⟨g0 + 1, 3, none⟩ = some (.slice none 0 0) := K2.cell 3
    have x4 : w3.cell? ⟨g0 + 1, 4, none⟩ = some (.slice none 0 0) := K2.cell 4
    have z0 : w3.frozen? ⟨g0 + 1, 0, none⟩ = false := K2.frozen 0
    have z1 : w3.frozen? ⟨g0 + 1, 1, none⟩ = false := K2.frozen 1
    have z2 : w3.frozen? ⟨g0 + 1, 2, none⟩ = false := K2.frozen 2
    have z3 : w3.frozen? ⟨g0 + 1, 3, none⟩ = false := K2.frozen 3
    have z4 : w3.frozen? ⟨g0 + 1, 4, none⟩ = false := K2.frozen 4
    have hne : ¬ g0 + 1 = g0 := by omega
    have hne' : ¬ g0 = g0 + 1 := by omega
    go_wp2_with fail
    go_loopw [14] (fun i wr => i = .int .i64 0 ∧ wr = w3) (fun _ _ => 0)
    case atStart => exact ⟨rfl, rfl⟩
    case round =>
      obtain ⟨rfl, rfl⟩ := hrel
      go_wp2
      have y0 := HK4.out.cell 0
      have y1 := HK4.out.cell 1
      have y2 := HK4.out.cell 2
      have y3 := HK4.out.cell 3
      have y4 := HK4.out.cell 4
      have HKZ := HK3.out
      clear x0 x1 x2 x3 x4 z0 z1 z2 z3 z4 u0 u1 u2 u3 u4 v4 K1 K2 K3 K4 HK3 HK4
      generalize ((((((wr.setCell ⟨g0, 4, none⟩ (.slice none 0 0)).setCell ⟨g0 + 1, 0, none⟩ (.string md)).setCell ⟨g0 + 1, 1, none⟩ (.string nm)).setCell ⟨g0 + 1, 2, none⟩ (.slice B1 ps.length d1)).setCell ⟨g0 + 1, 3, none⟩ (.slice B2 rs.length d2)).setCell ⟨g0 + 1, 4, none⟩ (.slice none 0 0)) = wf at *
      exact bodyPost_ret (v := .agg #[.string md, .string nm, .slice B1 ps.length d1, .slice B2 rs.length d2, .slice none 0 0]) (by simp [results, Tryz.results35, go_sem, y0, y1, y2, y3, y4]) rfl HKZ
  · injection hv with e1 e2 e3
    subst e1 e3
    have HGB := hid hb
    have HC0 := hid hcss
    have HO0 := hid hown
    clear hown hcss f3 hg hb
    obtain ⟨n, hn⟩ : ∃ n, acts.length = n := ⟨_, rfl⟩
    have HN := hid hn
    rw [hn] at HO0 hl2 ⊢
    clear hn
    go_wp2_with fail
    go_loopw [14] (fun i wr => ∃ (k : Nat) (css : List (List Value)), k ≤ n ∧ i = .int .i64 k ∧ Hid (Fr (One g) w3 wr) ∧ Hid (CssF tAc wr (Sk k (Nx w2 wr g) S) css acts) ∧ Hid (wr.ownsRow w2.heap.size 110 5 (.slice (some ⟨g, 0, none⟩) n k1) n css.flatten)) (fun i _ => n - (intOf i).toNat)
    case atStart =>
      refine ⟨0, css, by omega, rfl, Fr.refl _ _, ?_, HO0.out⟩
      exact (CssF.of HC0.out).keep (fun i p _ _ => rfl) (fun i k _ hk => .inr ⟨Nat.zero_le _, hk⟩)
    case round =>
      clear HO0 HC0
      obtain ⟨k, css, hk, rfl, HF, HC, HO⟩ := hrel
      have HSr : Hid (∀ b, S b → b < wr.heap.size) := fun b hb => Nat.lt_of_lt_of_le (Nat.lt_of_lt_of_le (HS2.out b hb) F3.out.size) HF.out.size
      by_cases hlt : k < n
      · have hkl : k < acts.length := by rw [HN.out]; exact hlt
        obtain ⟨d, hd⟩ : ∃ d, css[k]? = some d := ⟨_, List.getElem?_eq_getElem (by rw [HC.out.1]; exact hkl)⟩
        have hx : acts[k]? = some acts[k] := List.getElem?_eq_getElem hkl
        have hrd := HC.out.2 k d _ hd hx
        have hrd : tAc.rd wr S d acts[k] := TyMore.more _ _ _ _ _ hrd (fun b hb => by
          rcases hb with ⟨h, _⟩ | ⟨_, h⟩
          · omega
          · exact h)
        have HX := hid hx
        have HAK := hid (HB4.out _ (List.getElem_mem hkl))
        obtain ⟨B0, d0, rfl, w0, q1, q2, q3, w4, w5, w6⟩ := Ac_cells hrd
        clear hrd
        generalize acts[k] = x at *
        have y0 := own_get HO.out HC.out.lens hd (j := 1) rfl
        have i0 : (0 : Int) ≤ k := by omega
        have i1 : (k : Int) < n := by omega
        have HY := hid q3
        have z1 := own_frozen HO.out (k * 5 + 1)
        have HD := hid hd
        have HW0 := hid (And.intro w0 (And.intro w4 (And.intro w5 w6)))
        clear q3 hd w0 hkl hx w4 w5 w6
        go_wp2_with (go_at_call 90; refine (cloneVl_any B0 d0 x.vals S _ HY.out HSr.out HAK.out).mono ?_; rintro e wv ⟨B5, d5, rfl, hr2, f2⟩; have FV := hid f2; have RV := hid hr2; clear f2 hr2; have y1 := (FV.out.frozen (p := ⟨g, k * 5 + 1, none⟩) (own_blk HO.out).2 (fun x => x)).trans z1; have y2 := (FV.out.cell (p := ⟨g, k * 5 + 1, none⟩) (own_blk HO.out).2 (fun x => x)).trans y0)
        go_roundw
        case rel =>
          have hgw := (own_blk HO.out).2
          have hwg := (own_blk HO.out).1
          have HO2 := own_set (own_fr HO.out FV.out (fun x => x)) HC.out.lens HD.out (m := 1) (by decide) (.slice B5 x.vals.length d5)
          have f3 := (Fr.refl (One g) wv).setCell ⟨g, k * 5 + 1, none⟩ (.slice B5 x.vals.length d5) (fun _ => rfl)
          have s2 := HF.out.size
          have s3 := FV.out.size
          have s4 := f3.size
          have s5 := F3.out.size
          have hfr := HF.out.trans (FV.out.mono (M := One g) (fun _ _ h => h.elim)) (fun _ _ h => h)
          obtain ⟨p1, p2, p3⟩ := fresh_els (w := wr) RV.out (Nat.le_refl _) f3 (fun b h1 _ h => by have h : b = g := h; omega)
          refine ⟨k + 1, _, by omega, by go_num, hfr.trans f3 (fun _ _ h => h), ?_, HO2⟩
          refine HC.out.upd HX.out (Ac_mk HW0.out.1 p1 p2 (p3.more (S' := Sk (k + 1) (Nx w2 (wv.setCell ⟨g, k * 5 + 1, none⟩ (.slice B5 x.vals.length d5)) g) S k) (fun b hb => .inl ⟨by omega, ⟨by have := hb.1; omega, hb.2⟩, fun e => by have := hb.1; omega⟩)) HW0.out.2.1 HW0.out.2.2.1 HW0.out.2.2.2) (fun j p hj hjk hp => ?_) (fun j b hj hjk hb => ?_)
          · have hpb : p.block < wr.heap.size ∧ p.block ≠ g := by
              rcases hp with ⟨_, hp, hne⟩ | ⟨_, hp⟩
              · exact ⟨hp.2, hne⟩
              · have := HS2.out _ hp; exact ⟨by omega, by omega⟩
            exact (f3.cell (by omega) hpb.2).trans (FV.out.cell hpb.1 (fun x => x))
          · rcases hb with ⟨h1, h2, hne⟩ | ⟨h1, h2⟩
            · exact .inl ⟨by omega, h2.up (Nat.le_refl _) (by omega), hne⟩
            · exact .inr ⟨by omega, h2⟩
        case measure => simp [intOf]; omega
      · obtain rfl : k = n := by omega
        have hwg := own_blk HO.out
        have hnl := HN.out
        have hrow : tAc.row wr w2.heap.size (fun b => Nx w2 wr g b) 110 (.slice (some ⟨g, 0, none⟩) acts.length k1) acts := ⟨css, HC.out.toCss (fun i b hi hb => by
          rcases hb with ⟨_, h2⟩ | ⟨h1, _⟩
          · exact h2
          · omega), by rw [hnl]; exact HO.out⟩
        obtain ⟨l1, l2, l3⟩ := row_els hrow
        obtain ⟨K1, K2, K4, K3⟩ := HK.out wr (HF.out.mono (fun _ _ h => ⟨g, rfl, h⟩)) l1 l2 (l3.more (fun b hb => hb.elim (fun h => h.1) (fun h => h))) (fun g' h => by injection h with h; injection h with h; omega)
        rw [hnl] at K1 K4 K3
        have HK3 := hid K3
        have HK4 := hid K4
        have u0 : wr.cell? ⟨g0, 0, none⟩ = some (.string md) := K1.cell 0
        have u1 : wr.cell? ⟨g0, 1, none⟩ = some (.string nm) := K1.cell 1
        have u2 : wr.cell? ⟨g0, 2, none⟩ = some (.slice B1 ps.length d1) := K1.cell 2
        have u3 : wr.cell? ⟨g0, 3, none⟩ = some (.slice B2 rs.length d2) := K1.cell 3
        have u4 : wr.cell? ⟨g0, 4, none⟩ = some (.slice A3 k c3) := K1.cell 4
        have v4 : wr.frozen? ⟨g0, 4, none⟩ = false := K1.frozen 4
        have x0 : wr.cell? ⟨g0 + 1, 0, none⟩ = some (.string ⟨#[]⟩) := K2.cell 0
        have x1 : wr.cell? ⟨g0 + 1, 1, none⟩ = some (.string ⟨#[]⟩) := K2.cell 1
        have x2 : wr.cell? ⟨g0 + 1, 2, none⟩ = some (.slice none 0 0) := K2.cell 2
        have x3 : wr.cell? ⟨g0 + 1, 3, none⟩ = some (.slice none 0 0) := K2.cell 3
        have x4 : wr.cell? ⟨g0 + 1, 4, none⟩ = some (.slice none 0 0) := K2.cell 4
        have z0 : wr.frozen? ⟨g0 + 1, 0, none⟩ = false := K2.frozen 0
        have z1 : wr.frozen? ⟨g0 + 1, 1, none⟩ = false := K2.frozen 1
        have z2 : wr.frozen? ⟨g0 + 1, 2, none⟩ = false := K2.frozen 2
        have z3 : wr.frozen? ⟨g0 + 1, 3, none⟩ = false := K2.frozen 3
        have z4 : wr.frozen? ⟨g0 + 1, 4, none⟩ = false := K2.frozen 4
        have hne : ¬ g0 + 1 = g0 := by omega
        have hne' : ¬ g0 = g0 + 1 := by omega
        go_wp2
        have y0 := HK4.out.cell 0
        have y1 := HK4.out.cell 1
        have y2 := HK4.out.cell 2
        have y3 := HK4.out.cell 3
        have y4 := HK4.out.cell 4
        have HKZ := HK3.out
        clear x0 x1 x2 x3 x4 z0 z1 z2 z3 z4 u0 u1 u2 u3 u4 v4 K1 K2 K3 K4 HK3 HK4
        generalize ((((((wr.setCell ⟨g0, 4, none⟩ (.slice (some ⟨g, 0, none⟩) k k1)).setCell ⟨g0 + 1, 0, none⟩ (.string md)).setCell ⟨g0 + 1, 1, none⟩ (.string nm)).setCell ⟨g0 + 1, 2, none⟩ (.slice B1 ps.length d1)).setCell ⟨g0 + 1, 3, none⟩ (.slice B2 rs.length d2)).setCell ⟨g0 + 1, 4, none⟩ (.slice (some ⟨g, 0, none⟩) k k1)) = wf at *
        exact bodyPost_ret (v := .agg #[.string md, .string nm, .slice B1 ps.length d1, .slice B2 rs.length d2, .slice (some ⟨g, 0, none⟩) k k1]) (by simp [results, Tryz.results35, go_sem, y0, y1, y2, y3, y4]) rfl HKZ
end Go.Proofs.YtdckghiipijobaaGreat
