/- Part 5 of the proof: lemmas and contracts of functions. No condition. -/
import Derived.Test.YthggdemiddjlgaaGreatS4
import Derived.Test.YthggdemiddjlgaaGreatS1
set_option maxRecDepth 100000
set_option maxHeartbeats 12800000
set_option linter.unusedVariables false
set_option linter.unusedSimpArgs false
set_option linter.unusedSectionVars false
namespace Go.Proofs.YthggdemiddjlgaaGreat
open Go.RowKit Go.Proofs.Tryz
abbrev q5x0 : Array Value := #[.string ⟨#[]⟩, .string ⟨#[]⟩, .slice none 0 0, .slice none 0 0, .slice none 0 0]
theorem kDt (h : Ho) (A1 A2 A3 : OA) (c1 c2 c3 : Nat) (S : Nat → Prop) (w : World) (hS : Lt S w) (h1 : tI.els w S A1 h.ty.params) (h2 : tI.els w S A2 h.ty.results) (h3 : tAc.els w S A3 h.acts)
    (b1 : h.ty.params.length * 8 ≤ 140737488351232) (b2 : h.ty.results.length * 8 ≤ 140737488351232) (b3 : h.acts.length * 56 ≤ 140737488351232) (b4 : ∀ a ∈ h.acts, a.vals.length * 16 ≤ 140737488351232) (b5 : h.mod.size ≤ maxLen) (b6 : h.name.size ≤ maxLen) :
    Calls prog 49 #[.agg #[.string h.mod, .string h.name, .slice A1 h.ty.params.length c1, .slice A2 h.ty.results.length c2, .slice A3 h.acts.length c3]] w (kAN tHo h w) := by
 obtain ⟨md, nm, ⟨ps, rs⟩, acts⟩ := h
 simp only at h1 h2 h3 b1 b2 b3 b4 b5 b6 ⊢
 have F0 := hid (((Fr.refl No w).alloc (.cells #[.string md, .string nm, .slice A1 ps.length c1, .slice A2 rs.length c2, .slice A3 acts.length c3] 98)).alloc (.cells q5x0 98))
 have G0 := hid ((Blk.new w 98 #[.string md, .string nm, .slice A1 ps.length c1, .slice A2 rs.length c2, .slice A3 acts.length c3]).alloc (.cells q5x0 98))
 have G1 := hid (Blk.new1 w (.cells #[.string md, .string nm, .slice A1 ps.length c1, .slice A2 rs.length c2, .slice A3 acts.length c3] 98) 98 q5x0)
 have H1 := hid h1
 have H2 := hid h2
 have H3 := hid h3
 have HB1 := hid b1
 have HB2 := hid b2
 have HB3 := hid b3
 have HB4 := hid b4
 have HB5 := hid (And.intro b5 b6)
 have HS := hid hS
 have hl2 : acts.length ≤ 140737488351232 := om
 clear h1 h2 h3 b1 b2 b3 b4 b5 b6 hS
 go_enter func49, ntmps49
 go_wp2_with fail
 generalize (w.alloc (.cells #[.string md, .string nm, .slice A1 ps.length c1, .slice A2 rs.length c2, .slice A3 acts.length c3] 98)).alloc (.cells q5x0 98) = W at *
 have hW : w.heap.size + 1 < W.heap.size := G1.o.lt
 have HSW : Hid (Lt S W) := fun k hk => ltl (HS.o k hk) F0.o.size
 obtain ⟨g0, hg0⟩ : ∃ g0, g0 = w.heap.size := ⟨_, rfl⟩
 have HG0 := hid hg0
 rw [← hg0] at G0 G1 hW ⊢
 clear hg0
 refine (kBQ ⟨ps, rs⟩ A1 A2 c1 c2 S _ HSW.o (kAg H1.o F0.o HS.o) (kAg H2.o F0.o HS.o) HB1.o HB2.o).mono ?_
 rintro e w1 ⟨cs, rfl, hr1, f1⟩
 obtain ⟨B1, d1, B2, d2, rfl, q1, q2, q3, q4, q5, q6⟩ := Fn_cells hr1
 have F1 := hid f1
 have G2 := hid (G0.o.fr f1 id)
 have Q := hid (And.intro (And.intro q1 (And.intro q2 q3)) (And.intro q4 (And.intro q5 q6)))
 clear hr1 f1 q1 q2 q3 q4 q5 q6
 have u0 : w1.cell? ⟨g0, 0, none⟩ = some (.string md) := G2.o.cell 0
 have u1 : w1.cell? ⟨g0, 1, none⟩ = some (.string nm) := G2.o.cell 1
 have u2 : w1.cell? ⟨g0, 2, none⟩ = some (.slice A1 ps.length c1) := G2.o.cell 2
 have u3 : w1.cell? ⟨g0, 3, none⟩ = some (.slice A2 rs.length c2) := G2.o.cell 3
 have u4 : w1.cell? ⟨g0, 4, none⟩ = some (.slice A3 acts.length c3) := G2.o.cell 4
 have v2 : w1.frozen? ⟨g0, 2, none⟩ = false := G2.o.frozen 2
 have v3 : w1.frozen? ⟨g0, 3, none⟩ = false := G2.o.frozen 3
 go_wp2_with fail
 have f2 := ((Fr.refl (One g0) w1).setCell ⟨g0, 2, none⟩ (.slice B1 ps.length d1) (fun _ => rfl)).setCell ⟨g0, 3, none⟩ (.slice B2 rs.length d2) (fun _ => rfl)
 have G3 := hid ((G2.o.set_ 2 (.slice B1 ps.length d1)).set_ 3 (.slice B2 rs.length d2))
 generalize (w1.setCell ⟨g0, 2, none⟩ (.slice B1 ps.length d1)).setCell ⟨g0, 3, none⟩ (.slice B2 rs.length d2) = w2 at *
 have F2 := hid f2
 clear f2 u0 u1 u2 u3 u4 v2 v3
 have FT : Hid (Fr No w w2) := (F0.o.trans F1.o i3).trans F2.o (fun i hi h => by have h : i = g0 := h; have := HG0.o; omega)
 have HS2 : Hid (Lt S w2) := fun k hk => ltl (HS.o k hk) FT.o.size
 refine (kEa A3 c3 acts S _ (kAg H3.o FT.o HS.o) HS2.o HB3.o).mono ?_
 rintro e w3 ⟨A4, k1, rfl, hr3, f3⟩
 have F3 := hid f3
 have G4 := hid (G3.o.fr f3 id)
 obtain ⟨css, hcss, hown⟩ := hr3
 have hg3 : g0 < w3.heap.size := G4.o.lt
 have g12 : g0 + 1 < w3.heap.size := ltl hW (Nat.le_trans F1.o.size (Nat.le_trans F2.o.size F3.o.size))
 have G5 := hid (((G1.o.fr F1.o id).fr F2.o (fun x => by have x : g0 + 1 = g0 := x; omega)).fr F3.o id)
 have KEY : ∀ (wr : World), Fr (fun k => ∃ g, A4 = some ⟨g, 0, none⟩ ∧ k = g) w3 wr → acts.length ≤ k1 → k1 ≤ maxLen → tAc.els wr (Nw w2 wr) A4 acts → (∀ g, A4 = some ⟨g, 0, none⟩ → w2.heap.size ≤ g) →
     Blk wr g0 98 #[.string md, .string nm, .slice B1 ps.length d1, .slice B2 rs.length d2, .slice A3 acts.length c3] ∧ Blk wr (g0 + 1) 98 q5x0 ∧
     Blk ((((((wr.setCell ⟨g0, 4, none⟩ (.slice A4 acts.length k1)).setCell ⟨g0 + 1, 0, none⟩ (.string md)).setCell ⟨g0 + 1, 1, none⟩ (.string nm)).setCell ⟨g0 + 1, 2, none⟩ (.slice B1 ps.length d1)).setCell ⟨g0 + 1, 3, none⟩ (.slice B2 rs.length d2)).setCell ⟨g0 + 1, 4, none⟩ (.slice A4 acts.length k1)) (g0 + 1) 98 #[.string md, .string nm, .slice B1 ps.length d1, .slice B2 rs.length d2, .slice A4 acts.length k1] ∧
     kAN tHo ⟨md, nm, ⟨ps, rs⟩, acts⟩ w (.returned (.agg #[.string md, .string nm, .slice B1 ps.length d1, .slice B2 rs.length d2, .slice A4 acts.length k1])) ((((((wr.setCell ⟨g0, 4, none⟩ (.slice A4 acts.length k1)).setCell ⟨g0 + 1, 0, none⟩ (.string md)).setCell ⟨g0 + 1, 1, none⟩ (.string nm)).setCell ⟨g0 + 1, 2, none⟩ (.slice B1 ps.length d1)).setCell ⟨g0 + 1, 3, none⟩ (.slice B2 rs.length d2)).setCell ⟨g0 + 1, 4, none⟩ (.slice A4 acts.length k1)) := by
  intro wr fr l1 l2 hel hgw
  have s0 := F0.o.size
  have s1 := F1.o.size
  have s2 := F2.o.size
  have s3 := F3.o.size
  have s4 := fr.size
  have n0 : ∀ b, b < w2.heap.size → ¬ ∃ g, A4 = some ⟨g, 0, none⟩ ∧ b = g := fun b hb ⟨g, e1, e2⟩ => by have := hgw g e1; omega
  have K1 := G4.o.fr fr (n0 _ om)
  have K2 := G5.o.fr fr (n0 _ om)
  have FZ := ((((((Fr.refl (Two g0 (g0 + 1)) wr).setCell ⟨g0, 4, none⟩ (.slice A4 acts.length k1) (fun _ => .inl rfl)).setCell ⟨g0 + 1, 0, none⟩ (.string md) (fun _ => .inr rfl)).setCell ⟨g0 + 1, 1, none⟩ (.string nm) (fun _ => .inr rfl)).setCell ⟨g0 + 1, 2, none⟩ (.slice B1 ps.length d1) (fun _ => .inr rfl)).setCell ⟨g0 + 1, 3, none⟩ (.slice B2 rs.length d2) (fun _ => .inr rfl)).setCell ⟨g0 + 1, 4, none⟩ (.slice A4 acts.length k1) (fun _ => .inr rfl)
  have K4 := (((((K2.far (p := ⟨g0, 4, none⟩) (by show g0 + 1 ≠ g0; omega) (.slice A4 acts.length k1)).set_ 0 (.string md)).set_ 1 (.string nm)).set_ 2 (.slice B1 ps.length d1)).set_ 3 (.slice B2 rs.length d2)).set_ 4 (.slice A4 acts.length k1)
  refine ⟨K1, K2, by simpa using K4, _, rfl, ?_, ?_⟩
  · generalize ((((((wr.setCell ⟨g0, 4, none⟩ (.slice A4 acts.length k1)).setCell ⟨g0 + 1, 0, none⟩ (.string md)).setCell ⟨g0 + 1, 1, none⟩ (.string nm)).setCell ⟨g0 + 1, 2, none⟩ (.slice B1 ps.length d1)).setCell ⟨g0 + 1, 3, none⟩ (.slice B2 rs.length d2)).setCell ⟨g0 + 1, 4, none⟩ (.slice A4 acts.length k1)) = wf at *
    have s5 := FZ.size
    have hB : ∀ {A : OA} {l : List Int}, tI.els w1 (Nw W w1) A l → tI.els wf (Nw w wf) A l := fun hl =>
     ((((hl.fr F2.o (fun k hk => ⟨hk.2, fun e => by have e : k = g0 := e; have := hk.1; omega⟩)).fr F3.o (fun k hk => ⟨ltl hk.2 s2, fun x => x⟩)).fr fr (fun k hk => ⟨by have := hk.2; omega, n0 k (by have := hk.2; omega)⟩)).fr FZ (fun k hk => ⟨by have := hk.2; omega, fun e => by have := hk.1; rcases e with e | e <;> omega⟩)).more (fun k hk => ⟨by have := hk.1; omega, by have := hk.2; omega⟩)
    obtain ⟨⟨q1, q2, q3⟩, q4, q5, q6⟩ := Q.o
    exact kIn (a := ⟨md, nm, ⟨ps, rs⟩, acts⟩) HB5.o.1 HB5.o.2 q1 q2 (hB q3) q4 q5 (hB q6) l1 l2 ((hel.fr FZ (fun k hk => ⟨hk.2, fun e => by have := hk.1; rcases e with e | e <;> omega⟩)).more (fun k hk => ⟨by have := hk.1; have := FT.o.size; omega, by have := hk.2; omega⟩))
  have e0 := HG0.o
  exact (FT.o.trans F3.o i3).trans ((fr.mono (M := fun k => w.heap.size ≤ k) (fun k _ ⟨g, e1, e2⟩ => by have := hgw g e1; show w.heap.size ≤ k; omega)).trans FZ (fun k hk h => by show w.heap.size ≤ k; rcases h with h | h <;> omega)) (fun k hk h => by have h : w.heap.size ≤ k := h; omega)
 have HK := hid KEY
 clear KEY
 rcases hown.2 with ⟨hv, h0⟩ | ⟨g, cap, cur, hv, hb, hg, -⟩
 · injection hv with e1 e2 e3
   subst e1 e3
   have hnil : acts = [] := List.eq_nil_of_length_eq_zero e2
   subst hnil
   clear hown hcss f3
   obtain ⟨K1, K2, K4, K3⟩ := HK.o w3 (Fr.refl _ _) sm (by simp [maxLen]) (.inl rfl) (fun g h => by cases h)
   simp only [List.length_nil] at K1 K4 K3
   have HK3 := hid K3
   have HK4 := hid K4
   have u0 : w3.cell? ⟨g0, 0, none⟩ = some (.string md) := K1.cell 0
   have u1 : w3.cell? ⟨g0, 1, none⟩ = some (.string nm) := K1.cell 1
   have u2 : w3.cell? ⟨g0, 2, none⟩ = some (.slice B1 ps.length d1) := K1.cell 2
   have u3 : w3.cell? ⟨g0, 3, none⟩ = some (.slice B2 rs.length d2) := K1.cell 3
   have u4 : w3.cell? ⟨g0, 4, none⟩ = some (.slice A3 0 c3) := K1.cell 4
   have v4 : w3.frozen? ⟨g0, 4, none⟩ = false := K1.frozen 4
   have x0 : w3.cell? ⟨g0 + 1, 0, none⟩ = some (.string ⟨#[]⟩) := K2.cell 0
   have x1 : w3.cell? ⟨g0 + 1, 1, none⟩ = some (.string ⟨#[]⟩) := K2.cell 1
   have x2 : w3.cell? ⟨g0 + 1, 2, none⟩ = some (.slice none 0 0) := K2.cell 2
   have x3 : w3.cell? ⟨g0 + 1, 3, none⟩ = some (.slice none 0 0) := K2.cell 3
   have x4 : w3.cell? ⟨g0 + 1, 4, none⟩ = some (.slice none 0 0) := K2.cell 4
   have z0 : w3.frozen? ⟨g0 + 1, 0, none⟩ = false := K2.frozen 0
   have z1 : w3.frozen? ⟨g0 + 1, 1, none⟩ = false := K2.frozen 1
   have z2 : w3.frozen? ⟨g0 + 1, 2, none⟩ = false := K2.frozen 2
   have z3 : w3.frozen? ⟨g0 + 1, 3, none⟩ = false := K2.frozen 3
   have z4 : w3.frozen? ⟨g0 + 1, 4, none⟩ = false := K2.frozen 4
   have hne : ¬ g0 + 1 = g0 := om
   have hne' : ¬ g0 = g0 + 1 := om
   go_wp2_with fail
   go_loopw [14] (fun i wr => i = .int .i64 0 ∧ wr = w3) (fun _ _ => 0)
   case atStart => exact ⟨rfl, rfl⟩
   obtain ⟨rfl, rfl⟩ := hrel
   go_wp2
   have y0 := HK4.o.cell 0
   have y1 := HK4.o.cell 1
   have y2 := HK4.o.cell 2
   have y3 := HK4.o.cell 3
   have y4 := HK4.o.cell 4
   have HKZ := HK3.o
   clear x0 x1 x2 x3 x4 z0 z1 z2 z3 z4 u0 u1 u2 u3 u4 v4 K1 K2 K3 K4 HK3 HK4
   generalize ((((((wr.setCell ⟨g0, 4, none⟩ (.slice none 0 0)).setCell ⟨g0 + 1, 0, none⟩ (.string md)).setCell ⟨g0 + 1, 1, none⟩ (.string nm)).setCell ⟨g0 + 1, 2, none⟩ (.slice B1 ps.length d1)).setCell ⟨g0 + 1, 3, none⟩ (.slice B2 rs.length d2)).setCell ⟨g0 + 1, 4, none⟩ (.slice none 0 0)) = wf at *
   exact bodyPost_ret (v := .agg #[.string md, .string nm, .slice B1 ps.length d1, .slice B2 rs.length d2, .slice none 0 0]) (by simp [results, Tryz.results49, go_sem, y0, y1, y2, y3, y4]) rfl HKZ
 injection hv with e1 e2 e3
 subst e1 e3
 have HGB := hid hb
 have HC0 := hid hcss
 have HO0 := hid hown
 clear hown hcss f3 hg hb
 obtain ⟨n, hn⟩ : ∃ n, acts.length = n := ⟨_, rfl⟩
 have HN := hid hn
 rw [hn] at HO0 hl2 ⊢
 clear hn
 go_wp2_with fail
 go_loopw [14] (fun i wr => ∃ (k : Nat) (css : List (LV)), k ≤ n ∧ i = .int .i64 k ∧ Hid (Fr (One g) w3 wr) ∧ Hid (CssF tAc wr (Sk k (Nx w2 wr g) S) css acts) ∧ Hid (wr.ownsRow w2.heap.size 226 5 (.slice (some ⟨g, 0, none⟩) n k1) n css.flatten)) (fun i _ => n - (intOf i).toNat)
 case atStart =>
  refine ⟨0, css, by omega, rfl, Fr.refl _ _, ?_, HO0.o⟩
  exact (CssF.of HC0.o).keep (fun i p _ _ => rfl) (fun i k _ hk => .inr ⟨nz, hk⟩)
 clear HO0 HC0
 obtain ⟨k, css, hk, rfl, HF, HC, HO⟩ := hrel
 have HSr : Hid (Lt S wr) := fun b hb => ltl (ltl (HS2.o b hb) F3.o.size) HF.o.size
 by_cases hlt : k < n
 · have hkl : k < acts.length := by rw [HN.o]; exact hlt
   obtain ⟨d, hd⟩ : ∃ d, css[k]? = some d := ⟨_, List.getElem?_eq_getElem (by rw [HC.o.1]; exact hkl)⟩
   have hx : acts[k]? = some acts[k] := List.getElem?_eq_getElem hkl
   have hrd := HC.o.2 k d _ hd hx
   have hrd : tAc.rd wr S d acts[k] := TyMore.more _ _ _ _ _ hrd (fun b hb => by
    rcases hb with ⟨h, _⟩ | ⟨_, h⟩
    · omega
    · exact h)
   have HX := hid hx
   have HAK := hid (HB4.o _ (List.getElem_mem hkl))
   obtain ⟨B0, d0, rfl, w0, q1, q2, q3, w4, w5, w6⟩ := kHH hrd
   clear hrd
   generalize acts[k] = x at *
   have y0 := kHS HO.o HC.o.lens hd (j := 1) rfl
   have i0 := nki k
   have i1 : (k : Int) < n := om
   have HY := hid q3
   have z1 := kEv HO.o (k * 5 + 1)
   have HD := hid hd
   have HW0 := hid (And.intro w0 (And.intro w4 (And.intro w5 w6)))
   clear q3 hd w0 hkl hx w4 w5 w6
   go_wp2_with (go_at_call 83; refine (kEW B0 d0 x.vals S _ HY.o HSr.o HAK.o).mono ?_; rintro e wv ⟨B5, d5, rfl, hr2, f2⟩; have FV := hid f2; have RV := hid hr2; clear f2 hr2; have y1 := (FV.o.frozen (p := ⟨g, k * 5 + 1, none⟩) (kBk HO.o).2 id).trans z1; have y2 := (FV.o.cell (p := ⟨g, k * 5 + 1, none⟩) (kBk HO.o).2 id).trans y0)
   go_roundw
   case rel =>
    have hgw := (kBk HO.o).2
    have hwg := (kBk HO.o).1
    have HO2 := kHR (kHz HO.o FV.o id) HC.o.lens HD.o (m := 1) dc (.slice B5 x.vals.length d5)
    have f3 := (Fr.refl (One g) wv).setCell ⟨g, k * 5 + 1, none⟩ (.slice B5 x.vals.length d5) (fun _ => rfl)
    have s2 := HF.o.size
    have s3 := FV.o.size
    have s4 := f3.size
    have s5 := F3.o.size
    have hfr := HF.o.trans (FV.o.mono (M := One g) (fun _ _ h => h.elim)) i3
    obtain ⟨p1, p2, p3⟩ := kBW (w := wr) RV.o nr f3 (fun b h1 _ h => by have h : b = g := h; omega)
    refine ⟨k + 1, _, by omega, by go_num, hfr.trans f3 i3, ?_, HO2⟩
    refine HC.o.upd HX.o (kIz HW0.o.1 p1 p2 (p3.more (S' := Sk (k + 1) (Nx w2 (wv.setCell ⟨g, k * 5 + 1, none⟩ (.slice B5 x.vals.length d5)) g) S k) (fun b hb => .inl ⟨by omega, ⟨by have := hb.1; omega, hb.2⟩, fun e => by have := hb.1; omega⟩)) HW0.o.2.1 HW0.o.2.2.1 HW0.o.2.2.2) (fun j p hj hjk hp => ?_) (fun j b hj hjk hb => ?_)
    · have hpb : p.block < wr.heap.size ∧ p.block ≠ g := by
       rcases hp with ⟨_, hp, hne⟩ | ⟨_, hp⟩
       · exact ⟨hp.2, hne⟩
       have := HS2.o _ hp; exact ⟨by omega, by omega⟩
      exact (f3.cell om hpb.2).trans (FV.o.cell hpb.1 id)
    rcases hb with ⟨h1, h2, hne⟩ | ⟨h1, h2⟩
    · exact .inl ⟨by omega, h2.up nr om, hne⟩
    exact .inr ⟨by omega, h2⟩
   simp [intOf]; omega
 obtain rfl : k = n := om
 have hwg := kBk HO.o
 have hnl := HN.o
 have hrow : tAc.row wr w2.heap.size (fun b => Nx w2 wr g b) 226 (.slice (some ⟨g, 0, none⟩) acts.length k1) acts := ⟨css, HC.o.toCss (fun i b hi hb => by
  rcases hb with ⟨_, h2⟩ | ⟨h1, _⟩
  · exact h2
  · omega), by rw [hnl]; exact HO.o⟩
 obtain ⟨l1, l2, l3⟩ := kAe hrow
 obtain ⟨K1, K2, K4, K3⟩ := HK.o wr (HF.o.mono (fun _ _ h => ⟨g, rfl, h⟩)) l1 l2 (l3.more (fun b hb => hb.elim (fun h => h.1) (fun h => h))) (fun g' h => by injection h with h; injection h with h; omega)
 rw [hnl] at K1 K4 K3
 have HK3 := hid K3
 have HK4 := hid K4
 have u0 : wr.cell? ⟨g0, 0, none⟩ = some (.string md) := K1.cell 0
 have u1 : wr.cell? ⟨g0, 1, none⟩ = some (.string nm) := K1.cell 1
 have u2 : wr.cell? ⟨g0, 2, none⟩ = some (.slice B1 ps.length d1) := K1.cell 2
 have u3 : wr.cell? ⟨g0, 3, none⟩ = some (.slice B2 rs.length d2) := K1.cell 3
 have u4 : wr.cell? ⟨g0, 4, none⟩ = some (.slice A3 k c3) := K1.cell 4
 have v4 : wr.frozen? ⟨g0, 4, none⟩ = false := K1.frozen 4
 have x0 : wr.cell? ⟨g0 + 1, 0, none⟩ = some (.string ⟨#[]⟩) := K2.cell 0
 have x1 : wr.cell? ⟨g0 + 1, 1, none⟩ = some (.string ⟨#[]⟩) := K2.cell 1
 have x2 : wr.cell? ⟨g0 + 1, 2, none⟩ = some (.slice none 0 0) := K2.cell 2
 have x3 : wr.cell? ⟨g0 + 1, 3, none⟩ = some (.slice none 0 0) := K2.cell 3
 have x4 : wr.cell? ⟨g0 + 1, 4, none⟩ = some (.slice none 0 0) := K2.cell 4
 have z0 : wr.frozen? ⟨g0 + 1, 0, none⟩ = false := K2.frozen 0
 have z1 : wr.frozen? ⟨g0 + 1, 1, none⟩ = false := K2.frozen 1
 have z2 : wr.frozen? ⟨g0 + 1, 2, none⟩ = false := K2.frozen 2
 have z3 : wr.frozen? ⟨g0 + 1, 3, none⟩ = false := K2.frozen 3
 have z4 : wr.frozen? ⟨g0 + 1, 4, none⟩ = false := K2.frozen 4
 have hne : ¬ g0 + 1 = g0 := om
 have hne' : ¬ g0 = g0 + 1 := om
 go_wp2
 have y0 := HK4.o.cell 0
 have y1 := HK4.o.cell 1
 have y2 := HK4.o.cell 2
 have y3 := HK4.o.cell 3
 have y4 := HK4.o.cell 4
 have HKZ := HK3.o
 clear x0 x1 x2 x3 x4 z0 z1 z2 z3 z4 u0 u1 u2 u3 u4 v4 K1 K2 K3 K4 HK3 HK4
 generalize ((((((wr.setCell ⟨g0, 4, none⟩ (.slice (some ⟨g, 0, none⟩) k k1)).setCell ⟨g0 + 1, 0, none⟩ (.string md)).setCell ⟨g0 + 1, 1, none⟩ (.string nm)).setCell ⟨g0 + 1, 2, none⟩ (.slice B1 ps.length d1)).setCell ⟨g0 + 1, 3, none⟩ (.slice B2 rs.length d2)).setCell ⟨g0 + 1, 4, none⟩ (.slice (some ⟨g, 0, none⟩) k k1)) = wf at *
 exact bodyPost_ret (v := .agg #[.string md, .string nm, .slice B1 ps.length d1, .slice B2 rs.length d2, .slice (some ⟨g, 0, none⟩) k k1]) (by simp [results, Tryz.results49, go_sem, y0, y1, y2, y3, y4]) rfl HKZ
structure HoBd (h : Ho) : Prop where
 p : h.ty.params.length * 8 ≤ 140737488351232
 r : h.ty.results.length * 8 ≤ 140737488351232
 a : h.acts.length * 56 ≤ 140737488351232
 v : ∀ a ∈ h.acts, a.vals.length * 16 ≤ 140737488351232
def mayB (hosts : List Ho) : Bool := decide (hosts.length ≤ 32) && hosts.all hoB
def sto0 (hosts : List Ho) : Rx := ⟨hosts, List.replicate hosts.length 0, [], [], [], [], [], [], [], []⟩
def kBp (hosts : List Ho) (w : World) (e : Ending) (w' : World) : Prop :=
 if mayB hosts = true then ∃ V : Pl, e = .returned (.pointer (some ⟨V.P, 0, none⟩)) ∧ StIn w' V.own V (sto0 hosts) ∧ (∀ k, V.own k → w.heap.size ≤ k) ∧ Fr No w w'
 else e = .returned (.pointer none) ∧ Fr No w w'
theorem kGj {hosts : List Ho} (h : 32 < hosts.length) : mayB hosts = false := by simp [mayB]; omega
theorem kIC {hosts : List Ho} {k : Nat} (hk : k < hosts.length) (h : hoB hosts[k] = false) : mayB hosts = false := by
 simp only [mayB, Bool.and_eq_false_iff, List.all_eq_false]
 exact .inr ⟨_, List.getElem_mem hk, by simp [h]⟩
theorem kHW {hosts : List Ho} (h : hosts.length ≤ 32) (hk : ∀ (j : Nat) (hj : j < hosts.length), hoB hosts[j] = true) : mayB hosts = true := by
 simp only [mayB, Bool.and_eq_true, decide_eq_true_eq, List.all_eq_true]
 refine ⟨h, fun x hx => ?_⟩
 obtain ⟨j, hj, rfl⟩ := List.getElem_of_mem hx
 exact hk j hj
def Tn (w wr : World) (P C : Nat) (v : Value) (b : Nat) : Prop := Nw w wr b ∧ b ≠ P ∧ b ≠ C ∧ v.ownBlock ≠ some b
structure NewInv (w wr : World) (P C : Nat) (hosts : List Ho) (k : Nat) (v : Value) : Prop where
 fr : Fr No w wr
 hP : Blk wr P 181 #[v, .slice (some ⟨C, 0, none⟩) hosts.length hosts.length, .slice none 0 0, .slice none 0 0, .slice none 0 0, .slice none 0 0, .slice none 0 0, .slice none 0 0, .slice none 0 0, .slice none 0 0]
 own : Own wr C 3 hosts.length (List.replicate hosts.length (.int .i64 0))
 row : tHo.row wr w.heap.size (Tn w wr P C v) 98 v (hosts.take k)
 ok : ∀ (j : Nat) (hj : j < hosts.length), j < k → hoB hosts[j] = true
 lP : w.heap.size ≤ P
 lC : w.heap.size ≤ C
theorem NewInv.frNo {w wr w' : World} {P C : Nat} {hosts : List Ho} {k : Nat} {v : Value} (h : NewInv w wr P C hosts k v) (f : Fr No wr w') : NewInv w w' P C hosts k v :=
 ⟨h.fr.trans f i3, h.hP.fr f id, h.own.fr f id, (h.row.fr f (fun k hk => ⟨hk.1.2, fun x => x⟩) (fun _ _ x => x)).more nr (fun b hb => ⟨hb.1.up nr f.size, hb.2⟩), h.ok, h.lP, h.lC⟩
theorem kFY {w : World} {base C n : Nat} {S : Nat → Prop} (h : Own w C 3 n (List.replicate n (.int .i64 0))) (hb : base ≤ C) : tI.row w base S 3 (.slice (some ⟨C, 0, none⟩) n n) (List.replicate n (0 : Int)) := by
 obtain ⟨cur, h1, h2, h3, h4, h5⟩ := h.cur
 have e : tI.size = 1 := rfl
 have hf : (List.replicate n [Value.int .i64 0]).flatten = List.replicate n (.int .i64 0) := by
  clear h h1 h2 h3 h4 h5
  induction n with
  | zero => rfl
  | succ n ih => simp only [List.replicate_succ, List.flatten_cons, ih]; rfl
 refine ⟨List.replicate n [.int .i64 0], ⟨by simp, fun i c x e1 e2 => ?_⟩, ?_, .inr ⟨C, n, cur, by simp, hb, h1, by simp, h3, by simpa [e] using h4, ?_⟩⟩
 · have e1 := List.eq_of_mem_replicate (List.mem_of_getElem? e1)
   have e2 := List.eq_of_mem_replicate (List.mem_of_getElem? e2)
   subst e1 e2
   exact kIJ rfl
 · rw [hf]; simp [e]
 rw [hf]; simpa [e] using h5
theorem NewInv.done {w wr : World} {P C : Nat} {hosts : List Ho} {v : Value} (h : NewInv w wr P C hosts hosts.length v) : ∃ V : Pl, V.P = P ∧ StIn wr V.own V (sto0 hosts) ∧ (∀ k, V.own k → w.heap.size ≤ k) := by
 let V : Pl := ⟨P, v, .slice (some ⟨C, 0, none⟩) hosts.length hosts.length, .slice none 0 0, .slice none 0 0, .slice none 0 0, .slice none 0 0, .slice none 0 0, .slice none 0 0, .slice none 0 0, .slice none 0 0, [], []⟩
 have hown : ∀ k, V.own k ↔ k = P ∨ v.ownBlock = some k ∨ k = C := by
  intro k
  simp only [Pl.own, Pl.vs, V, List.mem_cons, List.not_mem_nil, or_false]
  constructor
  · rintro (hk | ⟨u, hu, hk⟩ | ⟨z, hz, _⟩ | ⟨z, hz, _⟩)
    · exact .inl hk
    · rcases hu with rfl | rfl | rfl | rfl | rfl | rfl | rfl | rfl | rfl | rfl
      · exact .inr (.inl hk)
      · simp only [Value.ownBlock, Option.some.injEq] at hk; exact .inr (.inr hk.symm)
      all_goals (simp [Value.ownBlock] at hk)
    · exact hz.elim
    exact hz.elim
  rintro (h | h | h)
  · exact .inl h
  · exact .inr (.inl ⟨v, .inl rfl, h⟩)
  exact .inr (.inl ⟨_, .inr (.inl rfl), by simp [Value.ownBlock, h]⟩)
 refine ⟨V, rfl, ?_, fun k hk => ?_⟩
 · constructor
   case blk => exact h.hP
   case ho =>
    have := h.row
    rw [List.take_length] at this
    exact this.more nz (fun b hb => ⟨hb.1.2, fun o => by
     rcases (hown b).1 o with e | e | e
     · exact hb.2.1 e
     · exact hb.2.2.2 e
     · exact hb.2.2.1 e⟩)
   case co => exact kFY h.own nz
   case ca => exact Ty.row.nil _ _ _ _
   case fu => exact Ty.row.nil _ _ _ _
   case ta => exact Ty.row.nil _ _ _ _
   case me => exact Ty.row.nil _ _ _ _
   case gl => exact Ty.row.nil _ _ _ _
   case el => exact Ty.row.nil _ _ _ _
   case da => exact Ty.row.nil _ _ _ _
   case is => exact Ty.row.nil _ _ _ _
   case tl => rfl
   case tat => intro i z t h1; simp [V] at h1
   case tne => intro i j a b h1; simp [V] at h1
   case ml => rfl
   case mat => intro i z t h1; simp [V] at h1
   case mne => intro i j a b h1; simp [V] at h1
   case own => exact fun k hk => hk
   intro k hk
   rcases (hown k).1 hk with e | e | e
   · rw [e]; exact h.hP.lt
   · obtain ⟨_, _, hb⟩ := h.row.own e; exact hb.lt
   rw [e]; exact h.own.lt
 rcases (hown k).1 hk with e | e | e
 · rw [e]; exact h.lP
 · exact (h.row.own e).1
 rw [e]; exact h.lC
theorem kDm (A : OA) (c : Nat) (hosts : List Ho) (S : Nat → Prop) (w : World) (h : tHo.els w S A hosts) (hS : Lt S w) (hl : hosts.length ≤ 140737488351232) (hb : ∀ x ∈ hosts, HoBd x) :
    Calls prog 21 #[.slice A hosts.length c] w (kBp hosts w) := by
 by_cases hbig : 32 < hosts.length
 · have hi : (32 : Int) < (hosts.length : Int) := om
   unfold kBp
   rw [kGj hbig]
   clear h hb
   go_enter func21, ntmps21
   go_wp2
   go_ret
   exact ⟨rfl, Fr.refl _ _⟩
 have hd32 : decide ((32 : Int) < (hosts.length : Int)) = false := by simp; omega
 have hn32 : hosts.length ≤ 32 := om
 have H := hid h
 have HB := hid hb
 have HS := hid hS
 have hmk := fun (W : World) => kCm kFx rfl W .i64 .i64 hosts.length om om
 have OC := hid (kCo w 3 (.int .i64 0) hosts.length om)
 clear h hb hS hbig hl
 go_enter func21, ntmps21
 have I0 : Hid (NewInv w ((w.alloc (.cells (Array.replicate hosts.length (.int .i64 0)) 3)).alloc (.cells #[.slice none 0 0, .slice (some ⟨w.heap.size, 0, none⟩) hosts.length hosts.length, .slice none 0 0, .slice none 0 0, .slice none 0 0, .slice none 0 0, .slice none 0 0, .slice none 0 0, .slice none 0 0, .slice none 0 0] 181)) (w.heap.size + 1) w.heap.size hosts 0 (.slice none 0 0)) :=
  ⟨((Fr.refl No w).alloc _).alloc _, Blk.new1 w _ 181 #[.slice none 0 0, .slice (some ⟨w.heap.size, 0, none⟩) hosts.length hosts.length, .slice none 0 0, .slice none 0 0, .slice none 0 0, .slice none 0 0, .slice none 0 0, .slice none 0 0, .slice none 0 0, .slice none 0 0], OC.o.fr ((Fr.refl No _).alloc _) id, Ty.row.nil _ _ _ _, fun j _ hj => absurd hj om, by omega, nr⟩
 go_wp2_with fail
 clear hmk OC
 generalize (w.alloc (.cells (Array.replicate hosts.length (.int .i64 0)) 3)).alloc (.cells #[.slice none 0 0, .slice (some ⟨w.heap.size, 0, none⟩) hosts.length hosts.length, .slice none 0 0, .slice none 0 0, .slice none 0 0, .slice none 0 0, .slice none 0 0, .slice none 0 0, .slice none 0 0, .slice none 0 0] 181) = W0 at *
 generalize w.heap.size + 1 = P at *
 generalize hC : w.heap.size = C at I0 ⊢
 clear hC
 go_loopw [16] (fun i wr => ∃ (k : Nat) (v : Value), k ≤ hosts.length ∧ i = .int .i64 k ∧ Hid (NewInv w wr P C hosts k v)) (fun i _ => hosts.length - (intOf i).toNat)
 case atStart => exact ⟨0, _, by omega, rfl, I0.o⟩
 clear I0
 obtain ⟨k, v, hk, rfl, I⟩ := hrel
 by_cases hlt : k < hosts.length
 · have F := hid I.o.fr
   obtain ⟨b, o, A1, c1, A2, c2, A3, c3, rfl, hbS, y0, y1, y2, y3, y4, m1, m2, p1, p2, p3, q1, q2, q3, r1, r2, r3⟩ := kFU (H.o.fr F.o (fun k hk => ⟨HS.o k hk, fun x => x⟩)) k hlt
   have HBk := hid (HB.o _ (List.getElem_mem hlt))
   have i0 := nki k
   have i1 : (k : Int) < hosts.length := om
   have hbl : b < wr.heap.size := ltl (HS.o b hbS) F.o.size
   have HSr : Hid (Lt S wr) := fun k hk => ltl (HS.o k hk) F.o.size
   have hx : hosts[k]? = some hosts[k] := List.getElem?_eq_getElem hlt
   obtain ⟨x, hx2⟩ : ∃ x, x = hosts[k] := ⟨_, rfl⟩
   have HX2 := hid hx2
   rw [← hx2] at y0 y1 y2 y3 y4 m1 m2 p1 p3 q1 q3 r1 r3 HBk
   have HE := hid (And.intro p3 (And.intro q3 r3))
   have HM := hid (And.intro m1 m2)
   clear p3 q3 r3 m1 m2 hx2 hx
   have FA := hid ((Fr.refl No wr).alloc (.cells #[.string x.mod, .string x.name, .slice A1 x.ty.params.length c1, .slice A2 x.ty.results.length c2, .slice A3 x.acts.length c3] 98))
   have GA := hid (Blk.new wr 98 #[.string x.mod, .string x.name, .slice A1 x.ty.params.length c1, .slice A2 x.ty.results.length c2, .slice A3 x.acts.length c3])
   go_wp2_with fail
   generalize wr.alloc (.cells #[.string x.mod, .string x.name, .slice A1 x.ty.params.length c1, .slice A2 x.ty.results.length c2, .slice A3 x.acts.length c3] 98) = W at *
   obtain ⟨hb, hhb⟩ : ∃ hb, hb = wr.heap.size := ⟨_, rfl⟩
   have HHB := hid hhb
   rw [← hhb] at GA hbl ⊢
   clear hhb
   have IW := hid (I.o.frNo FA.o)
   have HSW : Hid (Lt S W) := fun k hk => ltl (HSr.o k hk) FA.o.size
   have E1 := hid (kAg HE.o.1 FA.o HSr.o)
   have E2 := hid (kAg HE.o.2.1 FA.o HSr.o)
   have E3 := hid (kAg HE.o.2.2 FA.o HSr.o)
   have bd := HBk.o
   refine (kFE x A1 A2 A3 c1 c2 c3 W.heap.size _ nr ⟨E1.o.more HSW.o, E2.o.more HSW.o, E3.o.more HSW.o, by have := bd.p; omega, by have := bd.r; omega, by have := bd.a; omega, HM.o.1, HM.o.2, fun a ha => by have := bd.v a ha; omega⟩).mono ?_
   clear bd
   rintro e w1 ⟨rfl, f1⟩
   have F1 := hid f1
   clear f1 y0 y1 y2 y3 y4
   cases hq : hoB x with
   | false =>
    have HQ := hid hq
    clear hq
    go_wp2
    go_ret
    unfold kBp
    rw [kIC hlt (by rw [← HX2.o]; exact HQ.o)]
    exact ⟨rfl, ((F.o.trans FA.o i3).trans F1.o i3)⟩
   | true =>
    have HQ := hid hq
    clear hq
    have I1 := hid (IW.o.frNo F1.o)
    have G1 := hid (GA.o.fr F1.o id)
    have hP1 : P < w1.heap.size := I1.o.hP.lt
    have hb1 : hb < w1.heap.size := G1.o.lt
    have HY : Hid (∀ X, Fr No w1 X → Ce X P 0 v ∧ Ce X hb 0 (.string x.mod) ∧ Ce X hb 1 (.string x.name) ∧ Ce X hb 2 (.slice A1 x.ty.params.length c1) ∧ Ce X hb 3 (.slice A2 x.ty.results.length c2) ∧ Ce X hb 4 (.slice A3 x.acts.length c3)) := fun X f => ⟨(I1.o.hP.fr f id).cell 0, (G1.o.fr f id).cell 0, (G1.o.fr f id).cell 1, (G1.o.fr f id).cell 2, (G1.o.fr f id).cell 3, (G1.o.fr f id).cell 4⟩
    go_wp2_with fail
    refine rwO (fun X => Ce X P 0 v ∧ Ce X hb 0 (.string x.mod) ∧ Ce X hb 1 (.string x.name) ∧ Ce X hb 2 (.slice A1 x.ty.params.length c1) ∧ Ce X hb 3 (.slice A2 x.ty.results.length c2) ∧ Ce X hb 4 (.slice A3 x.acts.length c3)) [11] (List.range 12) [6, 7, 8, 11] (HY.o _ (Fr.refl _ _).drew) ?_
    refine rC ?_
    refine wpO_eff rfl rfl fun K hK => sz ?_
    have HS1 : Hid (Lt S w1) := fun k hk => ltl (HSW.o k hk) F1.o.size
    refine (kDt x A1 A2 A3 c1 c2 c3 S w1.drew HS1.o (kAg E1.o F1.o.drew HSW.o) (kAg E2.o F1.o.drew HSW.o) (kAg E3.o F1.o.drew HSW.o) HBk.o.p HBk.o.r HBk.o.a HBk.o.v HM.o.1 HM.o.2).mono ?_
    rintro e w2 ⟨cs, rfl, hr2, f2⟩
    have F2 : Hid (Fr No w1 w2) := (Fr.refl No w1).drew.trans f2 i3
    have R2 := hid hr2
    obtain ⟨D1, d1, D2, d2, D3, d3, rfl, -⟩ := kEB hr2
    clear hr2 f2
    refine hK _ _ (fun _ => HY.o _ F2.o) ?_
    clear hK K
    refine rC ?_
    refine wpO_eff rfl rfl fun K hK => sz ?_
    have F3 := hid ((Fr.refl No w2).alloc (.cells #[.string x.mod, .string x.name, .slice D1 x.ty.params.length d1, .slice D2 x.ty.results.length d2, .slice D3 x.acts.length d3] 98))
    have G3 := hid (Blk.new w2 98 #[.string x.mod, .string x.name, .slice D1 x.ty.params.length d1, .slice D2 x.ty.results.length d2, .slice D3 x.acts.length d3])
    refine hK _ _ (fun _ => HY.o _ (F2.o.trans F3.o i3)) ?_
    clear hK K
    generalize w2.alloc (.cells #[.string x.mod, .string x.name, .slice D1 x.ty.params.length d1, .slice D2 x.ty.results.length d2, .slice D3 x.acts.length d3] 98) = w3 at *
    have I3 := hid ((I1.o.frNo F2.o).frNo F3.o)
    have s1 := F1.o.size
    have s2 := F2.o.size
    have s3 := F3.o.size
    have hvl : Hid (∀ g, v.ownBlock = some g → g < w1.heap.size ∧ g ≠ P ∧ g ≠ hb) := fun g hg => by
     obtain ⟨_, cs1, hb1⟩ := I1.o.row.own hg
     refine ⟨hb1.lt, fun e => hb1.ne_ I1.o.hP dc e, fun e => ?_⟩
     obtain ⟨_, cs2, hb2⟩ := I.o.row.own hg
     have := hb2.lt
     have := HHB.o
     omega
    have RX : Hid (tHo.rd w3 (Tn w w3 P C v) [.string x.mod, .string x.name, .slice D1 x.ty.params.length d1, .slice D2 x.ty.results.length d2, .slice D3 x.acts.length d3] x) :=
     TyMore.more _ _ _ _ _ (TyOk.keep _ w3 _ _ _ R2.o (fun p hp => F3.o.cell hp.2 id)) (fun b hb => by
      have h1 : w1.heap.size ≤ b := hb.1
      have h2 := hb.2
      have h3 := I1.o.hP.lt
      have h4 := I1.o.own.lt
      have h5 := I1.o.fr.size
      exact ⟨⟨by omega, by omega⟩, by omega, by omega, fun e => by have := (hvl.o b e).1; omega⟩)
    refine rC ?_
    refine wpO_eff rfl rfl (fun K hK => ?_)
    simp only [zA]
    have hk32 : (hosts.take k).length ≤ 32 := by simp; omega
    refine kBV (t := tHo) (P := prog) (base := w.heap.size) (S := Tn w w3 P C v) (v := v) (xs := hosts.take k) (ys := [x]) (dss := [[.string x.mod, .string x.name, .slice D1 x.ty.params.length d1, .slice D2 x.ty.results.length d2, .slice D3 x.acts.length d3]]) (B2 := w3.heap.size) elHo rfl rfl rfl I3.o.row (Css.one RX.o) (Rd.blk G3.o G3.o.lt 0 (fun k u hu => by rw [Nat.zero_add]; simpa using hu)) rfl (by simp; omega) (by simp; omega) (fun b hb => ⟨hb.1.2, fun e => hb.2.2.2 e.symm⟩) I3.o.fr.size ?_
    intro v1 w4 hr4 f4 hv4
    have F4 := hid f4
    have hrow : tHo.row w4 w.heap.size (Tn w w4 P C v1) 98 v1 (hosts.take (k + 1)) := by
     rw [List.take_succ_eq_append_getElem hlt, ← HX2.o]
     refine hr4.more nr (fun b hb => ⟨hb.1.up nr f4.size, hb.2.1, hb.2.2.1, fun e => ?_⟩)
     rcases hv4 with h | h
     · rw [h] at e; exact hb.2.2.2 e
     rw [h] at e; have := Option.some.inj e; have := hb.1.2; omega
    have hvP : v1.ownBlock ≠ some P := fun e => by
     obtain ⟨_, cs1, hb1⟩ := hr4.own e
     exact hb1.ne_ (I3.o.hP.fr f4 (fun e => (hvl.o P e.symm).2.1 rfl)) dc rfl
    have HR := hid hrow
    have HVP := hid hvP
    have HP4 := hid (I3.o.hP.fr f4 (fun e => (hvl.o P e.symm).2.1 rfl))
    have HC4 := hid (I3.o.own.fr f4 (fun e => by
     obtain ⟨_, cs1, hb1⟩ := I3.o.row.own e.symm
     obtain ⟨cur, hb2, _⟩ := I3.o.own.cur
     exact hb1.ne_ hb2 dc rfl))
    have HF4 : Hid (Fr No w w4) := I3.o.fr.trans f4 (fun b hb e => by have := (I3.o.row.own e.symm).1; omega)
    have HZ : Hid (∀ X, X = w4 → Ce X P 0 v ∧ Ce X hb 0 (.string x.mod) ∧ Ce X hb 1 (.string x.name) ∧ Ce X hb 2 (.slice A1 x.ty.params.length c1) ∧ Ce X hb 3 (.slice A2 x.ty.results.length c2) ∧ Ce X hb 4 (.slice A3 x.acts.length c3)) := fun X e => by
     subst e
     have hG := (G1.o.fr F2.o id).fr F3.o id
     have hH := hG.fr f4 (fun e => (hvl.o hb e.symm).2.2 rfl)
     exact ⟨HP4.o.cell 0, hH.cell 0, hH.cell 1, hH.cell 2, hH.cell 3, hH.cell 4⟩
    refine hK _ _ (fun _ => HZ.o _ rfl) ?_
    clear hK K hr4 f4 hv4 hrow hvP
    simp only [zC, Act.put]
    refine rC ?_
    obtain ⟨A5, k5, e5, _, _, _⟩ := HR.o.els (S' := fun _ => True) tvv tvv
    rw [show (hosts.take (k + 1)).length = k + 1 by simp; omega] at e5
    subst e5
    have z0 : w4.cell? ⟨P, 0, none⟩ = some v := HP4.o.cell 0
    have z1 : w4.frozen? ⟨P, 0, none⟩ = false := HP4.o.frozen 0
    refine wpO_eff rfl rfl fun K hK => sz ?_
    refine hK _ _ (fun h => by simp at h) ?_
    clear hK K
    refine wpO_nil ?_
    go_wp2
    go_roundw
    case rel =>
     refine ⟨k + 1, .slice A5 (k + 1) k5, by omega, by go_num, ?_⟩
     have FS := (Fr.refl (One P) w4).setCell ⟨P, 0, none⟩ (.slice A5 (k + 1) k5) (fun _ => rfl)
     have lP := I3.o.lP
     have hCP : C ≠ P := fun e => by
      obtain ⟨cur, hb2, _⟩ := HC4.o.cur
      exact hb2.ne_ HP4.o dc e
     refine ⟨HF4.o.trans FS (fun i hi h => by have h : i = P := h; omega), ?_, HC4.o.fr FS (show ¬ One P C from hCP), ?_, fun j hj hjk => ?_, lP, I3.o.lC⟩
     · simpa using HP4.o.set_ 0 (.slice A5 (k + 1) k5)
     · exact (HR.o.fr FS (fun b hb => ⟨hb.1.2, fun e => hb.2.1 e⟩) (fun b hb e => HVP.o (by rw [hb]; exact congrArg some e))).more nr (fun b hb => ⟨hb.1.up nr FS.size, hb.2⟩)
     by_cases hjk2 : j < k
     · exact I.o.ok j hj hjk2
     obtain rfl : j = k := om
     rw [← HX2.o]; exact HQ.o
    case measure => simp [intOf]; omega
 go_wp2
 go_ret
 obtain rfl : k = hosts.length := om
 obtain ⟨V, hV, h1, h2⟩ := I.o.done
 unfold kBp
 rw [kHW hn32 (fun j hj => I.o.ok j hj hj)]
 exact ⟨V, by rw [hV]; rfl, h1, h2, I.o.fr⟩
theorem Bt.lt {w : World} {k : Nat} {t : TypeId} (h : Bt w k t) : k < w.heap.size := by obtain ⟨_, h⟩ := h; exact h.lt
structure Grown (w w' : World) (R R' : Nat → Prop) (V V' : Pl) : Prop where
 P : V'.P = V.P
 fr : Fr V.own w w'
 up : ∀ k, k < w.heap.size → R' k → R k
 keep : ∀ k, R k → R' k
 own : ∀ k, V'.own k → V.own k ∨ w.heap.size ≤ k
theorem Grown.trans {a b c : World} {R R1 R2 : Nat → Prop} {V V1 V2 : Pl} (h : Grown a b R R1 V V1) (k : Grown b c R1 R2 V1 V2) : Grown a c R R2 V V2 :=
 ⟨k.P.trans h.P, h.fr.trans k.fr (fun i hi ho => (h.own i ho).elim (fun h => h) (fun h => by omega)), fun i hi r => h.up i hi (k.up i (ltl hi h.fr.size) r), fun i r => k.keep i (h.keep i r),
  fun i ho => (k.own i ho).elim (fun o => h.own i o) (fun o => .inr (Nat.le_trans h.fr.size o))⟩
theorem Grown.of_no {w w' : World} {R : Nat → Prop} {V : Pl} (f : Fr No w w') : Grown w w' R R V V := ⟨rfl, f.mono (fun _ _ h => h.elim), fun _ _ h => h, fun _ h => h, fun _ h => .inl h⟩
def GrTo (R : Nat → Prop) (V : Pl) (v : Value) (x' : Rx) (w : World) (e : Ending) (w' : World) : Prop :=
 ∃ (V' : Pl) (R' : Nat → Prop), e = .returned v ∧ StIn w' R' V' x' ∧ Grown w w' R R' V V'
theorem Pl.own_put_ca {V : Pl} {v' : Value} {k : Nat} (h : Pl.own { V with ca := v' } k) : V.own k ∨ v'.ownBlock = some k := by
 rcases h with h | ⟨v, hv, h⟩ | h | h
 · exact .inl (.inl h)
 · simp only [Pl.vs, List.mem_cons, List.not_mem_nil, or_false] at hv
   rcases hv with rfl | rfl | rfl | rfl | rfl | rfl | rfl | rfl | rfl | rfl
   · exact .inl (Pl.o_ho h)
   · exact .inl (Pl.o_co h)
   · exact .inr h
   · exact .inl (Pl.o_fu h)
   · exact .inl (Pl.o_ta h)
   · exact .inl (Pl.o_me h)
   · exact .inl (Pl.o_gl h)
   · exact .inl (Pl.o_el h)
   · exact .inl (Pl.o_da h)
   exact .inl (Pl.o_is h)
 · exact .inl (.inr (.inr (.inl h)))
 exact .inl (.inr (.inr (.inr h)))
theorem Pl.own_put_fu {V : Pl} {v' : Value} {k : Nat} (h : Pl.own { V with fu := v' } k) : V.own k ∨ v'.ownBlock = some k := by
 rcases h with h | ⟨v, hv, h⟩ | h | h
 · exact .inl (.inl h)
 · simp only [Pl.vs, List.mem_cons, List.not_mem_nil, or_false] at hv
   rcases hv with rfl | rfl | rfl | rfl | rfl | rfl | rfl | rfl | rfl | rfl
   · exact .inl (Pl.o_ho h)
   · exact .inl (Pl.o_co h)
   · exact .inl (Pl.o_ca h)
   · exact .inr h
   · exact .inl (Pl.o_ta h)
   · exact .inl (Pl.o_me h)
   · exact .inl (Pl.o_gl h)
   · exact .inl (Pl.o_el h)
   · exact .inl (Pl.o_da h)
   exact .inl (Pl.o_is h)
 · exact .inl (.inr (.inr (.inl h)))
 exact .inl (.inr (.inr (.inr h)))
theorem Pl.own_put_gl {V : Pl} {v' : Value} {k : Nat} (h : Pl.own { V with gl := v' } k) : V.own k ∨ v'.ownBlock = some k := by
 rcases h with h | ⟨v, hv, h⟩ | h | h
 · exact .inl (.inl h)
 · simp only [Pl.vs, List.mem_cons, List.not_mem_nil, or_false] at hv
   rcases hv with rfl | rfl | rfl | rfl | rfl | rfl | rfl | rfl | rfl | rfl
   · exact .inl (Pl.o_ho h)
   · exact .inl (Pl.o_co h)
   · exact .inl (Pl.o_ca h)
   · exact .inl (Pl.o_fu h)
   · exact .inl (Pl.o_ta h)
   · exact .inl (Pl.o_me h)
   · exact .inr h
   · exact .inl (Pl.o_el h)
   · exact .inl (Pl.o_da h)
   exact .inl (Pl.o_is h)
 · exact .inl (.inr (.inr (.inl h)))
 exact .inl (.inr (.inr (.inr h)))
theorem Pl.own_put_is {V : Pl} {v' : Value} {k : Nat} (h : Pl.own { V with is := v' } k) : V.own k ∨ v'.ownBlock = some k := by
 rcases h with h | ⟨v, hv, h⟩ | h | h
 · exact .inl (.inl h)
 · simp only [Pl.vs, List.mem_cons, List.not_mem_nil, or_false] at hv
   rcases hv with rfl | rfl | rfl | rfl | rfl | rfl | rfl | rfl | rfl | rfl
   · exact .inl (Pl.o_ho h)
   · exact .inl (Pl.o_co h)
   · exact .inl (Pl.o_ca h)
   · exact .inl (Pl.o_fu h)
   · exact .inl (Pl.o_ta h)
   · exact .inl (Pl.o_me h)
   · exact .inl (Pl.o_gl h)
   · exact .inl (Pl.o_el h)
   · exact .inl (Pl.o_da h)
   exact .inr h
 · exact .inl (.inr (.inr (.inl h)))
 exact .inl (.inr (.inr (.inr h)))
theorem StIn.added_ca {w : World} {R : Nat → Prop} {V : Pl} {x : Rx} (h : StIn w R V x) {y : Ca} {e : Ending} {w' : World} (a : kAa tCa 297 V.P 2 (Sd w R) V.ca x.calls y w e w') : GrTo R V (.int .i64 x.calls.length) { x with calls := x.calls ++ [y] } w e w' := by
 obtain ⟨v', h1, h2, h3, h4, h5⟩ := a
 have hup : ∀ k, k < w.heap.size → (R k ∨ v'.ownBlock = some k) → R k := fun k hk r => r.elim (fun r => r) (fun e => (h5 k e).elim (fun e => h.own k (Pl.o_ca e)) (fun e => by omega))
 refine ⟨{ V with ca := v' }, fun k => R k ∨ v'.ownBlock = some k, h1, h.put_ca h3 (by simpa using h4 _ _ h.blk) (h2.more nr (fun k hk => hk.up h3.size hup)) (fun k e => .inr e) hup (fun k r => .inl r) (fun k r => r.elim (fun r => ltl (h.low k r) h3.size) (fun e => (h5 k e).elim (fun e => ltl (h.lt (Pl.o_ca e)) h3.size) (fun e => e.2))), rfl, h3.mono (fun k _ e => e.elim (fun e => .inl e) (fun e => Pl.o_ca e)), hup, fun k r => .inl r, fun k o => ?_⟩
 rcases Pl.own_put_ca o with o | e
 · exact .inl o
 exact (h5 k e).elim (fun e => .inl (Pl.o_ca e)) (fun e => .inr e.1)
theorem StIn.addIn_fu {w : World} {R : Nat → Prop} {V : Pl} {x : Rx} (h : StIn w R V x) {cs : LV} {y : Fi} (hr : tFi.rd w (Sd w R) cs y) (hl : x.funcs.length ≤ 1000000) : AddIn tFi 80 w V.P 3 (Sd w R) V.fu x.funcs cs y where
 cell := h.blk.cell 3
 fz := h.blk.frozen 3
 row := h.fu
 rd := hr
 lt := fun k hk => hk.1
 own := fun k hk => ⟨fun e => hk.2 (h.own k (Pl.o_fu e)), fun e => hk.2 (h.own k (e ▸ V.oP))⟩
 ne := fun e => Bt.ne (kAB h.fu e) ⟨_, h.blk⟩ dc rfl
 len := hl
theorem StIn.added_fu {w : World} {R : Nat → Prop} {V : Pl} {x : Rx} (h : StIn w R V x) {y : Fi} {e : Ending} {w' : World} (a : kAa tFi 80 V.P 3 (Sd w R) V.fu x.funcs y w e w') : GrTo R V (.int .i64 x.funcs.length) { x with funcs := x.funcs ++ [y] } w e w' := by
 obtain ⟨v', h1, h2, h3, h4, h5⟩ := a
 have hup : ∀ k, k < w.heap.size → (R k ∨ v'.ownBlock = some k) → R k := fun k hk r => r.elim (fun r => r) (fun e => (h5 k e).elim (fun e => h.own k (Pl.o_fu e)) (fun e => by omega))
 refine ⟨{ V with fu := v' }, fun k => R k ∨ v'.ownBlock = some k, h1, h.put_fu h3 (by simpa using h4 _ _ h.blk) (h2.more nr (fun k hk => hk.up h3.size hup)) (fun k e => .inr e) hup (fun k r => .inl r) (fun k r => r.elim (fun r => ltl (h.low k r) h3.size) (fun e => (h5 k e).elim (fun e => ltl (h.lt (Pl.o_fu e)) h3.size) (fun e => e.2))), rfl, h3.mono (fun k _ e => e.elim (fun e => .inl e) (fun e => Pl.o_fu e)), hup, fun k r => .inl r, fun k o => ?_⟩
 rcases Pl.own_put_fu o with o | e
 · exact .inl o
 exact (h5 k e).elim (fun e => .inl (Pl.o_fu e)) (fun e => .inr e.1)
theorem StIn.addIn_ta {w : World} {R : Nat → Prop} {V : Pl} {x : Rx} (h : StIn w R V x) {cs : LV} {y : Nat} (hr : tPt.rd w (Sd w R) cs y) (hl : (V.tp.map (·.1)).length ≤ 1000000) : AddIn tPt 128 w V.P 4 (Sd w R) V.ta (V.tp.map (·.1)) cs y where
 cell := h.blk.cell 4
 fz := h.blk.frozen 4
 row := h.ta
 rd := hr
 lt := fun k hk => hk.1
 own := fun k hk => ⟨fun e => hk.2 (h.own k (Pl.o_ta e)), fun e => hk.2 (h.own k (e ▸ V.oP))⟩
 ne := fun e => Bt.ne (kAB h.ta e) ⟨_, h.blk⟩ dc rfl
 len := hl
theorem StIn.addIn_me {w : World} {R : Nat → Prop} {V : Pl} {x : Rx} (h : StIn w R V x) {cs : LV} {y : Nat} (hr : tPt.rd w (Sd w R) cs y) (hl : (V.mp.map (·.1)).length ≤ 1000000) : AddIn tPt 131 w V.P 5 (Sd w R) V.me (V.mp.map (·.1)) cs y where
 cell := h.blk.cell 5
 fz := h.blk.frozen 5
 row := h.me
 rd := hr
 lt := fun k hk => hk.1
 own := fun k hk => ⟨fun e => hk.2 (h.own k (Pl.o_me e)), fun e => hk.2 (h.own k (e ▸ V.oP))⟩
 ne := fun e => Bt.ne (kAB h.me e) ⟨_, h.blk⟩ dc rfl
 len := hl
theorem StIn.addIn_gl {w : World} {R : Nat → Prop} {V : Pl} {x : Rx} (h : StIn w R V x) {cs : LV} {y : Rg} (hr : tRg.rd w (Sd w R) cs y) (hl : x.globs.length ≤ 1000000) : AddIn tRg 188 w V.P 6 (Sd w R) V.gl x.globs cs y where
 cell := h.blk.cell 6
 fz := h.blk.frozen 6
 row := h.gl
 rd := hr
 lt := fun k hk => hk.1
 own := fun k hk => ⟨fun e => hk.2 (h.own k (Pl.o_gl e)), fun e => hk.2 (h.own k (e ▸ V.oP))⟩
 ne := fun e => Bt.ne (kAB h.gl e) ⟨_, h.blk⟩ dc rfl
 len := hl
theorem StIn.added_gl {w : World} {R : Nat → Prop} {V : Pl} {x : Rx} (h : StIn w R V x) {y : Rg} {e : Ending} {w' : World} (a : kAa tRg 188 V.P 6 (Sd w R) V.gl x.globs y w e w') : GrTo R V (.int .i64 x.globs.length) { x with globs := x.globs ++ [y] } w e w' := by
 obtain ⟨v', h1, h2, h3, h4, h5⟩ := a
 have hup : ∀ k, k < w.heap.size → (R k ∨ v'.ownBlock = some k) → R k := fun k hk r => r.elim (fun r => r) (fun e => (h5 k e).elim (fun e => h.own k (Pl.o_gl e)) (fun e => by omega))
 refine ⟨{ V with gl := v' }, fun k => R k ∨ v'.ownBlock = some k, h1, h.put_gl h3 (by simpa using h4 _ _ h.blk) (h2.more nr (fun k hk => hk.up h3.size hup)) (fun k e => .inr e) hup (fun k r => .inl r) (fun k r => r.elim (fun r => ltl (h.low k r) h3.size) (fun e => (h5 k e).elim (fun e => ltl (h.lt (Pl.o_gl e)) h3.size) (fun e => e.2))), rfl, h3.mono (fun k _ e => e.elim (fun e => .inl e) (fun e => Pl.o_gl e)), hup, fun k r => .inl r, fun k o => ?_⟩
 rcases Pl.own_put_gl o with o | e
 · exact .inl o
 exact (h5 k e).elim (fun e => .inl (Pl.o_gl e)) (fun e => .inr e.1)
theorem StIn.addIn_is {w : World} {R : Nat → Prop} {V : Pl} {x : Rx} (h : StIn w R V x) {cs : LV} {y : Ri} (hr : tRi.rd w (Sd w R) cs y) (hl : x.insts.length ≤ 1000000) : AddIn tRi 210 w V.P 9 (Sd w R) V.is x.insts cs y where
 cell := h.blk.cell 9
 fz := h.blk.frozen 9
 row := h.is
 rd := hr
 lt := fun k hk => hk.1
 own := fun k hk => ⟨fun e => hk.2 (h.own k (Pl.o_is e)), fun e => hk.2 (h.own k (e ▸ V.oP))⟩
 ne := fun e => Bt.ne (kAB h.is e) ⟨_, h.blk⟩ dc rfl
 len := hl
theorem StIn.added_is {w : World} {R : Nat → Prop} {V : Pl} {x : Rx} (h : StIn w R V x) {y : Ri} {e : Ending} {w' : World} (a : kAa tRi 210 V.P 9 (Sd w R) V.is x.insts y w e w') : GrTo R V (.int .i64 x.insts.length) { x with insts := x.insts ++ [y] } w e w' := by
 obtain ⟨v', h1, h2, h3, h4, h5⟩ := a
 have hup : ∀ k, k < w.heap.size → (R k ∨ v'.ownBlock = some k) → R k := fun k hk r => r.elim (fun r => r) (fun e => (h5 k e).elim (fun e => h.own k (Pl.o_is e)) (fun e => by omega))
 refine ⟨{ V with is := v' }, fun k => R k ∨ v'.ownBlock = some k, h1, h.put_is h3 (by simpa using h4 _ _ h.blk) (h2.more nr (fun k hk => hk.up h3.size hup)) (fun k e => .inr e) hup (fun k r => .inl r) (fun k r => r.elim (fun r => ltl (h.low k r) h3.size) (fun e => (h5 k e).elim (fun e => ltl (h.lt (Pl.o_is e)) h3.size) (fun e => e.2))), rfl, h3.mono (fun k _ e => e.elim (fun e => .inl e) (fun e => Pl.o_is e)), hup, fun k r => .inl r, fun k o => ?_⟩
 rcases Pl.own_put_is o with o | e
 · exact .inl o
 exact (h5 k e).elim (fun e => .inl (Pl.o_is e)) (fun e => .inr e.1)
theorem Pl.own_add_me {V : Pl} {v' : Value} {z : Nat × Nat × Nat} {k : Nat} (h : Pl.own { V with me := v', mp := V.mp ++ [z] } k) : V.own k ∨ v'.ownBlock = some k ∨ k = z.1 ∨ k = z.2.1 := by
 rcases h with h | ⟨v, hv, h⟩ | h | h
 · exact .inl (.inl h)
 · simp only [Pl.vs, List.mem_cons, List.not_mem_nil, or_false] at hv
   rcases hv with rfl | rfl | rfl | rfl | rfl | rfl | rfl | rfl | rfl | rfl
   · exact .inl (Pl.o_ho h)
   · exact .inl (Pl.o_co h)
   · exact .inl (Pl.o_ca h)
   · exact .inl (Pl.o_fu h)
   · exact .inl (Pl.o_ta h)
   · exact .inr (.inl h)
   · exact .inl (Pl.o_gl h)
   · exact .inl (Pl.o_el h)
   · exact .inl (Pl.o_da h)
   exact .inl (Pl.o_is h)
 · exact .inl (.inr (.inr (.inl h)))
 obtain ⟨t, ht, h⟩ := h
 rcases List.mem_append.1 ht with ht | ht
 · exact .inl (.inr (.inr (.inr ⟨t, ht, h⟩)))
 rw [List.mem_singleton] at ht; subst ht; exact .inr (.inr h)
theorem StIn.added_me {w w1 : World} {R : Nat → Prop} {V : Pl} {x : Rx} (h : StIn w R V x) (f : Fr No w w1) {t : Rm} {z : Nat × Nat × Nat} (hm : Mo w1 z.1 z.2.1 z.2.2 t.lim t.b) (l1 : w.heap.size ≤ z.1) (l2 : w.heap.size ≤ z.2.1) {e : Ending} {w' : World}
    (a : kAa tPt 131 V.P 5 (Sd w1 (fun k => R k ∨ k = z.1 ∨ k = z.2.1)) V.me (V.mp.map (·.1)) z.1 w1 e w') : GrTo R V (.int .i64 x.mems.length) { x with mems := x.mems ++ [t] } w e w' := by
 obtain ⟨v', h1, h2, h3, h4, h5⟩ := a
 have hz0 : Bt w1 z.1 206 ∧ Bt w1 z.2.1 5 := ⟨⟨_, hm.hp⟩, hm.own.bk⟩
 have k1 : StIn w1 (fun k => R k ∨ k = z.1 ∨ k = z.2.1) V x := h.fr f (fun _ _ m => m.elim) (fun k hk r => r.elim (fun r => r) (fun e => by omega)) (fun k r => .inl r) (fun k r => r.elim (fun r => ltl (h.low k r) f.size) (fun e => e.elim (fun e => e ▸ hz0.1.lt) (fun e => e ▸ hz0.2.lt)))
 have hlen : (V.mp.map (·.1)).length = x.mems.length := by simp [h.ml]
 rw [hlen] at h1
 have s1 := f.size
 have hnv : ∀ k, V.own k → k < w.heap.size := fun k o => h.lt o
 let R' : Nat → Prop := fun k => (R k ∨ k = z.1 ∨ k = z.2.1) ∨ v'.ownBlock = some k
 have hup : ∀ k, k < w1.heap.size → R' k → (R k ∨ k = z.1 ∨ k = z.2.1) := fun k hk r => r.elim (fun r => r) (fun e => (h5 k e).elim (fun e => .inl (h.own k (Pl.o_me e))) (fun e => by omega))
 have hM : ∀ k, k < w1.heap.size → (k = V.P ∨ V.me.ownBlock = some k) → (R k ∨ k = z.1 ∨ k = z.2.1) := fun k _ m => .inl (h.own k (m.elim (fun e => e ▸ V.oP) Pl.o_me))
 have nP : ∀ {k t}, Bt w1 k t → t ≠ 181 → t ≠ 131 → ¬ (k = V.P ∨ V.me.ownBlock = some k) := fun hk h1 h2 m => m.elim (fun e => Bt.ne hk ⟨_, k1.blk⟩ h1 e) (fun e => Bt.ne hk (kAB k1.me e) h2 rfl)
 have hz : Bt w1 z.1 206 ∧ Bt w1 z.2.1 5 := ⟨⟨_, hm.hp⟩, hm.own.bk⟩
 refine ⟨{ V with me := v', mp := V.mp ++ [z] }, R', h1, ?_, rfl, (f.mono (fun _ _ h => h.elim)).trans (h3.mono (fun k _ e => e.elim (fun e => .inl e) (fun e => Pl.o_me e))) i3, fun k hk r => (hup k om r).elim (fun r => r) (fun e => by omega), fun k r => .inl (.inl r), fun k o => ?_⟩
 · constructor
   case blk => simpa using h4 _ _ k1.blk
   case ho => exact kAA k1.ho h3 hM (fun k hk => nP (kAB k1.ho hk) dc dc) hup
   case co => exact kAA k1.co h3 hM (fun k hk => nP (kAB k1.co hk) dc dc) hup
   case ca => exact kAA k1.ca h3 hM (fun k hk => nP (kAB k1.ca hk) dc dc) hup
   case fu => exact kAA k1.fu h3 hM (fun k hk => nP (kAB k1.fu hk) dc dc) hup
   case ta => exact kAA k1.ta h3 hM (fun k hk => nP (kAB k1.ta hk) dc dc) hup
   case me => show tPt.row w' 0 _ _ v' ((V.mp ++ [z]).map (·.1)); rw [List.map_append]; exact h2.more nr (fun k hk => hk.up h3.size hup)
   case gl => exact kAA k1.gl h3 hM (fun k hk => nP (kAB k1.gl hk) dc dc) hup
   case el => exact kAA k1.el h3 hM (fun k hk => nP (kAB k1.el hk) dc dc) hup
   case da => exact kAA k1.da h3 hM (fun k hk => nP (kAB k1.da hk) dc dc) hup
   case is => exact kAA k1.is h3 hM (fun k hk => nP (kAB k1.is hk) dc dc) hup
   case tl => exact h.tl
   case tat =>
    intro i y u e1 e2
    have o := k1.tbk (List.mem_of_getElem? e1)
    exact (k1.tat i y u e1 e2).fr h3 (nP o.1 dc dc) (nP o.2 dc dc)
   case tne => exact h.tne
   case ml => show (V.mp ++ [z]).length = (x.mems ++ [t]).length; simp [h.ml]
   case mat =>
    intro i y u e1 e2
    have e1 : (V.mp ++ [z])[i]? = some y := e1
    have e2 : (x.mems ++ [t])[i]? = some u := e2
    by_cases hi : i < V.mp.length
    · rw [List.getElem?_append_left hi] at e1
      rw [List.getElem?_append_left (by rw [← h.ml]; exact hi)] at e2
      have o := k1.mbk (List.mem_of_getElem? e1)
      exact (k1.mat i y u e1 e2).fr h3 (nP o.1 dc dc) (nP o.2 dc dc)
    rw [List.getElem?_append_right (by omega)] at e1
    rw [List.getElem?_append_right (by rw [← h.ml]; omega)] at e2
    have hlt := (List.getElem?_eq_some_iff.1 e1).1
    have hi0 : i - V.mp.length = 0 := by simp at hlt; omega
    rw [← h.ml] at e2
    exact yy58
   case mne =>
    intro i j a b e1 e2 hij
    have e1 : (V.mp ++ [z])[i]? = some a := e1
    have e2 : (V.mp ++ [z])[j]? = some b := e2
    have new : ∀ (i : Nat) (y : Nat × Nat × Nat), (V.mp ++ [z])[i]? = some y → (V.mp[i]? = some y ∧ y.1 < w.heap.size ∧ y.2.1 < w.heap.size) ∨ (i = V.mp.length ∧ y = z) := by
     intro i y e
     by_cases hi : i < V.mp.length
     · rw [List.getElem?_append_left hi] at e
       have o := Pl.o_mp (V := V) (List.mem_of_getElem? e)
       exact .inl ⟨e, hnv _ o.1, hnv _ o.2⟩
     rw [List.getElem?_append_right (by omega)] at e
     have hlt := (List.getElem?_eq_some_iff.1 e).1
     have hi0 : i - V.mp.length = 0 := by simp at hlt; omega
     rw [hi0] at e
     simp only [List.getElem?_cons_zero, Option.some.injEq] at e
     exact .inr ⟨by omega, e.symm⟩
    rcases new i a e1 with ⟨a1, a2, a3⟩ | ⟨a1, a2⟩ <;> rcases new j b e2 with ⟨b1, b2, b3⟩ | ⟨b1, b2⟩
    · exact h.mne i j a b a1 b1 hij
    · subst b2; exact ⟨by omega, by omega⟩
    · subst a2; exact ⟨by omega, by omega⟩
    omega
   case low =>
    intro k r
    exact r.elim (fun r => ltl (k1.low k r) h3.size) (fun e => (h5 k e).elim (fun e => ltl (k1.lt (Pl.o_me e)) h3.size) (fun e => e.2))
   intro k o
   rcases Pl.own_add_me o with o | o | o
   · exact .inl (.inl (h.own k o))
   · exact .inr o
   exact .inl (.inr o)
 rcases Pl.own_add_me o with o | o | o
 · exact .inl o
 · exact (h5 k o).elim (fun e => .inl (Pl.o_me e)) (fun e => .inr om)
 rcases o with o | o <;> (right; omega)
theorem Pl.own_add_ta {V : Pl} {v' : Value} {z : Nat × Nat × Nat} {k : Nat} (h : Pl.own { V with ta := v', tp := V.tp ++ [z] } k) : V.own k ∨ v'.ownBlock = some k ∨ k = z.1 ∨ k = z.2.1 := by
 rcases h with h | ⟨v, hv, h⟩ | h | h
 · exact .inl (.inl h)
 · simp only [Pl.vs, List.mem_cons, List.not_mem_nil, or_false] at hv
   rcases hv with rfl | rfl | rfl | rfl | rfl | rfl | rfl | rfl | rfl | rfl
   · exact .inl (Pl.o_ho h)
   · exact .inl (Pl.o_co h)
   · exact .inl (Pl.o_ca h)
   · exact .inl (Pl.o_fu h)
   · exact .inr (.inl h)
   · exact .inl (Pl.o_me h)
   · exact .inl (Pl.o_gl h)
   · exact .inl (Pl.o_el h)
   · exact .inl (Pl.o_da h)
   exact .inl (Pl.o_is h)
 · obtain ⟨t, ht, h⟩ := h
   rcases List.mem_append.1 ht with ht | ht
   · exact .inl (.inr (.inr (.inl ⟨t, ht, h⟩)))
   rw [List.mem_singleton] at ht; subst ht; exact .inr (.inr h)
 exact .inl (.inr (.inr (.inr h)))
theorem StIn.added_ta {w w1 : World} {R : Nat → Prop} {V : Pl} {x : Rx} (h : StIn w R V x) (f : Fr No w w1) {t : Rt} {z : Nat × Nat × Nat} (hm : TabAt w1 z.1 z.2.1 z.2.2 t.t.elem t.t.lim.min t.t.lim.max t.t.lim.has t.l) (l1 : w.heap.size ≤ z.1) (l2 : w.heap.size ≤ z.2.1) {e : Ending} {w' : World}
    (a : kAa tPt 128 V.P 4 (Sd w1 (fun k => R k ∨ k = z.1 ∨ k = z.2.1)) V.ta (V.tp.map (·.1)) z.1 w1 e w') : GrTo R V (.int .i64 x.tabs.length) { x with tabs := x.tabs ++ [t] } w e w' := by
 obtain ⟨v', h1, h2, h3, h4, h5⟩ := a
 have hz0 : Bt w1 z.1 202 ∧ Bt w1 z.2.1 82 := ⟨⟨_, hm.blk⟩, hm.own.bk⟩
 have k1 : StIn w1 (fun k => R k ∨ k = z.1 ∨ k = z.2.1) V x := h.fr f (fun _ _ m => m.elim) (fun k hk r => r.elim (fun r => r) (fun e => by omega)) (fun k r => .inl r) (fun k r => r.elim (fun r => ltl (h.low k r) f.size) (fun e => e.elim (fun e => e ▸ hz0.1.lt) (fun e => e ▸ hz0.2.lt)))
 have hlen : (V.tp.map (·.1)).length = x.tabs.length := by simp [h.tl]
 rw [hlen] at h1
 have s1 := f.size
 have hnv : ∀ k, V.own k → k < w.heap.size := fun k o => h.lt o
 let R' : Nat → Prop := fun k => (R k ∨ k = z.1 ∨ k = z.2.1) ∨ v'.ownBlock = some k
 have hup : ∀ k, k < w1.heap.size → R' k → (R k ∨ k = z.1 ∨ k = z.2.1) := fun k hk r => r.elim (fun r => r) (fun e => (h5 k e).elim (fun e => .inl (h.own k (Pl.o_ta e))) (fun e => by omega))
 have hM : ∀ k, k < w1.heap.size → (k = V.P ∨ V.ta.ownBlock = some k) → (R k ∨ k = z.1 ∨ k = z.2.1) := fun k _ m => .inl (h.own k (m.elim (fun e => e ▸ V.oP) Pl.o_ta))
 have nP : ∀ {k t}, Bt w1 k t → t ≠ 181 → t ≠ 128 → ¬ (k = V.P ∨ V.ta.ownBlock = some k) := fun hk h1 h2 m => m.elim (fun e => Bt.ne hk ⟨_, k1.blk⟩ h1 e) (fun e => Bt.ne hk (kAB k1.ta e) h2 rfl)
 have hz : Bt w1 z.1 202 ∧ Bt w1 z.2.1 82 := ⟨⟨_, hm.blk⟩, hm.own.bk⟩
 refine ⟨{ V with ta := v', tp := V.tp ++ [z] }, R', h1, ?_, rfl, (f.mono (fun _ _ h => h.elim)).trans (h3.mono (fun k _ e => e.elim (fun e => .inl e) (fun e => Pl.o_ta e))) i3, fun k hk r => (hup k om r).elim (fun r => r) (fun e => by omega), fun k r => .inl (.inl r), fun k o => ?_⟩
 · constructor
   case blk => simpa using h4 _ _ k1.blk
   case ho => exact kAA k1.ho h3 hM (fun k hk => nP (kAB k1.ho hk) dc dc) hup
   case co => exact kAA k1.co h3 hM (fun k hk => nP (kAB k1.co hk) dc dc) hup
   case ca => exact kAA k1.ca h3 hM (fun k hk => nP (kAB k1.ca hk) dc dc) hup
   case fu => exact kAA k1.fu h3 hM (fun k hk => nP (kAB k1.fu hk) dc dc) hup
   case ta => show tPt.row w' 0 _ _ v' ((V.tp ++ [z]).map (·.1)); rw [List.map_append]; exact h2.more nr (fun k hk => hk.up h3.size hup)
   case me => exact kAA k1.me h3 hM (fun k hk => nP (kAB k1.me hk) dc dc) hup
   case gl => exact kAA k1.gl h3 hM (fun k hk => nP (kAB k1.gl hk) dc dc) hup
   case el => exact kAA k1.el h3 hM (fun k hk => nP (kAB k1.el hk) dc dc) hup
   case da => exact kAA k1.da h3 hM (fun k hk => nP (kAB k1.da hk) dc dc) hup
   case is => exact kAA k1.is h3 hM (fun k hk => nP (kAB k1.is hk) dc dc) hup
   case tl => show (V.tp ++ [z]).length = (x.tabs ++ [t]).length; simp [h.tl]
   case tat =>
    intro i y u e1 e2
    have e1 : (V.tp ++ [z])[i]? = some y := e1
    have e2 : (x.tabs ++ [t])[i]? = some u := e2
    by_cases hi : i < V.tp.length
    · rw [List.getElem?_append_left hi] at e1
      rw [List.getElem?_append_left (by rw [← h.tl]; exact hi)] at e2
      have o := k1.tbk (List.mem_of_getElem? e1)
      exact (k1.tat i y u e1 e2).fr h3 (nP o.1 dc dc) (nP o.2 dc dc)
    rw [List.getElem?_append_right (by omega)] at e1
    rw [List.getElem?_append_right (by rw [← h.tl]; omega)] at e2
    have hlt := (List.getElem?_eq_some_iff.1 e1).1
    have hi0 : i - V.tp.length = 0 := by simp at hlt; omega
    rw [← h.tl] at e2
    exact yy58
   case tne =>
    intro i j a b e1 e2 hij
    have e1 : (V.tp ++ [z])[i]? = some a := e1
    have e2 : (V.tp ++ [z])[j]? = some b := e2
    have new : ∀ (i : Nat) (y : Nat × Nat × Nat), (V.tp ++ [z])[i]? = some y → (V.tp[i]? = some y ∧ y.1 < w.heap.size ∧ y.2.1 < w.heap.size) ∨ (i = V.tp.length ∧ y = z) := by
     intro i y e
     by_cases hi : i < V.tp.length
     · rw [List.getElem?_append_left hi] at e
       have o := Pl.o_tp (V := V) (List.mem_of_getElem? e)
       exact .inl ⟨e, hnv _ o.1, hnv _ o.2⟩
     rw [List.getElem?_append_right (by omega)] at e
     have hlt := (List.getElem?_eq_some_iff.1 e).1
     have hi0 : i - V.tp.length = 0 := by simp at hlt; omega
     rw [hi0] at e
     simp only [List.getElem?_cons_zero, Option.some.injEq] at e
     exact .inr ⟨by omega, e.symm⟩
    rcases new i a e1 with ⟨a1, a2, a3⟩ | ⟨a1, a2⟩ <;> rcases new j b e2 with ⟨b1, b2, b3⟩ | ⟨b1, b2⟩
    · exact h.tne i j a b a1 b1 hij
    · subst b2; exact ⟨by omega, by omega⟩
    · subst a2; exact ⟨by omega, by omega⟩
    omega
   case ml => exact h.ml
   case mat =>
    intro i y u e1 e2
    have o := k1.mbk (List.mem_of_getElem? e1)
    exact (k1.mat i y u e1 e2).fr h3 (nP o.1 dc dc) (nP o.2 dc dc)
   case mne => exact h.mne
   case low =>
    intro k r
    exact r.elim (fun r => ltl (k1.low k r) h3.size) (fun e => (h5 k e).elim (fun e => ltl (k1.lt (Pl.o_ta e)) h3.size) (fun e => e.2))
   intro k o
   rcases Pl.own_add_ta o with o | o | o
   · exact .inl (.inl (h.own k o))
   · exact .inr o
   exact .inl (.inr o)
 rcases Pl.own_add_ta o with o | o | o
 · exact .inl o
 · exact (h5 k o).elim (fun e => .inl (Pl.o_ta e)) (fun e => .inr om)
 rcases o with o | o <;> (right; omega)
theorem kIA {w w1 : World} {R : Nat → Prop} (hR : Lt R w) {k : Nat} (h : Nw w w1 k) : Sd w1 R k := ⟨h.2, fun r => by have := hR k r; have := h.1; omega⟩
def kBj (v : Vl) (t : Int) : Bool := decide (v.t = t) && vlB v
theorem kDG (v : Vl) (t : Int) (w : World) : Calls prog 51 #[.agg #[.int .i64 v.t, .int .u64 v.n], .int .i64 t] w fun e w' => e = .returned (.bool (kBj v t)) ∧ Fr No w w' := by
 by_cases h : v.t = t
 · subst h
   cases hq : vlB v with
   | _ =>
    have HQ := hid hq
    clear hq
    have F0 := hid ((Fr.refl No w).alloc (.cells #[.int .i64 v.t, .int .u64 v.n] 84))
    go_enter func51, ntmps51
    go_wp2_with (go_at_call 85; refine (kCh v _).mono ?_; rintro e w1 ⟨rfl, f1⟩; rw [HQ.o]; have F1 := hid f1; clear f1)
    go_ret
    exact ⟨kAM (by simp [kBj, HQ.o]), F0.o.trans F1.o i3⟩
 have hd : (v.t == t) = false := by simpa using h
 have F0 := hid ((Fr.refl No w).alloc (.cells #[.int .i64 v.t, .int .u64 v.n] 84))
 go_enter func51, ntmps51
 go_wp2
 go_ret
 exact ⟨kAM (by simp [kBj, h]), F0.o⟩
theorem kBe (g : Gl) (w : World) : Calls prog 50 #[.agg #[.int .i64 g.val, .bool g.mut_]] w fun e w' => e = .returned (.bool (kAc g.val)) ∧ Fr No w w' := by
 have F0 := hid ((Fr.refl No w).alloc (.cells #[.int .i64 g.val, .bool g.mut_] 41))
 go_enter func50, ntmps50
 go_wp2_with (go_at_call 84; refine (kCK _ _).mono ?_; rintro e w1 ⟨rfl, rfl⟩)
 go_ret
 exact ⟨rfl, F0.o⟩
def kBa (x : Rx) (g : Gl) (v : Vl) : Rx × Int := if kAc g.val && kBj v g.val then ({ x with globs := x.globs ++ [⟨g, v⟩] }, x.globs.length) else (x, -1)
def kBY (x : Rx) (l : Lim) : Rx × Int := if kBh l then ({ x with mems := x.mems ++ [⟨l, List.replicate (l.min.toNat * 256) 0⟩] }, x.mems.length) else (x, -1)
theorem GrTo.no {w w' : World} {R : Nat → Prop} {V : Pl} {x : Rx} {v : Value} (h : StIn w R V x) (f : Fr No w w') : GrTo R V v x w (.returned v) w' := ⟨V, R, rfl, h.frNo f, Grown.of_no f⟩
section
variable {w : World} {R : Nat → Prop} {V : Pl} {x : Rx}
theorem kCE (h : StIn w R V x) (g : Gl) (v : Vl) (wg : (Lit.int .i64 g.val).wf = true) (wv : (Lit.int .i64 v.t).wf = true) (wn : (Lit.int .u64 v.n).wf = true) (hn : x.globs.length ≤ 1000000) :
    Calls prog 22 #[.pointer (some ⟨V.P, 0, none⟩), .agg #[.int .i64 g.val, .bool g.mut_], .agg #[.int .i64 v.t, .int .u64 v.n]] w (GrTo R V (.int .i64 (kBa x g v).2) (kBa x g v).1 w) := by
 have F0 := hid (((Fr.refl No w).alloc (.cells #[.int .i64 g.val, .bool g.mut_] 41)).alloc (.cells #[.int .i64 v.t, .int .u64 v.n] 84))
 have G0 := hid ((Blk.new w 41 #[.int .i64 g.val, .bool g.mut_]).alloc (.cells #[.int .i64 v.t, .int .u64 v.n] 84))
 have G1 := hid (Blk.new1 w (.cells #[.int .i64 g.val, .bool g.mut_] 41) 84 #[.int .i64 v.t, .int .u64 v.n])
 have H := hid h
 have W := hid (And.intro wg (And.intro wv wn))
 clear h wg wv wn
 unfold kBa
 cases hg : kAc g.val with
 | false =>
  have HG := hid hg
  clear hg
  go_enter func22, ntmps22
  go_wp2_with (go_at_call 50; refine (kBe g _).mono ?_; rintro e w1 ⟨rfl, f1⟩; rw [HG.o]; have F1 := hid f1; clear f1)
  go_ret
  exact GrTo.no H.o (F0.o.trans F1.o i3)
 | true =>
  cases hr : kBj v g.val with
  | false =>
   have HG := hid hg
   have HR := hid hr
   clear hg hr
   go_enter func22, ntmps22
   go_wp2_with (first
    | (go_at_call 50; refine (kBe g _).mono ?_; rintro e w1 ⟨rfl, f1⟩; rw [HG.o]; have F1 := hid f1; clear f1; have y0 : w1.cell? ⟨w.heap.size, 0, none⟩ = some (.int .i64 g.val) := (G0.o.fr F1.o id).cell 0; have y1 : w1.cell? ⟨w.heap.size + 1, 0, none⟩ = some (.int .i64 v.t) := (G1.o.fr F1.o id).cell 0; have y2 : w1.cell? ⟨w.heap.size + 1, 1, none⟩ = some (.int .u64 v.n) := (G1.o.fr F1.o id).cell 1)
    | (go_at_call 51; refine (kDG v _ _).mono ?_; rintro e w2 ⟨rfl, f2⟩; rw [HR.o]; have F2 := hid f2; clear f2))
   go_ret
   exact GrTo.no H.o ((F0.o.trans F1.o i3).trans F2.o i3)
  | true =>
   have HG := hid hg
   have HR := hid hr
   clear hg hr
   go_enter func22, ntmps22
   go_wp2_with (first
    | (go_at_call 50; refine (kBe g _).mono ?_; rintro e w1 ⟨rfl, f1⟩; rw [HG.o]; have F1 := hid f1; clear f1; have y0 : w1.cell? ⟨w.heap.size, 0, none⟩ = some (.int .i64 g.val) := (G0.o.fr F1.o id).cell 0; have y1 : w1.cell? ⟨w.heap.size + 1, 0, none⟩ = some (.int .i64 v.t) := (G1.o.fr F1.o id).cell 0; have y2 : w1.cell? ⟨w.heap.size + 1, 1, none⟩ = some (.int .u64 v.n) := (G1.o.fr F1.o id).cell 1)
    | (go_at_call 51; refine (kDG v _ _).mono ?_; rintro e w2 ⟨rfl, f2⟩; rw [HR.o]; have F2 := hid f2; clear f2))
   clear y0 y1 y2
   have hX : ∀ X, Fr No w2 X → Ce X w.heap.size 0 (.int .i64 g.val) ∧ Ce X w.heap.size 1 (.bool g.mut_) ∧ Ce X (w.heap.size + 1) 0 (.int .i64 v.t) ∧ Ce X (w.heap.size + 1) 1 (.int .u64 v.n) := fun X f => by
    have h0 := ((G0.o.fr F1.o id).fr F2.o id).fr f id
    have h1 := ((G1.o.fr F1.o id).fr F2.o id).fr f id
    exact ⟨h0.cell 0, h0.cell 1, h1.cell 0, h1.cell 1⟩
   have HX := hid hX
   have K2 := hid (((H.o.frNo F0.o).frNo F1.o).frNo F2.o)
   clear hX
   refine rwO (fun X => Ce X w.heap.size 0 (.int .i64 g.val) ∧ Ce X w.heap.size 1 (.bool g.mut_) ∧ Ce X (w.heap.size + 1) 0 (.int .i64 v.t) ∧ Ce X (w.heap.size + 1) 1 (.int .u64 v.n)) [] (List.range 8) [6] (HX.o _ (Fr.refl _ _).drew) ?_
   refine rC ?_
   refine wpO_eff rfl rfl fun K hK => sz ?_
   have RX : Hid (tRg.rd w2.drew (Sd w2.drew R) [.int .i64 g.val, .bool g.mut_, .int .i64 v.t, .int .u64 v.n] ⟨g, v⟩) := kFT (a := ⟨g, v⟩) W.o.1 W.o.2.1 W.o.2.2
   have K3 := hid (K2.o.frNo (Fr.refl No w2).drew)
   refine (kGE V.P 6 (Sd w2.drew R) V.gl x.globs [.int .i64 g.val, .bool g.mut_, .int .i64 v.t, .int .u64 v.n] ⟨g, v⟩ w2.drew (K3.o.addIn_gl RX.o hn)).mono ?_
   intro e w3 ha
   obtain ⟨V', R', rfl, h2, h3⟩ := K3.o.added_gl ha
   have h3 := hid h3
   have gz0 := ((G0.o.fr F1.o id).fr F2.o id).drew.fr h3.o.fr (fun o => by have := H.o.lt o; omega)
   have gz1 := ((G1.o.fr F1.o id).fr F2.o id).drew.fr h3.o.fr (fun o => by have := H.o.lt o; omega)
   refine hK _ _ (fun _ => ⟨gz0.cell 0, gz0.cell 1, gz1.cell 0, gz1.cell 1⟩) ?_
   clear hK K gz0 gz1
   refine rC ?_
   refine wpO_nil ?_
   go_wp2
   go_ret
   exact ⟨V', R', rfl, h2, (Grown.of_no (((F0.o.trans F1.o i3).trans F2.o i3).drew)).trans h3.o⟩
theorem kCw (h : StIn w R V x) (l : Lim) (hn : x.mems.length ≤ 1000000) :
    Calls prog 23 #[.pointer (some ⟨V.P, 0, none⟩), .agg #[.int .i64 l.min, .int .i64 l.max, .bool l.has]] w (GrTo R V (.int .i64 (kBY x l).2) (kBY x l).1 w) := by
 have F0 := hid ((Fr.refl No w).alloc (.cells #[.int .i64 l.min, .int .i64 l.max, .bool l.has] 37))
 have H := hid h
 clear h
 unfold kBY
 cases hv : kBh l with
 | false =>
  have HV := hid hv
  clear hv
  go_enter func23, ntmps23
  go_wp2_with (go_at_call 53; refine (kEh l _).mono ?_; intro e w1 hnew; unfold NewTo at hnew; rw [HV.o] at hnew; obtain ⟨rfl, f1⟩ := hnew; have F1 := hid f1; clear f1)
  go_ret
  exact GrTo.no H.o (F0.o.trans F1.o i3)
 | true =>
  have HV := hid hv
  clear hv
  go_enter func23, ntmps23
  go_wp2_with fail
  refine (kEh l _).mono ?_
  intro e w1 hnew
  unfold NewTo at hnew
  rw [HV.o, if_pos rfl] at hnew
  obtain ⟨p, q, c, rfl, hm, l1, l2, f1⟩ := hnew
  have F1 := ftr F0 f1
  have HM := hid hm
  have l1 : w.heap.size ≤ p := Nat.le_trans F0.o.size l1
  have l2 : w.heap.size ≤ q := Nat.le_trans F0.o.size l2
  clear f1 hm
  have K1 : Hid (StIn w1 (fun k => R k ∨ k = p ∨ k = q) V x) := H.o.fr F1.o (fun _ _ m => m.elim) (fun k hk r => r.elim (fun r => r) (fun e => by omega)) (fun k r => .inl r) (fun k r => r.elim (fun r => ltl (H.o.low k r) F1.o.size) (fun e => e.elim (fun e => e ▸ HM.o.hp.lt) (fun e => e ▸ HM.o.own.lt)))
  go_wp2_with fail
  refine (kFR V.P 5 (Sd w1 (fun k => R k ∨ k = p ∨ k = q)) V.me (V.mp.map (·.1)) p w1 (K1.o.addIn_me rfl (by simp [H.o.ml]; exact hn))).mono ?_
  intro e w2 ha
  obtain ⟨V', R', rfl, h2, h3⟩ := H.o.added_me (z := (p, q, c)) (t := ⟨l, List.replicate (l.min.toNat * 256) 0⟩) F1.o HM.o l1 l2 ha
  go_wp2
  go_ret
  exact ⟨V', R', rfl, h2, h3⟩
end
theorem kCH {z y : Nat × Nat × Nat} {l : List (Nat × Nat × Nat)} {i : Nat} (h : l[i]? = some z) (e : y.1 = z.1) : (l.set i y).map (·.1) = l.map (·.1) := by
 rw [List.map_set]
 apply List.ext_getElem?
 intro j
 rw [List.getElem?_set]
 split
 · rename_i hij
   subst hij
   have hi := (List.getElem?_eq_some_iff.1 h).1
   simp [hi, e]
   rw [List.getElem?_eq_getElem hi] at h
   injection h with h
   rw [h]
 rfl
theorem kAX {α : Type} {l : List α} {i j : Nat} {y z : α} (h : (l.set i y)[j]? = some z) : (j = i ∧ z = y) ∨ (j ≠ i ∧ l[j]? = some z) := by
 rw [List.getElem?_set] at h
 split at h
 · rename_i hij
   split at h
   · simp only [Option.some.injEq] at h; exact .inl ⟨hij.symm, h.symm⟩
   cases h
 rename_i hij
 exact .inr ⟨fun e => hij e.symm, h⟩
theorem StIn.setMem {w w' : World} {R : Nat → Prop} {V : Pl} {x : Rx} (h : StIn w R V x) {i : Nat} {z : Nat × Nat × Nat} {t t' : Rm} (hz : V.mp[i]? = some z) (ht : x.mems[i]? = some t) {q c : Nat} (f : Fr (Two z.1 z.2.1) w w')
    (hm : Mo w' z.1 q c t'.lim t'.b) (hq : q = z.2.1 ∨ w.heap.size ≤ q) :
    StIn w' (fun k => R k ∨ k = q) { V with mp := V.mp.set i (z.1, q, c) } { x with mems := x.mems.set i t' } ∧ Grown w w' R (fun k => R k ∨ k = q) V { V with mp := V.mp.set i (z.1, q, c) } := by
 have oz := Pl.o_mp (V := V) (List.mem_of_getElem? hz)
 have bz := h.mbk (List.mem_of_getElem? hz)
 have hM : ∀ k, k < w.heap.size → Two z.1 z.2.1 k → R k := fun k _ m => m.elim (fun e => e ▸ h.own _ oz.1) (fun e => e ▸ h.own _ oz.2)
 have hup : ∀ k, k < w.heap.size → (R k ∨ k = q) → R k := fun k hk r => r.elim (fun r => r) (fun e => hq.elim (fun e2 => by rw [e, e2]; exact h.own _ oz.2) (fun e2 => by omega))
 have nP : ∀ {k u}, Bt w k u → u ≠ 206 → u ≠ 5 → ¬ Two z.1 z.2.1 k := fun hk h1 h2 m => m.elim (fun e => Bt.ne hk bz.1 h1 e) (fun e => Bt.ne hk bz.2 h2 e)
 have hqw : q < w'.heap.size := hm.own.lt
 have hown : ∀ k, Pl.own { V with mp := V.mp.set i (z.1, q, c) } k → V.own k ∨ k = q := by
  rintro k (o | ⟨v, hv, o⟩ | o | o)
  · exact .inl (.inl o)
  · exact .inl (.inr (.inl ⟨v, hv, o⟩))
  · exact .inl (.inr (.inr (.inl o)))
  obtain ⟨t, ht, o⟩ := o
  obtain ⟨j, hj, rfl⟩ := List.getElem_of_mem ht
  rcases kAX (List.getElem?_eq_getElem hj) with ⟨_, e⟩ | ⟨_, e⟩
  · rw [e] at o
    rcases o with o | o
    · exact .inl (o ▸ oz.1)
    exact .inr o
  exact .inl (.inr (.inr (.inr ⟨_, List.mem_of_getElem? e, o⟩)))
 refine ⟨?_, rfl, f.mono (fun k _ m => m.elim (fun e => e ▸ oz.1) (fun e => e ▸ oz.2)), hup, fun k r => .inl r, fun k o => (hown k o).elim (fun o => .inl o) (fun e => hq.elim (fun e2 => .inl (by rw [e, e2]; exact oz.2)) (fun e2 => .inr (by omega)))⟩
 constructor
 case blk => exact h.blk.fr f (nP ⟨_, h.blk⟩ dc dc)
 case ho => exact kAA h.ho f hM (fun k hk => nP (kAB h.ho hk) dc dc) hup
 case co => exact kAA h.co f hM (fun k hk => nP (kAB h.co hk) dc dc) hup
 case ca => exact kAA h.ca f hM (fun k hk => nP (kAB h.ca hk) dc dc) hup
 case fu => exact kAA h.fu f hM (fun k hk => nP (kAB h.fu hk) dc dc) hup
 case ta => exact kAA h.ta f hM (fun k hk => nP (kAB h.ta hk) dc dc) hup
 case me => show tPt.row w' 0 _ _ V.me ((V.mp.set i (z.1, q, c)).map (·.1)); rw [kCH (y := (z.1, q, c)) hz rfl]; exact kAA h.me f hM (fun k hk => nP (kAB h.me hk) dc dc) hup
 case gl => exact kAA h.gl f hM (fun k hk => nP (kAB h.gl hk) dc dc) hup
 case el => exact kAA h.el f hM (fun k hk => nP (kAB h.el hk) dc dc) hup
 case da => exact kAA h.da f hM (fun k hk => nP (kAB h.da hk) dc dc) hup
 case is => exact kAA h.is f hM (fun k hk => nP (kAB h.is hk) dc dc) hup
 case ml => show (V.mp.set i (z.1, q, c)).length = (x.mems.set i t').length; simp [h.ml]
 case mat =>
  intro j y u e1 e2
  rcases kAX (show (V.mp.set i (z.1, q, c))[j]? = some y from e1) with ⟨j1, y1⟩ | ⟨j1, y1⟩
  · subst j1 y1
    rcases kAX (show (x.mems.set j t')[j]? = some u from e2) with ⟨_, u1⟩ | ⟨j2, _⟩
    · subst u1; exact hm
    exact absurd rfl j2
  rcases kAX (show (x.mems.set i t')[j]? = some u from e2) with ⟨j2, _⟩ | ⟨_, u1⟩
  · exact absurd j2 j1
  have d := h.mne j i y z y1 hz j1
  have b := h.mbk (List.mem_of_getElem? y1)
  exact (h.mat j y u y1 u1).fr f (fun m => m.elim (fun e => d.1 e) (fun e => Bt.ne b.1 bz.2 dc e)) (fun m => m.elim (fun e => Bt.ne b.2 bz.1 dc e) (fun e => d.2 e))
 case mne =>
  intro j1 j2 a b e1 e2 hj
  have nq : ∀ (j : Nat) (y : Nat × Nat × Nat), j ≠ i → V.mp[j]? = some y → y.2.1 ≠ q := fun j y hj hy e => hq.elim (fun e2 => (h.mne j i y z hy hz hj).2 (e.trans e2)) (fun e2 => by
   have := (h.mbk (List.mem_of_getElem? hy)).2.lt
   omega)
  rcases kAX (show (V.mp.set i (z.1, q, c))[j1]? = some a from e1) with ⟨i1, a1⟩ | ⟨i1, a1⟩ <;> rcases kAX (show (V.mp.set i (z.1, q, c))[j2]? = some b from e2) with ⟨i2, b1⟩ | ⟨i2, b1⟩
  · omega
  · subst a1; exact ⟨fun e => (h.mne j2 i b z b1 hz i2).1 e.symm, fun e => nq j2 b i2 b1 e.symm⟩
  · subst b1; exact ⟨(h.mne j1 i a z a1 hz i1).1, nq j1 a i1 a1⟩
  exact h.mne j1 j2 a b a1 b1 hj
 case tl => exact h.tl
 case tat =>
  intro j y u e1 e2
  have o := h.tbk (List.mem_of_getElem? e1)
  exact (h.tat j y u e1 e2).fr f (nP o.1 dc dc) (nP o.2 dc dc)
 case tne => exact h.tne
 case own => exact fun k o => (hown k o).elim (fun o => .inl (h.own k o)) (fun e => .inr e)
 exact fun k r => r.elim (fun r => ltl (h.low k r) f.size) (fun e => e ▸ hqw)
theorem StIn.setTab {w w' : World} {R : Nat → Prop} {V : Pl} {x : Rx} (h : StIn w R V x) {i : Nat} {z : Nat × Nat × Nat} {t t' : Rt} (hz : V.tp[i]? = some z) (ht : x.tabs[i]? = some t) {q c : Nat} (f : Fr (Two z.1 z.2.1) w w')
    (hm : TabAt w' z.1 q c t'.t.elem t'.t.lim.min t'.t.lim.max t'.t.lim.has t'.l) (hq : q = z.2.1 ∨ w.heap.size ≤ q) :
    StIn w' (fun k => R k ∨ k = q) { V with tp := V.tp.set i (z.1, q, c) } { x with tabs := x.tabs.set i t' } ∧ Grown w w' R (fun k => R k ∨ k = q) V { V with tp := V.tp.set i (z.1, q, c) } := by
 have oz := Pl.o_tp (V := V) (List.mem_of_getElem? hz)
 have bz := h.tbk (List.mem_of_getElem? hz)
 have hM : ∀ k, k < w.heap.size → Two z.1 z.2.1 k → R k := fun k _ m => m.elim (fun e => e ▸ h.own _ oz.1) (fun e => e ▸ h.own _ oz.2)
 have hup : ∀ k, k < w.heap.size → (R k ∨ k = q) → R k := fun k hk r => r.elim (fun r => r) (fun e => hq.elim (fun e2 => by rw [e, e2]; exact h.own _ oz.2) (fun e2 => by omega))
 have nP : ∀ {k u}, Bt w k u → u ≠ 202 → u ≠ 82 → ¬ Two z.1 z.2.1 k := fun hk h1 h2 m => m.elim (fun e => Bt.ne hk bz.1 h1 e) (fun e => Bt.ne hk bz.2 h2 e)
 have hqw : q < w'.heap.size := hm.own.lt
 have hown : ∀ k, Pl.own { V with tp := V.tp.set i (z.1, q, c) } k → V.own k ∨ k = q := by
  rintro k (o | ⟨v, hv, o⟩ | o | o)
  · exact .inl (.inl o)
  · exact .inl (.inr (.inl ⟨v, hv, o⟩))
  · obtain ⟨t, ht, o⟩ := o
    obtain ⟨j, hj, rfl⟩ := List.getElem_of_mem ht
    rcases kAX (List.getElem?_eq_getElem hj) with ⟨_, e⟩ | ⟨_, e⟩
    · rw [e] at o
      rcases o with o | o
      · exact .inl (o ▸ oz.1)
      exact .inr o
    exact .inl (.inr (.inr (.inl ⟨_, List.mem_of_getElem? e, o⟩)))
  exact .inl (.inr (.inr (.inr o)))
 refine ⟨?_, rfl, f.mono (fun k _ m => m.elim (fun e => e ▸ oz.1) (fun e => e ▸ oz.2)), hup, fun k r => .inl r, fun k o => (hown k o).elim (fun o => .inl o) (fun e => hq.elim (fun e2 => .inl (by rw [e, e2]; exact oz.2)) (fun e2 => .inr (by omega)))⟩
 constructor
 case blk => exact h.blk.fr f (nP ⟨_, h.blk⟩ dc dc)
 case ho => exact kAA h.ho f hM (fun k hk => nP (kAB h.ho hk) dc dc) hup
 case co => exact kAA h.co f hM (fun k hk => nP (kAB h.co hk) dc dc) hup
 case ca => exact kAA h.ca f hM (fun k hk => nP (kAB h.ca hk) dc dc) hup
 case fu => exact kAA h.fu f hM (fun k hk => nP (kAB h.fu hk) dc dc) hup
 case ta => show tPt.row w' 0 _ _ V.ta ((V.tp.set i (z.1, q, c)).map (·.1)); rw [kCH (y := (z.1, q, c)) hz rfl]; exact kAA h.ta f hM (fun k hk => nP (kAB h.ta hk) dc dc) hup
 case me => exact kAA h.me f hM (fun k hk => nP (kAB h.me hk) dc dc) hup
 case gl => exact kAA h.gl f hM (fun k hk => nP (kAB h.gl hk) dc dc) hup
 case el => exact kAA h.el f hM (fun k hk => nP (kAB h.el hk) dc dc) hup
 case da => exact kAA h.da f hM (fun k hk => nP (kAB h.da hk) dc dc) hup
 case is => exact kAA h.is f hM (fun k hk => nP (kAB h.is hk) dc dc) hup
 case tl => show (V.tp.set i (z.1, q, c)).length = (x.tabs.set i t').length; simp [h.tl]
 case tat =>
  intro j y u e1 e2
  rcases kAX (show (V.tp.set i (z.1, q, c))[j]? = some y from e1) with ⟨j1, y1⟩ | ⟨j1, y1⟩
  · subst j1 y1
    rcases kAX (show (x.tabs.set j t')[j]? = some u from e2) with ⟨_, u1⟩ | ⟨j2, _⟩
    · subst u1; exact hm
    exact absurd rfl j2
  rcases kAX (show (x.tabs.set i t')[j]? = some u from e2) with ⟨j2, _⟩ | ⟨_, u1⟩
  · exact absurd j2 j1
  have d := h.tne j i y z y1 hz j1
  have b := h.tbk (List.mem_of_getElem? y1)
  exact (h.tat j y u y1 u1).fr f (fun m => m.elim (fun e => d.1 e) (fun e => Bt.ne b.1 bz.2 dc e)) (fun m => m.elim (fun e => Bt.ne b.2 bz.1 dc e) (fun e => d.2 e))
 case tne =>
  intro j1 j2 a b e1 e2 hj
  have nq : ∀ (j : Nat) (y : Nat × Nat × Nat), j ≠ i → V.tp[j]? = some y → y.2.1 ≠ q := fun j y hj hy e => hq.elim (fun e2 => (h.tne j i y z hy hz hj).2 (e.trans e2)) (fun e2 => by
   have := (h.tbk (List.mem_of_getElem? hy)).2.lt
   omega)
  rcases kAX (show (V.tp.set i (z.1, q, c))[j1]? = some a from e1) with ⟨i1, a1⟩ | ⟨i1, a1⟩ <;> rcases kAX (show (V.tp.set i (z.1, q, c))[j2]? = some b from e2) with ⟨i2, b1⟩ | ⟨i2, b1⟩
  · omega
  · subst a1; exact ⟨fun e => (h.tne j2 i b z b1 hz i2).1 e.symm, fun e => nq j2 b i2 b1 e.symm⟩
  · subst b1; exact ⟨(h.tne j1 i a z a1 hz i1).1, nq j1 a i1 a1⟩
  exact h.tne j1 j2 a b a1 b1 hj
 case ml => exact h.ml
 case mat =>
  intro j y u e1 e2
  have o := h.mbk (List.mem_of_getElem? e1)
  exact (h.mat j y u e1 e2).fr f (nP o.1 dc dc) (nP o.2 dc dc)
 case mne => exact h.mne
 case own => exact fun k o => (hown k o).elim (fun o => .inl (h.own k o)) (fun e => .inr e)
 exact fun k r => r.elim (fun r => ltl (h.low k r) f.size) (fun e => e ▸ hqw)
theorem StIn.sl_ho {w : World} {R : Nat → Prop} {V : Pl} {x : Rx} (h : StIn w R V x) : ∃ A c, V.ho = .slice A (x.hosts).length c ∧ (x.hosts).length ≤ c ∧ tHo.els w (· < w.heap.size) A (x.hosts) := by
 obtain ⟨A, c, e, h1, _, h3⟩ := h.ho.els (S' := (· < w.heap.size)) (fun _ hk => hk.1) (fun g hg => h.lt (Pl.o_ho hg))
 exact ⟨A, c, e, h1, h3⟩
theorem StIn.sl_fu {w : World} {R : Nat → Prop} {V : Pl} {x : Rx} (h : StIn w R V x) : ∃ A c, V.fu = .slice A (x.funcs).length c ∧ (x.funcs).length ≤ c ∧ tFi.els w (· < w.heap.size) A (x.funcs) := by
 obtain ⟨A, c, e, h1, _, h3⟩ := h.fu.els (S' := (· < w.heap.size)) (fun _ hk => hk.1) (fun g hg => h.lt (Pl.o_fu hg))
 exact ⟨A, c, e, h1, h3⟩
theorem StIn.sl_ta {w : World} {R : Nat → Prop} {V : Pl} {x : Rx} (h : StIn w R V x) : ∃ A c, V.ta = .slice A (V.tp.map (·.1)).length c ∧ (V.tp.map (·.1)).length ≤ c ∧ tPt.els w (· < w.heap.size) A (V.tp.map (·.1)) := by
 obtain ⟨A, c, e, h1, _, h3⟩ := h.ta.els (S' := (· < w.heap.size)) (fun _ hk => hk.1) (fun g hg => h.lt (Pl.o_ta hg))
 exact ⟨A, c, e, h1, h3⟩
theorem StIn.sl_me {w : World} {R : Nat → Prop} {V : Pl} {x : Rx} (h : StIn w R V x) : ∃ A c, V.me = .slice A (V.mp.map (·.1)).length c ∧ (V.mp.map (·.1)).length ≤ c ∧ tPt.els w (· < w.heap.size) A (V.mp.map (·.1)) := by
 obtain ⟨A, c, e, h1, _, h3⟩ := h.me.els (S' := (· < w.heap.size)) (fun _ hk => hk.1) (fun g hg => h.lt (Pl.o_me hg))
 exact ⟨A, c, e, h1, h3⟩
theorem StIn.sl_gl {w : World} {R : Nat → Prop} {V : Pl} {x : Rx} (h : StIn w R V x) : ∃ A c, V.gl = .slice A (x.globs).length c ∧ (x.globs).length ≤ c ∧ tRg.els w (· < w.heap.size) A (x.globs) := by
 obtain ⟨A, c, e, h1, _, h3⟩ := h.gl.els (S' := (· < w.heap.size)) (fun _ hk => hk.1) (fun g hg => h.lt (Pl.o_gl hg))
 exact ⟨A, c, e, h1, h3⟩
theorem StIn.sl_is {w : World} {R : Nat → Prop} {V : Pl} {x : Rx} (h : StIn w R V x) : ∃ A c, V.is = .slice A (x.insts).length c ∧ (x.insts).length ≤ c ∧ tRi.els w (· < w.heap.size) A (x.insts) := by
 obtain ⟨A, c, e, h1, _, h3⟩ := h.is.els (S' := (· < w.heap.size)) (fun _ hk => hk.1) (fun g hg => h.lt (Pl.o_is hg))
 exact ⟨A, c, e, h1, h3⟩
theorem kBn {α : Type} {d : α} {l : List α} {i : Int} {p : α → Prop} (hd : p d) (h : ∀ a ∈ l, p a) : p (atD d l i).1 := by
 unfold atD
 split
 · exact h _ (List.getElem_mem _)
 exact hd
section
variable {w : World} {R : Nat → Prop} {V : Pl} {x : Rx}
theorem kEj (h : StIn w R V x) (i : Int) (hn : x.mems.length ≤ 1000000) :
    Calls prog 29 #[.pointer (some ⟨V.P, 0, none⟩), .int .i64 i] w fun e w' => e = .returned (ptrV (getI (V.mp.map (·.1)) i)) ∧ Fr No w w' := by
 obtain ⟨A, c, hv, _, hel⟩ := h.sl_me
 have hcell : w.cell? ⟨V.P, 5, none⟩ = some (.slice A (V.mp.map (·.1)).length c) := by rw [← hv]; exact h.blk.cell 5
 have HA := hid (kGB V.P 5 A c (V.mp.map (·.1)) i (· < w.heap.size) w hcell hel (by simp [h.ml]; exact hn))
 clear hel hcell hv h
 go_enter func29, ntmps29
 go_wp2_with fail
 refine HA.o.mono ?_
 rintro e w1 ⟨rfl, f1⟩
 have F1 := hid f1
 clear HA f1
 go_wp2
 go_ret
 exact ⟨rfl, F1.o⟩
end
theorem kDo {α β : Type} {l : List α} {f : α → β} (i : Int) : getI (l.map f) i = (getI l i).map f := by
 unfold getI
 split <;> simp
theorem kDp {α β : Type} {l : List α} {m : List β} (h : l.length = m.length) (i : Int) : (getI l i).isNone = (getI m i).isNone := by
 unfold getI
 split
 · by_cases hi : i.toNat < l.length
   · simp [hi, h ▸ hi]
   rw [List.getElem?_eq_none (by omega), List.getElem?_eq_none (by omega)]; rfl
 rfl
theorem kDI {α : Type} {l : List α} {i : Int} {a : α} (h : getI l i = some a) : 0 ≤ i ∧ l[i.toNat]? = some a := by
 unfold getI at h
 split at h
 · exact ⟨by assumption, h⟩
 cases h
variable {P : Program}
theorem kAm {ops : Array Oper} {rest : List Oper} {op : Oper} {a : Act} {w : World} {Q : Exit → Act → World → Prop} (hgd : op.guard = none) (ty : TypeId) (x y : Operand) (ho : op.op = .store ty x y)
    (c : Array Value) (ds : LV) (hx : a.eval x = .pointer (some ⟨w.heap.size, 0, none⟩)) (hy : a.eval y = .agg ds.toArray)
    (hi : (P.info? ty).map (·.size) = some ds.length) (hs : c.size = ds.length) (h1 : ds.all (·.oneCell') = true)
    (h : wpList P ops Q rest (a.put op.dst undef) (w.alloc (.cells ds.toArray ty))) : wpList P ops Q (op :: rest) a (w.alloc (.cells c ty)) :=
 wpList_plain hgd fun _ hK => by
  unfold Oper.wp execOp
  simp only [ho, hx, hy, Sem.run_bind, run_storeAt_new w ty c ds.toArray (by simpa using hi) (by simpa using hs) (by simpa using h1)]
  exact hK _ _ h
theorem kBJ {w : World} {p : Nat} {t : TypeId} {cs : Array Value} (h : Blk w p t cs) : w.rangeAt p 0 cs.toList := fun j v hv => by
 rw [Nat.zero_add]
 rw [World.cell?, h]
 simpa using hv
theorem kDJ : ∀ (ds : LV) (k : Nat) (pre Z : LV), pre.length = k → Z.length = ds.length →
    List.foldl (fun (cs : Array Value) (x : Value × Nat) => cs.setIfInBounds x.snd x.fst) (pre ++ Z).toArray (ds.zipIdx k) = (pre ++ ds).toArray
 | [], k, pre, Z, _, h => by
  have : Z = [] := List.eq_nil_of_length_eq_zero h
  subst this
  rfl
 | d :: ds, k, pre, Z, hk, h => by
  obtain ⟨z, Z', rfl⟩ : ∃ z Z', Z = z :: Z' := by cases Z with | nil => simp at h | cons z Z' => exact ⟨z, Z', rfl⟩
  have ih := kDJ ds (k + 1) (pre ++ [d]) Z' (by simp [hk]) (by simpa using h)
  rw [List.zipIdx_cons, List.foldl_cons]
  have e : (pre ++ z :: Z').toArray.setIfInBounds k d = (pre ++ [d] ++ Z').toArray := by
   rw [List.setIfInBounds_toArray]
   congr 1
   rw [List.set_append_right _ _ (by omega), ← hk]
   simp
  rw [e, ih]
  simp
theorem kAq {ds : LV} {Z : Array Value} (h : Z.size = ds.length) :
    List.foldl (fun (cs : Array Value) (x : Value × Nat) => cs.setIfInBounds x.snd x.fst) Z ds.zipIdx = ds.toArray := by
 have := kDJ ds 0 [] Z.toList rfl (by simpa using h)
 simpa using this
theorem Fr.setCells' {M : Nat → Prop} {a : World} {b : Nat} (hb : b < a.heap.size → M b) : ∀ (ds : LV) (o : Nat) (w : World), Fr M a w → Fr M a (w.setCells b o ds)
 | [], _, _, h => h
 | v :: r, o, w, h => Fr.setCells' hb r (o + 1) _ (h.setCell ⟨b, o, none⟩ v hb)
theorem there_blk {w : World} {p n : Nat} {t : TypeId} {cs : Array Value} (h : Blk w p t cs) (hn : cs.size = n) : w.there p 0 n := fun j hj => by
 rw [Nat.zero_add]
 refine ⟨?_, h.frozen j⟩
 rw [h.cell j]
 have : j < cs.size := om
 simp [this]
theorem kHv {fn : Func} {p t : Tmp} {ty : TypeId} (h : fn.results = #[.cell p ty, .tmp t]) (tmps : Array Value) (w : World) (g : Nat) (ds : LV) (d : TypeDesc)
    (hp : tmps.getD p undef = .pointer (some ⟨g, 0, none⟩)) (hr : w.rangeAt g 0 ds) (hu : P.underlying ty = some d) (hd : d.isRow = true) (hi : (P.info? ty).map (·.size) = some ds.length) :
    (results fn tmps).run P w = .ok (.tuple #[.agg ds.toArray, tmps.getD t undef]) w := by
 have hp' : tmps[p]?.getD undef = .pointer (some ⟨g, 0, none⟩) := by simpa using hp
 simp [results, h, hp', asAddr, run_loadVar_mid w g 0 ty ds d hr hu hd hi]
section
variable {w : World} {R : Nat → Prop} {V : Pl} {x : Rx}
theorem kEL (h : StIn w R V x) (i : Int) (hn : x.tabs.length ≤ 1000000) :
    Calls prog 27 #[.pointer (some ⟨V.P, 0, none⟩), .int .i64 i] w fun e w' => e = .returned (ptrV (getI (V.tp.map (·.1)) i)) ∧ Fr No w w' := by
 obtain ⟨A, c, hv, _, hel⟩ := h.sl_ta
 have hcell : w.cell? ⟨V.P, 4, none⟩ = some (.slice A (V.tp.map (·.1)).length c) := by rw [← hv]; exact h.blk.cell 4
 have HA := hid (kGA V.P 4 A c (V.tp.map (·.1)) i (· < w.heap.size) w hcell hel (by simp [h.tl]; exact hn))
 clear hel hcell hv h
 go_enter func27, ntmps27
 go_wp2_with fail
 refine HA.o.mono ?_
 rintro e w1 ⟨rfl, f1⟩
 have F1 := hid f1
 clear HA f1
 go_wp2
 go_ret
 exact ⟨rfl, F1.o⟩
def GlTo (g : Rg) (ok : Bool) (w : World) (e : Ending) (w' : World) : Prop :=
 e = .returned (.tuple #[.agg #[.int .i64 g.t.val, .bool g.t.mut_], .agg #[.int .i64 g.v.t, .int .u64 g.v.n], .bool ok]) ∧ Fr No w w'
theorem kFF (h : StIn w R V x) (i : Int) (hn : x.globs.length ≤ 1000000) :
    Calls prog 78 #[.pointer (some ⟨V.P, 0, none⟩), .int .i64 i] w (GlTo (atD zRg x.globs i).1 (atD zRg x.globs i).2 w) := by
 have F0 := hid (((Fr.refl No w).alloc (.cells #[.int .i64 0, .bool false] 41)).alloc (.cells #[.int .i64 0, .int .u64 0] 84))
 have G0 := hid ((Blk.new w 41 #[.int .i64 0, .bool false]).alloc (.cells #[.int .i64 0, .int .u64 0] 84))
 have G1 := hid (Blk.new1 w (.cells #[.int .i64 0, .bool false] 41) 84 #[.int .i64 0, .int .u64 0])
 obtain ⟨A, c, hv, _, hel⟩ := h.sl_gl
 have hcell : w.cell? ⟨V.P, 6, none⟩ = some (.slice A x.globs.length c) := by rw [← hv]; exact h.blk.cell 6
 have hPl : V.P < w.heap.size := h.lt V.oP
 have HA := hid (fun (X : World) (f : Fr No w X) => kGu V.P 6 A c x.globs i (· < w.heap.size) X ((f.cell (p := ⟨V.P, 6, none⟩) hPl id).trans hcell) (hel.fr f (fun k hk => ⟨hk, fun x => x⟩)) (fun k hk => ltl hk f.size) hn)
 clear hel hcell hv h hPl
 obtain ⟨ok, hok⟩ : ∃ ok, ok = (atD zRg x.globs i).2 := ⟨_, rfl⟩
 rw [← hok]
 have HOK := hid hok.symm
 clear hok
 go_enter func78, ntmps78
 go_wp2_with fail
 refine (HA.o _ F0.o).mono ?_
 rintro e w1 ⟨cs, rfl, hr, f1⟩
 obtain ⟨rfl, _⟩ := kCc hr
 have F1 := ftr F0 f1
 replace G0 := hid (G0.o.fr f1 id)
 replace G1 := hid (G1.o.fr f1 id)
 clear HA hr f1 F0
 generalize (atD zRg x.globs i).1 = g at *
 obtain ⟨p, hp⟩ : ∃ p, p = w.heap.size := ⟨_, rfl⟩
 rw [← hp] at G0 G1
 simp only [← hp]
 have HPW := hid hp
 clear hp
 have F2 := hid (F1.o.alloc (.cells #[.int .i64 g.t.val, .bool g.t.mut_, .int .i64 g.v.t, .int .u64 g.v.n] 188))
 replace G0 := hid (G0.o.alloc (.cells #[.int .i64 g.t.val, .bool g.t.mut_, .int .i64 g.v.t, .int .u64 g.v.n] 188))
 replace G1 := hid (G1.o.alloc (.cells #[.int .i64 g.t.val, .bool g.t.mut_, .int .i64 g.v.t, .int .u64 g.v.n] 188))
 have G2 := hid (Blk.new w1 188 #[.int .i64 g.t.val, .bool g.t.mut_, .int .i64 g.v.t, .int .u64 g.v.n])
 go_upto_region 4 with fail
 generalize w1.alloc (.cells #[.int .i64 g.t.val, .bool g.t.mut_, .int .i64 g.v.t, .int .u64 g.v.n] 188) = W at *
 generalize w1.heap.size = q at *
 have n1 : q ≠ p := Blk.ne_ G2.o G0.o dc
 have n2 : q ≠ p + 1 := Blk.ne_ G2.o G1.o dc
 have z0 := G0.o.frozen 0
 have z1 := G0.o.frozen 1
 have z2 := G1.o.frozen 0
 have z3 := G1.o.frozen 1
 have HX : Hid (∀ X, Blk X q 188 #[.int .i64 g.t.val, .bool g.t.mut_, .int .i64 g.v.t, .int .u64 g.v.n] → Ce X q 0 (.int .i64 g.t.val) ∧ Ce X q 1 (.bool g.t.mut_) ∧ Ce X q 2 (.int .i64 g.v.t) ∧ Ce X q 3 (.int .u64 g.v.n)) := fun X b => ⟨b.cell 0, b.cell 1, b.cell 2, b.cell 3⟩
 refine rwO (fun X => Ce X q 0 (.int .i64 g.t.val) ∧ Ce X q 1 (.bool g.t.mut_) ∧ Ce X q 2 (.int .i64 g.v.t) ∧ Ce X q 3 (.int .u64 g.v.n)) [] (List.range 8) [5, 6] (HX.o _ G2.o.drew) ?_
 refine rC ?_
 clear z0 z1 z2 z3
 refine wpO_eff rfl rfl (fun K hK => ?_)
 simp only [zA]
 refine wp_store_mid 41 _ _ (by rfl) p 0 #[.int .i64 g.t.val, .bool g.t.mut_] (by rfl) (by rfl) (there_blk G0.o.drew rfl) kr (by simp [Value.oneCell']) ?_
 have F3 := hid (Fr.setCells' (M := fun k => k = p) (fun _ => rfl) [.int .i64 g.t.val, .bool g.t.mut_] 0 _ (Fr.refl _ W).drew)
 have N0 : Blk (W.drew.setCells p 0 [.int .i64 g.t.val, .bool g.t.mut_]) p 41 #[.int .i64 g.t.val, .bool g.t.mut_] := (G0.o.drew.set_ 0 _).set_ 1 _
 have N1 := G1.o.fr F3.o (fun e => by omega)
 have N2 := G2.o.fr F3.o n1
 have F4 := hid (Fr.setCells' (a := w) (b := p) (M := No) (fun h => absurd h (by have := HPW.o; omega)) [.int .i64 g.t.val, .bool g.t.mut_] 0 W.drew F2.o.drew)
 generalize W.drew.setCells p 0 [.int .i64 g.t.val, .bool g.t.mut_] = X1 at *
 refine hK _ _ (fun _ => HX.o _ N2) ?_
 clear hK K
 refine wpO_eff rfl rfl (fun K hK => ?_)
 simp only [zA]
 refine wp_store_mid 84 _ _ (by rfl) (p + 1) 0 #[.int .i64 g.v.t, .int .u64 g.v.n] (by rfl) (by rfl) (there_blk N1 rfl) kr (by simp [Value.oneCell']) ?_
 have F5 := hid (Fr.setCells' (M := fun k => k = p + 1) (fun _ => rfl) [.int .i64 g.v.t, .int .u64 g.v.n] 0 _ (Fr.refl _ X1))
 have M1 : Blk (X1.setCells (p + 1) 0 [.int .i64 g.v.t, .int .u64 g.v.n]) (p + 1) 84 #[.int .i64 g.v.t, .int .u64 g.v.n] := (N1.set_ 0 _).set_ 1 _
 have M0 := N0.fr F5.o (fun e => by omega)
 have M2 := N2.fr F5.o n2
 have F6 := hid (Fr.setCells' (a := w) (b := p + 1) (M := No) (fun h => absurd h (by have := HPW.o; omega)) [.int .i64 g.v.t, .int .u64 g.v.n] 0 X1 F4.o)
 generalize X1.setCells (p + 1) 0 [.int .i64 g.v.t, .int .u64 g.v.n] = X2 at *
 refine hK _ _ (fun _ => HX.o _ M2) ?_
 clear hK K
 refine rC ?_
 refine wpO_nil ?_
 have y0 := M0.cell 0
 have y1 := M0.cell 1
 have y2 := M1.cell 0
 have y3 := M1.cell 1
 clear M0 M1 M2 N0 N1 N2 F5 F3 G0 G1 G2 HX
 go_wp2
 exact bodyPost_ret (v := .tuple #[.agg #[.int .i64 g.t.val, .bool g.t.mut_], .agg #[.int .i64 g.v.t, .int .u64 g.v.n], .bool ok]) (by simp [results, Tryz.results78, go_sem, y0, y1, y2, y3, HOK.o]) rfl ⟨rfl, F6.o⟩
end
end Go.Proofs.YthggdemiddjlgaaGreat
