/- The reference's contract: Func. -/
import Derived.Test.YtfngopoaegofhaaSpY
import Derived.Test.YtfngopoaegofhaaSpU
namespace Go.Proofs.Ytfngopoaegofhaa
open Go.RowKit

theorem fnSet_els {X : World} {S : Nat → Prop} {q : Nat} {f : Fn} {A1 A2 : Option Addr} (u v : Value) (h1 : tI.els X S A1 f.params) (h2 : tI.els X S A2 f.results) (hS : ∀ k, S k → k < X.heap.size ∧ k ≠ q) :
    tI.els ((X.setCell ⟨q, 0, none⟩ u).setCell ⟨q, 1, none⟩ v) (· < ((X.setCell ⟨q, 0, none⟩ u).setCell ⟨q, 1, none⟩ v).heap.size) A1 f.params ∧ tI.els ((X.setCell ⟨q, 0, none⟩ u).setCell ⟨q, 1, none⟩ v) (· < ((X.setCell ⟨q, 0, none⟩ u).setCell ⟨q, 1, none⟩ v).heap.size) A2 f.results := by
  have FZ := ((Fr.refl (One q) X).setCell ⟨q, 0, none⟩ u (fun _ => rfl)).setCell ⟨q, 1, none⟩ v (fun _ => rfl)
  exact ⟨(h1.fr FZ (fun k hk => ⟨(hS k hk).1, (hS k hk).2⟩)).more (fun k hk => Nat.lt_of_lt_of_le (hS k hk).1 FZ.size), (h2.fr FZ (fun k hk => ⟨(hS k hk).1, (hS k hk).2⟩)).more (fun k hk => Nat.lt_of_lt_of_le (hS k hk).1 FZ.size)⟩
set_option maxRecDepth 100000 in
set_option maxHeartbeats 3200000 in
theorem rFunc_any (nt ni nf nta nm ng ne nel nd nc ct ci cf cta cm cg ce cel cd cc : Nat) (At Ai Af Ata Am Ag Ae Ael Ad Ac : Option Addr) (bst : Bool) (vst : Int) (w : World) (m : Md) (i : Int) (S : Nat → Prop) (h : tIm.els w S Ai m.imports) (h2 : tCd.els w S Af m.funcs) (h3 : tFn.els w S At m.types) (hS : ∀ k, S k → k < w.heap.size) (hn : Hid (m.imports.length = ni)) (hn2 : Hid (m.funcs.length = nf)) (hnt : Hid (m.types.length = nt)) (hl : ni ≤ 101) (hl2 : nf ≤ 100) (hl3 : nt ≤ 100) (hi : -9223372036854775808 ≤ i ∧ i ≤ 9223372036854775807) :
    Calls Try.prog 16 #[.agg #[.slice At nt ct, .slice Ai ni ci, .slice Af nf cf, .slice Ata nta cta, .slice Am nm cm, .slice Ag ng cg, .slice Ae ne ce, .bool bst, .int .i64 vst, .slice Ael nel cel, .slice Ad nd cd, .slice Ac nc cc], .int .i64 i] w (RfTo (funcD (SpV.of m) i).1 (funcD (SpV.of m) i).2 w) := by
  have F0 := hid (((Fr.refl No w).alloc (.cells #[.slice At nt ct, .slice Ai ni ci, .slice Af nf cf, .slice Ata nta cta, .slice Am nm cm, .slice Ag ng cg, .slice Ae ne ce, .bool bst, .int .i64 vst, .slice Ael nel cel, .slice Ad nd cd, .slice Ac nc cc] 33)).alloc (.cells #[.slice none 0 0, .slice none 0 0] 38))
  have G0 := hid ((Blk.new w 33 #[.slice At nt ct, .slice Ai ni ci, .slice Af nf cf, .slice Ata nta cta, .slice Am nm cm, .slice Ag ng cg, .slice Ae ne ce, .bool bst, .int .i64 vst, .slice Ael nel cel, .slice Ad nd cd, .slice Ac nc cc]).alloc (.cells #[.slice none 0 0, .slice none 0 0] 38))
  have G1 := hid (Blk.new (w.alloc (.cells #[.slice At nt ct, .slice Ai ni ci, .slice Af nf cf, .slice Ata nta cta, .slice Am nm cm, .slice Ag ng cg, .slice Ae ne ce, .bool bst, .int .i64 vst, .slice Ael nel cel, .slice Ad nd cd, .slice Ac nc cc] 33)) 38 #[.slice none 0 0, .slice none 0 0])
  have hsz : (w.alloc (.cells #[.slice At nt ct, .slice Ai ni ci, .slice Af nf cf, .slice Ata nta cta, .slice Am nm cm, .slice Ag ng cg, .slice Ae ne ce, .bool bst, .int .i64 vst, .slice Ael nel cel, .slice Ad nd cd, .slice Ac nc cc] 33)).heap.size = w.heap.size + 1 := by simp
  rw [hsz] at G1
  have HNT := hid (fun W (F : Fr No w W) => rNth_any nt ni nf nta nm ng ne nel nd nc ct ci cf cta cm cg ce cel cd cc At Ai Af Ata Am Ag Ae Ael Ad Ac bst vst W m.imports 0 i S (h.fr F (fun k hk => ⟨hS k hk, fun x => x⟩)) (fun k hk => Nat.lt_of_lt_of_le (hS k hk) F.size) hn hl hi)
  have HOW := hid (fun W (F : Fr No w W) => rOwn_any nt ni nf nta nm ng ne nel nd nc ct ci cf cta cm cg ce cel cd cc At Ai Af Ata Am Ag Ae Ael Ad Ac bst vst W m.imports 0 i nf S (h.fr F (fun k hk => ⟨hS k hk, fun x => x⟩)) (fun k hk => Nat.lt_of_lt_of_le (hS k hk) F.size) hn hl hi.2)
  have HEL := hid (fun W (F : Fr No w W) => h2.fr F (fun k hk => ⟨hS k hk, fun x => x⟩))
  have HTY := hid (fun (j : Int) W (F : Fr No w W) => rType_any nt ni nf nta nm ng ne nel nd nc ct ci cf cta cm cg ce cel cd cc At Ai Af Ata Am Ag Ae Ael Ad Ac bst vst W m.types j S (h3.fr F (fun k hk => ⟨hS k hk, fun x => x⟩)) (fun k hk => Nat.lt_of_lt_of_le (hS k hk) F.size) hnt hl3)
  have HS := hid hS
  have hn3 : m.funcs.length = nf := by have := hn2.out; simpa using this
  have HC := num_cases m.imports 0 (·.func) 0 (m.funcs.map (·.type)) i
  simp only [funcD, (of_fields m).2.1, (of_fields m).1]
  rcases HC with ⟨x, e1, e2⟩ | ⟨e1, ⟨k, hk, e2, e3⟩ | ⟨e2, e3⟩⟩
  · rw [e1] at HNT
    rw [e2]
    simp only [imv, if_true] at HNT ⊢
    have HT := hid (HTY.out x.func)
    generalize atD zFn m.types x.func = qq at *
    obtain ⟨y, ok⟩ := qq
    clear h h2 h3 hS hn hn2 HOW HEL hsz e1 e2 hn3 HTY hnt
    go_enter Try.func16, Try.ntmps16
    go_wp2_with fail
    generalize (w.alloc (.cells #[.slice At nt ct, .slice Ai ni ci, .slice Af nf cf, .slice Ata nta cta, .slice Am nm cm, .slice Ag ng cg, .slice Ae ne ce, .bool bst, .int .i64 vst, .slice Ael nel cel, .slice Ad nd cd, .slice Ac nc cc] 33)).alloc (.cells #[.slice none 0 0, .slice none 0 0] 38) = W0 at *
    refine (HNT.out _ F0.out).mono ?_
    rintro e w1 ⟨rfl, f1⟩
    have F1 := hid f1
    have G2 := hid (G1.out.fr f1 (fun x => x))
    have G3 := hid (G0.out.fr f1 (fun x => x))
    have hw0 : w.heap.size < w1.heap.size := G3.out.lt
    obtain ⟨x0, x1, x2, x3, x4, x5, x6, x7, x8, x9, x10, x11⟩ : w1.cell? ⟨w.heap.size, 0, none⟩ = some (.slice At nt ct) ∧ w1.cell? ⟨w.heap.size, 1, none⟩ = some (.slice Ai ni ci) ∧ w1.cell? ⟨w.heap.size, 2, none⟩ = some (.slice Af nf cf) ∧ w1.cell? ⟨w.heap.size, 3, none⟩ = some (.slice Ata nta cta) ∧ w1.cell? ⟨w.heap.size, 4, none⟩ = some (.slice Am nm cm) ∧ w1.cell? ⟨w.heap.size, 5, none⟩ = some (.slice Ag ng cg) ∧ w1.cell? ⟨w.heap.size, 6, none⟩ = some (.slice Ae ne ce) ∧ w1.cell? ⟨w.heap.size, 7, none⟩ = some (.bool bst) ∧ w1.cell? ⟨w.heap.size, 8, none⟩ = some (.int .i64 vst) ∧ w1.cell? ⟨w.heap.size, 9, none⟩ = some (.slice Ael nel cel) ∧ w1.cell? ⟨w.heap.size, 10, none⟩ = some (.slice Ad nd cd) ∧ w1.cell? ⟨w.heap.size, 11, none⟩ = some (.slice Ac nc cc) := by
      have h := G3.out
      exact ⟨h.cell 0, h.cell 1, h.cell 2, h.cell 3, h.cell 4, h.cell 5, h.cell 6, h.cell 7, h.cell 8, h.cell 9, h.cell 10, h.cell 11⟩
    clear f1 HNT
    go_wp2_with fail
    refine (HT.out _ ((F0.out.trans F1.out (fun _ _ h => h)).alloc _)).mono ?_
    rintro e w2 ⟨D1, g1, D2, g2, rfl, r1, r2, f2⟩
    have F2 := hid f2
    have R1 := hid r1
    have R2 := hid r2
    have G4 := hid ((G2.out.alloc _).fr f2 (fun x => x))
    have hw2 : w.heap.size + 1 < w2.heap.size := G4.out.lt
    clear x0 x1 x2 x3 x4 x5 x6 x7 x8 x9 x10 x11
    clear f2 r1 r2 HT
    have z0 : w2.cell? ⟨w.heap.size + 1, 0, none⟩ = some (.slice none 0 0) := G4.out.cell 0
    have z1 : w2.cell? ⟨w.heap.size + 1, 1, none⟩ = some (.slice none 0 0) := G4.out.cell 1
    have q0 : w2.frozen? ⟨w.heap.size + 1, 0, none⟩ = false := G4.out.frozen 0
    have q1 : w2.frozen? ⟨w.heap.size + 1, 1, none⟩ = false := G4.out.frozen 1
    go_wp2
    refine bodyPost_ret (v := .tuple #[.agg #[.slice D1 y.params.length g1, .slice D2 y.results.length g2], .bool ok]) (by simp [results, Try.results16, go_sem, z0, z1]) rfl ?_
    have FZ := ((Fr.refl (One (w.heap.size + 1)) w2).setCell ⟨w.heap.size + 1, 0, none⟩ (.slice D1 y.params.length g1) (fun _ => rfl)).setCell ⟨w.heap.size + 1, 1, none⟩ (.slice D2 y.results.length g2) (fun _ => rfl)
    have hrr := fnSet_els (f := y) (q := w.heap.size + 1) (.slice D1 y.params.length g1) (.slice D2 y.results.length g2) R1.out R2.out (fun k hk => ⟨by have := HS.out k hk; omega, by have := HS.out k hk; omega⟩)
    exact ⟨D1, g1, D2, g2, rfl, hrr.1, hrr.2, (((F0.out.trans F1.out (fun _ _ h => h)).alloc _).trans F2.out (fun _ _ h => h)).trans FZ (fun i hi h => by simp only [One] at h; omega)⟩
  · have hkl : k < m.funcs.length := by simpa using hk
    rw [e1] at HNT
    simp only [List.length_map] at e2
    rw [hn3] at e2
    rw [e2] at HOW
    rw [e3]
    simp only [imv, zIm, zTb, zLim, zGl] at HNT
    have hky : (m.funcs.map (·.type))[k] = m.funcs[k].type := by simp
    simp only [hky, if_true]
    have i0 : (0 : Int) ≤ k := by omega
    have i1 : (k : Int) < nf := by have := hn2.out; omega
    have HAT := hid (fun W (F : Fr No w W) => Cd_at (HEL.out W F) k hkl)
    generalize m.funcs[k] = c at *
    have HT := hid (HTY.out c.type)
    generalize atD zFn m.types c.type = qq at *
    obtain ⟨y, ok⟩ := qq
    clear h h2 h3 hS hn hn2 HEL hsz e1 e2 e3 hn3 hky HTY hnt
    go_enter Try.func16, Try.ntmps16
    go_wp2_with fail
    generalize (w.alloc (.cells #[.slice At nt ct, .slice Ai ni ci, .slice Af nf cf, .slice Ata nta cta, .slice Am nm cm, .slice Ag ng cg, .slice Ae ne ce, .bool bst, .int .i64 vst, .slice Ael nel cel, .slice Ad nd cd, .slice Ac nc cc] 33)).alloc (.cells #[.slice none 0 0, .slice none 0 0] 38) = W0 at *
    refine (HNT.out _ F0.out).mono ?_
    rintro e w1 ⟨rfl, f1⟩
    have F1 := hid f1
    have G2 := hid (G1.out.fr f1 (fun x => x))
    have G3 := hid (G0.out.fr f1 (fun x => x))
    have hw0 : w.heap.size < w1.heap.size := G3.out.lt
    obtain ⟨x0, x1, x2, x3, x4, x5, x6, x7, x8, x9, x10, x11⟩ : w1.cell? ⟨w.heap.size, 0, none⟩ = some (.slice At nt ct) ∧ w1.cell? ⟨w.heap.size, 1, none⟩ = some (.slice Ai ni ci) ∧ w1.cell? ⟨w.heap.size, 2, none⟩ = some (.slice Af nf cf) ∧ w1.cell? ⟨w.heap.size, 3, none⟩ = some (.slice Ata nta cta) ∧ w1.cell? ⟨w.heap.size, 4, none⟩ = some (.slice Am nm cm) ∧ w1.cell? ⟨w.heap.size, 5, none⟩ = some (.slice Ag ng cg) ∧ w1.cell? ⟨w.heap.size, 6, none⟩ = some (.slice Ae ne ce) ∧ w1.cell? ⟨w.heap.size, 7, none⟩ = some (.bool bst) ∧ w1.cell? ⟨w.heap.size, 8, none⟩ = some (.int .i64 vst) ∧ w1.cell? ⟨w.heap.size, 9, none⟩ = some (.slice Ael nel cel) ∧ w1.cell? ⟨w.heap.size, 10, none⟩ = some (.slice Ad nd cd) ∧ w1.cell? ⟨w.heap.size, 11, none⟩ = some (.slice Ac nc cc) := by
      have h := G3.out
      exact ⟨h.cell 0, h.cell 1, h.cell 2, h.cell 3, h.cell 4, h.cell 5, h.cell 6, h.cell 7, h.cell 8, h.cell 9, h.cell 10, h.cell 11⟩
    clear f1 HNT
    go_wp2_with fail
    refine (HOW.out _ ((F0.out.trans F1.out (fun _ _ h => h)).alloc _)).mono ?_
    rintro e wm ⟨rfl, f2⟩
    have FM := hid f2
    have GM := hid ((G2.out.alloc _).fr f2 (fun x => x))
    have GMM := hid ((G3.out.alloc _).fr f2 (fun x => x))
    have FW := hid (((F0.out.trans F1.out (fun _ _ h => h)).alloc _).trans f2 (fun _ _ h => h))
    clear x0 x1 x2 x3 x4 x5 x6 x7 x8 x9 x10 x11 f2 HOW
    obtain ⟨b, o, _, _, _, _, rfl, hb, _⟩ := HAT.out wm FW.out
    have HX : Hid (∀ X, Fr (One (w.heap.size + 1)) wm X → X.cell? ⟨w.heap.size, 0, none⟩ = some (.slice At nt ct) ∧ X.cell? ⟨w.heap.size, 1, none⟩ = some (.slice Ai ni ci) ∧ X.cell? ⟨w.heap.size, 2, none⟩ = some (.slice (some ⟨b, o, none⟩) nf cf) ∧ X.cell? ⟨w.heap.size, 3, none⟩ = some (.slice Ata nta cta) ∧ X.cell? ⟨w.heap.size, 4, none⟩ = some (.slice Am nm cm) ∧ X.cell? ⟨w.heap.size, 5, none⟩ = some (.slice Ag ng cg) ∧ X.cell? ⟨w.heap.size, 6, none⟩ = some (.slice Ae ne ce) ∧ X.cell? ⟨w.heap.size, 7, none⟩ = some (.bool bst) ∧ X.cell? ⟨w.heap.size, 8, none⟩ = some (.int .i64 vst) ∧ X.cell? ⟨w.heap.size, 9, none⟩ = some (.slice Ael nel cel) ∧ X.cell? ⟨w.heap.size, 10, none⟩ = some (.slice Ad nd cd) ∧ X.cell? ⟨w.heap.size, 11, none⟩ = some (.slice Ac nc cc) ∧ X.cell? ⟨b, o + k * 3, none⟩ = some (.int .i64 c.type)) := fun X f => by
      have h := GMM.out.fr f (fun x => by simp only [One] at x; omega)
      obtain ⟨b', o', _, _, _, _, e', _, h'', _⟩ := HAT.out wm FW.out
      cases e'
      have hbw := HS.out _ hb
      have hc := (f.cell (p := ⟨b, o + k * 3, none⟩) (Nat.lt_of_lt_of_le hbw FW.out.size) (fun x => by simp only [One] at x; omega)).trans h''
      exact ⟨h.cell 0, h.cell 1, h.cell 2, h.cell 3, h.cell 4, h.cell 5, h.cell 6, h.cell 7, h.cell 8, h.cell 9, h.cell 10, h.cell 11, hc⟩
    clear hb HAT
    go_wp2_with fail
    refine wp_region_ord (fun X => X.cell? ⟨w.heap.size, 0, none⟩ = some (.slice At nt ct) ∧ X.cell? ⟨w.heap.size, 1, none⟩ = some (.slice Ai ni ci) ∧ X.cell? ⟨w.heap.size, 2, none⟩ = some (.slice (some ⟨b, o, none⟩) nf cf) ∧ X.cell? ⟨w.heap.size, 3, none⟩ = some (.slice Ata nta cta) ∧ X.cell? ⟨w.heap.size, 4, none⟩ = some (.slice Am nm cm) ∧ X.cell? ⟨w.heap.size, 5, none⟩ = some (.slice Ag ng cg) ∧ X.cell? ⟨w.heap.size, 6, none⟩ = some (.slice Ae ne ce) ∧ X.cell? ⟨w.heap.size, 7, none⟩ = some (.bool bst) ∧ X.cell? ⟨w.heap.size, 8, none⟩ = some (.int .i64 vst) ∧ X.cell? ⟨w.heap.size, 9, none⟩ = some (.slice Ael nel cel) ∧ X.cell? ⟨w.heap.size, 10, none⟩ = some (.slice Ad nd cd) ∧ X.cell? ⟨w.heap.size, 11, none⟩ = some (.slice Ac nc cc) ∧ X.cell? ⟨b, o + k * 3, none⟩ = some (.int .i64 c.type)) [] [(0, true), (1, true), (2, true), (3, true), (4, true), (5, true), (6, true), (7, false), (8, true), (9, true), (10, false), (11, true)] (by kernel_rfl) (by kernel_rfl) (by kernel_rfl) rfl (HX.out _ (Fr.refl _ _).drew) ?_
    repeat (first
      | (refine wpO_skip rfl rfl ?_; simp only [List.getElem_toArray, List.getElem_cons_succ, List.getElem_cons_zero, Act.put, List.setIfInBounds_toArray, List.set_cons_zero, List.set_cons_succ])
      | (refine wpO_call rfl rfl ?_; simp only [List.getElem_toArray, List.getElem_cons_succ, List.getElem_cons_zero]; apply Exists.intro; refine ⟨fun X hX => ?_, ?_⟩
         · (have s0 := hX.1; have s1 := hX.2.1; have s2 := hX.2.2.1; have s3 := hX.2.2.2.1; have s4 := hX.2.2.2.2.1; have s5 := hX.2.2.2.2.2.1; have s6 := hX.2.2.2.2.2.2.1; have s7 := hX.2.2.2.2.2.2.2.1; have s8 := hX.2.2.2.2.2.2.2.2.1; have s9 := hX.2.2.2.2.2.2.2.2.2.1; have s10 := hX.2.2.2.2.2.2.2.2.2.2.1; have s11 := hX.2.2.2.2.2.2.2.2.2.2.2.1; have s12 := hX.2.2.2.2.2.2.2.2.2.2.2.2; go_simp; exact stillUpon_value)
         simp only [Act.put, List.setIfInBounds_toArray, List.set_cons_zero, List.set_cons_succ]))
    refine wpO_eff rfl rfl (fun K hK => ?_)
    simp only [List.getElem_toArray, List.getElem_cons_succ, List.getElem_cons_zero]
    go_simp
    refine (HT.out _ FW.out.drew).mono ?_
    rintro e w2 ⟨D1, g1, D2, g2, rfl, r1, r2, f2⟩
    have F2 := hid f2
    have R1 := hid r1
    have R2 := hid r2
    have G4 := hid (GM.out.drew.fr f2 (fun x => x))
    have hw2 : w.heap.size + 1 < w2.heap.size := G4.out.lt
    clear f2 r1 r2 HT
    refine hK _ _ (fun _ => HX.out _ ((Fr.refl (One (w.heap.size + 1)) wm).drew.trans (F2.out.mono (fun _ _ x => x.elim)) (fun _ _ h => h))) ?_
    clear hK K
    repeat (first
      | (refine wpO_skip rfl rfl ?_; simp only [List.getElem_toArray, List.getElem_cons_succ, List.getElem_cons_zero, Act.put, List.setIfInBounds_toArray, List.set_cons_zero, List.set_cons_succ])
      | (refine wpO_call rfl rfl ?_; simp only [List.getElem_toArray, List.getElem_cons_succ, List.getElem_cons_zero]; apply Exists.intro; refine ⟨fun X hX => ?_, ?_⟩
         · (have s0 := hX.1; have s1 := hX.2.1; have s2 := hX.2.2.1; have s3 := hX.2.2.2.1; have s4 := hX.2.2.2.2.1; have s5 := hX.2.2.2.2.2.1; have s6 := hX.2.2.2.2.2.2.1; have s7 := hX.2.2.2.2.2.2.2.1; have s8 := hX.2.2.2.2.2.2.2.2.1; have s9 := hX.2.2.2.2.2.2.2.2.2.1; have s10 := hX.2.2.2.2.2.2.2.2.2.2.1; have s11 := hX.2.2.2.2.2.2.2.2.2.2.2.1; have s12 := hX.2.2.2.2.2.2.2.2.2.2.2.2; go_simp; exact stillUpon_value)
         simp only [Act.put, List.setIfInBounds_toArray, List.set_cons_zero, List.set_cons_succ]))
    have z0 : w2.cell? ⟨w.heap.size + 1, 0, none⟩ = some (.slice none 0 0) := G4.out.cell 0
    have z1 : w2.cell? ⟨w.heap.size + 1, 1, none⟩ = some (.slice none 0 0) := G4.out.cell 1
    have q0 : w2.frozen? ⟨w.heap.size + 1, 0, none⟩ = false := G4.out.frozen 0
    have q1 : w2.frozen? ⟨w.heap.size + 1, 1, none⟩ = false := G4.out.frozen 1
    refine wpO_eff rfl rfl (fun K hK => ?_)
    simp only [List.getElem_toArray, List.getElem_cons_succ, List.getElem_cons_zero]
    go_simp
    refine hK _ _ (fun _ => HX.out _ ((((Fr.refl (One (w.heap.size + 1)) wm).drew.trans (F2.out.mono (fun _ _ x => x.elim)) (fun _ _ h => h)).setCell ⟨w.heap.size + 1, 0, none⟩ _ (fun _ => rfl)).setCell ⟨w.heap.size + 1, 1, none⟩ _ (fun _ => rfl))) ?_
    clear hK K
    repeat (first
      | (refine wpO_skip rfl rfl ?_; simp only [List.getElem_toArray, List.getElem_cons_succ, List.getElem_cons_zero, Act.put, List.setIfInBounds_toArray, List.set_cons_zero, List.set_cons_succ])
      | (refine wpO_call rfl rfl ?_; simp only [List.getElem_toArray, List.getElem_cons_succ, List.getElem_cons_zero]; apply Exists.intro; refine ⟨fun X hX => ?_, ?_⟩
         · (have s0 := hX.1; have s1 := hX.2.1; have s2 := hX.2.2.1; have s3 := hX.2.2.2.1; have s4 := hX.2.2.2.2.1; have s5 := hX.2.2.2.2.2.1; have s6 := hX.2.2.2.2.2.2.1; have s7 := hX.2.2.2.2.2.2.2.1; have s8 := hX.2.2.2.2.2.2.2.2.1; have s9 := hX.2.2.2.2.2.2.2.2.2.1; have s10 := hX.2.2.2.2.2.2.2.2.2.2.1; have s11 := hX.2.2.2.2.2.2.2.2.2.2.2.1; have s12 := hX.2.2.2.2.2.2.2.2.2.2.2.2; go_simp; exact stillUpon_value)
         simp only [Act.put, List.setIfInBounds_toArray, List.set_cons_zero, List.set_cons_succ]))
    refine wpO_nil ?_
    go_wp2
    refine bodyPost_ret (v := .tuple #[.agg #[.slice D1 y.params.length g1, .slice D2 y.results.length g2], .bool ok]) (by simp [results, Try.results16, go_sem, z0, z1]) rfl ?_
    have FZ := ((Fr.refl (One (w.heap.size + 1)) w2).setCell ⟨w.heap.size + 1, 0, none⟩ (.slice D1 y.params.length g1) (fun _ => rfl)).setCell ⟨w.heap.size + 1, 1, none⟩ (.slice D2 y.results.length g2) (fun _ => rfl)
    have hrr := fnSet_els (f := y) (q := w.heap.size + 1) (.slice D1 y.params.length g1) (.slice D2 y.results.length g2) R1.out R2.out (fun k hk => ⟨by have := HS.out k hk; omega, by have := HS.out k hk; omega⟩)
    exact ⟨D1, g1, D2, g2, rfl, hrr.1, hrr.2, (FW.out.drew.trans F2.out (fun _ _ h => h)).trans FZ (fun i hi h => by simp only [One] at h; omega)⟩
  · rw [e1] at HNT
    simp only [List.length_map] at e2
    rw [hn3] at e2
    rw [e2] at HOW
    rw [e3]
    simp only [imv, zIm, zTb, zLim, zGl] at HNT
    simp only [Bool.false_eq_true, if_false]
    clear h h2 h3 hS hn hn2 HEL hsz e1 e2 e3 hn3 HTY hnt
    go_enter Try.func16, Try.ntmps16
    go_wp2_with fail
    generalize (w.alloc (.cells #[.slice At nt ct, .slice Ai ni ci, .slice Af nf cf, .slice Ata nta cta, .slice Am nm cm, .slice Ag ng cg, .slice Ae ne ce, .bool bst, .int .i64 vst, .slice Ael nel cel, .slice Ad nd cd, .slice Ac nc cc] 33)).alloc (.cells #[.slice none 0 0, .slice none 0 0] 38) = W0 at *
    refine (HNT.out _ F0.out).mono ?_
    rintro e w1 ⟨rfl, f1⟩
    have F1 := hid f1
    have G2 := hid (G1.out.fr f1 (fun x => x))
    have G3 := hid (G0.out.fr f1 (fun x => x))
    have hw0 : w.heap.size < w1.heap.size := G3.out.lt
    obtain ⟨x0, x1, x2, x3, x4, x5, x6, x7, x8, x9, x10, x11⟩ : w1.cell? ⟨w.heap.size, 0, none⟩ = some (.slice At nt ct) ∧ w1.cell? ⟨w.heap.size, 1, none⟩ = some (.slice Ai ni ci) ∧ w1.cell? ⟨w.heap.size, 2, none⟩ = some (.slice Af nf cf) ∧ w1.cell? ⟨w.heap.size, 3, none⟩ = some (.slice Ata nta cta) ∧ w1.cell? ⟨w.heap.size, 4, none⟩ = some (.slice Am nm cm) ∧ w1.cell? ⟨w.heap.size, 5, none⟩ = some (.slice Ag ng cg) ∧ w1.cell? ⟨w.heap.size, 6, none⟩ = some (.slice Ae ne ce) ∧ w1.cell? ⟨w.heap.size, 7, none⟩ = some (.bool bst) ∧ w1.cell? ⟨w.heap.size, 8, none⟩ = some (.int .i64 vst) ∧ w1.cell? ⟨w.heap.size, 9, none⟩ = some (.slice Ael nel cel) ∧ w1.cell? ⟨w.heap.size, 10, none⟩ = some (.slice Ad nd cd) ∧ w1.cell? ⟨w.heap.size, 11, none⟩ = some (.slice Ac nc cc) := by
      have h := G3.out
      exact ⟨h.cell 0, h.cell 1, h.cell 2, h.cell 3, h.cell 4, h.cell 5, h.cell 6, h.cell 7, h.cell 8, h.cell 9, h.cell 10, h.cell 11⟩
    clear f1 HNT
    go_wp2_with fail
    refine (HOW.out _ ((F0.out.trans F1.out (fun _ _ h => h)).alloc _)).mono ?_
    rintro e w2 ⟨rfl, f2⟩
    have F2 := hid f2
    have G4 := hid ((G2.out.alloc _).fr f2 (fun x => x))
    have hw2 : w.heap.size + 1 < w2.heap.size := G4.out.lt
    clear x0 x1 x2 x3 x4 x5 x6 x7 x8 x9 x10 x11
    have z0 : w2.cell? ⟨w.heap.size + 1, 0, none⟩ = some (.slice none 0 0) := G4.out.cell 0
    have z1 : w2.cell? ⟨w.heap.size + 1, 1, none⟩ = some (.slice none 0 0) := G4.out.cell 1
    have q0 : w2.frozen? ⟨w.heap.size + 1, 0, none⟩ = false := G4.out.frozen 0
    have q1 : w2.frozen? ⟨w.heap.size + 1, 1, none⟩ = false := G4.out.frozen 1
    clear f2 HOW
    go_wp2
    refine bodyPost_ret (v := .tuple #[.agg #[.slice none 0 0, .slice none 0 0], .bool false]) (by simp [results, Try.results16, go_sem, z0, z1]) rfl ?_
    have FZ := ((Fr.refl (One (w.heap.size + 1)) w2).setCell ⟨w.heap.size + 1, 0, none⟩ (.slice none 0 0) (fun _ => rfl)).setCell ⟨w.heap.size + 1, 1, none⟩ (.slice none 0 0) (fun _ => rfl)
    exact ⟨none, 0, none, 0, rfl, .inl rfl, .inl rfl, (((F0.out.trans F1.out (fun _ _ h => h)).alloc _).trans F2.out (fun _ _ h => h)).trans FZ (fun i hi h => by simp only [One] at h; omega)⟩
end Go.Proofs.Ytfngopoaegofhaa
