/- The reference's contracts: Table, Mem, Global. -/
import Derived.Test.YtfngopoaegofhaaSpO
namespace Go.Proofs.Ytfngopoaegofhaa
open Go.RowKit

theorem num_cases {α : Type} (ims : List Im) (kd : Int) (f : Im → α) (d : α) (l : List α) (i : Int) :
    (∃ x, atD zIm (ofKind ims kd) i = (x, true) ∧ atD d ((ofKind ims kd).map f ++ l) i = (f x, true)) ∨
    (atD zIm (ofKind ims kd) i = (zIm, false) ∧ ((∃ k : Nat, ∃ h : k < l.length, ownI (impN ims kd) l.length i = k ∧ atD d ((ofKind ims kd).map f ++ l) i = (l[k], true)) ∨
      (ownI (impN ims kd) l.length i = -1 ∧ atD d ((ofKind ims kd).map f ++ l) i = (d, false)))) := by
  rw [← ofKind_len]
  generalize ofKind ims kd = o
  rcases at_cases o i with ⟨k, hk, rfl⟩ | hi | ⟨hi0, hi⟩
  · refine .inl ⟨o[k], atD_yes hk, ?_⟩
    rw [atD_yes (by simp; omega), List.getElem_append_left (by simpa using hk), List.getElem_map]
  · refine .inr ⟨atD_no (.inl hi), .inr ⟨by rw [ownI, if_pos hi], atD_no (.inl hi)⟩⟩
  · refine .inr ⟨atD_no (.inr hi), ?_⟩
    by_cases hk : i - o.length < l.length
    · refine .inl ⟨(i - o.length).toNat, by omega, ?_, ?_⟩
      · rw [ownI, if_neg hi0, if_neg (by omega), if_neg (by omega)]; omega
      · obtain ⟨q, rfl⟩ : ∃ q : Nat, i = q := ⟨i.toNat, by omega⟩
        rw [atD_yes (by simp; omega), List.getElem_append_right (by simp; omega)]
        congr 2
        simp
    · refine .inr ⟨by rw [ownI, if_neg hi0, if_neg (by omega), if_pos (by omega)], atD_no (.inr (by simp; omega))⟩
theorem numLen {α : Type} (ims : List Im) (kd : Int) (f : Im → α) (l : List α) : ((ofKind ims kd).map f ++ l).length = impN ims kd + l.length := by simp [ofKind_len]

set_option maxRecDepth 100000 in
set_option maxHeartbeats 1600000 in
theorem rTable_any (nt ni nf nta nm ng ne nel nd nc ct ci cf cta cm cg ce cel cd cc : Nat) (At Ai Af Ata Am Ag Ae Ael Ad Ac : Option Addr) (bst : Bool) (vst : Int) (w : World) (ims : List Im) (l : List Tb) (i : Int) (S : Nat → Prop) (h : tIm.els w S Ai ims) (h2 : tTb.els w S Ata l) (hS : ∀ k, S k → k < w.heap.size) (hn : Hid (ims.length = ni)) (hn2 : Hid (l.length = nta)) (hl : ni ≤ 101) (hl2 : nta ≤ 50) (hi : -9223372036854775808 ≤ i ∧ i ≤ 9223372036854775807) :
    Calls Try.prog 34 #[.agg #[.slice At nt ct, .slice Ai ni ci, .slice Af nf cf, .slice Ata nta cta, .slice Am nm cm, .slice Ag ng cg, .slice Ae ne ce, .bool bst, .int .i64 vst, .slice Ael nel cel, .slice Ad nd cd, .slice Ac nc cc], .int .i64 i] w fun e w' => e = .returned (.tuple #[cTb (atD zTb ((ofKind ims 1).map (·.table) ++ l) i).1, .bool (atD zTb ((ofKind ims 1).map (·.table) ++ l) i).2]) ∧ Fr No w w' := by
  have F0 := hid (((Fr.refl No w).alloc (.cells #[.slice At nt ct, .slice Ai ni ci, .slice Af nf cf, .slice Ata nta cta, .slice Am nm cm, .slice Ag ng cg, .slice Ae ne ce, .bool bst, .int .i64 vst, .slice Ael nel cel, .slice Ad nd cd, .slice Ac nc cc] 33)).alloc (.cells #[.int .i64 0, .int .i64 0, .int .i64 0, .bool false] 60))
  have G0 := hid ((Blk.new w 33 #[.slice At nt ct, .slice Ai ni ci, .slice Af nf cf, .slice Ata nta cta, .slice Am nm cm, .slice Ag ng cg, .slice Ae ne ce, .bool bst, .int .i64 vst, .slice Ael nel cel, .slice Ad nd cd, .slice Ac nc cc]).alloc (.cells #[.int .i64 0, .int .i64 0, .int .i64 0, .bool false] 60))
  have G1 := hid (Blk.new (w.alloc (.cells #[.slice At nt ct, .slice Ai ni ci, .slice Af nf cf, .slice Ata nta cta, .slice Am nm cm, .slice Ag ng cg, .slice Ae ne ce, .bool bst, .int .i64 vst, .slice Ael nel cel, .slice Ad nd cd, .slice Ac nc cc] 33)) 60 #[.int .i64 0, .int .i64 0, .int .i64 0, .bool false])
  have hsz : (w.alloc (.cells #[.slice At nt ct, .slice Ai ni ci, .slice Af nf cf, .slice Ata nta cta, .slice Am nm cm, .slice Ag ng cg, .slice Ae ne ce, .bool bst, .int .i64 vst, .slice Ael nel cel, .slice Ad nd cd, .slice Ac nc cc] 33)).heap.size = w.heap.size + 1 := by simp
  rw [hsz] at G1
  have HNT := hid (fun W (F : Fr No w W) => rNth_any nt ni nf nta nm ng ne nel nd nc ct ci cf cta cm cg ce cel cd cc At Ai Af Ata Am Ag Ae Ael Ad Ac bst vst W ims 1 i S (h.fr F (fun k hk => ⟨hS k hk, fun x => x⟩)) (fun k hk => Nat.lt_of_lt_of_le (hS k hk) F.size) hn hl hi)
  have HOW := hid (fun W (F : Fr No w W) => rOwn_any nt ni nf nta nm ng ne nel nd nc ct ci cf cta cm cg ce cel cd cc At Ai Af Ata Am Ag Ae Ael Ad Ac bst vst W ims 1 i nta S (h.fr F (fun k hk => ⟨hS k hk, fun x => x⟩)) (fun k hk => Nat.lt_of_lt_of_le (hS k hk) F.size) hn hl hi.2)
  have HEL := hid (fun W (F : Fr No w W) => h2.fr F (fun k hk => ⟨hS k hk, fun x => x⟩))
  have hn3 : l.length = nta := by have := hn2.out; simpa using this
  have HC := num_cases ims 1 (·.table) zTb l i
  rcases HC with ⟨x, e1, e2⟩ | ⟨e1, ⟨k, hk, e2, e3⟩ | ⟨e2, e3⟩⟩
  · rw [e1] at HNT
    rw [e2]
    simp only [imv] at HNT
    clear h h2 hS hn hn2 HOW HEL hsz e1 e2 hn3
    go_enter Try.func34, Try.ntmps34
    go_wp2_with fail
    generalize (w.alloc (.cells #[.slice At nt ct, .slice Ai ni ci, .slice Af nf cf, .slice Ata nta cta, .slice Am nm cm, .slice Ag ng cg, .slice Ae ne ce, .bool bst, .int .i64 vst, .slice Ael nel cel, .slice Ad nd cd, .slice Ac nc cc] 33)).alloc (.cells #[.int .i64 0, .int .i64 0, .int .i64 0, .bool false] 60) = W0 at *
    refine (HNT.out _ F0.out).mono ?_
    rintro e w1 ⟨rfl, f1⟩
    have F1 := hid f1
    have G2 := hid (G1.out.fr f1 (fun x => x))
    have hw1 : w.heap.size + 1 < w1.heap.size := G2.out.lt
    have z0 : w1.cell? ⟨w.heap.size + 1, 0, none⟩ = some (.int .i64 0) := G2.out.cell 0
    have z1 : w1.cell? ⟨w.heap.size + 1, 1, none⟩ = some (.int .i64 0) := G2.out.cell 1
    have z2 : w1.cell? ⟨w.heap.size + 1, 2, none⟩ = some (.int .i64 0) := G2.out.cell 2
    have z3 : w1.cell? ⟨w.heap.size + 1, 3, none⟩ = some (.bool false) := G2.out.cell 3
    have q0 : w1.frozen? ⟨w.heap.size + 1, 0, none⟩ = false := G2.out.frozen 0
    have q1 : w1.frozen? ⟨w.heap.size + 1, 1, none⟩ = false := G2.out.frozen 1
    have q2 : w1.frozen? ⟨w.heap.size + 1, 2, none⟩ = false := G2.out.frozen 2
    have q3 : w1.frozen? ⟨w.heap.size + 1, 3, none⟩ = false := G2.out.frozen 3
    have hal : ∀ (Y : World) (o : Obj) (j : Nat), w.heap.size + 1 < Y.heap.size → (Y.alloc o).cell? ⟨w.heap.size + 1, j, none⟩ = Y.cell? ⟨w.heap.size + 1, j, none⟩ := fun Y o j h => ((Fr.refl No Y).alloc o).cell h (fun x => x)
    clear f1 HNT
    go_wp2
    refine bodyPost_ret (v := .tuple #[cTb x.table, .bool true]) (by simp [results, Try.results34, go_sem, cTb, z0, z1, z2, z3, hal, hw1]) rfl ⟨rfl, ?_⟩
    exact (F0.out.trans F1.out (fun _ _ h => h)).trans (((((((Fr.refl (One (w.heap.size + 1)) w1).setCell ⟨w.heap.size + 1, 0, none⟩ (.int .i64 x.table.elem) (fun _ => rfl)).setCell ⟨w.heap.size + 1, 1, none⟩ (.int .i64 x.table.lim.min) (fun _ => rfl)).setCell ⟨w.heap.size + 1, 2, none⟩ (.int .i64 x.table.lim.max) (fun _ => rfl)).setCell ⟨w.heap.size + 1, 3, none⟩ (.bool x.table.lim.has) (fun _ => rfl))).alloc _) (fun i hi h => by simp only [One] at h; omega)
  · have hkl : k < l.length := by simpa using hk
    rw [e1] at HNT
    rw [hn3] at e2
    rw [e2] at HOW
    rw [e3]
    simp only [imv, zIm, zTb, zLim, zGl] at HNT
    have hky : l[k] = l[k] := by simp
    rw [hky]
    have i0 : (0 : Int) ≤ k := by omega
    have i1 : (k : Int) < nta := by have := hn2.out; omega
    have HAT := hid (fun W (F : Fr No w W) => Tb_at (HEL.out W F) k hkl)
    generalize l[k] = y at *
    clear h h2 hn hn2 HEL hsz e1 e2 e3 hn3 hky
    go_enter Try.func34, Try.ntmps34
    go_wp2_with fail
    generalize (w.alloc (.cells #[.slice At nt ct, .slice Ai ni ci, .slice Af nf cf, .slice Ata nta cta, .slice Am nm cm, .slice Ag ng cg, .slice Ae ne ce, .bool bst, .int .i64 vst, .slice Ael nel cel, .slice Ad nd cd, .slice Ac nc cc] 33)).alloc (.cells #[.int .i64 0, .int .i64 0, .int .i64 0, .bool false] 60) = W0 at *
    refine (HNT.out _ F0.out).mono ?_
    rintro e w1 ⟨rfl, f1⟩
    have F1 := hid f1
    have G2 := hid (G1.out.fr f1 (fun x => x))
    have G3 := hid (G0.out.fr f1 (fun x => x))
    have hw1 : w.heap.size + 1 < w1.heap.size := G2.out.lt
    obtain ⟨x0, x1, x2, x3, x4, x5, x6, x7, x8, x9, x10, x11⟩ : w1.cell? ⟨w.heap.size, 0, none⟩ = some (.slice At nt ct) ∧ w1.cell? ⟨w.heap.size, 1, none⟩ = some (.slice Ai ni ci) ∧ w1.cell? ⟨w.heap.size, 2, none⟩ = some (.slice Af nf cf) ∧ w1.cell? ⟨w.heap.size, 3, none⟩ = some (.slice Ata nta cta) ∧ w1.cell? ⟨w.heap.size, 4, none⟩ = some (.slice Am nm cm) ∧ w1.cell? ⟨w.heap.size, 5, none⟩ = some (.slice Ag ng cg) ∧ w1.cell? ⟨w.heap.size, 6, none⟩ = some (.slice Ae ne ce) ∧ w1.cell? ⟨w.heap.size, 7, none⟩ = some (.bool bst) ∧ w1.cell? ⟨w.heap.size, 8, none⟩ = some (.int .i64 vst) ∧ w1.cell? ⟨w.heap.size, 9, none⟩ = some (.slice Ael nel cel) ∧ w1.cell? ⟨w.heap.size, 10, none⟩ = some (.slice Ad nd cd) ∧ w1.cell? ⟨w.heap.size, 11, none⟩ = some (.slice Ac nc cc) := ⟨G3.out.cell 0, G3.out.cell 1, G3.out.cell 2, G3.out.cell 3, G3.out.cell 4, G3.out.cell 5, G3.out.cell 6, G3.out.cell 7, G3.out.cell 8, G3.out.cell 9, G3.out.cell 10, G3.out.cell 11⟩
    have hw0 : w.heap.size < w1.heap.size := G3.out.lt
    clear f1 HNT
    go_wp2_with fail
    refine (HOW.out _ ((F0.out.trans F1.out (fun _ _ h => h)).alloc _)).mono ?_
    rintro e w2 ⟨rfl, f2⟩
    have F2 := hid f2
    have G4 := hid ((G2.out.alloc _).fr f2 (fun x => x))
    have G5 := hid ((G3.out.alloc _).fr f2 (fun x => x))
    have hw2 : w.heap.size + 1 < w2.heap.size := G4.out.lt
    clear x0 x1 x2 x3 x4 x5 x6 x7 x8 x9 x10 x11
    obtain ⟨x0, x1, x2, x3, x4, x5, x6, x7, x8, x9, x10, x11⟩ : w2.cell? ⟨w.heap.size, 0, none⟩ = some (.slice At nt ct) ∧ w2.cell? ⟨w.heap.size, 1, none⟩ = some (.slice Ai ni ci) ∧ w2.cell? ⟨w.heap.size, 2, none⟩ = some (.slice Af nf cf) ∧ w2.cell? ⟨w.heap.size, 3, none⟩ = some (.slice Ata nta cta) ∧ w2.cell? ⟨w.heap.size, 4, none⟩ = some (.slice Am nm cm) ∧ w2.cell? ⟨w.heap.size, 5, none⟩ = some (.slice Ag ng cg) ∧ w2.cell? ⟨w.heap.size, 6, none⟩ = some (.slice Ae ne ce) ∧ w2.cell? ⟨w.heap.size, 7, none⟩ = some (.bool bst) ∧ w2.cell? ⟨w.heap.size, 8, none⟩ = some (.int .i64 vst) ∧ w2.cell? ⟨w.heap.size, 9, none⟩ = some (.slice Ael nel cel) ∧ w2.cell? ⟨w.heap.size, 10, none⟩ = some (.slice Ad nd cd) ∧ w2.cell? ⟨w.heap.size, 11, none⟩ = some (.slice Ac nc cc) := ⟨G5.out.cell 0, G5.out.cell 1, G5.out.cell 2, G5.out.cell 3, G5.out.cell 4, G5.out.cell 5, G5.out.cell 6, G5.out.cell 7, G5.out.cell 8, G5.out.cell 9, G5.out.cell 10, G5.out.cell 11⟩
    have z0 : w2.cell? ⟨w.heap.size + 1, 0, none⟩ = some (.int .i64 0) := G4.out.cell 0
    have z1 : w2.cell? ⟨w.heap.size + 1, 1, none⟩ = some (.int .i64 0) := G4.out.cell 1
    have z2 : w2.cell? ⟨w.heap.size + 1, 2, none⟩ = some (.int .i64 0) := G4.out.cell 2
    have z3 : w2.cell? ⟨w.heap.size + 1, 3, none⟩ = some (.bool false) := G4.out.cell 3
    have q0 : w2.frozen? ⟨w.heap.size + 1, 0, none⟩ = false := G4.out.frozen 0
    have q1 : w2.frozen? ⟨w.heap.size + 1, 1, none⟩ = false := G4.out.frozen 1
    have q2 : w2.frozen? ⟨w.heap.size + 1, 2, none⟩ = false := G4.out.frozen 2
    have q3 : w2.frozen? ⟨w.heap.size + 1, 3, none⟩ = false := G4.out.frozen 3
    obtain ⟨b, o, rfl, hb, s0, s1, s2, s3, _⟩ := HAT.out w2 (((F0.out.trans F1.out (fun _ _ h => h)).alloc _).trans F2.out (fun _ _ h => h))
    clear f2 HOW HAT hb
    go_wp2
    refine bodyPost_ret (v := .tuple #[cTb y, .bool true]) (by simp [results, Try.results34, go_sem, cTb, z0, z1, z2, z3]) rfl ⟨rfl, ?_⟩
    exact (((F0.out.trans F1.out (fun _ _ h => h)).alloc _).trans F2.out (fun _ _ h => h)).trans ((((((Fr.refl (One (w.heap.size + 1)) w2).setCell ⟨w.heap.size + 1, 0, none⟩ (.int .i64 y.elem) (fun _ => rfl)).setCell ⟨w.heap.size + 1, 1, none⟩ (.int .i64 y.lim.min) (fun _ => rfl)).setCell ⟨w.heap.size + 1, 2, none⟩ (.int .i64 y.lim.max) (fun _ => rfl)).setCell ⟨w.heap.size + 1, 3, none⟩ (.bool y.lim.has) (fun _ => rfl))) (fun i hi h => by simp only [One] at h; omega)
  · rw [e1] at HNT
    rw [hn3] at e2
    rw [e2] at HOW
    rw [e3]
    simp only [imv, zIm, zTb, zLim, zGl] at HNT
    clear h h2 hS hn hn2 HEL hsz e1 e2 e3 hn3
    go_enter Try.func34, Try.ntmps34
    go_wp2_with fail
    generalize (w.alloc (.cells #[.slice At nt ct, .slice Ai ni ci, .slice Af nf cf, .slice Ata nta cta, .slice Am nm cm, .slice Ag ng cg, .slice Ae ne ce, .bool bst, .int .i64 vst, .slice Ael nel cel, .slice Ad nd cd, .slice Ac nc cc] 33)).alloc (.cells #[.int .i64 0, .int .i64 0, .int .i64 0, .bool false] 60) = W0 at *
    refine (HNT.out _ F0.out).mono ?_
    rintro e w1 ⟨rfl, f1⟩
    have F1 := hid f1
    have G2 := hid (G1.out.fr f1 (fun x => x))
    have G3 := hid (G0.out.fr f1 (fun x => x))
    have hw1 : w.heap.size + 1 < w1.heap.size := G2.out.lt
    obtain ⟨x0, x1, x2, x3, x4, x5, x6, x7, x8, x9, x10, x11⟩ : w1.cell? ⟨w.heap.size, 0, none⟩ = some (.slice At nt ct) ∧ w1.cell? ⟨w.heap.size, 1, none⟩ = some (.slice Ai ni ci) ∧ w1.cell? ⟨w.heap.size, 2, none⟩ = some (.slice Af nf cf) ∧ w1.cell? ⟨w.heap.size, 3, none⟩ = some (.slice Ata nta cta) ∧ w1.cell? ⟨w.heap.size, 4, none⟩ = some (.slice Am nm cm) ∧ w1.cell? ⟨w.heap.size, 5, none⟩ = some (.slice Ag ng cg) ∧ w1.cell? ⟨w.heap.size, 6, none⟩ = some (.slice Ae ne ce) ∧ w1.cell? ⟨w.heap.size, 7, none⟩ = some (.bool bst) ∧ w1.cell? ⟨w.heap.size, 8, none⟩ = some (.int .i64 vst) ∧ w1.cell? ⟨w.heap.size, 9, none⟩ = some (.slice Ael nel cel) ∧ w1.cell? ⟨w.heap.size, 10, none⟩ = some (.slice Ad nd cd) ∧ w1.cell? ⟨w.heap.size, 11, none⟩ = some (.slice Ac nc cc) := ⟨G3.out.cell 0, G3.out.cell 1, G3.out.cell 2, G3.out.cell 3, G3.out.cell 4, G3.out.cell 5, G3.out.cell 6, G3.out.cell 7, G3.out.cell 8, G3.out.cell 9, G3.out.cell 10, G3.out.cell 11⟩
    have hw0 : w.heap.size < w1.heap.size := G3.out.lt
    clear f1 HNT
    go_wp2_with fail
    refine (HOW.out _ ((F0.out.trans F1.out (fun _ _ h => h)).alloc _)).mono ?_
    rintro e w2 ⟨rfl, f2⟩
    have F2 := hid f2
    have G4 := hid ((G2.out.alloc _).fr f2 (fun x => x))
    have hw2 : w.heap.size + 1 < w2.heap.size := G4.out.lt
    clear x0 x1 x2 x3 x4 x5 x6 x7 x8 x9 x10 x11
    have z0 : w2.cell? ⟨w.heap.size + 1, 0, none⟩ = some (.int .i64 0) := G4.out.cell 0
    have z1 : w2.cell? ⟨w.heap.size + 1, 1, none⟩ = some (.int .i64 0) := G4.out.cell 1
    have z2 : w2.cell? ⟨w.heap.size + 1, 2, none⟩ = some (.int .i64 0) := G4.out.cell 2
    have z3 : w2.cell? ⟨w.heap.size + 1, 3, none⟩ = some (.bool false) := G4.out.cell 3
    have q0 : w2.frozen? ⟨w.heap.size + 1, 0, none⟩ = false := G4.out.frozen 0
    have q1 : w2.frozen? ⟨w.heap.size + 1, 1, none⟩ = false := G4.out.frozen 1
    have q2 : w2.frozen? ⟨w.heap.size + 1, 2, none⟩ = false := G4.out.frozen 2
    have q3 : w2.frozen? ⟨w.heap.size + 1, 3, none⟩ = false := G4.out.frozen 3
    clear f2 HOW
    go_wp2
    refine bodyPost_ret (v := .tuple #[cTb zTb, .bool false]) (by simp [results, Try.results34, go_sem, cTb, z0, z1, z2, z3, zTb, zLim, zGl]) rfl ⟨rfl, ?_⟩
    exact (((F0.out.trans F1.out (fun _ _ h => h)).alloc _).trans F2.out (fun _ _ h => h)).trans ((((((Fr.refl (One (w.heap.size + 1)) w2).setCell ⟨w.heap.size + 1, 0, none⟩ (.int .i64 0) (fun _ => rfl)).setCell ⟨w.heap.size + 1, 1, none⟩ (.int .i64 0) (fun _ => rfl)).setCell ⟨w.heap.size + 1, 2, none⟩ (.int .i64 0) (fun _ => rfl)).setCell ⟨w.heap.size + 1, 3, none⟩ (.bool false) (fun _ => rfl))) (fun i hi h => by simp only [One] at h; omega)
set_option maxRecDepth 100000 in
set_option maxHeartbeats 1600000 in
theorem rMem_any (nt ni nf nta nm ng ne nel nd nc ct ci cf cta cm cg ce cel cd cc : Nat) (At Ai Af Ata Am Ag Ae Ael Ad Ac : Option Addr) (bst : Bool) (vst : Int) (w : World) (ims : List Im) (l : List Lim) (i : Int) (S : Nat → Prop) (h : tIm.els w S Ai ims) (h2 : tLim.els w S Am l) (hS : ∀ k, S k → k < w.heap.size) (hn : Hid (ims.length = ni)) (hn2 : Hid (l.length = nm)) (hl : ni ≤ 101) (hl2 : nm ≤ 50) (hi : -9223372036854775808 ≤ i ∧ i ≤ 9223372036854775807) :
    Calls Try.prog 36 #[.agg #[.slice At nt ct, .slice Ai ni ci, .slice Af nf cf, .slice Ata nta cta, .slice Am nm cm, .slice Ag ng cg, .slice Ae ne ce, .bool bst, .int .i64 vst, .slice Ael nel cel, .slice Ad nd cd, .slice Ac nc cc], .int .i64 i] w fun e w' => e = .returned (.tuple #[cLim (atD zLim ((ofKind ims 2).map (·.mem) ++ l) i).1, .bool (atD zLim ((ofKind ims 2).map (·.mem) ++ l) i).2]) ∧ Fr No w w' := by
  have F0 := hid (((Fr.refl No w).alloc (.cells #[.slice At nt ct, .slice Ai ni ci, .slice Af nf cf, .slice Ata nta cta, .slice Am nm cm, .slice Ag ng cg, .slice Ae ne ce, .bool bst, .int .i64 vst, .slice Ael nel cel, .slice Ad nd cd, .slice Ac nc cc] 33)).alloc (.cells #[.int .i64 0, .int .i64 0, .bool false] 58))
  have G0 := hid ((Blk.new w 33 #[.slice At nt ct, .slice Ai ni ci, .slice Af nf cf, .slice Ata nta cta, .slice Am nm cm, .slice Ag ng cg, .slice Ae ne ce, .bool bst, .int .i64 vst, .slice Ael nel cel, .slice Ad nd cd, .slice Ac nc cc]).alloc (.cells #[.int .i64 0, .int .i64 0, .bool false] 58))
  have G1 := hid (Blk.new (w.alloc (.cells #[.slice At nt ct, .slice Ai ni ci, .slice Af nf cf, .slice Ata nta cta, .slice Am nm cm, .slice Ag ng cg, .slice Ae ne ce, .bool bst, .int .i64 vst, .slice Ael nel cel, .slice Ad nd cd, .slice Ac nc cc] 33)) 58 #[.int .i64 0, .int .i64 0, .bool false])
  have hsz : (w.alloc (.cells #[.slice At nt ct, .slice Ai ni ci, .slice Af nf cf, .slice Ata nta cta, .slice Am nm cm, .slice Ag ng cg, .slice Ae ne ce, .bool bst, .int .i64 vst, .slice Ael nel cel, .slice Ad nd cd, .slice Ac nc cc] 33)).heap.size = w.heap.size + 1 := by simp
  rw [hsz] at G1
  have HNT := hid (fun W (F : Fr No w W) => rNth_any nt ni nf nta nm ng ne nel nd nc ct ci cf cta cm cg ce cel cd cc At Ai Af Ata Am Ag Ae Ael Ad Ac bst vst W ims 2 i S (h.fr F (fun k hk => ⟨hS k hk, fun x => x⟩)) (fun k hk => Nat.lt_of_lt_of_le (hS k hk) F.size) hn hl hi)
  have HOW := hid (fun W (F : Fr No w W) => rOwn_any nt ni nf nta nm ng ne nel nd nc ct ci cf cta cm cg ce cel cd cc At Ai Af Ata Am Ag Ae Ael Ad Ac bst vst W ims 2 i nm S (h.fr F (fun k hk => ⟨hS k hk, fun x => x⟩)) (fun k hk => Nat.lt_of_lt_of_le (hS k hk) F.size) hn hl hi.2)
  have HEL := hid (fun W (F : Fr No w W) => h2.fr F (fun k hk => ⟨hS k hk, fun x => x⟩))
  have hn3 : l.length = nm := by have := hn2.out; simpa using this
  have HC := num_cases ims 2 (·.mem) zLim l i
  rcases HC with ⟨x, e1, e2⟩ | ⟨e1, ⟨k, hk, e2, e3⟩ | ⟨e2, e3⟩⟩
  · rw [e1] at HNT
    rw [e2]
    simp only [imv] at HNT
    clear h h2 hS hn hn2 HOW HEL hsz e1 e2 hn3
    go_enter Try.func36, Try.ntmps36
    go_wp2_with fail
    generalize (w.alloc (.cells #[.slice At nt ct, .slice Ai ni ci, .slice Af nf cf, .slice Ata nta cta, .slice Am nm cm, .slice Ag ng cg, .slice Ae ne ce, .bool bst, .int .i64 vst, .slice Ael nel cel, .slice Ad nd cd, .slice Ac nc cc] 33)).alloc (.cells #[.int .i64 0, .int .i64 0, .bool false] 58) = W0 at *
    refine (HNT.out _ F0.out).mono ?_
    rintro e w1 ⟨rfl, f1⟩
    have F1 := hid f1
    have G2 := hid (G1.out.fr f1 (fun x => x))
    have hw1 : w.heap.size + 1 < w1.heap.size := G2.out.lt
    have z0 : w1.cell? ⟨w.heap.size + 1, 0, none⟩ = some (.int .i64 0) := G2.out.cell 0
    have z1 : w1.cell? ⟨w.heap.size + 1, 1, none⟩ = some (.int .i64 0) := G2.out.cell 1
    have z2 : w1.cell? ⟨w.heap.size + 1, 2, none⟩ = some (.bool false) := G2.out.cell 2
    have q0 : w1.frozen? ⟨w.heap.size + 1, 0, none⟩ = false := G2.out.frozen 0
    have q1 : w1.frozen? ⟨w.heap.size + 1, 1, none⟩ = false := G2.out.frozen 1
    have q2 : w1.frozen? ⟨w.heap.size + 1, 2, none⟩ = false := G2.out.frozen 2
    have hal : ∀ (Y : World) (o : Obj) (j : Nat), w.heap.size + 1 < Y.heap.size → (Y.alloc o).cell? ⟨w.heap.size + 1, j, none⟩ = Y.cell? ⟨w.heap.size + 1, j, none⟩ := fun Y o j h => ((Fr.refl No Y).alloc o).cell h (fun x => x)
    clear f1 HNT
    go_wp2
    refine bodyPost_ret (v := .tuple #[cLim x.mem, .bool true]) (by simp [results, Try.results36, go_sem, cLim, z0, z1, z2, hal, hw1]) rfl ⟨rfl, ?_⟩
    exact (F0.out.trans F1.out (fun _ _ h => h)).trans ((((((Fr.refl (One (w.heap.size + 1)) w1).setCell ⟨w.heap.size + 1, 0, none⟩ (.int .i64 x.mem.min) (fun _ => rfl)).setCell ⟨w.heap.size + 1, 1, none⟩ (.int .i64 x.mem.max) (fun _ => rfl)).setCell ⟨w.heap.size + 1, 2, none⟩ (.bool x.mem.has) (fun _ => rfl))).alloc _) (fun i hi h => by simp only [One] at h; omega)
  · have hkl : k < l.length := by simpa using hk
    rw [e1] at HNT
    rw [hn3] at e2
    rw [e2] at HOW
    rw [e3]
    simp only [imv, zIm, zTb, zLim, zGl] at HNT
    have hky : l[k] = l[k] := by simp
    rw [hky]
    have i0 : (0 : Int) ≤ k := by omega
    have i1 : (k : Int) < nm := by have := hn2.out; omega
    have HAT := hid (fun W (F : Fr No w W) => Lim_at (HEL.out W F) k hkl)
    generalize l[k] = y at *
    clear h h2 hn hn2 HEL hsz e1 e2 e3 hn3 hky
    go_enter Try.func36, Try.ntmps36
    go_wp2_with fail
    generalize (w.alloc (.cells #[.slice At nt ct, .slice Ai ni ci, .slice Af nf cf, .slice Ata nta cta, .slice Am nm cm, .slice Ag ng cg, .slice Ae ne ce, .bool bst, .int .i64 vst, .slice Ael nel cel, .slice Ad nd cd, .slice Ac nc cc] 33)).alloc (.cells #[.int .i64 0, .int .i64 0, .bool false] 58) = W0 at *
    refine (HNT.out _ F0.out).mono ?_
    rintro e w1 ⟨rfl, f1⟩
    have F1 := hid f1
    have G2 := hid (G1.out.fr f1 (fun x => x))
    have G3 := hid (G0.out.fr f1 (fun x => x))
    have hw1 : w.heap.size + 1 < w1.heap.size := G2.out.lt
    obtain ⟨x0, x1, x2, x3, x4, x5, x6, x7, x8, x9, x10, x11⟩ : w1.cell? ⟨w.heap.size, 0, none⟩ = some (.slice At nt ct) ∧ w1.cell? ⟨w.heap.size, 1, none⟩ = some (.slice Ai ni ci) ∧ w1.cell? ⟨w.heap.size, 2, none⟩ = some (.slice Af nf cf) ∧ w1.cell? ⟨w.heap.size, 3, none⟩ = some (.slice Ata nta cta) ∧ w1.cell? ⟨w.heap.size, 4, none⟩ = some (.slice Am nm cm) ∧ w1.cell? ⟨w.heap.size, 5, none⟩ = some (.slice Ag ng cg) ∧ w1.cell? ⟨w.heap.size, 6, none⟩ = some (.slice Ae ne ce) ∧ w1.cell? ⟨w.heap.size, 7, none⟩ = some (.bool bst) ∧ w1.cell? ⟨w.heap.size, 8, none⟩ = some (.int .i64 vst) ∧ w1.cell? ⟨w.heap.size, 9, none⟩ = some (.slice Ael nel cel) ∧ w1.cell? ⟨w.heap.size, 10, none⟩ = some (.slice Ad nd cd) ∧ w1.cell? ⟨w.heap.size, 11, none⟩ = some (.slice Ac nc cc) := ⟨G3.out.cell 0, G3.out.cell 1, G3.out.cell 2, G3.out.cell 3, G3.out.cell 4, G3.out.cell 5, G3.out.cell 6, G3.out.cell 7, G3.out.cell 8, G3.out.cell 9, G3.out.cell 10, G3.out.cell 11⟩
    have hw0 : w.heap.size < w1.heap.size := G3.out.lt
    clear f1 HNT
    go_wp2_with fail
    refine (HOW.out _ ((F0.out.trans F1.out (fun _ _ h => h)).alloc _)).mono ?_
    rintro e w2 ⟨rfl, f2⟩
    have F2 := hid f2
    have G4 := hid ((G2.out.alloc _).fr f2 (fun x => x))
    have G5 := hid ((G3.out.alloc _).fr f2 (fun x => x))
    have hw2 : w.heap.size + 1 < w2.heap.size := G4.out.lt
    clear x0 x1 x2 x3 x4 x5 x6 x7 x8 x9 x10 x11
    obtain ⟨x0, x1, x2, x3, x4, x5, x6, x7, x8, x9, x10, x11⟩ : w2.cell? ⟨w.heap.size, 0, none⟩ = some (.slice At nt ct) ∧ w2.cell? ⟨w.heap.size, 1, none⟩ = some (.slice Ai ni ci) ∧ w2.cell? ⟨w.heap.size, 2, none⟩ = some (.slice Af nf cf) ∧ w2.cell? ⟨w.heap.size, 3, none⟩ = some (.slice Ata nta cta) ∧ w2.cell? ⟨w.heap.size, 4, none⟩ = some (.slice Am nm cm) ∧ w2.cell? ⟨w.heap.size, 5, none⟩ = some (.slice Ag ng cg) ∧ w2.cell? ⟨w.heap.size, 6, none⟩ = some (.slice Ae ne ce) ∧ w2.cell? ⟨w.heap.size, 7, none⟩ = some (.bool bst) ∧ w2.cell? ⟨w.heap.size, 8, none⟩ = some (.int .i64 vst) ∧ w2.cell? ⟨w.heap.size, 9, none⟩ = some (.slice Ael nel cel) ∧ w2.cell? ⟨w.heap.size, 10, none⟩ = some (.slice Ad nd cd) ∧ w2.cell? ⟨w.heap.size, 11, none⟩ = some (.slice Ac nc cc) := ⟨G5.out.cell 0, G5.out.cell 1, G5.out.cell 2, G5.out.cell 3, G5.out.cell 4, G5.out.cell 5, G5.out.cell 6, G5.out.cell 7, G5.out.cell 8, G5.out.cell 9, G5.out.cell 10, G5.out.cell 11⟩
    have z0 : w2.cell? ⟨w.heap.size + 1, 0, none⟩ = some (.int .i64 0) := G4.out.cell 0
    have z1 : w2.cell? ⟨w.heap.size + 1, 1, none⟩ = some (.int .i64 0) := G4.out.cell 1
    have z2 : w2.cell? ⟨w.heap.size + 1, 2, none⟩ = some (.bool false) := G4.out.cell 2
    have q0 : w2.frozen? ⟨w.heap.size + 1, 0, none⟩ = false := G4.out.frozen 0
    have q1 : w2.frozen? ⟨w.heap.size + 1, 1, none⟩ = false := G4.out.frozen 1
    have q2 : w2.frozen? ⟨w.heap.size + 1, 2, none⟩ = false := G4.out.frozen 2
    obtain ⟨b, o, rfl, hb, s0, s1, s2, _⟩ := HAT.out w2 (((F0.out.trans F1.out (fun _ _ h => h)).alloc _).trans F2.out (fun _ _ h => h))
    clear f2 HOW HAT hb
    go_wp2
    refine bodyPost_ret (v := .tuple #[cLim y, .bool true]) (by simp [results, Try.results36, go_sem, cLim, z0, z1, z2]) rfl ⟨rfl, ?_⟩
    exact (((F0.out.trans F1.out (fun _ _ h => h)).alloc _).trans F2.out (fun _ _ h => h)).trans (((((Fr.refl (One (w.heap.size + 1)) w2).setCell ⟨w.heap.size + 1, 0, none⟩ (.int .i64 y.min) (fun _ => rfl)).setCell ⟨w.heap.size + 1, 1, none⟩ (.int .i64 y.max) (fun _ => rfl)).setCell ⟨w.heap.size + 1, 2, none⟩ (.bool y.has) (fun _ => rfl))) (fun i hi h => by simp only [One] at h; omega)
  · rw [e1] at HNT
    rw [hn3] at e2
    rw [e2] at HOW
    rw [e3]
    simp only [imv, zIm, zTb, zLim, zGl] at HNT
    clear h h2 hS hn hn2 HEL hsz e1 e2 e3 hn3
    go_enter Try.func36, Try.ntmps36
    go_wp2_with fail
    generalize (w.alloc (.cells #[.slice At nt ct, .slice Ai ni ci, .slice Af nf cf, .slice Ata nta cta, .slice Am nm cm, .slice Ag ng cg, .slice Ae ne ce, .bool bst, .int .i64 vst, .slice Ael nel cel, .slice Ad nd cd, .slice Ac nc cc] 33)).alloc (.cells #[.int .i64 0, .int .i64 0, .bool false] 58) = W0 at *
    refine (HNT.out _ F0.out).mono ?_
    rintro e w1 ⟨rfl, f1⟩
    have F1 := hid f1
    have G2 := hid (G1.out.fr f1 (fun x => x))
    have G3 := hid (G0.out.fr f1 (fun x => x))
    have hw1 : w.heap.size + 1 < w1.heap.size := G2.out.lt
    obtain ⟨x0, x1, x2, x3, x4, x5, x6, x7, x8, x9, x10, x11⟩ : w1.cell? ⟨w.heap.size, 0, none⟩ = some (.slice At nt ct) ∧ w1.cell? ⟨w.heap.size, 1, none⟩ = some (.slice Ai ni ci) ∧ w1.cell? ⟨w.heap.size, 2, none⟩ = some (.slice Af nf cf) ∧ w1.cell? ⟨w.heap.size, 3, none⟩ = some (.slice Ata nta cta) ∧ w1.cell? ⟨w.heap.size, 4, none⟩ = some (.slice Am nm cm) ∧ w1.cell? ⟨w.heap.size, 5, none⟩ = some (.slice Ag ng cg) ∧ w1.cell? ⟨w.heap.size, 6, none⟩ = some (.slice Ae ne ce) ∧ w1.cell? ⟨w.heap.size, 7, none⟩ = some (.bool bst) ∧ w1.cell? ⟨w.heap.size, 8, none⟩ = some (.int .i64 vst) ∧ w1.cell? ⟨w.heap.size, 9, none⟩ = some (.slice Ael nel cel) ∧ w1.cell? ⟨w.heap.size, 10, none⟩ = some (.slice Ad nd cd) ∧ w1.cell? ⟨w.heap.size, 11, none⟩ = some (.slice Ac nc cc) := ⟨G3.out.cell 0, G3.out.cell 1, G3.out.cell 2, G3.out.cell 3, G3.out.cell 4, G3.out.cell 5, G3.out.cell 6, G3.out.cell 7, G3.out.cell 8, G3.out.cell 9, G3.out.cell 10, G3.out.cell 11⟩
    have hw0 : w.heap.size < w1.heap.size := G3.out.lt
    clear f1 HNT
    go_wp2_with fail
    refine (HOW.out _ ((F0.out.trans F1.out (fun _ _ h => h)).alloc _)).mono ?_
    rintro e w2 ⟨rfl, f2⟩
    have F2 := hid f2
    have G4 := hid ((G2.out.alloc _).fr f2 (fun x => x))
    have hw2 : w.heap.size + 1 < w2.heap.size := G4.out.lt
    clear x0 x1 x2 x3 x4 x5 x6 x7 x8 x9 x10 x11
    have z0 : w2.cell? ⟨w.heap.size + 1, 0, none⟩ = some (.int .i64 0) := G4.out.cell 0
    have z1 : w2.cell? ⟨w.heap.size + 1, 1, none⟩ = some (.int .i64 0) := G4.out.cell 1
    have z2 : w2.cell? ⟨w.heap.size + 1, 2, none⟩ = some (.bool false) := G4.out.cell 2
    have q0 : w2.frozen? ⟨w.heap.size + 1, 0, none⟩ = false := G4.out.frozen 0
    have q1 : w2.frozen? ⟨w.heap.size + 1, 1, none⟩ = false := G4.out.frozen 1
    have q2 : w2.frozen? ⟨w.heap.size + 1, 2, none⟩ = false := G4.out.frozen 2
    clear f2 HOW
    go_wp2
    refine bodyPost_ret (v := .tuple #[cLim zLim, .bool false]) (by simp [results, Try.results36, go_sem, cLim, z0, z1, z2, zTb, zLim, zGl]) rfl ⟨rfl, ?_⟩
    exact (((F0.out.trans F1.out (fun _ _ h => h)).alloc _).trans F2.out (fun _ _ h => h)).trans (((((Fr.refl (One (w.heap.size + 1)) w2).setCell ⟨w.heap.size + 1, 0, none⟩ (.int .i64 0) (fun _ => rfl)).setCell ⟨w.heap.size + 1, 1, none⟩ (.int .i64 0) (fun _ => rfl)).setCell ⟨w.heap.size + 1, 2, none⟩ (.bool false) (fun _ => rfl))) (fun i hi h => by simp only [One] at h; omega)
set_option maxRecDepth 100000 in
set_option maxHeartbeats 1600000 in
theorem rGlobal_any (nt ni nf nta nm ng ne nel nd nc ct ci cf cta cm cg ce cel cd cc : Nat) (At Ai Af Ata Am Ag Ae Ael Ad Ac : Option Addr) (bst : Bool) (vst : Int) (w : World) (ims : List Im) (l : List Gd) (i : Int) (S : Nat → Prop) (h : tIm.els w S Ai ims) (h2 : tGd.els w S Ag l) (hS : ∀ k, S k → k < w.heap.size) (hn : Hid (ims.length = ni)) (hn2 : Hid (l.length = ng)) (hl : ni ≤ 101) (hl2 : ng ≤ 100) (hi : -9223372036854775808 ≤ i ∧ i ≤ 9223372036854775807) :
    Calls Try.prog 37 #[.agg #[.slice At nt ct, .slice Ai ni ci, .slice Af nf cf, .slice Ata nta cta, .slice Am nm cm, .slice Ag ng cg, .slice Ae ne ce, .bool bst, .int .i64 vst, .slice Ael nel cel, .slice Ad nd cd, .slice Ac nc cc], .int .i64 i] w fun e w' => e = .returned (.tuple #[cGl (atD zGl ((ofKind ims 3).map (·.glob) ++ (l.map (·.type))) i).1, .bool (atD zGl ((ofKind ims 3).map (·.glob) ++ (l.map (·.type))) i).2]) ∧ Fr No w w' := by
  have F0 := hid (((Fr.refl No w).alloc (.cells #[.slice At nt ct, .slice Ai ni ci, .slice Af nf cf, .slice Ata nta cta, .slice Am nm cm, .slice Ag ng cg, .slice Ae ne ce, .bool bst, .int .i64 vst, .slice Ael nel cel, .slice Ad nd cd, .slice Ac nc cc] 33)).alloc (.cells #[.int .i64 0, .bool false] 62))
  have G0 := hid ((Blk.new w 33 #[.slice At nt ct, .slice Ai ni ci, .slice Af nf cf, .slice Ata nta cta, .slice Am nm cm, .slice Ag ng cg, .slice Ae ne ce, .bool bst, .int .i64 vst, .slice Ael nel cel, .slice Ad nd cd, .slice Ac nc cc]).alloc (.cells #[.int .i64 0, .bool false] 62))
  have G1 := hid (Blk.new (w.alloc (.cells #[.slice At nt ct, .slice Ai ni ci, .slice Af nf cf, .slice Ata nta cta, .slice Am nm cm, .slice Ag ng cg, .slice Ae ne ce, .bool bst, .int .i64 vst, .slice Ael nel cel, .slice Ad nd cd, .slice Ac nc cc] 33)) 62 #[.int .i64 0, .bool false])
  have hsz : (w.alloc (.cells #[.slice At nt ct, .slice Ai ni ci, .slice Af nf cf, .slice Ata nta cta, .slice Am nm cm, .slice Ag ng cg, .slice Ae ne ce, .bool bst, .int .i64 vst, .slice Ael nel cel, .slice Ad nd cd, .slice Ac nc cc] 33)).heap.size = w.heap.size + 1 := by simp
  rw [hsz] at G1
  have HNT := hid (fun W (F : Fr No w W) => rNth_any nt ni nf nta nm ng ne nel nd nc ct ci cf cta cm cg ce cel cd cc At Ai Af Ata Am Ag Ae Ael Ad Ac bst vst W ims 3 i S (h.fr F (fun k hk => ⟨hS k hk, fun x => x⟩)) (fun k hk => Nat.lt_of_lt_of_le (hS k hk) F.size) hn hl hi)
  have HOW := hid (fun W (F : Fr No w W) => rOwn_any nt ni nf nta nm ng ne nel nd nc ct ci cf cta cm cg ce cel cd cc At Ai Af Ata Am Ag Ae Ael Ad Ac bst vst W ims 3 i ng S (h.fr F (fun k hk => ⟨hS k hk, fun x => x⟩)) (fun k hk => Nat.lt_of_lt_of_le (hS k hk) F.size) hn hl hi.2)
  have HEL := hid (fun W (F : Fr No w W) => h2.fr F (fun k hk => ⟨hS k hk, fun x => x⟩))
  have hn3 : (l.map (·.type)).length = ng := by have := hn2.out; simpa using this
  have HC := num_cases ims 3 (·.glob) zGl (l.map (·.type)) i
  rcases HC with ⟨x, e1, e2⟩ | ⟨e1, ⟨k, hk, e2, e3⟩ | ⟨e2, e3⟩⟩
  · rw [e1] at HNT
    rw [e2]
    simp only [imv] at HNT
    clear h h2 hS hn hn2 HOW HEL hsz e1 e2 hn3
    go_enter Try.func37, Try.ntmps37
    go_wp2_with fail
    generalize (w.alloc (.cells #[.slice At nt ct, .slice Ai ni ci, .slice Af nf cf, .slice Ata nta cta, .slice Am nm cm, .slice Ag ng cg, .slice Ae ne ce, .bool bst, .int .i64 vst, .slice Ael nel cel, .slice Ad nd cd, .slice Ac nc cc] 33)).alloc (.cells #[.int .i64 0, .bool false] 62) = W0 at *
    refine (HNT.out _ F0.out).mono ?_
    rintro e w1 ⟨rfl, f1⟩
    have F1 := hid f1
    have G2 := hid (G1.out.fr f1 (fun x => x))
    have hw1 : w.heap.size + 1 < w1.heap.size := G2.out.lt
    have z0 : w1.cell? ⟨w.heap.size + 1, 0, none⟩ = some (.int .i64 0) := G2.out.cell 0
    have z1 : w1.cell? ⟨w.heap.size + 1, 1, none⟩ = some (.bool false) := G2.out.cell 1
    have q0 : w1.frozen? ⟨w.heap.size + 1, 0, none⟩ = false := G2.out.frozen 0
    have q1 : w1.frozen? ⟨w.heap.size + 1, 1, none⟩ = false := G2.out.frozen 1
    have hal : ∀ (Y : World) (o : Obj) (j : Nat), w.heap.size + 1 < Y.heap.size → (Y.alloc o).cell? ⟨w.heap.size + 1, j, none⟩ = Y.cell? ⟨w.heap.size + 1, j, none⟩ := fun Y o j h => ((Fr.refl No Y).alloc o).cell h (fun x => x)
    clear f1 HNT
    go_wp2
    refine bodyPost_ret (v := .tuple #[cGl x.glob, .bool true]) (by simp [results, Try.results37, go_sem, cGl, z0, z1, hal, hw1]) rfl ⟨rfl, ?_⟩
    exact (F0.out.trans F1.out (fun _ _ h => h)).trans (((((Fr.refl (One (w.heap.size + 1)) w1).setCell ⟨w.heap.size + 1, 0, none⟩ (.int .i64 x.glob.val) (fun _ => rfl)).setCell ⟨w.heap.size + 1, 1, none⟩ (.bool x.glob.mut_) (fun _ => rfl))).alloc _) (fun i hi h => by simp only [One] at h; omega)
  · have hkl : k < l.length := by simpa using hk
    rw [e1] at HNT
    rw [hn3] at e2
    rw [e2] at HOW
    rw [e3]
    simp only [imv, zIm, zTb, zLim, zGl] at HNT
    have hky : (l.map (·.type))[k] = l[k].type := by simp
    rw [hky]
    have i0 : (0 : Int) ≤ k := by omega
    have i1 : (k : Int) < ng := by have := hn2.out; omega
    have HAT := hid (fun W (F : Fr No w W) => Gd_at (HEL.out W F) k hkl)
    generalize l[k] = y at *
    clear h h2 hn hn2 HEL hsz e1 e2 e3 hn3 hky
    go_enter Try.func37, Try.ntmps37
    go_wp2_with fail
    generalize (w.alloc (.cells #[.slice At nt ct, .slice Ai ni ci, .slice Af nf cf, .slice Ata nta cta, .slice Am nm cm, .slice Ag ng cg, .slice Ae ne ce, .bool bst, .int .i64 vst, .slice Ael nel cel, .slice Ad nd cd, .slice Ac nc cc] 33)).alloc (.cells #[.int .i64 0, .bool false] 62) = W0 at *
    refine (HNT.out _ F0.out).mono ?_
    rintro e w1 ⟨rfl, f1⟩
    have F1 := hid f1
    have G2 := hid (G1.out.fr f1 (fun x => x))
    have G3 := hid (G0.out.fr f1 (fun x => x))
    have hw1 : w.heap.size + 1 < w1.heap.size := G2.out.lt
    obtain ⟨x0, x1, x2, x3, x4, x5, x6, x7, x8, x9, x10, x11⟩ : w1.cell? ⟨w.heap.size, 0, none⟩ = some (.slice At nt ct) ∧ w1.cell? ⟨w.heap.size, 1, none⟩ = some (.slice Ai ni ci) ∧ w1.cell? ⟨w.heap.size, 2, none⟩ = some (.slice Af nf cf) ∧ w1.cell? ⟨w.heap.size, 3, none⟩ = some (.slice Ata nta cta) ∧ w1.cell? ⟨w.heap.size, 4, none⟩ = some (.slice Am nm cm) ∧ w1.cell? ⟨w.heap.size, 5, none⟩ = some (.slice Ag ng cg) ∧ w1.cell? ⟨w.heap.size, 6, none⟩ = some (.slice Ae ne ce) ∧ w1.cell? ⟨w.heap.size, 7, none⟩ = some (.bool bst) ∧ w1.cell? ⟨w.heap.size, 8, none⟩ = some (.int .i64 vst) ∧ w1.cell? ⟨w.heap.size, 9, none⟩ = some (.slice Ael nel cel) ∧ w1.cell? ⟨w.heap.size, 10, none⟩ = some (.slice Ad nd cd) ∧ w1.cell? ⟨w.heap.size, 11, none⟩ = some (.slice Ac nc cc) := ⟨G3.out.cell 0, G3.out.cell 1, G3.out.cell 2, G3.out.cell 3, G3.out.cell 4, G3.out.cell 5, G3.out.cell 6, G3.out.cell 7, G3.out.cell 8, G3.out.cell 9, G3.out.cell 10, G3.out.cell 11⟩
    have hw0 : w.heap.size < w1.heap.size := G3.out.lt
    clear f1 HNT
    go_wp2_with fail
    refine (HOW.out _ ((F0.out.trans F1.out (fun _ _ h => h)).alloc _)).mono ?_
    rintro e w2 ⟨rfl, f2⟩
    have F2 := hid f2
    have G4 := hid ((G2.out.alloc _).fr f2 (fun x => x))
    have G5 := hid ((G3.out.alloc _).fr f2 (fun x => x))
    have hw2 : w.heap.size + 1 < w2.heap.size := G4.out.lt
    clear x0 x1 x2 x3 x4 x5 x6 x7 x8 x9 x10 x11
    obtain ⟨x0, x1, x2, x3, x4, x5, x6, x7, x8, x9, x10, x11⟩ : w2.cell? ⟨w.heap.size, 0, none⟩ = some (.slice At nt ct) ∧ w2.cell? ⟨w.heap.size, 1, none⟩ = some (.slice Ai ni ci) ∧ w2.cell? ⟨w.heap.size, 2, none⟩ = some (.slice Af nf cf) ∧ w2.cell? ⟨w.heap.size, 3, none⟩ = some (.slice Ata nta cta) ∧ w2.cell? ⟨w.heap.size, 4, none⟩ = some (.slice Am nm cm) ∧ w2.cell? ⟨w.heap.size, 5, none⟩ = some (.slice Ag ng cg) ∧ w2.cell? ⟨w.heap.size, 6, none⟩ = some (.slice Ae ne ce) ∧ w2.cell? ⟨w.heap.size, 7, none⟩ = some (.bool bst) ∧ w2.cell? ⟨w.heap.size, 8, none⟩ = some (.int .i64 vst) ∧ w2.cell? ⟨w.heap.size, 9, none⟩ = some (.slice Ael nel cel) ∧ w2.cell? ⟨w.heap.size, 10, none⟩ = some (.slice Ad nd cd) ∧ w2.cell? ⟨w.heap.size, 11, none⟩ = some (.slice Ac nc cc) := ⟨G5.out.cell 0, G5.out.cell 1, G5.out.cell 2, G5.out.cell 3, G5.out.cell 4, G5.out.cell 5, G5.out.cell 6, G5.out.cell 7, G5.out.cell 8, G5.out.cell 9, G5.out.cell 10, G5.out.cell 11⟩
    have z0 : w2.cell? ⟨w.heap.size + 1, 0, none⟩ = some (.int .i64 0) := G4.out.cell 0
    have z1 : w2.cell? ⟨w.heap.size + 1, 1, none⟩ = some (.bool false) := G4.out.cell 1
    have q0 : w2.frozen? ⟨w.heap.size + 1, 0, none⟩ = false := G4.out.frozen 0
    have q1 : w2.frozen? ⟨w.heap.size + 1, 1, none⟩ = false := G4.out.frozen 1
    obtain ⟨b, o, _, _, rfl, hb, s0, s1, _⟩ := HAT.out w2 (((F0.out.trans F1.out (fun _ _ h => h)).alloc _).trans F2.out (fun _ _ h => h))
    clear f2 HOW HAT hb
    go_wp2
    refine bodyPost_ret (v := .tuple #[cGl y.type, .bool true]) (by simp [results, Try.results37, go_sem, cGl, z0, z1]) rfl ⟨rfl, ?_⟩
    exact (((F0.out.trans F1.out (fun _ _ h => h)).alloc _).trans F2.out (fun _ _ h => h)).trans ((((Fr.refl (One (w.heap.size + 1)) w2).setCell ⟨w.heap.size + 1, 0, none⟩ (.int .i64 y.type.val) (fun _ => rfl)).setCell ⟨w.heap.size + 1, 1, none⟩ (.bool y.type.mut_) (fun _ => rfl))) (fun i hi h => by simp only [One] at h; omega)
  · rw [e1] at HNT
    rw [hn3] at e2
    rw [e2] at HOW
    rw [e3]
    simp only [imv, zIm, zTb, zLim, zGl] at HNT
    clear h h2 hS hn hn2 HEL hsz e1 e2 e3 hn3
    go_enter Try.func37, Try.ntmps37
    go_wp2_with fail
    generalize (w.alloc (.cells #[.slice At nt ct, .slice Ai ni ci, .slice Af nf cf, .slice Ata nta cta, .slice Am nm cm, .slice Ag ng cg, .slice Ae ne ce, .bool bst, .int .i64 vst, .slice Ael nel cel, .slice Ad nd cd, .slice Ac nc cc] 33)).alloc (.cells #[.int .i64 0, .bool false] 62) = W0 at *
    refine (HNT.out _ F0.out).mono ?_
    rintro e w1 ⟨rfl, f1⟩
    have F1 := hid f1
    have G2 := hid (G1.out.fr f1 (fun x => x))
    have G3 := hid (G0.out.fr f1 (fun x => x))
    have hw1 : w.heap.size + 1 < w1.heap.size := G2.out.lt
    obtain ⟨x0, x1, x2, x3, x4, x5, x6, x7, x8, x9, x10, x11⟩ : w1.cell? ⟨w.heap.size, 0, none⟩ = some (.slice At nt ct) ∧ w1.cell? ⟨w.heap.size, 1, none⟩ = some (.slice Ai ni ci) ∧ w1.cell? ⟨w.heap.size, 2, none⟩ = some (.slice Af nf cf) ∧ w1.cell? ⟨w.heap.size, 3, none⟩ = some (.slice Ata nta cta) ∧ w1.cell? ⟨w.heap.size, 4, none⟩ = some (.slice Am nm cm) ∧ w1.cell? ⟨w.heap.size, 5, none⟩ = some (.slice Ag ng cg) ∧ w1.cell? ⟨w.heap.size, 6, none⟩ = some (.slice Ae ne ce) ∧ w1.cell? ⟨w.heap.size, 7, none⟩ = some (.bool bst) ∧ w1.cell? ⟨w.heap.size, 8, none⟩ = some (.int .i64 vst) ∧ w1.cell? ⟨w.heap.size, 9, none⟩ = some (.slice Ael nel cel) ∧ w1.cell? ⟨w.heap.size, 10, none⟩ = some (.slice Ad nd cd) ∧ w1.cell? ⟨w.heap.size, 11, none⟩ = some (.slice Ac nc cc) := ⟨G3.out.cell 0, G3.out.cell 1, G3.out.cell 2, G3.out.cell 3, G3.out.cell 4, G3.out.cell 5, G3.out.cell 6, G3.out.cell 7, G3.out.cell 8, G3.out.cell 9, G3.out.cell 10, G3.out.cell 11⟩
    have hw0 : w.heap.size < w1.heap.size := G3.out.lt
    clear f1 HNT
    go_wp2_with fail
    refine (HOW.out _ ((F0.out.trans F1.out (fun _ _ h => h)).alloc _)).mono ?_
    rintro e w2 ⟨rfl, f2⟩
    have F2 := hid f2
    have G4 := hid ((G2.out.alloc _).fr f2 (fun x => x))
    have hw2 : w.heap.size + 1 < w2.heap.size := G4.out.lt
    clear x0 x1 x2 x3 x4 x5 x6 x7 x8 x9 x10 x11
    have z0 : w2.cell? ⟨w.heap.size + 1, 0, none⟩ = some (.int .i64 0) := G4.out.cell 0
    have z1 : w2.cell? ⟨w.heap.size + 1, 1, none⟩ = some (.bool false) := G4.out.cell 1
    have q0 : w2.frozen? ⟨w.heap.size + 1, 0, none⟩ = false := G4.out.frozen 0
    have q1 : w2.frozen? ⟨w.heap.size + 1, 1, none⟩ = false := G4.out.frozen 1
    clear f2 HOW
    go_wp2
    refine bodyPost_ret (v := .tuple #[cGl zGl, .bool false]) (by simp [results, Try.results37, go_sem, cGl, z0, z1, zTb, zLim, zGl]) rfl ⟨rfl, ?_⟩
    exact (((F0.out.trans F1.out (fun _ _ h => h)).alloc _).trans F2.out (fun _ _ h => h)).trans ((((Fr.refl (One (w.heap.size + 1)) w2).setCell ⟨w.heap.size + 1, 0, none⟩ (.int .i64 0) (fun _ => rfl)).setCell ⟨w.heap.size + 1, 1, none⟩ (.bool false) (fun _ => rfl))) (fun i hi h => by simp only [One] at h; omega)
end Go.Proofs.Ytfngopoaegofhaa
