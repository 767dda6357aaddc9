/- Chapter 28: plays. -/
import Derived.Test.YtpmnijjfadhocaaMnC
namespace Go.Proofs.Ytpmnijjfadhocaa
open Go.RowKit

/-- What a call makes of a memory's bytes. -/
def playR (l : Lim) (B : List Int) (a : Ac) : List Int :=
  if a.call = 1 then (growR l B (lo a.n)).1 else if a.call = 2 then (storeR a.op B a.to_ a.at_ a.x).1 else if a.call = 3 then B else if a.call = 4 then (fillR B (lo a.to_) a.x (lo a.n)).1
  else if a.call = 5 then (initR B B (lo a.to_) (lo a.at_) (lo a.n)).1 else if a.call = 6 then (initR B a.b (lo a.to_) (lo a.at_) (lo a.n)).1 else B
/-- The reference's bytes do not lie in the program's memory. -/
def Sep (p q : Nat) (A : Option Addr) (B : List Int) : Prop := B ≠ [] → ∀ r o, A = some ⟨r, o, none⟩ → r ≠ p ∧ r ≠ q
def PlTo (p q : Nat) (l lx : Lim) (A0 : Option Addr) (B0 B : List Int) (w : World) (e : Ending) (w' : World) : Prop :=
  ∃ (q' c' : Nat) (A : Option Addr) (cx : Nat), e = .returned (.tuple #[.agg #[.int .i64 lx.min, .int .i64 lx.max, .bool lx.has, .slice A B.length cx], .bool true]) ∧ Mo w' p q' c' l B ∧ RmIn w' A cx B ∧ Sep p q' A B ∧ (q' = q ∨ w.heap.size ≤ q') ∧ ((A = A0 ∧ B = B0) ∨ ∀ r o, A = some ⟨r, o, none⟩ → w.heap.size ≤ r) ∧ Fr (Two p q) w w'
theorem Blk.new2 (w : World) (o1 o2 : Obj) (t : TypeId) (cs : Array Value) : Blk (((w.alloc o1).alloc o2).alloc (.cells cs t)) (w.heap.size + 1 + 1) t cs := by
  have := Blk.new1 (w.alloc o1) o2 t cs
  simpa using this
structure Okm (l : Lim) (B : List Int) : Prop where
  len : B.length ≤ 65536
  whole : B.length % 256 = 0
  pages : ((B.length / 256 : Nat) : Int) ≤ most l
  most_ : most l ≤ 256
structure Oka (a : Ac) : Prop where
  to_ : 0 ≤ a.to_ ∧ a.to_ < 18446744073709551616
  at_ : 0 ≤ a.at_ ∧ a.at_ < 18446744073709551616
  n : 0 ≤ a.n ∧ a.n < 18446744073709551616
  x : 0 ≤ a.x ∧ a.x < 18446744073709551616
  b : a.b.length ≤ 1000000

set_option maxRecDepth 100000 in
set_option maxHeartbeats 3200000 in
theorem play1 (p q c : Nat) (l lx : Lim) (A : Option Addr) (cx : Nat) (B : List Int) (a : Ac) (Ab : Option Addr) (cb : Nat) (w : World) (hM : Mo w p q c l B) (hR : RmIn w A cx B) (hS : Sep p q A B) (hK : Okm l B) (hm : most l = most lx) (ha : Oka a) (hAb : SrcIn w Ab cb a.b) (hAs : Sep p q Ab a.b) (hcall : a.call = 1) :
    Calls Try.prog 17 #[.pointer (some ⟨p, 0, none⟩), .agg #[.int .i64 lx.min, .int .i64 lx.max, .bool lx.has, .slice A B.length cx], .agg #[.int .i64 1, .int .i64 a.op, .int .u64 a.to_, .int .u64 a.at_, .int .u64 a.n, .int .u64 a.x, .slice Ab a.b.length cb]] w (PlTo p q l lx A B (playR l B a) w) := by
  have hpl : playR l B a = (growR l B (lo a.n)).1 := by unfold playR; simp [hcall]
  rw [hpl]
  clear hpl
  have F := hid ((((Fr.refl No w).alloc (.cells #[.int .i64 lx.min, .int .i64 lx.max, .bool lx.has, .slice A B.length cx] 28)).alloc (.cells #[.int .i64 1, .int .i64 a.op, .int .u64 a.to_, .int .u64 a.at_, .int .u64 a.n, .int .u64 a.x, .slice Ab a.b.length cb] 44)).alloc (.cells #[.int .i64 0, .int .i64 0, .bool false, .slice none 0 0] 28))
  have G4 := hid (((Blk.new w 28 #[.int .i64 lx.min, .int .i64 lx.max, .bool lx.has, .slice A B.length cx]).alloc (.cells #[.int .i64 1, .int .i64 a.op, .int .u64 a.to_, .int .u64 a.at_, .int .u64 a.n, .int .u64 a.x, .slice Ab a.b.length cb] 44)).alloc (.cells #[.int .i64 0, .int .i64 0, .bool false, .slice none 0 0] 28))
  have G5 := hid ((Blk.new1 w (.cells #[.int .i64 lx.min, .int .i64 lx.max, .bool lx.has, .slice A B.length cx] 28) 44 #[.int .i64 1, .int .i64 a.op, .int .u64 a.to_, .int .u64 a.at_, .int .u64 a.n, .int .u64 a.x, .slice Ab a.b.length cb]).alloc (.cells #[.int .i64 0, .int .i64 0, .bool false, .slice none 0 0] 28))
  have G6 := hid (Blk.new2 w (.cells #[.int .i64 lx.min, .int .i64 lx.max, .bool lx.has, .slice A B.length cx] 28) (.cells #[.int .i64 1, .int .i64 a.op, .int .u64 a.to_, .int .u64 a.at_, .int .u64 a.n, .int .u64 a.x, .slice Ab a.b.length cb] 44) 28 #[.int .i64 0, .int .i64 0, .bool false, .slice none 0 0])
  have hpw := hM.hp.lt
  have hqw := hM.own.lt
  have HM := hid (hM.frNo F.out)
  have HR := hid (hR.fr F.out)
  have HB := hid (hAb.fr F.out)
  have HS := hid hS
  have HRB := hid (fun (hB : B ≠ []) (q : Nat) (o : Nat) (e : A = some ⟨q, o, none⟩) => hR.blk hB e)
  have HA := hid ha
  have HK := hid hK
  clear hM hR hS hAb ha hK
  go_enter Try.func17, Try.ntmps17
  go_wp2_with fail
  generalize ((w.alloc (.cells #[.int .i64 lx.min, .int .i64 lx.max, .bool lx.has, .slice A B.length cx] 28)).alloc (.cells #[.int .i64 1, .int .i64 a.op, .int .u64 a.to_, .int .u64 a.at_, .int .u64 a.n, .int .u64 a.x, .slice Ab a.b.length cb] 44)).alloc (.cells #[.int .i64 0, .int .i64 0, .bool false, .slice none 0 0] 28) = W at *
  have y0 := G5.out.cell 0
  have y1 := G5.out.cell 1
  have y2 := G5.out.cell 2
  have y3 := G5.out.cell 3
  have y4 := G5.out.cell 4
  have y5 := G5.out.cell 5
  have y6 := G5.out.cell 6
  have x0 := G4.out.cell 0
  have x1 := G4.out.cell 1
  have x2 := G4.out.cell 2
  have x3 := G4.out.cell 3
  go_wp2_with fail
  have HPR := hid (mgrow_any p q c l B a.n _ HM.out HK.out.len HK.out.pages HK.out.most_ HA.out.n)
  have HRR := hid (fun X (h : RmIn X A cx B) => rmgrow_any lx A cx B a.n X h HK.out.len (by rw [← hm]; exact HK.out.pages) (by rw [← hm]; exact HK.out.most_) HA.out.n)
  unfold rmv at HRR
  rw [show growR lx B (lo a.n) = growR l B (lo a.n) from by unfold growR; rw [hm]] at HRR
  generalize growR l B (lo a.n) = T at *
  obtain ⟨B2, t2⟩ := T
  refine HPR.out.mono ?_
  rintro e w1 ⟨rfl, q1, c1, hm1, f, hq1⟩
  have HQ1 := hid hq1
  clear hq1
  have hl1 := hm1.hp.lt
  have hl2 := hm1.own.lt
  have hl3 := G6.out.lt
  have hl4 := f.size
  have HM1 := hid hm1
  clear hm1
  have F1 := hid f
  replace G4 := hid (G4.out.fr f (fun h => by unfold Two at h; omega))
  replace G5 := hid (G5.out.fr f (fun h => by unfold Two at h; omega))
  replace G6 := hid (G6.out.fr f (fun h => by unfold Two at h; omega))
  clear y0 y1 y2 y3 y4 y5 y6 x0 x1 x2 x3
  replace HR := hid (HR.out.frM f (fun hB r o e h => by have h1 := HS.out hB r o e; unfold Two at h; omega))
  replace HB := hid (HB.out.frM f (fun hB r o e h => by have h1 := hAs hB r o e; unfold Two at h; omega))
  clear f
  have y0 := G5.out.cell 0
  have y1 := G5.out.cell 1
  have y2 := G5.out.cell 2
  have y3 := G5.out.cell 3
  have y4 := G5.out.cell 4
  have y5 := G5.out.cell 5
  have y6 := G5.out.cell 6
  have x0 := G4.out.cell 0
  have x1 := G4.out.cell 1
  have x2 := G4.out.cell 2
  have x3 := G4.out.cell 3
  go_wp2_with fail
  refine (HRR.out _ HR.out).mono ?_
  rintro e w2 ⟨E, ec, rfl, hr2, hold, f⟩
  have HR2 := hid hr2
  have HOLD := hid hold
  have F2 := hid f
  clear hr2 hold
  replace HM1 := hid (HM1.out.frNo f)
  replace G4 := hid (G4.out.fr f (fun x => x))
  replace G5 := hid (G5.out.fr f (fun x => x))
  replace G6 := hid (G6.out.fr f (fun x => x))
  clear y0 y1 y2 y3 y4 y5 y6 x0 x1 x2 x3
  clear f HPR HRR
  have z0 : w2.cell? ⟨w.heap.size + 1 + 1, 0, none⟩ = some (.int .i64 0) := G6.out.cell 0
  have zq0 : w2.frozen? ⟨w.heap.size + 1 + 1, 0, none⟩ = false := G6.out.frozen 0
  have z1 : w2.cell? ⟨w.heap.size + 1 + 1, 1, none⟩ = some (.int .i64 0) := G6.out.cell 1
  have zq1 : w2.frozen? ⟨w.heap.size + 1 + 1, 1, none⟩ = false := G6.out.frozen 1
  have z2 : w2.cell? ⟨w.heap.size + 1 + 1, 2, none⟩ = some (.bool false) := G6.out.cell 2
  have zq2 : w2.frozen? ⟨w.heap.size + 1 + 1, 2, none⟩ = false := G6.out.frozen 2
  have z3 : w2.cell? ⟨w.heap.size + 1 + 1, 3, none⟩ = some (.slice none 0 0) := G6.out.cell 3
  have zq3 : w2.frozen? ⟨w.heap.size + 1 + 1, 3, none⟩ = false := G6.out.frozen 3
  have hlt : w.heap.size + 1 + 1 < w2.heap.size := G6.out.lt
  go_wp2
  have FZ := (((((Fr.refl (One (w.heap.size + 1 + 1)) w2).setCell ⟨w.heap.size + 1 + 1, 0, none⟩ (.int .i64 lx.min) (fun _ => rfl)).setCell ⟨w.heap.size + 1 + 1, 1, none⟩ (.int .i64 lx.max) (fun _ => rfl)).setCell ⟨w.heap.size + 1 + 1, 2, none⟩ (.bool lx.has) (fun _ => rfl)).setCell ⟨w.heap.size + 1 + 1, 3, none⟩ (.slice E B2.length ec) (fun _ => rfl)).alloc (.cells #[.int .i64 lx.min, .int .i64 lx.max, .bool lx.has, .slice E B2.length ec] 28)
  have FF : Fr (Two p q) w _ := (((F.out.mono (M := Two p q) (fun _ _ h => h.elim)).trans F1.out (fun i hi h => h)).trans F2.out (fun _ _ h => h.elim)).trans FZ (fun i hi h => by unfold One at h; omega)
  have hq1 := HQ1.out
  have hl5 := F.out.size
  have hE : B2 ≠ [] → ∀ r o, E = some ⟨r, o, none⟩ → (r < w.heap.size ∧ r ≠ p ∧ r ≠ q) ∨ w1.heap.size ≤ r := fun hne r o he => by
    rcases HOLD.out with ⟨rfl, rfl⟩ | ho
    · exact .inl ⟨HRB.out hne r o he, HS.out hne r o he⟩
    · exact .inr (ho r o he)
  exact bodyPost_ret (v := .tuple #[.agg #[.int .i64 lx.min, .int .i64 lx.max, .bool lx.has, .slice E B2.length ec], .bool true]) (by simp [results, Try.results17, go_sem, z0, z1, z2, z3, hlt]) rfl ⟨q1, c1, E, ec, rfl, HM1.out.fr FZ (fun h => by unfold One at h; omega) (fun h => by unfold One at h; omega), HR2.out.frM FZ (fun hne r o he h => by have h1 := hE hne r o he; unfold One at h; omega), (fun hne r o he => by have h1 := hE hne r o he; constructor <;> omega), (by omega), (HOLD.out.imp id (fun h r o e => by have h1 := h r o e; omega)), FF⟩
set_option maxRecDepth 100000 in
set_option maxHeartbeats 3200000 in
theorem play2 (p q c : Nat) (l lx : Lim) (A : Option Addr) (cx : Nat) (B : List Int) (a : Ac) (Ab : Option Addr) (cb : Nat) (w : World) (hM : Mo w p q c l B) (hR : RmIn w A cx B) (hS : Sep p q A B) (hK : Okm l B) (hm : most l = most lx) (ha : Oka a) (hAb : SrcIn w Ab cb a.b) (hAs : Sep p q Ab a.b) (hcall : a.call = 2) :
    Calls Try.prog 17 #[.pointer (some ⟨p, 0, none⟩), .agg #[.int .i64 lx.min, .int .i64 lx.max, .bool lx.has, .slice A B.length cx], .agg #[.int .i64 2, .int .i64 a.op, .int .u64 a.to_, .int .u64 a.at_, .int .u64 a.n, .int .u64 a.x, .slice Ab a.b.length cb]] w (PlTo p q l lx A B (playR l B a) w) := by
  have hpl : playR l B a = (storeR a.op B a.to_ a.at_ a.x).1 := by unfold playR; simp [hcall]
  rw [hpl]
  clear hpl
  have F := hid ((((Fr.refl No w).alloc (.cells #[.int .i64 lx.min, .int .i64 lx.max, .bool lx.has, .slice A B.length cx] 28)).alloc (.cells #[.int .i64 2, .int .i64 a.op, .int .u64 a.to_, .int .u64 a.at_, .int .u64 a.n, .int .u64 a.x, .slice Ab a.b.length cb] 44)).alloc (.cells #[.int .i64 0, .int .i64 0, .bool false, .slice none 0 0] 28))
  have G4 := hid (((Blk.new w 28 #[.int .i64 lx.min, .int .i64 lx.max, .bool lx.has, .slice A B.length cx]).alloc (.cells #[.int .i64 2, .int .i64 a.op, .int .u64 a.to_, .int .u64 a.at_, .int .u64 a.n, .int .u64 a.x, .slice Ab a.b.length cb] 44)).alloc (.cells #[.int .i64 0, .int .i64 0, .bool false, .slice none 0 0] 28))
  have G5 := hid ((Blk.new1 w (.cells #[.int .i64 lx.min, .int .i64 lx.max, .bool lx.has, .slice A B.length cx] 28) 44 #[.int .i64 2, .int .i64 a.op, .int .u64 a.to_, .int .u64 a.at_, .int .u64 a.n, .int .u64 a.x, .slice Ab a.b.length cb]).alloc (.cells #[.int .i64 0, .int .i64 0, .bool false, .slice none 0 0] 28))
  have G6 := hid (Blk.new2 w (.cells #[.int .i64 lx.min, .int .i64 lx.max, .bool lx.has, .slice A B.length cx] 28) (.cells #[.int .i64 2, .int .i64 a.op, .int .u64 a.to_, .int .u64 a.at_, .int .u64 a.n, .int .u64 a.x, .slice Ab a.b.length cb] 44) 28 #[.int .i64 0, .int .i64 0, .bool false, .slice none 0 0])
  have hpw := hM.hp.lt
  have hqw := hM.own.lt
  have HM := hid (hM.frNo F.out)
  have HR := hid (hR.fr F.out)
  have HB := hid (hAb.fr F.out)
  have HS := hid hS
  have HRB := hid (fun (hB : B ≠ []) (q : Nat) (o : Nat) (e : A = some ⟨q, o, none⟩) => hR.blk hB e)
  have HA := hid ha
  have HK := hid hK
  clear hM hR hS hAb ha hK
  go_enter Try.func17, Try.ntmps17
  go_wp2_with fail
  generalize ((w.alloc (.cells #[.int .i64 lx.min, .int .i64 lx.max, .bool lx.has, .slice A B.length cx] 28)).alloc (.cells #[.int .i64 2, .int .i64 a.op, .int .u64 a.to_, .int .u64 a.at_, .int .u64 a.n, .int .u64 a.x, .slice Ab a.b.length cb] 44)).alloc (.cells #[.int .i64 0, .int .i64 0, .bool false, .slice none 0 0] 28) = W at *
  have y0 := G5.out.cell 0
  have y1 := G5.out.cell 1
  have y2 := G5.out.cell 2
  have y3 := G5.out.cell 3
  have y4 := G5.out.cell 4
  have y5 := G5.out.cell 5
  have y6 := G5.out.cell 6
  have x0 := G4.out.cell 0
  have x1 := G4.out.cell 1
  have x2 := G4.out.cell 2
  have x3 := G4.out.cell 3
  go_wp2_with fail
  have HPR := hid (mstore_any p q c l B a.op a.to_ a.at_ a.x _ HM.out (by have := HK.out.len; omega) HA.out.to_ HA.out.at_ HA.out.x)
  have HRR := hid (fun X (h : RmIn X A cx B) (hb : SrcIn X Ab cb a.b) => rmstore_any lx A cx B a.op a.to_ a.at_ a.x X h (by have := HK.out.len; omega) HA.out.to_ HA.out.at_ HA.out.x)
  unfold rmv at HRR
  generalize storeR a.op B a.to_ a.at_ a.x = T at *
  obtain ⟨B2, t2⟩ := T
  refine HPR.out.mono ?_
  rintro e w1 ⟨rfl, hm1, f⟩
  have hl1 := hm1.hp.lt
  have hl2 := hm1.own.lt
  have hl3 := G6.out.lt
  have hl4 := f.size
  have HM1 := hid hm1
  clear hm1
  have F1 := hid f
  replace G4 := hid (G4.out.fr f (fun h => by unfold One at h; omega))
  replace G5 := hid (G5.out.fr f (fun h => by unfold One at h; omega))
  replace G6 := hid (G6.out.fr f (fun h => by unfold One at h; omega))
  clear y0 y1 y2 y3 y4 y5 y6 x0 x1 x2 x3
  replace HR := hid (HR.out.frM f (fun hB r o e h => by have h1 := HS.out hB r o e; unfold One at h; omega))
  replace HB := hid (HB.out.frM f (fun hB r o e h => by have h1 := hAs hB r o e; unfold One at h; omega))
  clear f
  have y0 := G5.out.cell 0
  have y1 := G5.out.cell 1
  have y2 := G5.out.cell 2
  have y3 := G5.out.cell 3
  have y4 := G5.out.cell 4
  have y5 := G5.out.cell 5
  have y6 := G5.out.cell 6
  have x0 := G4.out.cell 0
  have x1 := G4.out.cell 1
  have x2 := G4.out.cell 2
  have x3 := G4.out.cell 3
  go_wp2_with fail
  refine (HRR.out _ HR.out HB.out).mono ?_
  rintro e w2 ⟨E, ec, rfl, hr2, hold, f⟩
  have HR2 := hid hr2
  have HOLD := hid hold
  have F2 := hid f
  clear hr2 hold
  replace HM1 := hid (HM1.out.frNo f)
  replace G4 := hid (G4.out.fr f (fun x => x))
  replace G5 := hid (G5.out.fr f (fun x => x))
  replace G6 := hid (G6.out.fr f (fun x => x))
  clear y0 y1 y2 y3 y4 y5 y6 x0 x1 x2 x3
  clear f HPR HRR
  have z0 : w2.cell? ⟨w.heap.size + 1 + 1, 0, none⟩ = some (.int .i64 0) := G6.out.cell 0
  have zq0 : w2.frozen? ⟨w.heap.size + 1 + 1, 0, none⟩ = false := G6.out.frozen 0
  have z1 : w2.cell? ⟨w.heap.size + 1 + 1, 1, none⟩ = some (.int .i64 0) := G6.out.cell 1
  have zq1 : w2.frozen? ⟨w.heap.size + 1 + 1, 1, none⟩ = false := G6.out.frozen 1
  have z2 : w2.cell? ⟨w.heap.size + 1 + 1, 2, none⟩ = some (.bool false) := G6.out.cell 2
  have zq2 : w2.frozen? ⟨w.heap.size + 1 + 1, 2, none⟩ = false := G6.out.frozen 2
  have z3 : w2.cell? ⟨w.heap.size + 1 + 1, 3, none⟩ = some (.slice none 0 0) := G6.out.cell 3
  have zq3 : w2.frozen? ⟨w.heap.size + 1 + 1, 3, none⟩ = false := G6.out.frozen 3
  have hlt : w.heap.size + 1 + 1 < w2.heap.size := G6.out.lt
  go_wp2
  have FZ := (((((Fr.refl (One (w.heap.size + 1 + 1)) w2).setCell ⟨w.heap.size + 1 + 1, 0, none⟩ (.int .i64 lx.min) (fun _ => rfl)).setCell ⟨w.heap.size + 1 + 1, 1, none⟩ (.int .i64 lx.max) (fun _ => rfl)).setCell ⟨w.heap.size + 1 + 1, 2, none⟩ (.bool lx.has) (fun _ => rfl)).setCell ⟨w.heap.size + 1 + 1, 3, none⟩ (.slice E B2.length ec) (fun _ => rfl)).alloc (.cells #[.int .i64 lx.min, .int .i64 lx.max, .bool lx.has, .slice E B2.length ec] 28)
  have FF : Fr (Two p q) w _ := (((F.out.mono (M := Two p q) (fun _ _ h => h.elim)).trans F1.out (fun i hi h => .inr h)).trans F2.out (fun _ _ h => h.elim)).trans FZ (fun i hi h => by unfold One at h; omega)
  have hl5 := F.out.size
  have hE : B2 ≠ [] → ∀ r o, E = some ⟨r, o, none⟩ → (r < w.heap.size ∧ r ≠ p ∧ r ≠ q) ∨ w1.heap.size ≤ r := fun hne r o he => by
    rcases HOLD.out with ⟨rfl, rfl⟩ | ho
    · exact .inl ⟨HRB.out hne r o he, HS.out hne r o he⟩
    · exact .inr (ho r o he)
  exact bodyPost_ret (v := .tuple #[.agg #[.int .i64 lx.min, .int .i64 lx.max, .bool lx.has, .slice E B2.length ec], .bool true]) (by simp [results, Try.results17, go_sem, z0, z1, z2, z3, hlt]) rfl ⟨q, c, E, ec, rfl, HM1.out.fr FZ (fun h => by unfold One at h; omega) (fun h => by unfold One at h; omega), HR2.out.frM FZ (fun hne r o he h => by have h1 := hE hne r o he; unfold One at h; omega), (fun hne r o he => by have h1 := hE hne r o he; constructor <;> omega), .inl rfl, (HOLD.out.imp id (fun h r o e => by have h1 := h r o e; omega)), FF⟩
set_option maxRecDepth 100000 in
set_option maxHeartbeats 3200000 in
theorem play3 (p q c : Nat) (l lx : Lim) (A : Option Addr) (cx : Nat) (B : List Int) (a : Ac) (Ab : Option Addr) (cb : Nat) (w : World) (hM : Mo w p q c l B) (hR : RmIn w A cx B) (hS : Sep p q A B) (hK : Okm l B) (hm : most l = most lx) (ha : Oka a) (hAb : SrcIn w Ab cb a.b) (hAs : Sep p q Ab a.b) (hcall : a.call = 3) :
    Calls Try.prog 17 #[.pointer (some ⟨p, 0, none⟩), .agg #[.int .i64 lx.min, .int .i64 lx.max, .bool lx.has, .slice A B.length cx], .agg #[.int .i64 3, .int .i64 a.op, .int .u64 a.to_, .int .u64 a.at_, .int .u64 a.n, .int .u64 a.x, .slice Ab a.b.length cb]] w (PlTo p q l lx A B (playR l B a) w) := by
  have hpl : playR l B a = B := by unfold playR; simp [hcall]
  rw [hpl]
  clear hpl
  have F := hid ((((Fr.refl No w).alloc (.cells #[.int .i64 lx.min, .int .i64 lx.max, .bool lx.has, .slice A B.length cx] 28)).alloc (.cells #[.int .i64 3, .int .i64 a.op, .int .u64 a.to_, .int .u64 a.at_, .int .u64 a.n, .int .u64 a.x, .slice Ab a.b.length cb] 44)).alloc (.cells #[.int .i64 0, .int .i64 0, .bool false, .slice none 0 0] 28))
  have G4 := hid (((Blk.new w 28 #[.int .i64 lx.min, .int .i64 lx.max, .bool lx.has, .slice A B.length cx]).alloc (.cells #[.int .i64 3, .int .i64 a.op, .int .u64 a.to_, .int .u64 a.at_, .int .u64 a.n, .int .u64 a.x, .slice Ab a.b.length cb] 44)).alloc (.cells #[.int .i64 0, .int .i64 0, .bool false, .slice none 0 0] 28))
  have G5 := hid ((Blk.new1 w (.cells #[.int .i64 lx.min, .int .i64 lx.max, .bool lx.has, .slice A B.length cx] 28) 44 #[.int .i64 3, .int .i64 a.op, .int .u64 a.to_, .int .u64 a.at_, .int .u64 a.n, .int .u64 a.x, .slice Ab a.b.length cb]).alloc (.cells #[.int .i64 0, .int .i64 0, .bool false, .slice none 0 0] 28))
  have G6 := hid (Blk.new2 w (.cells #[.int .i64 lx.min, .int .i64 lx.max, .bool lx.has, .slice A B.length cx] 28) (.cells #[.int .i64 3, .int .i64 a.op, .int .u64 a.to_, .int .u64 a.at_, .int .u64 a.n, .int .u64 a.x, .slice Ab a.b.length cb] 44) 28 #[.int .i64 0, .int .i64 0, .bool false, .slice none 0 0])
  have hpw := hM.hp.lt
  have hqw := hM.own.lt
  have HM := hid (hM.frNo F.out)
  have HR := hid (hR.fr F.out)
  have HB := hid (hAb.fr F.out)
  have HS := hid hS
  have HRB := hid (fun (hB : B ≠ []) (q : Nat) (o : Nat) (e : A = some ⟨q, o, none⟩) => hR.blk hB e)
  have HA := hid ha
  have HK := hid hK
  clear hM hR hS hAb ha hK
  go_enter Try.func17, Try.ntmps17
  go_wp2_with fail
  generalize ((w.alloc (.cells #[.int .i64 lx.min, .int .i64 lx.max, .bool lx.has, .slice A B.length cx] 28)).alloc (.cells #[.int .i64 3, .int .i64 a.op, .int .u64 a.to_, .int .u64 a.at_, .int .u64 a.n, .int .u64 a.x, .slice Ab a.b.length cb] 44)).alloc (.cells #[.int .i64 0, .int .i64 0, .bool false, .slice none 0 0] 28) = W at *
  have y0 := G5.out.cell 0
  have y1 := G5.out.cell 1
  have y2 := G5.out.cell 2
  have y3 := G5.out.cell 3
  have y4 := G5.out.cell 4
  have y5 := G5.out.cell 5
  have y6 := G5.out.cell 6
  have x0 := G4.out.cell 0
  have x1 := G4.out.cell 1
  have x2 := G4.out.cell 2
  have x3 := G4.out.cell 3
  go_wp2_with fail
  have HL := hid (fun X (f : Fr No W X) => load_any p (some ⟨q, 0, none⟩) c B a.op a.to_ a.at_ (· < X.heap.size) X ((HM.out.frNo f).hp.cell 3) (HM.out.frNo f).hp.lt (own_els (HM.out.frNo f)).els (fun _ x => x) HM.out.cap (by have := HK.out.len; omega) HA.out.to_ HA.out.at_)
  have HLR := hid (fun X (f : Fr No W X) => rmload_any lx A cx B a.op a.to_ a.at_ (· < X.heap.size) X (HR.out.fr f).els (fun _ x => x) HR.out.cap (by have := HK.out.len; omega) HA.out.to_ HA.out.at_)
  unfold rmv at HLR
  generalize loadR a.op B a.to_ a.at_ = T at *
  obtain ⟨t1, t2⟩ := T
  refine (HL.out _ (Fr.refl _ _)).mono ?_
  rintro e w1 ⟨rfl, f⟩
  have F1 := hid f
  clear f
  replace G4 := hid (G4.out.fr F1.out (fun x => x))
  replace G5 := hid (G5.out.fr F1.out (fun x => x))
  replace G6 := hid (G6.out.fr F1.out (fun x => x))
  clear y0 y1 y2 y3 y4 y5 y6 x0 x1 x2 x3
  have y0 := G5.out.cell 0
  have y1 := G5.out.cell 1
  have y2 := G5.out.cell 2
  have y3 := G5.out.cell 3
  have y4 := G5.out.cell 4
  have y5 := G5.out.cell 5
  have y6 := G5.out.cell 6
  have x0 := G4.out.cell 0
  have x1 := G4.out.cell 1
  have x2 := G4.out.cell 2
  have x3 := G4.out.cell 3
  go_wp2_with fail
  refine (HLR.out _ F1.out).mono ?_
  rintro e w2 ⟨rfl, f⟩
  have F2 := hid (F1.out.trans f (fun _ _ h => h))
  replace G4 := hid (G4.out.fr f (fun x => x))
  replace G5 := hid (G5.out.fr f (fun x => x))
  replace G6 := hid (G6.out.fr f (fun x => x))
  clear f HL HLR F1
  clear y0 y1 y2 y3 y4 y5 y6 x0 x1 x2 x3
  have x0 := G4.out.cell 0
  have x1 := G4.out.cell 1
  have x2 := G4.out.cell 2
  have x3 := G4.out.cell 3
  have z0 : w2.cell? ⟨w.heap.size + 1 + 1, 0, none⟩ = some (.int .i64 0) := G6.out.cell 0
  have zq0 : w2.frozen? ⟨w.heap.size + 1 + 1, 0, none⟩ = false := G6.out.frozen 0
  have z1 : w2.cell? ⟨w.heap.size + 1 + 1, 1, none⟩ = some (.int .i64 0) := G6.out.cell 1
  have zq1 : w2.frozen? ⟨w.heap.size + 1 + 1, 1, none⟩ = false := G6.out.frozen 1
  have z2 : w2.cell? ⟨w.heap.size + 1 + 1, 2, none⟩ = some (.bool false) := G6.out.cell 2
  have zq2 : w2.frozen? ⟨w.heap.size + 1 + 1, 2, none⟩ = false := G6.out.frozen 2
  have z3 : w2.cell? ⟨w.heap.size + 1 + 1, 3, none⟩ = some (.slice none 0 0) := G6.out.cell 3
  have zq3 : w2.frozen? ⟨w.heap.size + 1 + 1, 3, none⟩ = false := G6.out.frozen 3
  have hlt : w.heap.size + 1 + 1 < w2.heap.size := G6.out.lt
  have hlx : w.heap.size < w2.heap.size := by omega
  go_wp2
  have FZ := ((((Fr.refl (One (w.heap.size + 1 + 1)) w2).setCell ⟨w.heap.size + 1 + 1, 0, none⟩ (.int .i64 lx.min) (fun _ => rfl)).setCell ⟨w.heap.size + 1 + 1, 1, none⟩ (.int .i64 lx.max) (fun _ => rfl)).setCell ⟨w.heap.size + 1 + 1, 2, none⟩ (.bool lx.has) (fun _ => rfl)).setCell ⟨w.heap.size + 1 + 1, 3, none⟩ (.slice A B.length cx) (fun _ => rfl)
  have FW := F.out.trans F2.out (fun _ _ h => h)
  have FF : Fr (Two p q) w _ := (FW.mono (M := Two p q) (fun _ _ h => h.elim)).trans FZ (fun i hi h => by unfold One at h; omega)
  exact bodyPost_ret (v := .tuple #[.agg #[.int .i64 lx.min, .int .i64 lx.max, .bool lx.has, .slice A B.length cx], .bool true]) (by simp [results, Try.results17, go_sem, z0, z1, z2, z3]) rfl ⟨q, c, A, cx, rfl, (HM.out.frNo F2.out).fr FZ (fun h => by unfold One at h; omega) (fun h => by unfold One at h; omega), (HR.out.fr F2.out).frM FZ (fun hne r o he h => by have h1 := HRB.out hne r o he; unfold One at h; omega), HS.out, .inl rfl, .inl ⟨rfl, rfl⟩, FF⟩
set_option maxRecDepth 100000 in
set_option maxHeartbeats 3200000 in
theorem play4 (p q c : Nat) (l lx : Lim) (A : Option Addr) (cx : Nat) (B : List Int) (a : Ac) (Ab : Option Addr) (cb : Nat) (w : World) (hM : Mo w p q c l B) (hR : RmIn w A cx B) (hS : Sep p q A B) (hK : Okm l B) (hm : most l = most lx) (ha : Oka a) (hAb : SrcIn w Ab cb a.b) (hAs : Sep p q Ab a.b) (hcall : a.call = 4) :
    Calls Try.prog 17 #[.pointer (some ⟨p, 0, none⟩), .agg #[.int .i64 lx.min, .int .i64 lx.max, .bool lx.has, .slice A B.length cx], .agg #[.int .i64 4, .int .i64 a.op, .int .u64 a.to_, .int .u64 a.at_, .int .u64 a.n, .int .u64 a.x, .slice Ab a.b.length cb]] w (PlTo p q l lx A B (playR l B a) w) := by
  have hpl : playR l B a = (fillR B (lo a.to_) a.x (lo a.n)).1 := by unfold playR; simp [hcall]
  rw [hpl]
  clear hpl
  have F := hid ((((Fr.refl No w).alloc (.cells #[.int .i64 lx.min, .int .i64 lx.max, .bool lx.has, .slice A B.length cx] 28)).alloc (.cells #[.int .i64 4, .int .i64 a.op, .int .u64 a.to_, .int .u64 a.at_, .int .u64 a.n, .int .u64 a.x, .slice Ab a.b.length cb] 44)).alloc (.cells #[.int .i64 0, .int .i64 0, .bool false, .slice none 0 0] 28))
  have G4 := hid (((Blk.new w 28 #[.int .i64 lx.min, .int .i64 lx.max, .bool lx.has, .slice A B.length cx]).alloc (.cells #[.int .i64 4, .int .i64 a.op, .int .u64 a.to_, .int .u64 a.at_, .int .u64 a.n, .int .u64 a.x, .slice Ab a.b.length cb] 44)).alloc (.cells #[.int .i64 0, .int .i64 0, .bool false, .slice none 0 0] 28))
  have G5 := hid ((Blk.new1 w (.cells #[.int .i64 lx.min, .int .i64 lx.max, .bool lx.has, .slice A B.length cx] 28) 44 #[.int .i64 4, .int .i64 a.op, .int .u64 a.to_, .int .u64 a.at_, .int .u64 a.n, .int .u64 a.x, .slice Ab a.b.length cb]).alloc (.cells #[.int .i64 0, .int .i64 0, .bool false, .slice none 0 0] 28))
  have G6 := hid (Blk.new2 w (.cells #[.int .i64 lx.min, .int .i64 lx.max, .bool lx.has, .slice A B.length cx] 28) (.cells #[.int .i64 4, .int .i64 a.op, .int .u64 a.to_, .int .u64 a.at_, .int .u64 a.n, .int .u64 a.x, .slice Ab a.b.length cb] 44) 28 #[.int .i64 0, .int .i64 0, .bool false, .slice none 0 0])
  have hpw := hM.hp.lt
  have hqw := hM.own.lt
  have HM := hid (hM.frNo F.out)
  have HR := hid (hR.fr F.out)
  have HB := hid (hAb.fr F.out)
  have HS := hid hS
  have HRB := hid (fun (hB : B ≠ []) (q : Nat) (o : Nat) (e : A = some ⟨q, o, none⟩) => hR.blk hB e)
  have HA := hid ha
  have HK := hid hK
  clear hM hR hS hAb ha hK
  go_enter Try.func17, Try.ntmps17
  go_wp2_with fail
  generalize ((w.alloc (.cells #[.int .i64 lx.min, .int .i64 lx.max, .bool lx.has, .slice A B.length cx] 28)).alloc (.cells #[.int .i64 4, .int .i64 a.op, .int .u64 a.to_, .int .u64 a.at_, .int .u64 a.n, .int .u64 a.x, .slice Ab a.b.length cb] 44)).alloc (.cells #[.int .i64 0, .int .i64 0, .bool false, .slice none 0 0] 28) = W at *
  have y0 := G5.out.cell 0
  have y1 := G5.out.cell 1
  have y2 := G5.out.cell 2
  have y3 := G5.out.cell 3
  have y4 := G5.out.cell 4
  have y5 := G5.out.cell 5
  have y6 := G5.out.cell 6
  have x0 := G4.out.cell 0
  have x1 := G4.out.cell 1
  have x2 := G4.out.cell 2
  have x3 := G4.out.cell 3
  go_wp2_with fail
  have HPR := hid (mfill_any p q c l B a.to_ a.x a.n _ HM.out (by have := HK.out.len; omega) HA.out.to_ HA.out.x HA.out.n)
  have HRR := hid (fun X (h : RmIn X A cx B) (hb : SrcIn X Ab cb a.b) => rmfill_any lx A cx B a.to_ a.x a.n X h (by have := HK.out.len; omega) HA.out.to_ HA.out.x HA.out.n)
  unfold rmv at HRR
  generalize fillR B (lo a.to_) a.x (lo a.n) = T at *
  obtain ⟨B2, t2⟩ := T
  refine HPR.out.mono ?_
  rintro e w1 ⟨rfl, hm1, f⟩
  have hl1 := hm1.hp.lt
  have hl2 := hm1.own.lt
  have hl3 := G6.out.lt
  have hl4 := f.size
  have HM1 := hid hm1
  clear hm1
  have F1 := hid f
  replace G4 := hid (G4.out.fr f (fun h => by unfold One at h; omega))
  replace G5 := hid (G5.out.fr f (fun h => by unfold One at h; omega))
  replace G6 := hid (G6.out.fr f (fun h => by unfold One at h; omega))
  clear y0 y1 y2 y3 y4 y5 y6 x0 x1 x2 x3
  replace HR := hid (HR.out.frM f (fun hB r o e h => by have h1 := HS.out hB r o e; unfold One at h; omega))
  replace HB := hid (HB.out.frM f (fun hB r o e h => by have h1 := hAs hB r o e; unfold One at h; omega))
  clear f
  have y0 := G5.out.cell 0
  have y1 := G5.out.cell 1
  have y2 := G5.out.cell 2
  have y3 := G5.out.cell 3
  have y4 := G5.out.cell 4
  have y5 := G5.out.cell 5
  have y6 := G5.out.cell 6
  have x0 := G4.out.cell 0
  have x1 := G4.out.cell 1
  have x2 := G4.out.cell 2
  have x3 := G4.out.cell 3
  go_wp2_with fail
  refine (HRR.out _ HR.out HB.out).mono ?_
  rintro e w2 ⟨E, ec, rfl, hr2, hold, f⟩
  have HR2 := hid hr2
  have HOLD := hid hold
  have F2 := hid f
  clear hr2 hold
  replace HM1 := hid (HM1.out.frNo f)
  replace G4 := hid (G4.out.fr f (fun x => x))
  replace G5 := hid (G5.out.fr f (fun x => x))
  replace G6 := hid (G6.out.fr f (fun x => x))
  clear y0 y1 y2 y3 y4 y5 y6 x0 x1 x2 x3
  clear f HPR HRR
  have z0 : w2.cell? ⟨w.heap.size + 1 + 1, 0, none⟩ = some (.int .i64 0) := G6.out.cell 0
  have zq0 : w2.frozen? ⟨w.heap.size + 1 + 1, 0, none⟩ = false := G6.out.frozen 0
  have z1 : w2.cell? ⟨w.heap.size + 1 + 1, 1, none⟩ = some (.int .i64 0) := G6.out.cell 1
  have zq1 : w2.frozen? ⟨w.heap.size + 1 + 1, 1, none⟩ = false := G6.out.frozen 1
  have z2 : w2.cell? ⟨w.heap.size + 1 + 1, 2, none⟩ = some (.bool false) := G6.out.cell 2
  have zq2 : w2.frozen? ⟨w.heap.size + 1 + 1, 2, none⟩ = false := G6.out.frozen 2
  have z3 : w2.cell? ⟨w.heap.size + 1 + 1, 3, none⟩ = some (.slice none 0 0) := G6.out.cell 3
  have zq3 : w2.frozen? ⟨w.heap.size + 1 + 1, 3, none⟩ = false := G6.out.frozen 3
  have hlt : w.heap.size + 1 + 1 < w2.heap.size := G6.out.lt
  go_wp2
  have FZ := (((((Fr.refl (One (w.heap.size + 1 + 1)) w2).setCell ⟨w.heap.size + 1 + 1, 0, none⟩ (.int .i64 lx.min) (fun _ => rfl)).setCell ⟨w.heap.size + 1 + 1, 1, none⟩ (.int .i64 lx.max) (fun _ => rfl)).setCell ⟨w.heap.size + 1 + 1, 2, none⟩ (.bool lx.has) (fun _ => rfl)).setCell ⟨w.heap.size + 1 + 1, 3, none⟩ (.slice E B2.length ec) (fun _ => rfl)).alloc (.cells #[.int .i64 lx.min, .int .i64 lx.max, .bool lx.has, .slice E B2.length ec] 28)
  have FF : Fr (Two p q) w _ := (((F.out.mono (M := Two p q) (fun _ _ h => h.elim)).trans F1.out (fun i hi h => .inr h)).trans F2.out (fun _ _ h => h.elim)).trans FZ (fun i hi h => by unfold One at h; omega)
  have hl5 := F.out.size
  have hE : B2 ≠ [] → ∀ r o, E = some ⟨r, o, none⟩ → (r < w.heap.size ∧ r ≠ p ∧ r ≠ q) ∨ w1.heap.size ≤ r := fun hne r o he => by
    rcases HOLD.out with ⟨rfl, rfl⟩ | ho
    · exact .inl ⟨HRB.out hne r o he, HS.out hne r o he⟩
    · exact .inr (ho r o he)
  exact bodyPost_ret (v := .tuple #[.agg #[.int .i64 lx.min, .int .i64 lx.max, .bool lx.has, .slice E B2.length ec], .bool true]) (by simp [results, Try.results17, go_sem, z0, z1, z2, z3, hlt]) rfl ⟨q, c, E, ec, rfl, HM1.out.fr FZ (fun h => by unfold One at h; omega) (fun h => by unfold One at h; omega), HR2.out.frM FZ (fun hne r o he h => by have h1 := hE hne r o he; unfold One at h; omega), (fun hne r o he => by have h1 := hE hne r o he; constructor <;> omega), .inl rfl, (HOLD.out.imp id (fun h r o e => by have h1 := h r o e; omega)), FF⟩
set_option maxRecDepth 100000 in
set_option maxHeartbeats 3200000 in
theorem play5 (p q c : Nat) (l lx : Lim) (A : Option Addr) (cx : Nat) (B : List Int) (a : Ac) (Ab : Option Addr) (cb : Nat) (w : World) (hM : Mo w p q c l B) (hR : RmIn w A cx B) (hS : Sep p q A B) (hK : Okm l B) (hm : most l = most lx) (ha : Oka a) (hAb : SrcIn w Ab cb a.b) (hAs : Sep p q Ab a.b) (hcall : a.call = 5) :
    Calls Try.prog 17 #[.pointer (some ⟨p, 0, none⟩), .agg #[.int .i64 lx.min, .int .i64 lx.max, .bool lx.has, .slice A B.length cx], .agg #[.int .i64 5, .int .i64 a.op, .int .u64 a.to_, .int .u64 a.at_, .int .u64 a.n, .int .u64 a.x, .slice Ab a.b.length cb]] w (PlTo p q l lx A B (playR l B a) w) := by
  have hpl : playR l B a = (initR B B (lo a.to_) (lo a.at_) (lo a.n)).1 := by unfold playR; simp [hcall]
  rw [hpl]
  clear hpl
  have F := hid ((((Fr.refl No w).alloc (.cells #[.int .i64 lx.min, .int .i64 lx.max, .bool lx.has, .slice A B.length cx] 28)).alloc (.cells #[.int .i64 5, .int .i64 a.op, .int .u64 a.to_, .int .u64 a.at_, .int .u64 a.n, .int .u64 a.x, .slice Ab a.b.length cb] 44)).alloc (.cells #[.int .i64 0, .int .i64 0, .bool false, .slice none 0 0] 28))
  have G4 := hid (((Blk.new w 28 #[.int .i64 lx.min, .int .i64 lx.max, .bool lx.has, .slice A B.length cx]).alloc (.cells #[.int .i64 5, .int .i64 a.op, .int .u64 a.to_, .int .u64 a.at_, .int .u64 a.n, .int .u64 a.x, .slice Ab a.b.length cb] 44)).alloc (.cells #[.int .i64 0, .int .i64 0, .bool false, .slice none 0 0] 28))
  have G5 := hid ((Blk.new1 w (.cells #[.int .i64 lx.min, .int .i64 lx.max, .bool lx.has, .slice A B.length cx] 28) 44 #[.int .i64 5, .int .i64 a.op, .int .u64 a.to_, .int .u64 a.at_, .int .u64 a.n, .int .u64 a.x, .slice Ab a.b.length cb]).alloc (.cells #[.int .i64 0, .int .i64 0, .bool false, .slice none 0 0] 28))
  have G6 := hid (Blk.new2 w (.cells #[.int .i64 lx.min, .int .i64 lx.max, .bool lx.has, .slice A B.length cx] 28) (.cells #[.int .i64 5, .int .i64 a.op, .int .u64 a.to_, .int .u64 a.at_, .int .u64 a.n, .int .u64 a.x, .slice Ab a.b.length cb] 44) 28 #[.int .i64 0, .int .i64 0, .bool false, .slice none 0 0])
  have hpw := hM.hp.lt
  have hqw := hM.own.lt
  have HM := hid (hM.frNo F.out)
  have HR := hid (hR.fr F.out)
  have HB := hid (hAb.fr F.out)
  have HS := hid hS
  have HRB := hid (fun (hB : B ≠ []) (q : Nat) (o : Nat) (e : A = some ⟨q, o, none⟩) => hR.blk hB e)
  have HA := hid ha
  have HK := hid hK
  clear hM hR hS hAb ha hK
  go_enter Try.func17, Try.ntmps17
  go_wp2_with fail
  generalize ((w.alloc (.cells #[.int .i64 lx.min, .int .i64 lx.max, .bool lx.has, .slice A B.length cx] 28)).alloc (.cells #[.int .i64 5, .int .i64 a.op, .int .u64 a.to_, .int .u64 a.at_, .int .u64 a.n, .int .u64 a.x, .slice Ab a.b.length cb] 44)).alloc (.cells #[.int .i64 0, .int .i64 0, .bool false, .slice none 0 0] 28) = W at *
  have y0 := G5.out.cell 0
  have y1 := G5.out.cell 1
  have y2 := G5.out.cell 2
  have y3 := G5.out.cell 3
  have y4 := G5.out.cell 4
  have y5 := G5.out.cell 5
  have y6 := G5.out.cell 6
  have x0 := G4.out.cell 0
  have x1 := G4.out.cell 1
  have x2 := G4.out.cell 2
  have x3 := G4.out.cell 3
  go_wp2_with fail
  have HPR := hid (mcopy_any p q c p q c l l B B a.to_ a.at_ a.n _ HM.out HM.out (by have := HK.out.len; omega) (by have := HK.out.len; omega) HA.out.to_ HA.out.at_ HA.out.n)
  have HRR := hid (fun X (h : RmIn X A cx B) (hb : SrcIn X Ab cb a.b) => rmcopy_any lx lx A A cx cx B B a.to_ a.at_ a.n X h h (by have := HK.out.len; omega) (by have := HK.out.len; omega) HA.out.to_ HA.out.at_ HA.out.n)
  unfold rmv at HRR
  generalize initR B B (lo a.to_) (lo a.at_) (lo a.n) = T at *
  obtain ⟨B2, t2⟩ := T
  refine HPR.out.mono ?_
  rintro e w1 ⟨rfl, hm1, f⟩
  have hl1 := hm1.hp.lt
  have hl2 := hm1.own.lt
  have hl3 := G6.out.lt
  have hl4 := f.size
  have HM1 := hid hm1
  clear hm1
  have F1 := hid f
  replace G4 := hid (G4.out.fr f (fun h => by unfold One at h; omega))
  replace G5 := hid (G5.out.fr f (fun h => by unfold One at h; omega))
  replace G6 := hid (G6.out.fr f (fun h => by unfold One at h; omega))
  clear y0 y1 y2 y3 y4 y5 y6 x0 x1 x2 x3
  replace HR := hid (HR.out.frM f (fun hB r o e h => by have h1 := HS.out hB r o e; unfold One at h; omega))
  replace HB := hid (HB.out.frM f (fun hB r o e h => by have h1 := hAs hB r o e; unfold One at h; omega))
  clear f
  have y0 := G5.out.cell 0
  have y1 := G5.out.cell 1
  have y2 := G5.out.cell 2
  have y3 := G5.out.cell 3
  have y4 := G5.out.cell 4
  have y5 := G5.out.cell 5
  have y6 := G5.out.cell 6
  have x0 := G4.out.cell 0
  have x1 := G4.out.cell 1
  have x2 := G4.out.cell 2
  have x3 := G4.out.cell 3
  go_wp2_with fail
  refine (HRR.out _ HR.out HB.out).mono ?_
  rintro e w2 ⟨E, ec, rfl, hr2, hold, f⟩
  have HR2 := hid hr2
  have HOLD := hid hold
  have F2 := hid f
  clear hr2 hold
  replace HM1 := hid (HM1.out.frNo f)
  replace G4 := hid (G4.out.fr f (fun x => x))
  replace G5 := hid (G5.out.fr f (fun x => x))
  replace G6 := hid (G6.out.fr f (fun x => x))
  clear y0 y1 y2 y3 y4 y5 y6 x0 x1 x2 x3
  clear f HPR HRR
  have z0 : w2.cell? ⟨w.heap.size + 1 + 1, 0, none⟩ = some (.int .i64 0) := G6.out.cell 0
  have zq0 : w2.frozen? ⟨w.heap.size + 1 + 1, 0, none⟩ = false := G6.out.frozen 0
  have z1 : w2.cell? ⟨w.heap.size + 1 + 1, 1, none⟩ = some (.int .i64 0) := G6.out.cell 1
  have zq1 : w2.frozen? ⟨w.heap.size + 1 + 1, 1, none⟩ = false := G6.out.frozen 1
  have z2 : w2.cell? ⟨w.heap.size + 1 + 1, 2, none⟩ = some (.bool false) := G6.out.cell 2
  have zq2 : w2.frozen? ⟨w.heap.size + 1 + 1, 2, none⟩ = false := G6.out.frozen 2
  have z3 : w2.cell? ⟨w.heap.size + 1 + 1, 3, none⟩ = some (.slice none 0 0) := G6.out.cell 3
  have zq3 : w2.frozen? ⟨w.heap.size + 1 + 1, 3, none⟩ = false := G6.out.frozen 3
  have hlt : w.heap.size + 1 + 1 < w2.heap.size := G6.out.lt
  go_wp2
  have FZ := (((((Fr.refl (One (w.heap.size + 1 + 1)) w2).setCell ⟨w.heap.size + 1 + 1, 0, none⟩ (.int .i64 lx.min) (fun _ => rfl)).setCell ⟨w.heap.size + 1 + 1, 1, none⟩ (.int .i64 lx.max) (fun _ => rfl)).setCell ⟨w.heap.size + 1 + 1, 2, none⟩ (.bool lx.has) (fun _ => rfl)).setCell ⟨w.heap.size + 1 + 1, 3, none⟩ (.slice E B2.length ec) (fun _ => rfl)).alloc (.cells #[.int .i64 lx.min, .int .i64 lx.max, .bool lx.has, .slice E B2.length ec] 28)
  have FF : Fr (Two p q) w _ := (((F.out.mono (M := Two p q) (fun _ _ h => h.elim)).trans F1.out (fun i hi h => .inr h)).trans F2.out (fun _ _ h => h.elim)).trans FZ (fun i hi h => by unfold One at h; omega)
  have hl5 := F.out.size
  have hE : B2 ≠ [] → ∀ r o, E = some ⟨r, o, none⟩ → (r < w.heap.size ∧ r ≠ p ∧ r ≠ q) ∨ w1.heap.size ≤ r := fun hne r o he => by
    rcases HOLD.out with ⟨rfl, rfl⟩ | ho
    · exact .inl ⟨HRB.out hne r o he, HS.out hne r o he⟩
    · exact .inr (ho r o he)
  exact bodyPost_ret (v := .tuple #[.agg #[.int .i64 lx.min, .int .i64 lx.max, .bool lx.has, .slice E B2.length ec], .bool true]) (by simp [results, Try.results17, go_sem, z0, z1, z2, z3, hlt]) rfl ⟨q, c, E, ec, rfl, HM1.out.fr FZ (fun h => by unfold One at h; omega) (fun h => by unfold One at h; omega), HR2.out.frM FZ (fun hne r o he h => by have h1 := hE hne r o he; unfold One at h; omega), (fun hne r o he => by have h1 := hE hne r o he; constructor <;> omega), .inl rfl, (HOLD.out.imp id (fun h r o e => by have h1 := h r o e; omega)), FF⟩
set_option maxRecDepth 100000 in
set_option maxHeartbeats 3200000 in
theorem play6 (p q c : Nat) (l lx : Lim) (A : Option Addr) (cx : Nat) (B : List Int) (a : Ac) (Ab : Option Addr) (cb : Nat) (w : World) (hM : Mo w p q c l B) (hR : RmIn w A cx B) (hS : Sep p q A B) (hK : Okm l B) (hm : most l = most lx) (ha : Oka a) (hAb : SrcIn w Ab cb a.b) (hAs : Sep p q Ab a.b) (hcall : a.call = 6) :
    Calls Try.prog 17 #[.pointer (some ⟨p, 0, none⟩), .agg #[.int .i64 lx.min, .int .i64 lx.max, .bool lx.has, .slice A B.length cx], .agg #[.int .i64 6, .int .i64 a.op, .int .u64 a.to_, .int .u64 a.at_, .int .u64 a.n, .int .u64 a.x, .slice Ab a.b.length cb]] w (PlTo p q l lx A B (playR l B a) w) := by
  have hpl : playR l B a = (initR B a.b (lo a.to_) (lo a.at_) (lo a.n)).1 := by unfold playR; simp [hcall]
  rw [hpl]
  clear hpl
  have F := hid ((((Fr.refl No w).alloc (.cells #[.int .i64 lx.min, .int .i64 lx.max, .bool lx.has, .slice A B.length cx] 28)).alloc (.cells #[.int .i64 6, .int .i64 a.op, .int .u64 a.to_, .int .u64 a.at_, .int .u64 a.n, .int .u64 a.x, .slice Ab a.b.length cb] 44)).alloc (.cells #[.int .i64 0, .int .i64 0, .bool false, .slice none 0 0] 28))
  have G4 := hid (((Blk.new w 28 #[.int .i64 lx.min, .int .i64 lx.max, .bool lx.has, .slice A B.length cx]).alloc (.cells #[.int .i64 6, .int .i64 a.op, .int .u64 a.to_, .int .u64 a.at_, .int .u64 a.n, .int .u64 a.x, .slice Ab a.b.length cb] 44)).alloc (.cells #[.int .i64 0, .int .i64 0, .bool false, .slice none 0 0] 28))
  have G5 := hid ((Blk.new1 w (.cells #[.int .i64 lx.min, .int .i64 lx.max, .bool lx.has, .slice A B.length cx] 28) 44 #[.int .i64 6, .int .i64 a.op, .int .u64 a.to_, .int .u64 a.at_, .int .u64 a.n, .int .u64 a.x, .slice Ab a.b.length cb]).alloc (.cells #[.int .i64 0, .int .i64 0, .bool false, .slice none 0 0] 28))
  have G6 := hid (Blk.new2 w (.cells #[.int .i64 lx.min, .int .i64 lx.max, .bool lx.has, .slice A B.length cx] 28) (.cells #[.int .i64 6, .int .i64 a.op, .int .u64 a.to_, .int .u64 a.at_, .int .u64 a.n, .int .u64 a.x, .slice Ab a.b.length cb] 44) 28 #[.int .i64 0, .int .i64 0, .bool false, .slice none 0 0])
  have hpw := hM.hp.lt
  have hqw := hM.own.lt
  have HM := hid (hM.frNo F.out)
  have HR := hid (hR.fr F.out)
  have HB := hid (hAb.fr F.out)
  have HS := hid hS
  have HRB := hid (fun (hB : B ≠ []) (q : Nat) (o : Nat) (e : A = some ⟨q, o, none⟩) => hR.blk hB e)
  have HA := hid ha
  have HK := hid hK
  clear hM hR hS hAb ha hK
  go_enter Try.func17, Try.ntmps17
  go_wp2_with fail
  generalize ((w.alloc (.cells #[.int .i64 lx.min, .int .i64 lx.max, .bool lx.has, .slice A B.length cx] 28)).alloc (.cells #[.int .i64 6, .int .i64 a.op, .int .u64 a.to_, .int .u64 a.at_, .int .u64 a.n, .int .u64 a.x, .slice Ab a.b.length cb] 44)).alloc (.cells #[.int .i64 0, .int .i64 0, .bool false, .slice none 0 0] 28) = W at *
  have y0 := G5.out.cell 0
  have y1 := G5.out.cell 1
  have y2 := G5.out.cell 2
  have y3 := G5.out.cell 3
  have y4 := G5.out.cell 4
  have y5 := G5.out.cell 5
  have y6 := G5.out.cell 6
  have x0 := G4.out.cell 0
  have x1 := G4.out.cell 1
  have x2 := G4.out.cell 2
  have x3 := G4.out.cell 3
  go_wp2_with fail
  have HPR := hid (minit_any p q c l B a.b Ab cb a.to_ a.at_ a.n _ HM.out HB.out (by have := HK.out.len; omega) HA.out.b HA.out.to_ HA.out.at_ HA.out.n)
  have HRR := hid (fun X (h : RmIn X A cx B) (hb : SrcIn X Ab cb a.b) => rminit_any lx A Ab cx cb B a.b a.to_ a.at_ a.n X h hb (by have := HK.out.len; omega) HA.out.b HA.out.to_ HA.out.at_ HA.out.n)
  unfold rmv at HRR
  generalize initR B a.b (lo a.to_) (lo a.at_) (lo a.n) = T at *
  obtain ⟨B2, t2⟩ := T
  refine HPR.out.mono ?_
  rintro e w1 ⟨rfl, hm1, f⟩
  have hl1 := hm1.hp.lt
  have hl2 := hm1.own.lt
  have hl3 := G6.out.lt
  have hl4 := f.size
  have HM1 := hid hm1
  clear hm1
  have F1 := hid f
  replace G4 := hid (G4.out.fr f (fun h => by unfold One at h; omega))
  replace G5 := hid (G5.out.fr f (fun h => by unfold One at h; omega))
  replace G6 := hid (G6.out.fr f (fun h => by unfold One at h; omega))
  clear y0 y1 y2 y3 y4 y5 y6 x0 x1 x2 x3
  replace HR := hid (HR.out.frM f (fun hB r o e h => by have h1 := HS.out hB r o e; unfold One at h; omega))
  replace HB := hid (HB.out.frM f (fun hB r o e h => by have h1 := hAs hB r o e; unfold One at h; omega))
  clear f
  have y0 := G5.out.cell 0
  have y1 := G5.out.cell 1
  have y2 := G5.out.cell 2
  have y3 := G5.out.cell 3
  have y4 := G5.out.cell 4
  have y5 := G5.out.cell 5
  have y6 := G5.out.cell 6
  have x0 := G4.out.cell 0
  have x1 := G4.out.cell 1
  have x2 := G4.out.cell 2
  have x3 := G4.out.cell 3
  go_wp2_with fail
  refine (HRR.out _ HR.out HB.out).mono ?_
  rintro e w2 ⟨E, ec, rfl, hr2, hold, f⟩
  have HR2 := hid hr2
  have HOLD := hid hold
  have F2 := hid f
  clear hr2 hold
  replace HM1 := hid (HM1.out.frNo f)
  replace G4 := hid (G4.out.fr f (fun x => x))
  replace G5 := hid (G5.out.fr f (fun x => x))
  replace G6 := hid (G6.out.fr f (fun x => x))
  clear y0 y1 y2 y3 y4 y5 y6 x0 x1 x2 x3
  clear f HPR HRR
  have z0 : w2.cell? ⟨w.heap.size + 1 + 1, 0, none⟩ = some (.int .i64 0) := G6.out.cell 0
  have zq0 : w2.frozen? ⟨w.heap.size + 1 + 1, 0, none⟩ = false := G6.out.frozen 0
  have z1 : w2.cell? ⟨w.heap.size + 1 + 1, 1, none⟩ = some (.int .i64 0) := G6.out.cell 1
  have zq1 : w2.frozen? ⟨w.heap.size + 1 + 1, 1, none⟩ = false := G6.out.frozen 1
  have z2 : w2.cell? ⟨w.heap.size + 1 + 1, 2, none⟩ = some (.bool false) := G6.out.cell 2
  have zq2 : w2.frozen? ⟨w.heap.size + 1 + 1, 2, none⟩ = false := G6.out.frozen 2
  have z3 : w2.cell? ⟨w.heap.size + 1 + 1, 3, none⟩ = some (.slice none 0 0) := G6.out.cell 3
  have zq3 : w2.frozen? ⟨w.heap.size + 1 + 1, 3, none⟩ = false := G6.out.frozen 3
  have hlt : w.heap.size + 1 + 1 < w2.heap.size := G6.out.lt
  go_wp2
  have FZ := (((((Fr.refl (One (w.heap.size + 1 + 1)) w2).setCell ⟨w.heap.size + 1 + 1, 0, none⟩ (.int .i64 lx.min) (fun _ => rfl)).setCell ⟨w.heap.size + 1 + 1, 1, none⟩ (.int .i64 lx.max) (fun _ => rfl)).setCell ⟨w.heap.size + 1 + 1, 2, none⟩ (.bool lx.has) (fun _ => rfl)).setCell ⟨w.heap.size + 1 + 1, 3, none⟩ (.slice E B2.length ec) (fun _ => rfl)).alloc (.cells #[.int .i64 lx.min, .int .i64 lx.max, .bool lx.has, .slice E B2.length ec] 28)
  have FF : Fr (Two p q) w _ := (((F.out.mono (M := Two p q) (fun _ _ h => h.elim)).trans F1.out (fun i hi h => .inr h)).trans F2.out (fun _ _ h => h.elim)).trans FZ (fun i hi h => by unfold One at h; omega)
  have hl5 := F.out.size
  have hE : B2 ≠ [] → ∀ r o, E = some ⟨r, o, none⟩ → (r < w.heap.size ∧ r ≠ p ∧ r ≠ q) ∨ w1.heap.size ≤ r := fun hne r o he => by
    rcases HOLD.out with ⟨rfl, rfl⟩ | ho
    · exact .inl ⟨HRB.out hne r o he, HS.out hne r o he⟩
    · exact .inr (ho r o he)
  exact bodyPost_ret (v := .tuple #[.agg #[.int .i64 lx.min, .int .i64 lx.max, .bool lx.has, .slice E B2.length ec], .bool true]) (by simp [results, Try.results17, go_sem, z0, z1, z2, z3, hlt]) rfl ⟨q, c, E, ec, rfl, HM1.out.fr FZ (fun h => by unfold One at h; omega) (fun h => by unfold One at h; omega), HR2.out.frM FZ (fun hne r o he h => by have h1 := hE hne r o he; unfold One at h; omega), (fun hne r o he => by have h1 := hE hne r o he; constructor <;> omega), .inl rfl, (HOLD.out.imp id (fun h r o e => by have h1 := h r o e; omega)), FF⟩
set_option maxRecDepth 100000 in
set_option maxHeartbeats 3200000 in
theorem play0 (p q c : Nat) (l lx : Lim) (A : Option Addr) (cx : Nat) (B : List Int) (a : Ac) (Ab : Option Addr) (cb : Nat) (w : World) (hM : Mo w p q c l B) (hR : RmIn w A cx B) (hS : Sep p q A B) (hK : Okm l B) (hm : most l = most lx) (ha : Oka a) (hAb : SrcIn w Ab cb a.b) (hAs : Sep p q Ab a.b) (hcall : a.call ≠ 1 ∧ a.call ≠ 2 ∧ a.call ≠ 3 ∧ a.call ≠ 4 ∧ a.call ≠ 5 ∧ a.call ≠ 6) (hcb : -9223372036854775808 ≤ a.call ∧ a.call ≤ 9223372036854775807) :
    Calls Try.prog 17 #[.pointer (some ⟨p, 0, none⟩), .agg #[.int .i64 lx.min, .int .i64 lx.max, .bool lx.has, .slice A B.length cx], .agg #[.int .i64 a.call, .int .i64 a.op, .int .u64 a.to_, .int .u64 a.at_, .int .u64 a.n, .int .u64 a.x, .slice Ab a.b.length cb]] w (PlTo p q l lx A B (playR l B a) w) := by
  obtain ⟨n1, n2, n3, n4, n5, n6⟩ := hcall
  have hpl : playR l B a = B := by unfold playR; simp [n1, n2, n3, n4, n5, n6]
  rw [hpl]
  clear hpl
  have F := hid ((((Fr.refl No w).alloc (.cells #[.int .i64 lx.min, .int .i64 lx.max, .bool lx.has, .slice A B.length cx] 28)).alloc (.cells #[.int .i64 a.call, .int .i64 a.op, .int .u64 a.to_, .int .u64 a.at_, .int .u64 a.n, .int .u64 a.x, .slice Ab a.b.length cb] 44)).alloc (.cells #[.int .i64 0, .int .i64 0, .bool false, .slice none 0 0] 28))
  have G4 := hid (((Blk.new w 28 #[.int .i64 lx.min, .int .i64 lx.max, .bool lx.has, .slice A B.length cx]).alloc (.cells #[.int .i64 a.call, .int .i64 a.op, .int .u64 a.to_, .int .u64 a.at_, .int .u64 a.n, .int .u64 a.x, .slice Ab a.b.length cb] 44)).alloc (.cells #[.int .i64 0, .int .i64 0, .bool false, .slice none 0 0] 28))
  have G5 := hid ((Blk.new1 w (.cells #[.int .i64 lx.min, .int .i64 lx.max, .bool lx.has, .slice A B.length cx] 28) 44 #[.int .i64 a.call, .int .i64 a.op, .int .u64 a.to_, .int .u64 a.at_, .int .u64 a.n, .int .u64 a.x, .slice Ab a.b.length cb]).alloc (.cells #[.int .i64 0, .int .i64 0, .bool false, .slice none 0 0] 28))
  have G6 := hid (Blk.new2 w (.cells #[.int .i64 lx.min, .int .i64 lx.max, .bool lx.has, .slice A B.length cx] 28) (.cells #[.int .i64 a.call, .int .i64 a.op, .int .u64 a.to_, .int .u64 a.at_, .int .u64 a.n, .int .u64 a.x, .slice Ab a.b.length cb] 44) 28 #[.int .i64 0, .int .i64 0, .bool false, .slice none 0 0])
  have hpw := hM.hp.lt
  have hqw := hM.own.lt
  have HM := hid (hM.frNo F.out)
  have HR := hid (hR.fr F.out)
  have HB := hid (hAb.fr F.out)
  have HS := hid hS
  have HRB := hid (fun (hB : B ≠ []) (q : Nat) (o : Nat) (e : A = some ⟨q, o, none⟩) => hR.blk hB e)
  have HA := hid ha
  have HK := hid hK
  clear hM hR hS hAb ha hK
  go_enter Try.func17, Try.ntmps17
  go_wp2_with fail
  generalize ((w.alloc (.cells #[.int .i64 lx.min, .int .i64 lx.max, .bool lx.has, .slice A B.length cx] 28)).alloc (.cells #[.int .i64 a.call, .int .i64 a.op, .int .u64 a.to_, .int .u64 a.at_, .int .u64 a.n, .int .u64 a.x, .slice Ab a.b.length cb] 44)).alloc (.cells #[.int .i64 0, .int .i64 0, .bool false, .slice none 0 0] 28) = W at *
  have y0 := G5.out.cell 0
  have y1 := G5.out.cell 1
  have y2 := G5.out.cell 2
  have y3 := G5.out.cell 3
  have y4 := G5.out.cell 4
  have y5 := G5.out.cell 5
  have y6 := G5.out.cell 6
  have x0 := G4.out.cell 0
  have x1 := G4.out.cell 1
  have x2 := G4.out.cell 2
  have x3 := G4.out.cell 3
  go_wp2_with fail
  have HHS := hid (fun X (f : Fr (One (w.heap.size + 1 + 1)) W X) => has_any p (some ⟨q, 0, none⟩) B.length c a.to_ a.at_ (wrap64 a.x) X ((HM.out.fr f (fun h => by unfold One at h; omega) (fun h => by unfold One at h; omega)).hp.cell 3) (by have := HK.out.len; omega) HA.out.to_ HA.out.at_ (by unfold wrap64; omega))
  have HHR := hid (fun X => rhas_any lx A B.length cx a.to_ a.at_ (wrap64 a.x) X (by have := HK.out.len; omega) HA.out.to_ HA.out.at_ (by unfold wrap64; omega))
  unfold rmv at HHR
  generalize hasB B.length a.to_ a.at_ (wrap64 a.x) = bb at *
  have hwx : IntKind.i64.wrap a.x = wrap64 a.x := by rw [IntKind.wrap_i64, wrap64]
  have HX : ∀ X, Fr (One (w.heap.size + 1 + 1)) W X → X.cell? ⟨w.heap.size, 0, none⟩ = some (.int .i64 lx.min) ∧ X.cell? ⟨w.heap.size, 1, none⟩ = some (.int .i64 lx.max) ∧ X.cell? ⟨w.heap.size, 2, none⟩ = some (.bool lx.has) ∧ X.cell? ⟨w.heap.size, 3, none⟩ = some (.slice A B.length cx) ∧ X.cell? ⟨w.heap.size + 1, 2, none⟩ = some (.int .u64 a.to_) ∧ X.cell? ⟨w.heap.size + 1, 3, none⟩ = some (.int .u64 a.at_) ∧ X.cell? ⟨w.heap.size + 1, 5, none⟩ = some (.int .u64 a.x) := fun X f => ⟨(G4.out.fr f (fun h => by unfold One at h; omega)).cell 0, (G4.out.fr f (fun h => by unfold One at h; omega)).cell 1, (G4.out.fr f (fun h => by unfold One at h; omega)).cell 2, (G4.out.fr f (fun h => by unfold One at h; omega)).cell 3, (G5.out.fr f (fun h => by unfold One at h; omega)).cell 2, (G5.out.fr f (fun h => by unfold One at h; omega)).cell 3, (G5.out.fr f (fun h => by unfold One at h; omega)).cell 5⟩
  replace HX := hid HX
  clear y0 y1 y2 y3 y4 y5 y6 x0 x1 x2 x3
  refine wp_region_ort (Fr (One (w.heap.size + 1 + 1)) W) (.rd 0 (.rd 1 (.rd 2 (.rd 3 (.rd 4 (.rd 5 (.rd 6 (.rd 7 (.rd 8 (.rd 10 (.rd 11 (.rd 12 (.rd 13 (.rd 14 (.rd 15 (.rd 16 (.rd 17 (.eff 9 (.eff 18 (.rd 19 (.eff 20 (.rd 21 .nil)))))))))))))))))))))) (by kernel_rfl) (by kernel_rfl) (by kernel_rfl) rfl (Fr.refl _ W).drew ?_
  repeat (first
    | (refine wpT_skip rfl rfl ?_; simp only [List.getElem_toArray, List.getElem_cons_succ, List.getElem_cons_zero, Act.put, List.setIfInBounds_toArray, List.set_cons_zero, List.set_cons_succ])
    | (refine wpT_call rfl rfl ?_; simp only [List.getElem_toArray, List.getElem_cons_succ, List.getElem_cons_zero]; apply Exists.intro; refine ⟨fun X hX => ?_, ?_⟩
       · (obtain ⟨s0, s1, s2, s3, s4, s5, s6⟩ := HX.out X hX; go_simp; exact stillUpon_value)
       simp only [Act.put, List.setIfInBounds_toArray, List.set_cons_zero, List.set_cons_succ]))
  refine wpT_eff rfl rfl (fun K hK => ?_)
  simp only [List.getElem_toArray, List.getElem_cons_succ, List.getElem_cons_zero]
  go_simp
  refine (HHS.out _ (Fr.refl _ W).drew).mono ?_
  rintro e w' ⟨rfl, rfl⟩
  refine hK _ _ ((Fr.refl _ W).drew) ?_
  clear hK K
  repeat (first
    | (refine wpT_skip rfl rfl ?_; simp only [List.getElem_toArray, List.getElem_cons_succ, List.getElem_cons_zero, Act.put, List.setIfInBounds_toArray, List.set_cons_zero, List.set_cons_succ])
    | (refine wpT_call rfl rfl ?_; simp only [List.getElem_toArray, List.getElem_cons_succ, List.getElem_cons_zero]; apply Exists.intro; refine ⟨fun X hX => ?_, ?_⟩
       · (obtain ⟨s0, s1, s2, s3, s4, s5, s6⟩ := HX.out X hX; go_simp; exact stillUpon_value)
       simp only [Act.put, List.setIfInBounds_toArray, List.set_cons_zero, List.set_cons_succ]))
  refine wpT_eff rfl rfl (fun K hK => ?_)
  simp only [List.getElem_toArray, List.getElem_cons_succ, List.getElem_cons_zero]
  go_simp
  refine (HHR.out _).mono ?_
  rintro e w2 ⟨rfl, f⟩
  have F2 := hid ((Fr.refl No W).drew.trans f (fun _ _ h => h))
  clear f
  refine hK _ _ (F2.out.mono (fun _ _ h => h.elim)) ?_
  clear hK K
  repeat (first
    | (refine wpT_skip rfl rfl ?_; simp only [List.getElem_toArray, List.getElem_cons_succ, List.getElem_cons_zero, Act.put, List.setIfInBounds_toArray, List.set_cons_zero, List.set_cons_succ])
    | (refine wpT_call rfl rfl ?_; simp only [List.getElem_toArray, List.getElem_cons_succ, List.getElem_cons_zero]; apply Exists.intro; refine ⟨fun X hX => ?_, ?_⟩
       · (obtain ⟨s0, s1, s2, s3, s4, s5, s6⟩ := HX.out X hX; go_simp; exact stillUpon_value)
       simp only [Act.put, List.setIfInBounds_toArray, List.set_cons_zero, List.set_cons_succ]))
  replace G4 := hid (G4.out.fr F2.out (fun x => x))
  replace G5 := hid (G5.out.fr F2.out (fun x => x))
  replace G6 := hid (G6.out.fr F2.out (fun x => x))
  clear HHS HHR
  have x0 := G4.out.cell 0
  have x1 := G4.out.cell 1
  have x2 := G4.out.cell 2
  have x3 := G4.out.cell 3
  have z0 : w2.cell? ⟨w.heap.size + 1 + 1, 0, none⟩ = some (.int .i64 0) := G6.out.cell 0
  have zq0 : w2.frozen? ⟨w.heap.size + 1 + 1, 0, none⟩ = false := G6.out.frozen 0
  have z1 : w2.cell? ⟨w.heap.size + 1 + 1, 1, none⟩ = some (.int .i64 0) := G6.out.cell 1
  have zq1 : w2.frozen? ⟨w.heap.size + 1 + 1, 1, none⟩ = false := G6.out.frozen 1
  have z2 : w2.cell? ⟨w.heap.size + 1 + 1, 2, none⟩ = some (.bool false) := G6.out.cell 2
  have zq2 : w2.frozen? ⟨w.heap.size + 1 + 1, 2, none⟩ = false := G6.out.frozen 2
  have z3 : w2.cell? ⟨w.heap.size + 1 + 1, 3, none⟩ = some (.slice none 0 0) := G6.out.cell 3
  have zq3 : w2.frozen? ⟨w.heap.size + 1 + 1, 3, none⟩ = false := G6.out.frozen 3
  have hlt : w.heap.size + 1 + 1 < w2.heap.size := G6.out.lt
  have hlx : w.heap.size < w2.heap.size := by omega
  refine wpT_eff rfl rfl (fun K hK => ?_)
  simp only [List.getElem_toArray, List.getElem_cons_succ, List.getElem_cons_zero]
  go_simp
  refine hK _ _ ((((((F2.out.mono (M := One (w.heap.size + 1 + 1)) (fun _ _ h => h.elim)).setCell ⟨w.heap.size + 1 + 1, 0, none⟩ (.int .i64 lx.min) (fun _ => rfl)).setCell ⟨w.heap.size + 1 + 1, 1, none⟩ (.int .i64 lx.max) (fun _ => rfl)).setCell ⟨w.heap.size + 1 + 1, 2, none⟩ (.bool lx.has) (fun _ => rfl)).setCell ⟨w.heap.size + 1 + 1, 3, none⟩ (.slice A B.length cx) (fun _ => rfl))) ?_
  clear hK K
  clear HX
  repeat (first
    | (refine wpT_skip rfl rfl ?_; simp only [List.getElem_toArray, List.getElem_cons_succ, List.getElem_cons_zero, Act.put, List.setIfInBounds_toArray, List.set_cons_zero, List.set_cons_succ])
    | (refine wpT_call rfl rfl ?_; simp only [List.getElem_toArray, List.getElem_cons_succ, List.getElem_cons_zero]; apply Exists.intro; refine ⟨fun X hX => ?_, ?_⟩
       · (go_simp; exact stillUpon_value)
       simp only [Act.put, List.setIfInBounds_toArray, List.set_cons_zero, List.set_cons_succ]))
  refine wpT_nil ?_
  go_wp2
  have FZ := ((((Fr.refl (One (w.heap.size + 1 + 1)) w2).setCell ⟨w.heap.size + 1 + 1, 0, none⟩ (.int .i64 lx.min) (fun _ => rfl)).setCell ⟨w.heap.size + 1 + 1, 1, none⟩ (.int .i64 lx.max) (fun _ => rfl)).setCell ⟨w.heap.size + 1 + 1, 2, none⟩ (.bool lx.has) (fun _ => rfl)).setCell ⟨w.heap.size + 1 + 1, 3, none⟩ (.slice A B.length cx) (fun _ => rfl)
  have FW := F.out.trans F2.out (fun _ _ h => h)
  have FF : Fr (Two p q) w _ := (FW.mono (M := Two p q) (fun _ _ h => h.elim)).trans FZ (fun i hi h => by unfold One at h; omega)
  exact bodyPost_ret (v := .tuple #[.agg #[.int .i64 lx.min, .int .i64 lx.max, .bool lx.has, .slice A B.length cx], .bool true]) (by simp [results, Try.results17, go_sem, z0, z1, z2, z3]) rfl ⟨q, c, A, cx, rfl, (HM.out.frNo F2.out).fr FZ (fun h => by unfold One at h; omega) (fun h => by unfold One at h; omega), (HR.out.fr F2.out).frM FZ (fun hne r o he h => by have h1 := HRB.out hne r o he; unfold One at h; omega), HS.out, .inl rfl, .inl ⟨rfl, rfl⟩, FF⟩
end Go.Proofs.Ytpmnijjfadhocaa
