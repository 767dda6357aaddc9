/- TablesRun: what holds at the head of the loop. -/
import Derived.Test.YtndhbamfgihncaaTabRh
import Derived.Test.YtndhbamfgihncaaTabG
import Derived.Test.YtndhbamfgihncaaOrt
import Derived.Deep.DeepCutAuto
namespace Go.Proofs.Ytndhbamfgihncaa
open Go.RowKit

/-- The address lies in no block of S. -/
def Apart (A : Option Addr) (S : Nat → Prop) : Prop := ∀ b o, A = some ⟨b, o, none⟩ → ¬ S b
theorem Rd.apart {M : Nat → Prop} {w w' : World} {B : Nat} {A : Option Addr} {xs : List Value} (h : Rd w B A xs) (hA : Apart A M) (f : Fr M w w') : Rd w' B A xs := by
  rcases h with rfl | ⟨b, o, e, hlt, hc⟩
  · exact .inl rfl
  · exact .inr ⟨b, o, e, hlt, fun k u hu => (f.cell (p := ⟨b, o + k, none⟩) (World.block_lt_of_cell? w ⟨b, o + k, none⟩ (hc k u hu)) (hA b o e)).trans (hc k u hu)⟩

def Six (p1 q1 p2 q2 ga gb : Nat) : Nat → Prop := fun b => b = p1 ∨ b = q1 ∨ b = p2 ∨ b = q2 ∨ b = ga ∨ b = gb

/-- The two tables, the two boxes of the reference. -/
structure Two_ (w : World) (p1 p2 ga gb : Nat) (ep mnp mxp eq mnq mxq : Int) (hp hq : Bool) (xs ys : List Int) (q1 c1 q2 c2 : Nat) (A D : Option Addr) (ca cd : Nat) (wr : World) : Prop where
  t : TabAt wr p1 q1 c1 ep mnp mxp hp xs
  u : TabAt wr p2 q2 c2 eq mnq mxq hq ys
  ba : Blk wr ga 51 #[.int .i64 ep, .int .i64 mnp, .int .i64 mxp, .bool hp, .slice A xs.length ca]
  bb : Blk wr gb 51 #[.int .i64 eq, .int .i64 mnq, .int .i64 mxq, .bool hq, .slice D ys.length cd]
  hca : xs.length ≤ ca
  hcd : ys.length ≤ cd
  ra : Rd wr wr.heap.size A (Us xs)
  rd : Rd wr wr.heap.size D (Us ys)
  pa : Apart A (Six p1 q1 p2 q2 ga gb)
  pd : Apart D (Six p1 q1 p2 q2 ga gb)
  qq : q1 ≠ q2
  pp : p1 ≠ p2
  gg : ga ≠ gb
  l1 : w.heap.size ≤ p1
  l2 : w.heap.size ≤ p2
  l3 : w.heap.size ≤ q1
  l4 : w.heap.size ≤ q2
  l5 : w.heap.size ≤ ga
  l6 : w.heap.size ≤ gb
  f : Fr No w wr
  la : ∀ b o, A = some ⟨b, o, none⟩ → b < wr.heap.size
  ld : ∀ b o, D = some ⟨b, o, none⟩ → b < wr.heap.size

theorem Two_.ne {w : World} {p1 p2 ga gb : Nat} {ep mnp mxp eq mnq mxq : Int} {hp hq : Bool} {xs ys : List Int} {q1 c1 q2 c2 : Nat} {A D : Option Addr} {ca cd : Nat} {wr : World}
    (h : Two_ w p1 p2 ga gb ep mnp mxp eq mnq mxq hp hq xs ys q1 c1 q2 c2 A D ca cd wr) : p1 ≠ q1 ∧ p1 ≠ q2 ∧ p1 ≠ ga ∧ p1 ≠ gb ∧ p2 ≠ q1 ∧ p2 ≠ q2 ∧ p2 ≠ ga ∧ p2 ≠ gb ∧ q1 ≠ ga ∧ q1 ≠ gb ∧ q2 ≠ ga ∧ q2 ≠ gb := by
  obtain ⟨_, x1, _⟩ := h.t.own.cur
  obtain ⟨_, x2, _⟩ := h.u.own.cur
  exact ⟨h.t.blk.ne_ x1 (by decide), h.t.blk.ne_ x2 (by decide), h.t.blk.ne_ h.ba (by decide), h.t.blk.ne_ h.bb (by decide), h.u.blk.ne_ x1 (by decide), h.u.blk.ne_ x2 (by decide), h.u.blk.ne_ h.ba (by decide), h.u.blk.ne_ h.bb (by decide),
    x1.ne_ h.ba (by decide), x1.ne_ h.bb (by decide), x2.ne_ h.ba (by decide), x2.ne_ h.bb (by decide)⟩

def RunRel (w : World) (p1 p2 ga gb : Nat) (ep mnp mxp eq mnq mxq : Int) (hp hq : Bool) (n : Nat) (i : Value) (wr : World) : Prop :=
  ∃ (k : Nat) (xs ys : List Int) (q1 c1 q2 c2 : Nat) (A D : Option Addr) (ca cd : Nat), i = .int .i64 k ∧ k ≤ n ∧ Two_ w p1 p2 ga gb ep mnp mxp eq mnq mxq hp hq xs ys q1 c1 q2 c2 A D ca cd wr

theorem Two_.symm {w : World} {p1 p2 ga gb : Nat} {ep mnp mxp eq mnq mxq : Int} {hp hq : Bool} {xs ys : List Int} {q1 c1 q2 c2 : Nat} {A D : Option Addr} {ca cd : Nat} {wr : World}
    (h : Two_ w p1 p2 ga gb ep mnp mxp eq mnq mxq hp hq xs ys q1 c1 q2 c2 A D ca cd wr) : Two_ w p2 p1 gb ga eq mnq mxq ep mnp mxp hq hp ys xs q2 c2 q1 c1 D A cd ca wr :=
  ⟨h.u, h.t, h.bb, h.ba, h.hcd, h.hca, h.rd, h.ra, fun b o hb hS => h.pd b o hb (by rcases hS with x | x | x | x | x | x <;> simp [Six, x]), fun b o hb hS => h.pa b o hb (by rcases hS with x | x | x | x | x | x <;> simp [Six, x]), h.qq.symm, h.pp.symm, h.gg.symm, h.l2, h.l1, h.l4, h.l3, h.l6, h.l5, h.f, h.ld, h.la⟩
theorem Two_.drew {w : World} {p1 p2 ga gb : Nat} {ep mnp mxp eq mnq mxq : Int} {hp hq : Bool} {xs ys : List Int} {q1 c1 q2 c2 : Nat} {A D : Option Addr} {ca cd : Nat} {wr wx : World}
    (h : Two_ w p1 p2 ga gb ep mnp mxp eq mnq mxq hp hq xs ys q1 c1 q2 c2 A D ca cd wr) (g : Fr No wr wx) : Two_ w p1 p2 ga gb ep mnp mxp eq mnq mxq hp hq xs ys q1 c1 q2 c2 A D ca cd wx :=
  ⟨h.t.fr g (fun x => x) (fun x => x), h.u.fr g (fun x => x) (fun x => x), h.ba.fr g (fun x => x), h.bb.fr g (fun x => x), h.hca, h.hcd, (h.ra.frNo g).more g.size, (h.rd.frNo g).more g.size, h.pa, h.pd, h.qq, h.pp, h.gg, h.l1, h.l2, h.l3, h.l4, h.l5, h.l6, h.f.trans g (fun _ _ x => x), fun b o e => Nat.lt_of_lt_of_le (h.la b o e) g.size, fun b o e => Nat.lt_of_lt_of_le (h.ld b o e) g.size⟩
/-- Behind 'does' and the store into the box of the reference. -/
theorem Two_.next {w : World} {p1 p2 ga gb : Nat} {ep mnp mxp eq mnq mxq : Int} {hp hq : Bool} {xs ys zs : List Int} {q1 c1 q2 c2 q' c' cA : Nat} {A D A' : Option Addr} {ca cd : Nat} {wr w2 wx : World}
    (h : Two_ w p1 p2 ga gb ep mnp mxp eq mnq mxq hp hq xs ys q1 c1 q2 c2 A D ca cd wr) (hc : zs.length ≤ cA) (hr : Rd w2 w2.heap.size A' (Us zs)) (t : TabAt w2 p1 q' c' ep mnp mxp hp zs) (hq' : q' = q1 ∨ wr.heap.size ≤ q') (F : Fr (Two p1 q1) wr w2)
    (hA : (A' = A ∧ Rd w2 wr.heap.size A' (Us zs)) ∨ ∃ b, A' = some ⟨b, 0, none⟩ ∧ wr.heap.size ≤ b ∧ b ≠ q' ∧ b < w2.heap.size) {M0 : Nat → Prop} (G : Fr M0 w2 wx) (hM : ∀ b, M0 b → ¬ Six p1 q' p2 q2 ga gb b ∧ w.heap.size ≤ b) (hMA : Apart A' M0) (hMD : Apart D M0) :
    Two_ w p1 p2 ga gb ep mnp mxp eq mnq mxq hp hq zs ys q' c' q2 c2 A' D cA cd
      (((((wx.setCell ⟨ga, 0, none⟩ (.int .i64 ep)).setCell ⟨ga, 1, none⟩ (.int .i64 mnp)).setCell ⟨ga, 2, none⟩ (.int .i64 mxp)).setCell ⟨ga, 3, none⟩ (.bool hp)).setCell ⟨ga, 4, none⟩ (.slice A' zs.length cA)) := by
  obtain ⟨n1, n2, n3, n4, n5, n6, n7, n8, n9, n10, n11, n12⟩ := h.ne
  have lp1 := h.t.blk.lt
  have lp2 := h.u.blk.lt
  have lq1 := h.t.own.lt
  have lq2 := h.u.own.lt
  have lga := h.ba.lt
  have lgb := h.bb.lt
  have hpp := h.pp
  have hqq := h.qq
  have hgg := h.gg
  have s1 := F.size
  have s2 := G.size
  have bga : Blk wx ga 51 #[.int .i64 ep, .int .i64 mnp, .int .i64 mxp, .bool hp, .slice A xs.length ca] := (h.ba.fr F (fun x => by rcases x with x | x <;> omega)).fr G (fun x => (hM _ x).1 (.inr (.inr (.inr (.inr (.inl rfl))))))
  have H := (Fr.refl (One ga) wx).five ga (.int .i64 ep) (.int .i64 mnp) (.int .i64 mxp) (.bool hp) (.slice A' zs.length cA) (fun _ => rfl)
  have b5 := ((((bga.set_ 0 (.int .i64 ep)).set_ 1 (.int .i64 mnp)).set_ 2 (.int .i64 mxp)).set_ 3 (.bool hp)).set_ 4 (.slice A' zs.length cA)
  have b5 : Blk _ ga 51 #[.int .i64 ep, .int .i64 mnp, .int .i64 mxp, .bool hp, .slice A' zs.length cA] := b5
  generalize (((((wx.setCell ⟨ga, 0, none⟩ (.int .i64 ep)).setCell ⟨ga, 1, none⟩ (.int .i64 mnp)).setCell ⟨ga, 2, none⟩ (.int .i64 mxp)).setCell ⟨ga, 3, none⟩ (.bool hp)).setCell ⟨ga, 4, none⟩ (.slice A' zs.length cA)) = wf at H b5 ⊢
  have s3 := H.size
  have K : Fr (fun b => (b = p1 ∨ b = q1 ∨ b = ga) ∨ M0 b) wr wf := ((F.mono (M := fun b => (b = p1 ∨ b = q1 ∨ b = ga) ∨ M0 b) (fun i _ x => by rcases x with x | x; exact .inl (.inl x); exact .inl (.inr (.inl x)))).trans G (fun _ _ x => .inr x)).trans H (fun i _ x => .inl (.inr (.inr x)))
  have hq'ga : q' ≠ ga := by rcases hq' with x | x; exact fun y => n9 (x.symm.trans y); exact fun y => by omega
  have k1 : ¬ (p2 = p1 ∨ p2 = q1 ∨ p2 = ga) := fun x => x.elim (fun y => hpp y.symm) (fun y => y.elim n5 n7)
  have k2 : ¬ (q2 = p1 ∨ q2 = q1 ∨ q2 = ga) := fun x => x.elim (fun y => n2 y.symm) (fun y => y.elim (fun z => hqq z.symm) n11)
  have k3 : ¬ (gb = p1 ∨ gb = q1 ∨ gb = ga) := fun x => x.elim (fun y => n4 y.symm) (fun y => y.elim (fun z => n10 z.symm) (fun z => hgg z.symm))
  have hq'q2 : q' ≠ q2 := by rcases hq' with x | x; exact fun y => hqq (x.symm.trans y); exact fun y => by omega
  have H1 := hid hq'ga
  have H2 := hid hq'q2
  have N3 := hid n3
  clear n1 n2 n3 n4 n5 n6 n7 n8 n9 n10 n11 n12 hpp hqq hgg hq'ga hq'q2
  have six : ∀ b, b < wr.heap.size → ¬ Six p1 q1 p2 q2 ga gb b → ¬ Six p1 q' p2 q2 ga gb b := by
    intro b hb hn hS
    rcases hS with x | x | x | x | x | x
    · exact hn (.inl x)
    · rcases hq' with y | y
      · exact hn (.inr (.inl (x.trans y)))
      · omega
    · exact hn (.inr (.inr (.inl x)))
    · exact hn (.inr (.inr (.inr (.inl x))))
    · exact hn (.inr (.inr (.inr (.inr (.inl x)))))
    · exact hn (.inr (.inr (.inr (.inr (.inr x)))))
  have hl1 := h.l1
  have hl3 := h.l3
  have hl5 := h.l5
  have hf := h.f.size
  have R1 : Rd wf wf.heap.size A' (Us zs) := by
    rcases hA with ⟨rfl, hA⟩ | ⟨b, rfl, b1, b2, b3⟩
    · exact ((hA.apart hMA G).apart (M := One ga) (fun b o hb hS => h.pa b o hb (.inr (.inr (.inr (.inr (.inl hS)))))) H).more (by omega)
    · exact ((hr.apart hMA G).sub_fr H (fun x => by have x : b = ga := x; omega)).more (by omega)
  have R2 : Rd wf wf.heap.size D (Us ys) := by
    refine (h.rd.apart (fun b o hb hS => h.pd b o hb ?_) K).more K.size
    rcases hS with (x | x | x) | x
    · exact .inl x
    · exact .inr (.inl x)
    · exact .inr (.inr (.inr (.inr (.inl x))))
    · exact absurd x (hMD b o hb)
  have P1 : Apart A' (Six p1 q' p2 q2 ga gb) := by
    rcases hA with ⟨rfl, hA⟩ | ⟨b, rfl, b1, b2, b3⟩
    · exact fun b o hb => six b (h.la b o hb) (h.pa b o hb)
    · intro b' o hb hS
      cases hb
      rcases hS with x | x | x | x | x | x <;> omega
  have L1 : ∀ b o, A' = some ⟨b, o, none⟩ → b < wf.heap.size := by
    rcases hA with ⟨rfl, hA⟩ | ⟨b, rfl, b1, b2, b3⟩
    · exact fun b o hb => Nat.lt_of_lt_of_le (h.la b o hb) (by omega)
    · intro b' o hb
      cases hb
      omega
  exact ⟨(t.fr G (fun x => (hM _ x).1 (.inl rfl)) (fun x => (hM _ x).1 (.inr (.inl rfl)))).fr H (fun x => N3.out x) (fun x => H1.out x), h.u.fr K (fun x => x.elim k1 (fun y => (hM _ y).1 (.inr (.inr (.inl rfl))))) (fun x => x.elim k2 (fun y => (hM _ y).1 (.inr (.inr (.inr (.inl rfl)))))), b5, h.bb.fr K (fun x => x.elim k3 (fun y => (hM _ y).1 (.inr (.inr (.inr (.inr (.inr rfl))))))), hc, h.hcd, R1, R2, P1, fun b o hb => six b (h.ld b o hb) (h.pd b o hb), H2.out, h.pp, h.gg, h.l1, h.l2, by omega, h.l4, h.l5, h.l6,
    h.f.trans K (fun i hi x => by rcases x with (x | x | x) | x; omega; omega; omega; have := (hM _ x).2; omega), L1, fun b o hb => Nat.lt_of_lt_of_le (h.ld b o hb) (by omega)⟩

/-- The same where the box of the result was made before 'does'. -/
theorem Two_.next2 {w : World} {p1 p2 ga gb : Nat} {ep mnp mxp eq mnq mxq : Int} {hp hq : Bool} {xs ys zs : List Int} {q1 c1 q2 c2 q' c' cA : Nat} {A D A' : Option Addr} {ca cd : Nat} {wr w2 : World} (o : Obj) (v0 v1 v2 v3 v4 : Value)
    (h : Two_ w p1 p2 ga gb ep mnp mxp eq mnq mxq hp hq xs ys q1 c1 q2 c2 A D ca cd wr) (hc : zs.length ≤ cA) (hr : Rd w2 w2.heap.size A' (Us zs)) (t : TabAt w2 p1 q' c' ep mnp mxp hp zs) (hq' : q' = q1 ∨ (wr.alloc o).drew.heap.size ≤ q') (F : Fr (Two p1 q1) (wr.alloc o).drew w2)
    (hA : (A' = A ∧ Rd w2 (wr.alloc o).drew.heap.size A' (Us zs)) ∨ ∃ b, A' = some ⟨b, 0, none⟩ ∧ (wr.alloc o).drew.heap.size ≤ b ∧ b ≠ q' ∧ b < w2.heap.size) :
    Two_ w p1 p2 ga gb ep mnp mxp eq mnq mxq hp hq zs ys q' c' q2 c2 A' D cA cd
      ((((((((((w2.setCell ⟨wr.heap.size, 0, none⟩ v0).setCell ⟨wr.heap.size, 1, none⟩ v1).setCell ⟨wr.heap.size, 2, none⟩ v2).setCell ⟨wr.heap.size, 3, none⟩ v3).setCell ⟨wr.heap.size, 4, none⟩ v4).setCell ⟨ga, 0, none⟩ (.int .i64 ep)).setCell ⟨ga, 1, none⟩ (.int .i64 mnp)).setCell ⟨ga, 2, none⟩ (.int .i64 mxp)).setCell ⟨ga, 3, none⟩ (.bool hp)).setCell ⟨ga, 4, none⟩ (.slice A' zs.length cA)) := by
  have sz : (wr.alloc o).drew.heap.size = wr.heap.size + 1 := by show (wr.heap.push o).size = _; simp
  have l1 := h.t.blk.lt
  have l2 := h.u.blk.lt
  have l3 := h.t.own.lt
  have l4 := h.u.own.lt
  have l5 := h.ba.lt
  have l6 := h.bb.lt
  have hfs := h.f.size
  refine (h.drew (((Fr.refl No wr).alloc o).drew)).next hc hr t hq' F hA ((Fr.refl (One wr.heap.size) w2).five wr.heap.size v0 v1 v2 v3 v4 (fun _ => rfl)) (fun b hb => ?_) (fun b o hb hS => ?_) (fun b o hb hS => ?_)
  · have hb : b = wr.heap.size := hb
    refine ⟨fun hS => ?_, by omega⟩
    rcases hS with x | x | x | x | x | x <;> omega
  · have hS : b = wr.heap.size := hS
    rcases hA with ⟨rfl, _⟩ | ⟨b', rfl, b1, _, _⟩
    · have := h.la b o hb; omega
    · cases hb; omega
  · have hS : b = wr.heap.size := hS
    have := h.ld b o hb; omega

def Cells17 (ga gb : Nat) (ep mnp mxp eq mnq mxq : Int) (hp hq : Bool) (A D : Option Addr) (nx ny ca cd b o : Nat) (kind : Int) (oth : Bool) (to_ at_ nn ref : Int) (La : Option Addr) (nl lc : Nat) (X : World) : Prop :=
  X.cell? ⟨ga, 0, none⟩ = some (.int .i64 ep) ∧ X.cell? ⟨ga, 1, none⟩ = some (.int .i64 mnp) ∧ X.cell? ⟨ga, 2, none⟩ = some (.int .i64 mxp) ∧ X.cell? ⟨ga, 3, none⟩ = some (.bool hp) ∧ X.cell? ⟨ga, 4, none⟩ = some (.slice A nx ca) ∧
  X.cell? ⟨gb, 0, none⟩ = some (.int .i64 eq) ∧ X.cell? ⟨gb, 1, none⟩ = some (.int .i64 mnq) ∧ X.cell? ⟨gb, 2, none⟩ = some (.int .i64 mxq) ∧ X.cell? ⟨gb, 3, none⟩ = some (.bool hq) ∧ X.cell? ⟨gb, 4, none⟩ = some (.slice D ny cd) ∧
  X.cell? ⟨b, o, none⟩ = some (.int .u8 kind) ∧ X.cell? ⟨b, o + 1, none⟩ = some (.bool oth) ∧ X.cell? ⟨b, o + 2, none⟩ = some (.int .u64 to_) ∧ X.cell? ⟨b, o + 3, none⟩ = some (.int .u64 at_) ∧ X.cell? ⟨b, o + 4, none⟩ = some (.int .u64 nn) ∧ X.cell? ⟨b, o + 5, none⟩ = some (.int .u64 ref) ∧ X.cell? ⟨b, o + 6, none⟩ = some (.slice La nl lc)

theorem Two_.cells {w : World} {p1 p2 ga gb : Nat} {ep mnp mxp eq mnq mxq : Int} {hp hq : Bool} {xs ys : List Int} {q1 c1 q2 c2 : Nat} {A D : Option Addr} {ca cd : Nat} {wr : World}
    (h : Two_ w p1 p2 ga gb ep mnp mxp eq mnq mxq hp hq xs ys q1 c1 q2 c2 A D ca cd wr) {b o : Nat} {kind : Int} {oth : Bool} {to_ at_ nn ref : Int} {La : Option Addr} {nl lc : Nat} (hb : b < w.heap.size)
    (g0 : wr.cell? ⟨b, o, none⟩ = some (.int .u8 kind)) (g1 : wr.cell? ⟨b, o + 1, none⟩ = some (.bool oth)) (g2 : wr.cell? ⟨b, o + 2, none⟩ = some (.int .u64 to_)) (g3 : wr.cell? ⟨b, o + 3, none⟩ = some (.int .u64 at_)) (g4 : wr.cell? ⟨b, o + 4, none⟩ = some (.int .u64 nn)) (g5 : wr.cell? ⟨b, o + 5, none⟩ = some (.int .u64 ref)) (g6 : wr.cell? ⟨b, o + 6, none⟩ = some (.slice La nl lc))
    {P Q : Nat} (hP : P = p1 ∨ P = p2) (hQ : Q = q1 ∨ Q = q2) (X : World) (hX : Fr (Two P Q) wr X) : Cells17 ga gb ep mnp mxp eq mnq mxq hp hq A D xs.length ys.length ca cd b o kind oth to_ at_ nn ref La nl lc X := by
  obtain ⟨n1, n2, n3, n4, n5, n6, n7, n8, n9, n10, n11, n12⟩ := h.ne
  have hfs := h.f.size
  have l1 := h.l1
  have l2 := h.l2
  have l3 := h.l3
  have l4 := h.l4
  have na : ¬ Two P Q ga := fun x => by
    rcases x with x | x
    · rcases hP with y | y
      · exact n3 (y.symm.trans x.symm)
      · exact n7 (y.symm.trans x.symm)
    · rcases hQ with y | y
      · exact n9 (y.symm.trans x.symm)
      · exact n11 (y.symm.trans x.symm)
  have nb : ¬ Two P Q gb := fun x => by
    rcases x with x | x
    · rcases hP with y | y
      · exact n4 (y.symm.trans x.symm)
      · exact n8 (y.symm.trans x.symm)
    · rcases hQ with y | y
      · exact n10 (y.symm.trans x.symm)
      · exact n12 (y.symm.trans x.symm)
  clear n1 n2 n3 n4 n5 n6 n7 n8 n9 n10 n11 n12
  have nc : ¬ Two P Q b := fun x => by
    rcases x with x | x
    · rcases hP with y | y <;> omega
    · rcases hQ with y | y <;> omega
  have bA := h.ba.fr hX na
  have bB := h.bb.fr hX nb
  obtain ⟨a0, a1, a2, a3, a4⟩ := five bA
  obtain ⟨b0, b1, b2, b3, b4⟩ := five bB
  have hc : ∀ j v, wr.cell? ⟨b, j, none⟩ = some v → X.cell? ⟨b, j, none⟩ = some v := fun j v hv => (hX.cell (p := ⟨b, j, none⟩) (by show b < _; omega) nc).trans hv
  exact ⟨a0, a1, a2, a3, a4, b0, b1, b2, b3, b4, hc _ _ g0, hc _ _ g1, hc _ _ g2, hc _ _ g3, hc _ _ g4, hc _ _ g5, hc _ _ g6⟩

theorem Two_.does {w : World} {p1 p2 ga gb : Nat} {ep mnp mxp eq mnq mxq : Int} {hp hq : Bool} {xs ys : List Int} {q1 c1 q2 c2 : Nat} {A D : Option Addr} {ca cd : Nat} {wr : World}
    (h : Two_ w p1 p2 ga gb ep mnp mxp eq mnq mxq hp hq xs ys q1 c1 q2 c2 A D ca cd wr) (La : Option Addr) (ls : List Int) (lc B : Nat) (kind to_ at_ n ref : Int) (oth : Bool) (hl : Rd wr B La (Us ls)) (hB : B ≤ w.heap.size) (hlc : ls.length ≤ lc) (hll : ls.length ≤ 60)
    (k0 : 0 ≤ kind ∧ kind ≤ 255) (t0 : 0 ≤ to_ ∧ to_ < 18446744073709551616) (a0 : 0 ≤ at_ ∧ at_ < 18446744073709551616) (n0 : 0 ≤ n ∧ n < 18446744073709551616) :
    Calls Try.prog 22 #[.pointer (some ⟨p1, 0, none⟩), .pointer (some ⟨p2, 0, none⟩), .agg #[.int .i64 ep, .int .i64 mnp, .int .i64 mxp, .bool hp, .slice A xs.length ca], .agg #[.int .i64 eq, .int .i64 mnq, .int .i64 mxq, .bool hq, .slice D ys.length cd], .agg #[.int .u8 kind, .bool oth, .int .u64 to_, .int .u64 at_, .int .u64 n, .int .u64 ref, .slice La ls.length lc]] wr (DoesTo p1 q1 ep mnp mxp hp A wr) := by
  have hs := h.f.size
  refine does_any p1 q1 c1 p2 q2 c2 ep mnp mxp eq mnq mxq hp hq xs ys ls A D La ca cd lc kind to_ at_ n ref oth wr h.t h.u h.hca h.hcd hlc (by omega) (fun X hX => h.ra.apart (fun b o hb hS => h.pa b o hb ?_) hX) (fun X hX => h.rd.apart (fun b o hb hS => h.pd b o hb ?_) hX)
    (fun X hX => (hl.fr hX (fun k hk hS => ?_)).more (by omega)) k0.1 k0.2 t0.1 t0.2 a0.1 a0.2 n0.1 n0.2
  · rcases hS with x | x
    · exact .inl x
    · exact .inr (.inl x)
  · rcases hS with x | x
    · exact .inl x
    · exact .inr (.inl x)
  · have := h.l1; have := h.l3
    rcases hS with x | x <;> omega

def E8 (w : World) (ep mnp mxp eq mnq mxq : Int) (hp hq : Bool) (X : World) : Prop :=
  X.cell? ⟨w.heap.size, 0, none⟩ = some (.int .i64 ep) ∧ X.cell? ⟨w.heap.size, 1, none⟩ = some (.int .i64 mnp) ∧ X.cell? ⟨w.heap.size, 2, none⟩ = some (.int .i64 mxp) ∧ X.cell? ⟨w.heap.size, 3, none⟩ = some (.bool hp) ∧
  X.cell? ⟨w.heap.size + 1, 0, none⟩ = some (.int .i64 eq) ∧ X.cell? ⟨w.heap.size + 1, 1, none⟩ = some (.int .i64 mnq) ∧ X.cell? ⟨w.heap.size + 1, 2, none⟩ = some (.int .i64 mxq) ∧ X.cell? ⟨w.heap.size + 1, 3, none⟩ = some (.bool hq)
theorem E8.mk {w X : World} {ep mnp mxp eq mnq mxq : Int} {hp hq : Bool} {t : TypeId} (h1 : Blk X w.heap.size t #[.int .i64 ep, .int .i64 mnp, .int .i64 mxp, .bool hp]) (h2 : Blk X (w.heap.size + 1) t #[.int .i64 eq, .int .i64 mnq, .int .i64 mxq, .bool hq]) : E8 w ep mnp mxp eq mnq mxq hp hq X :=
  ⟨by rw [h1.cell]; rfl, by rw [h1.cell]; rfl, by rw [h1.cell]; rfl, by rw [h1.cell]; rfl, by rw [h2.cell]; rfl, by rw [h2.cell]; rfl, by rw [h2.cell]; rfl, by rw [h2.cell]; rfl⟩

end Go.Proofs.Ytndhbamfgihncaa
