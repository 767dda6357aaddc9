/- Part 10 of the proof: lemmas and contracts of functions. No condition. -/
import Derived.Test.YtdckghiipijobaaGreatP9
import Derived.Test.YtdckghiipijobaaGreatP7
import Derived.Test.YtdckghiipijobaaGreatP1
import Derived.Test.YtdckghiipijobaaGreatP8
set_option maxRecDepth 100000
set_option maxHeartbeats 12800000
set_option linter.unusedVariables false
set_option linter.unusedSimpArgs false
set_option linter.unusedSectionVars false
namespace Go.Proofs.YtdckghiipijobaaGreat
open Go.RowKit Go.Proofs.Tryz
def HoBu (h : Ho) : Prop := HoBd h ∧ h.mod.size ≤ 1048576 ∧ h.name.size ≤ 1048576
theorem kHR (A : OA) (c : Nat) (hosts : List Ho) (w : World) (h : tHo.els w (· < w.heap.size) A hosts) (hl : hosts.length ≤ 1000000000) (hb : ∀ x ∈ hosts, HoBu x) :
    Calls prog 9 #[.slice A hosts.length c] w fun e w' => e = .returned (.bool (mayB hosts)) ∧ Fr No w w' := by
 by_cases hbig : 32 < hosts.length
 · rw [kHe hbig]
   have d1 : decide ((32 : Int) < (hosts.length : Int)) = true := by simp; omega
   go_enter func9, ntmps9
   go_wp2
   go_ret
   exact ⟨rfl, Fr.refl _ _⟩
 have d1 : decide ((32 : Int) < (hosts.length : Int)) = false := by simp; omega
 have HE := hid h
 have HB := hid hb
 have HBG := hid hbig
 clear h hb hbig
 go_enter func9, ntmps9
 go_wp2
 go_loopw [3] (fun i wr => ∃ k, k ≤ hosts.length ∧ i = .int .i64 (k : Nat) ∧ Hid (Fr No w wr) ∧ Hid (∀ (j : Nat) (hj : j < hosts.length), j < k → hoB hosts[j] = true)) (fun i _ => hosts.length - (intOf i).toNat)
 case atStart => exact ⟨0, nz, rfl, Fr.refl _ _, fun j _ h => absurd h (Nat.not_lt_zero j)⟩
 obtain ⟨k, hk, rfl, F1, HJ⟩ := hrel
 by_cases hlt : k < hosts.length
 · obtain ⟨b, o, A1, c1, A2, c2, A3, c3, rfl, hbb, y0, y1, y2, y3, y4, m1, m2, l1, l2, e1, l3, l4, e2, l5, l6, e3⟩ := kBa HE.o k hlt
   have bd := HB.o hosts[k] (List.getElem_mem hlt)
   replace y0 := (F1.o.cell (p := ⟨b, o + k * 5, none⟩) hbb id).trans y0
   replace y1 := (F1.o.cell (p := ⟨b, o + k * 5 + 1, none⟩) hbb id).trans y1
   replace y2 := (F1.o.cell (p := ⟨b, o + k * 5 + 2, none⟩) hbb id).trans y2
   replace y3 := (F1.o.cell (p := ⟨b, o + k * 5 + 3, none⟩) hbb id).trans y3
   replace y4 := (F1.o.cell (p := ⟨b, o + k * 5 + 4, none⟩) hbb id).trans y4
   have hR := kJf hosts[k] A1 A2 A3 c1 c2 c3 w.heap.size wr F1.o.size ⟨kAA e1 F1.o i2 i2, kAA e2 F1.o i2 i2, kAA e3 F1.o i2 i2, by have := bd.1.p; omega, by have := bd.1.r; omega, by have := bd.1.a; omega, m1, m2, fun a ha => by have := bd.1.v a ha; omega⟩ bd.2
   clear m1 m2 l1 l2 e1 l3 l4 e2 l5 l6 e3 bd
   cases hq : hoB hosts[k] with
   | false =>
    have HQ := hid (kLE hlt hq)
    rw [hq] at hR
    have HR := hid hR
    clear hR hq
    go_wp2_with fail
    refine HR.o.mono ?_
    rintro e w1 ⟨rfl, f1⟩
    have F2 := ftr F1 f1
    go_wp2
    go_ret
    exact ⟨rt_bool HQ.o.symm, F2.o⟩
   | true =>
    have HQ := hid hq
    rw [hq] at hR
    have HR := hid hR
    clear hR hq
    go_wp2_with fail
    refine HR.o.mono ?_
    rintro e w1 ⟨rfl, f1⟩
    have F2 := ftr F1 f1
    clear f1
    go_wp2
    go_roundw
    case rel =>
     refine ⟨k + 1, hlt, rfl, F2.o, fun j hj hjk => ?_⟩
     by_cases he : j = k
     · subst he; exact HQ.o
     exact HJ.o j hj om
    case measure => show hosts.length - ((k : Int) + 1).toNat < hosts.length - ((k : Int)).toNat; omega
 have HQ := hid (kJC (hosts := hosts) (by have := HBG.o; omega) (fun j hj => HJ.o j hj om))
 go_wp2
 go_ret
 exact ⟨rt_bool HQ.o.symm, F1.o⟩
abbrev kDL (a0 : Option Addr) (a1 : List Ho) (a2 : Nat) (a3 : World) : List Value := [.slice a0 a1.length a2, .slice (some ⟨a3.heap.size + 1, 0, none⟩) a1.length a1.length, .slice none 0 0, .slice none 0 0, .slice none 0 0, .slice none 0 0, .slice none 0 0, .slice none 0 0, .slice none 0 0, .slice none 0 0]
abbrev kCW : Array Value := #[.slice none 0 0, .slice none 0 0, .slice none 0 0, .slice none 0 0, .slice none 0 0, .slice none 0 0, .slice none 0 0, .slice none 0 0, .slice none 0 0, .slice none 0 0]
theorem kMB (A : OA) (c : Nat) (hosts : List Ho) (S : Nat → Prop) (w : World) (h : tHo.els w S A hosts) (hS : Lt S w) (hc : hosts.length ≤ c) (hc2 : c ≤ maxLen) (hl : hosts.length ≤ 1000000) :
    Calls prog 10 #[.slice A hosts.length c] w (kCA S (sto0 hosts) w) := by
 have F0 := hid (((Fr.refl No w).alloc (.cells kCW 39)).alloc (.cells (Array.replicate hosts.length (.int .i64 0)) 3))
 have G0 := hid ((Blk.new w 39 kCW).alloc (.cells (Array.replicate hosts.length (.int .i64 0)) 3))
 have G1 := hid (Blk.new1 w (.cells kCW 39) 3 (Array.replicate hosts.length (.int .i64 0)))
 have hmk := run_mk kFm rfl (w.alloc (.cells kCW 39)) .i64 .i64 hosts.length om dc
 rw [World.size_alloc] at hmk
 have n0 : (0 : Int) ≤ (hosts.length : Int) := om
 have HE := hid h
 have HS := hid hS
 have HC := hid (And.intro hc (And.intro hc2 hl))
 clear h hS hc hc2
 have HT : Hid (((w.alloc (.cells kCW 39)).alloc (.cells (Array.replicate hosts.length (.int .i64 0)) 3)).there w.heap.size 0 10) := there_blk G0.o rfl
 have HI : Hid ((prog.info? 39).map (·.size) = some 10) := by unfold Hid; kernel_rfl
 go_enter func10, ntmps10
 go_wp2_with (first
  | (refine wpList_store_mid (by rfl) 39 _ _ (by rfl) w.heap.size 0 #[.slice A hosts.length c, .slice (some ⟨w.heap.size + 1, 0, none⟩) hosts.length hosts.length, .slice none 0 0, .slice none 0 0, .slice none 0 0, .slice none 0 0, .slice none 0 0, .slice none 0 0, .slice none 0 0, .slice none 0 0] (by rfl) (by rfl) HT.o HI.o (by simp [Value.oneCell']) ?_)
  | fail)
 clear hmk
 generalize (w.alloc (.cells kCW 39)).alloc (.cells (Array.replicate hosts.length (.int .i64 0)) 3) = W at *
 have FT := Fr.setCells' (a := w) (b := w.heap.size) (M := No) (fun h => absurd h om) (kDL A hosts c w) 0 W F0.o
 have FY := Fr.setCells' (M := fun q => q = w.heap.size) (b := w.heap.size) (fun _ => rfl) (kDL A hosts c w) 0 W (Fr.refl _ W)
 have RR := World.rangeAt_setCells_same W w.heap.size 0 (kDL A hosts c w) HT.o
 have G2 := G1.o.fr FY om
 refine bodyPost_ret (v := .agg (kDL A hosts c w).toArray) (kAv (fn := f10) (p := 2) (ty := 39) rfl _ _ w.heap.size _ _ (by rfl) RR underlying39 (by rfl) HI.o) rfl ?_
 have EU : tI.els (W.setCells w.heap.size 0 (kDL A hosts c w)) (fun k => S k ∨ Nw w (W.setCells w.heap.size 0 (kDL A hosts c w)) k) (some ⟨w.heap.size + 1, 0, none⟩) (List.replicate hosts.length 0) := by
  refine .inr ⟨_, _, rfl, .inr ⟨by omega, G2.lt⟩, fun i x hx => ⟨[.int .i64 x], ?_, rfl, by rw [List.eq_of_mem_replicate (List.mem_of_getElem? hx)]; rfl⟩⟩
  have hi : i < hosts.length := by have := (List.getElem?_eq_some_iff.1 hx).1; simpa using this
  have e0 : x = 0 := List.eq_of_mem_replicate (List.mem_of_getElem? hx)
  intro j u hu
  cases j with
  | zero => simp at hu; subst hu; subst e0; rw [Nat.zero_add, Nat.add_zero, show tI.size = 1 from rfl, Nat.mul_one]; exact (G2.cell i).trans (by simp [hi])
  | succ j => simp at hu
 have hm := kCZ (w := W.setCells w.heap.size 0 (kDL A hosts c w)) (S := fun k => S k ∨ Nw w (W.setCells w.heap.size 0 (kDL A hosts c w)) k) (a := sto0 hosts) (Ahosts := A) (chosts := c) (Acounts := some ⟨w.heap.size + 1, 0, none⟩) (ccounts := hosts.length) (Acalls := none) (ccalls := 0) (Afuncs := none) (cfuncs := 0) (Atabs := none) (ctabs := 0) (Amems := none) (cmems := 0) (Aglobs := none) (cglobs := 0) (Aelems := none) (celems := 0) (Adatas := none) (cdatas := 0) (Ainsts := none) (cinsts := 0) HC.o.1 HC.o.2.1 (kAA HE.o FT HS.o (fun _ h => .inl h)) (by simp [sto0]) (by have := HC.o.2.2; simp only [maxLen]; omega) EU (Nat.zero_le 0) nz (.inl rfl) (Nat.zero_le 0) nz (.inl rfl) (Nat.zero_le 0) nz (.inl rfl) (Nat.zero_le 0) nz (.inl rfl) (Nat.zero_le 0) nz (.inl rfl) (Nat.zero_le 0) nz (.inl rfl) (Nat.zero_le 0) nz (.inl rfl) (Nat.zero_le 0) nz (.inl rfl)
 simp only [sto0, List.length_replicate] at hm
 exact ⟨_, rfl, hm, FT⟩
abbrev kDs (a0 a1 a2 a3 a4 a5 a6 a7 a8 : Option Addr) (a9 : Rx) (a10 a11 a12 a13 a14 a15 a16 a17 a18 a19 a20 : Nat) : List Value := [.slice a0 a9.hosts.length a10, .slice (some ⟨a11, 0, none⟩) a9.counts.length a12, .slice a1 (a9.calls.length + 1) a13, .slice a2 a9.funcs.length a14, .slice a3 a9.tabs.length a15, .slice a4 a9.mems.length a16, .slice a5 a9.globs.length a17, .slice a6 a9.elems.length a18, .slice a7 a9.datas.length a19, .slice a8 a9.insts.length a20]
abbrev kGr (a0 a1 a2 a3 a4 a5 a6 a7 a8 a9 : Option Addr) (a10 : Rx) (a11 a12 a13 a14 a15 a16 a17 a18 a19 a20 : Nat) : Array Value := #[.slice a0 a10.hosts.length a11, .slice a1 a10.counts.length a12, .slice a2 a10.calls.length a13, .slice a3 a10.funcs.length a14, .slice a4 a10.tabs.length a15, .slice a5 a10.mems.length a16, .slice a6 a10.globs.length a17, .slice a7 a10.elems.length a18, .slice a8 a10.datas.length a19, .slice a9 a10.insts.length a20]
theorem kJh {w : World} {S : Nat → Prop} {x : Rx} {cs : LV} (h : tRx.rd w S cs x) (hS : Lt S w) (hx : Nat) (hk : hx < x.counts.length) (args : List Vl) (A : OA) (c : Nat) (he : tCa.rd w S [.int .i64 (hx : Nat), .slice A args.length c] ⟨(hx : Int), args⟩) (v : Int) (hcv : x.counts[hx]? = some v) (hv : 0 ≤ v ∧ v ≤ 1000000) (hn : x.calls.length ≤ 1000000) (hn2 : x.counts.length ≤ 1000000) :
    Calls prog 129 #[.agg cs.toArray, .int .i64 (hx : Nat), .slice A args.length c] w (kCA S { x with calls := x.calls ++ [⟨(hx : Int), args⟩], counts := x.counts.set hx (v + 1) } w) := by
 obtain ⟨A0, c0, A1, c1, A2, c2, A3, c3, A4, c4, A5, c5, A6, c6, A7, c7, A8, c8, A9, c9, rfl, -⟩ := kAU h
 have F0 := hid (((Fr.refl No w).alloc (.cells (kGr A0 A1 A2 A3 A4 A5 A6 A7 A8 A9 x c0 c1 c2 c3 c4 c5 c6 c7 c8 c9) 39)).alloc (.cells kCW 39))
 have G0 := (Blk.new w 39 (kGr A0 A1 A2 A3 A4 A5 A6 A7 A8 A9 x c0 c1 c2 c3 c4 c5 c6 c7 c8 c9)).alloc (.cells kCW 39)
 have G1 := Blk.new (w.alloc (.cells (kGr A0 A1 A2 A3 A4 A5 A6 A7 A8 A9 x c0 c1 c2 c3 c4 c5 c6 c7 c8 c9) 39)) 39 kCW
 simp only [World.size_alloc] at G1
 replace G0 := hid G0
 replace G1 := hid G1
 obtain ⟨css, hcs, hrd⟩ := kAY (kAQ h).2.2 hS
 have HC := hid (And.intro hcs hrd)
 have H := hid h
 have HS := hid hS
 have HE := hid he
 clear he
 have HK := hid hk
 have HV := hid hv
 have HVV : Hid (x.counts[hx]'HK.o = v) := by
     have h1 := List.getElem?_eq_getElem HK.o
     rw [hcv] at h1
     exact (Option.some.inj h1).symm
 have HN2 := hid hn2
 have i0 := nki hx
 have i1 : (hx : Int) < x.counts.length := om
 obtain ⟨css2, hcs2, hrd2⟩ := kDy (kAJ H.o).2.2 (B := w.heap.size) HS.o
 have HC2 := hid (And.intro hcs2 hrd2)
 have v0 := HV.o.1
 have v1 := HV.o.2
 clear hcs2 hrd2 hv hk hcv hn2
 clear hcs hrd h hS
 have HN := hid hn
 go_enter func129, ntmps129
 go_upto_region 2 with fail
 generalize ((w.alloc (.cells (kGr A0 A1 A2 A3 A4 A5 A6 A7 A8 A9 x c0 c1 c2 c3 c4 c5 c6 c7 c8 c9) 39)).alloc (.cells kCW 39)) = W at *
 have HSS : Hid (∀ k, S k → k < W.heap.size ∧ ¬ k = w.heap.size ∧ ¬ k = w.heap.size + 1 ∧ (S k ∨ w.heap.size ≤ k)) := fun k hk => ⟨ltl (HS.o k hk) F0.o.size, by have := HS.o k hk; omega, by have := HS.o k hk; omega, .inl hk⟩
 have HCW := hid (And.intro ((HC.o.1.fr F0.o (fun k hk => ⟨HS.o k hk, fun x => x⟩))) (HC.o.2.frNo F0.o))
 have HEW := hid (kAH HE.o F0.o HS.o i2)
 have z := G0.o.cell 2
 go_upto_region 3 with (first | (at_builtin; refine wpList_appC (t := tCa) (P := prog) (base := W.heap.size) (S := S) (v := .slice none 0 0) (xs := []) (ys := x.calls) (dss := css) (B2 := w.heap.size) elCa rfl rfl rfl rfl (Ty.row.nil (t := tCa) W W.heap.size S 113) HCW.o.1 HCW.o.2 rfl so so (fun k hk => ⟨(HSS.o k hk).1, fun e => nomatch e⟩) nr ?_; intro v1 w1 hr1 fr1 hv1; have R1 := hid hr1; have FW1 := hid (own_frame (Ty.row.nil (t := tCa) W W.heap.size S 113) (Fr.refl No W) fr1 nr); clear hr1 fr1 hv1 HCW z) | fail)
 have FT1 := ftr F0 FW1.o
 replace G0 := hid (G0.o.fr FW1.o id)
 replace G1 := hid (G1.o.fr FW1.o id)
 have FXA := hid ((Fr.refl No w1).alloc (.cells #[.int .i64 (hx : Nat), .slice A args.length c] 113))
 have HER := hid (kAH HEW.o (FW1.o.alloc (.cells #[.int .i64 (hx : Nat), .slice A args.length c] 113)) (fun k hk => (HSS.o k hk).1) i2)
 go_upto_region 5 with (first | (at_builtin; refine wpList_appC (t := tCa) (P := prog) (base := W.heap.size) (S := S) (v := v1) (xs := [] ++ x.calls) (ys := [⟨(hx : Int), args⟩]) (dss := [[.int .i64 (hx : Nat), .slice A args.length c]]) (B2 := w1.heap.size + 1) elCa rfl rfl rfl rfl (R1.o.fr ((Fr.refl No w1).alloc (.cells #[.int .i64 (hx : Nat), .slice A args.length c] 113)) (fun k hk => ⟨ltl (HSS.o k hk).1 FW1.o.size, fun x => x⟩) (fun _ _ x => x)) (Css.one HER.o) (kFY w1 [.int .i64 (hx : Nat), .slice A args.length c] 113) rfl (by have := HN.o; simp; omega) (by have := HN.o; simp; omega) (fun k hk => ⟨ltl (HSS.o k hk).1 (by have := FW1.o.size; simp; omega), fun e => by have h1 := (HSS.o k hk).1; have h2 := (R1.o.own e.symm).1; omega⟩) (by have := FW1.o.size; simp; omega) ?_; intro v2 w2 hr2 fr2 hv2; have R2 := hid hr2; have FW2 := hid (own_frame (R1.o.fr ((Fr.refl No w1).alloc (.cells #[.int .i64 (hx : Nat), .slice A args.length c] 113)) (fun k hk => ⟨ltl (HSS.o k hk).1 FW1.o.size, fun x => x⟩) (fun _ _ x => x)) (FW1.o.alloc (.cells #[.int .i64 (hx : Nat), .slice A args.length c] 113)) fr2 nr); have FB2 := hid fr2; have HO1 := hid (fun g (e : v1.ownBlock = some g) => R1.o.own e); clear hr2 fr2 hv2 HER R1) | fail)
 have KG : Hid (∀ (g : Nat) (t : TypeId) (cs : Array Value), Blk w1 g t cs → t ≠ 113 → Blk w2 g t cs) := fun g t cs hb hne => (hb.fr FXA.o id).fr FB2.o (fun e => by obtain ⟨h1, cs', h2⟩ := HO1.o g e.symm; exact Blk.ne_ hb h2 hne rfl)
 replace G0 := hid (KG.o _ _ _ G0.o dc)
 replace G1 := hid (KG.o _ _ _ G1.o dc)
 clear KG FB2 HO1 FW1 FT1 FXA
 have FT2 := ftr F0 FW2.o
 have W2S := hid FW2.o.size
 have z := G0.o.cell 1
 go_upto_region 6 with (first | (at_builtin; refine wpList_appC (t := tI) (P := prog) (base := w2.heap.size) (S := Emp) (v := .slice none 0 0) (xs := []) (ys := x.counts) (dss := css2) (B2 := w.heap.size) kFm rfl rfl rfl rfl (Ty.row.nil (t := tI) w2 w2.heap.size Emp 3) (HC2.o.1 _ _) (HC2.o.2.frNo FT2.o) rfl (by have := HN2.o; simp; omega) (by have := HN2.o; simp; omega) (fun _ h => h.elim) nr ?_; intro v3 w3 hr3 fr3 hv3; have R3 := hid hr3; have FW3 := hid (own_frame (Ty.row.nil (t := tI) w2 w2.heap.size Emp 3) (Fr.refl No w2) fr3 nr); clear hr3 fr3 hv3 z) | fail)
 replace G0 := hid (G0.o.fr FW3.o id)
 replace G1 := hid (G1.o.fr FW3.o id)
 replace R2 := hid (R2.o.fr FW3.o (fun k hk => ⟨ltl (HSS.o k hk).1 W2S.o, fun x => x⟩) (fun _ _ x => x))
 have FT3 := ftr FT2 FW3.o
 have W3S := hid FW3.o.size
 rw [List.nil_append] at R3
 obtain ⟨gq, cg, hg, _⟩ := kBF R3.o (by have := HK.o; omega)
 subst hg
 have HT := kBD R3.o hx HK.o
 have HO3 := hid (R3.o.own (g := gq) rfl)
 obtain ⟨b', o', ds, eb, _, hc, hr⟩ := (Ty.row.els' (S' := fun _ => True) R3.o tvv tvv).at_ hx HK.o
 injection eb with eb
 injection eb with q1 q2 _
 subst q1 q2
 obtain ⟨rfl, wfv⟩ := hr
 have u0 : w3.cell? ⟨gq, hx, none⟩ = some (.int .i64 v) := by have := hc 0 _ rfl; rw [HVV.o] at this; simpa [show tI.size = 1 from rfl] using this
 have u1 : w3.frozen? ⟨gq, hx, none⟩ = false := by have := (HT 0 dc).2; simpa [show tI.size = 1 from rfl] using this
 clear HT hc FW3 FW2 FT2 wfv
 go_upto_region 7 with fail
 have FG := hid ((Fr.refl (fun q => q = gq) w3).setCell ⟨gq, hx, none⟩ (.int .i64 (v + 1)) (fun _ => rfl))
 have WF : (Lit.int .i64 (v + 1)).wf = true := by
  have h1 := wrap64_wf (v + 1)
  have h2 := HV.o
  rwa [show wrap64 (v + 1) = v + 1 by simp only [wrap64]; omega] at h1
 have R4 := hid (R3.o.set (w' := w3.setCell ⟨gq, hx, none⟩ (.int .i64 (v + 1))) (ds := [.int .i64 (v + 1)]) (x := v + 1) hx HK.o ⟨rfl, WF⟩ (fun p hp => hp.elim) (fun cur hb => by show Blk _ gq _ (setA cur (hx * 1) [.int .i64 (v + 1)]); rw [Nat.mul_one]; exact hb.set_ hx _))
 have NE : Hid (∀ (q : Nat) (t : TypeId) (cs : Array Value), Blk w3 q t cs → t ≠ 3 → ¬ q = gq) := fun q t cs hb hne => by obtain ⟨_, cs', h2⟩ := HO3.o; exact Blk.ne_ hb h2 hne
 replace G0 := hid (G0.o.fr FG.o (NE.o _ _ _ G0.o dc))
 replace G1 := hid (G1.o.fr FG.o (NE.o _ _ _ G1.o dc))
 replace R2 := hid (R2.o.fr FG.o (fun k hk => ⟨ltl (HSS.o k hk).1 (Nat.le_trans W2S.o (Nat.le_trans nr W3S.o)), fun e => by have := (HSS.o k hk).1; have := W2S.o; have := HO3.o.1; omega⟩) (fun q hq => by obtain ⟨_, cs', hb⟩ := R2.o.own hq; exact NE.o _ _ _ hb dc))
 have FT4 := hid (FT3.o.setCell ⟨gq, hx, none⟩ (.int .i64 (v + 1)) (fun h => absurd h (by have := HO3.o.1; have := W2S.o; have := F0.o.size; show ¬ gq < _; omega)))
 clear u0 u1 R3 HO3 NE FT3 WF FG
 generalize w3.setCell ⟨gq, hx, none⟩ (.int .i64 (v + 1)) = w4 at *
 obtain ⟨A', c', e2, l1, l2, E2⟩ := R2.o.els (S' := fun k => S k ∨ v2.ownBlock = some k) (fun _ h => .inl h) (fun g hg => .inr hg)
 have e3 : ([] ++ x.calls ++ [(⟨(hx : Int), args⟩ : Ca)]).length = x.calls.length + 1 := by simp
 rw [e3] at e2 l1
 have HW2 := hid (fun g (e : v2.ownBlock = some g) => R2.o.own e)
 subst e2
 have HE2 := hid E2
 have HL := hid (And.intro l1 l2)
 obtain ⟨A9', c9', e5, m1, m2, E5⟩ := R4.o.els (S' := fun k => k = gq) (fun _ h => h.elim) (fun g hg => (show gq = g by simpa [Value.ownBlock] using hg).symm)
 have HW4 := hid (R4.o.own (g := gq) rfl)
 have W4S : Hid (W.heap.size ≤ w4.heap.size) := by have := HW4.o.1; obtain ⟨_, q3⟩ := HW4.o.2; have := q3.lt; have := W2S.o; show W.heap.size ≤ w4.heap.size; omega
 rw [List.length_set] at m1
 injection e5 with q1 q2 q3
 subst q1 q3
 have HE5 := hid E5
 have HL5 := hid (And.intro m1 m2)
 clear R2 R4 E2 E5 l1 l2 e3 m1 m2 q2
 have y := G0.o.frozen 2
 have y' := G0.o.cell 2
 have z := G0.o.frozen 1
 have z' := G0.o.cell 1
 go_upto_region 9 with fail
 clear y y' z z'
 have N0 := hid ((G0.o.set_ 2 (.slice A' (x.calls.length + 1) c')).set_ 1 (.slice (some ⟨gq, 0, none⟩) x.counts.length cg))
 have N1 := hid ((G1.o.far (p := ⟨w.heap.size, 2, none⟩) (by show w.heap.size + 1 ≠ w.heap.size; omega) (.slice A' (x.calls.length + 1) c')).far (p := ⟨w.heap.size, 1, none⟩) (by show w.heap.size + 1 ≠ w.heap.size; omega) (.slice (some ⟨gq, 0, none⟩) x.counts.length cg))
 have FT5 := hid ((FT4.o.setCell ⟨w.heap.size, 2, none⟩ (.slice A' (x.calls.length + 1) c') (fun h => absurd h (by show ¬ w.heap.size < _; omega))).setCell ⟨w.heap.size, 1, none⟩ (.slice (some ⟨gq, 0, none⟩) x.counts.length cg) (fun h => absurd h (by show ¬ w.heap.size < _; omega)))
 have FX5 := hid (((Fr.refl (Two (w.heap.size) (w.heap.size + 1)) w4).setCell ⟨w.heap.size, 2, none⟩ (.slice A' (x.calls.length + 1) c') (fun _ => .inl rfl)).setCell ⟨w.heap.size, 1, none⟩ (.slice (some ⟨gq, 0, none⟩) x.counts.length cg) (fun _ => .inl rfl))
 have GT := hid (And.intro G0.o G1.o)
 clear G0 G1 FT4
 generalize (w4.setCell ⟨w.heap.size, 2, none⟩ (.slice A' (x.calls.length + 1) c')).setCell ⟨w.heap.size, 1, none⟩ (.slice (some ⟨gq, 0, none⟩) x.counts.length cg) = W5 at *

 have RQ : W5.rangeAt (w.heap.size) 0 (kDs A0 A' A3 A4 A5 A6 A7 A8 A9 x c0 gq cg c' c3 c4 c5 c6 c7 c8 c9) := rangeAt_blk N0.o
 have HT : Hid (W5.there (w.heap.size + 1) 0 10) := there_blk N1.o rfl
 have HI : Hid ((prog.info? 39).map (·.size) = some 10) := by unfold Hid; kernel_rfl
 go_wp2_with (first
  | (refine wpList_load_mid (by rfl) 39 _ (by rfl) (w.heap.size) 0 (by rfl) _ _ RQ underlying39 (by rfl) HI.o ?_)
  | (refine wpList_store_mid (by rfl) 39 _ _ (by rfl) (w.heap.size + 1) 0 #[.slice A0 x.hosts.length c0, .slice (some ⟨gq, 0, none⟩) x.counts.length cg, .slice A' (x.calls.length + 1) c', .slice A3 x.funcs.length c3, .slice A4 x.tabs.length c4, .slice A5 x.mems.length c5, .slice A6 x.globs.length c6, .slice A7 x.elems.length c7, .slice A8 x.datas.length c8, .slice A9 x.insts.length c9] (by rfl) (by rfl) HT.o HI.o (by simp [Value.oneCell']) ?_)
  | fail)
 have FT6 := Fr.setCells' (a := w) (b := w.heap.size + 1) (M := No) (fun h => absurd h om) (kDs A0 A' A3 A4 A5 A6 A7 A8 A9 x c0 gq cg c' c3 c4 c5 c6 c7 c8 c9) 0 W5 FT5.o
 have FX6 := Fr.setCells' (a := w4) (b := w.heap.size + 1) (M := Two (w.heap.size) (w.heap.size + 1)) (fun _ => .inr rfl) (kDs A0 A' A3 A4 A5 A6 A7 A8 A9 x c0 gq cg c' c3 c4 c5 c6 c7 c8 c9) 0 W5 FX5.o
 have RR := World.rangeAt_setCells_same W5 (w.heap.size + 1) 0 (kDs A0 A' A3 A4 A5 A6 A7 A8 A9 x c0 gq cg c' c3 c4 c5 c6 c7 c8 c9) HT.o
 have HQ := HE2.o.fr FX6 (fun k hk => by rcases hk with hk | hk; (obtain ⟨h1, h2, h3, -⟩ := HSS.o k hk; refine ⟨ltl h1 W4S.o, ?_⟩; rintro (h | h); exact h2 h; exact h3 h); (obtain ⟨q1, q2, q3⟩ := HW2.o k hk; refine ⟨q3.lt, ?_⟩; rintro (rfl | rfl); (exact Blk.ne_ q3 GT.o.1 dc rfl); exact Blk.ne_ q3 GT.o.2 dc rfl))
 have HQ5 := HE5.o.fr FX6 (fun k hk => by subst hk; obtain ⟨q1, q2, q3⟩ := HW4.o; refine ⟨q3.lt, ?_⟩; rintro (h | h); (exact Blk.ne_ q3 GT.o.1 dc h); exact Blk.ne_ q3 GT.o.2 dc h)
 refine bodyPost_ret (v := .agg (kDs A0 A' A3 A4 A5 A6 A7 A8 A9 x c0 gq cg c' c3 c4 c5 c6 c7 c8 c9).toArray) (kAv (fn := f129) (p := 6) (ty := 39) rfl _ _ (w.heap.size + 1) _ _ (by rfl) RR underlying39 (by rfl) HI.o) rfl ?_
 have HP := kHz (ys := x.calls ++ [(⟨(hx : Int), args⟩ : Ca)]) (S' := fun k => S k ∨ Nw w (W5.setCells (w.heap.size + 1) 0 (kDs A0 A' A3 A4 A5 A6 A7 A8 A9 x c0 gq cg c' c3 c4 c5 c6 c7 c8 c9)) k) (A := A') (c := c') H.o FT6 HS.o (fun _ h => .inl h) (by have := HL.o; simp; omega) HL.o.2 (HQ.more (fun k hk => hk.elim (fun hk => (HSS.o k hk).2.2.2.elim .inl (fun h => .inr ⟨h, by have := (HSS.o k hk).1; have := W4S.o; have := FX6.size; omega⟩)) (fun hk => .inr (by obtain ⟨q1, q2, q3⟩ := HW2.o k hk; have := F0.o.size; have := FX6.size; exact ⟨by omega, ltl q3.lt this⟩))))
 have HP2 := kGk (x := { x with calls := x.calls ++ [(⟨(hx : Int), args⟩ : Ca)] }) (ys := x.counts.set hx (v + 1)) (S' := fun k => S k ∨ Nw w (W5.setCells (w.heap.size + 1) 0 (kDs A0 A' A3 A4 A5 A6 A7 A8 A9 x c0 gq cg c' c3 c4 c5 c6 c7 c8 c9)) k) (A := some ⟨gq, 0, none⟩) (c := cg) HP (Fr.refl No _) (fun k hk => hk.elim (fun h => ltl (HS.o k h) FT6.size) (fun h => h.2)) i2 (by have := HL5.o.1; simp; omega) HL5.o.2 (HQ5.more (fun k hk => by subst hk; obtain ⟨q1, q2, q3⟩ := HW4.o; exact .inr ⟨by have := F0.o.size; have := W2S.o; omega, ltl q3.lt FX6.size⟩))
 simp only [List.length_append, List.length_singleton, List.length_set] at HP2
 exact ⟨_, rfl, HP2, FT6⟩
theorem i_at {w : World} {S : Nat → Prop} {A : OA} {l : List Int} (h : tI.els w S A l) (i : Nat) (hi : i < l.length) : ∃ (b o : Nat), A = some ⟨b, o, none⟩ ∧ S b ∧ w.cell? ⟨b, o + i, none⟩ = some (.int .i64 l[i]) ∧ (Lit.int .i64 l[i]).wf = true := by
 obtain ⟨b, o, ds, rfl, hb, hc, hr⟩ := h.at_ i hi
 obtain ⟨rfl, hw⟩ := hr
 have := hc 0 _ rfl
 have e : tI.size = 1 := rfl
 exact yy81
theorem kCP (A B : OA) (xs ys : List Int) (c d : Nat) (S T : Nat → Prop) (w : World) (ha : tI.els w S A xs) (hb : tI.els w T B ys) (h1 : xs.length ≤ 140737488351232) (h2 : ys.length ≤ 140737488351232) :
    Calls prog 151 #[.slice A xs.length c, .slice B ys.length d] w fun e w' => e = .returned (.bool (decide (xs = ys))) ∧ ∃ n, w' = w.drewN n := by
 by_cases hl : xs.length = ys.length
 · have e1 : (((xs.length : Nat) : Int) != ((ys.length : Nat) : Int)) = false := by simp [hl]
   have hL := hid hl
   have hl1 : xs.length ≤ ys.length := om
   clear hl
   go_enter func151, ntmps151
   go_wp2
   go_loopw [5] (fun i wr => ∃ k m : Nat, k ≤ xs.length ∧ i = .int .i64 k ∧ wr = w.drewN m ∧ xs.take k = ys.take k) (fun i _ => xs.length - (intOf i).toNat)
   case atStart => exact ⟨0, 0, by omega, rfl, rfl, by simp⟩
   obtain ⟨k, m, hk, rfl, rfl, hq⟩ := hrel
   have HQ := hid hq
   clear hq e1
   by_cases hlt : k < xs.length
   · obtain ⟨b, o, rfl, _, c1, _⟩ := i_at ha k hlt
     obtain ⟨b', o', rfl, _, c2, _⟩ := i_at hb k om
     exact yy6
   exact yy33
 have e1 : (((xs.length : Nat) : Int) != ((ys.length : Nat) : Int)) = true := by simp; omega
 have hL := hid hl
 clear hl
 go_enter func151, ntmps151
 exact yy55
abbrev kDK (a0 a1 a2 a3 a4 a5 : Option Addr) (a6 : Ad) (a7 a8 a9 a10 a11 a12 : Nat) : Array Value := #[.slice a0 a6.funcs.length a7, .slice a1 a6.tables.length a8, .slice a2 a6.mems.length a9, .slice a3 a6.globals.length a10, .slice a4 a6.elems.length a11, .slice a5 a6.datas.length a12]
abbrev kGq (a0 a1 a2 a3 a4 a5 : Option Addr) (a6 : Ad) (a7 a8 a9 a10 a11 a12 : Nat) : Array Value := #[.slice a0 a6.funcs.length a7, .slice a1 a6.tables.length a8, .slice a2 a6.mems.length a9, .slice a3 a6.globals.length a10, .slice a4 a6.elems.length a11, .slice a5 a6.datas.length a12]
theorem kKp (a : Ad) {ms ns : LV} {S T : Nat → Prop} (w : World) (ha : tAd.rd w S ms a) (hb : tAd.rd w T ns a) (hS : Lt S w) (hT : Lt T w) (hl : a.funcs.length ≤ 140737488351232 ∧ a.tables.length ≤ 140737488351232 ∧ a.mems.length ≤ 140737488351232 ∧ a.globals.length ≤ 140737488351232 ∧ a.elems.length ≤ 140737488351232 ∧ a.datas.length ≤ 140737488351232) :
    Calls prog 59 #[.agg ms.toArray, .agg ns.toArray] w fun e w' => e = .returned (.bool true) ∧ Fr No w w' := by
 obtain ⟨P0, p0, P1, p1, P2, p2, P3, p3, P4, p4, P5, p5, rfl, -, -, ha0, -, -, ha1, -, -, ha2, -, -, ha3, -, -, ha4, -, -, ha5⟩ := kDE ha
 obtain ⟨Q0, q0, Q1, q1, Q2, q2, Q3, q3, Q4, q4, Q5, q5, rfl, -, -, hb0, -, -, hb1, -, -, hb2, -, -, hb3, -, -, hb4, -, -, hb5⟩ := kDE hb
 have F0 := hid (((Fr.refl No w).alloc (.cells (kDK P0 P1 P2 P3 P4 P5 a p0 p1 p2 p3 p4 p5) 73)).alloc (.cells (kGq Q0 Q1 Q2 Q3 Q4 Q5 a q0 q1 q2 q3 q4 q5) 73))
 have G0 := hid ((Blk.new w 73 (kDK P0 P1 P2 P3 P4 P5 a p0 p1 p2 p3 p4 p5)).alloc (.cells (kGq Q0 Q1 Q2 Q3 Q4 Q5 a q0 q1 q2 q3 q4 q5) 73))
 have G1 := hid (Blk.new1 w (.cells (kDK P0 P1 P2 P3 P4 P5 a p0 p1 p2 p3 p4 p5) 73) 73 (kGq Q0 Q1 Q2 Q3 Q4 Q5 a q0 q1 q2 q3 q4 q5))
 have H0 : Hid (∀ X, Fr No w X → Calls prog 151 #[.slice P0 a.funcs.length p0, .slice Q0 a.funcs.length q0] X (fun e w' => e = .returned (.bool true) ∧ Fr No X w')) := fun X f => (kCP P0 Q0 a.funcs a.funcs p0 q0 S T X (kAA ha0 f hS i2) (kAA hb0 f hT i2) om om).mono (fun e w' ⟨h1, n, h2⟩ => ⟨by rw [h1]; simp, by rw [h2]; exact (Fr.refl No X).drewN n⟩)
 have H1 : Hid (∀ X, Fr No w X → Calls prog 151 #[.slice P1 a.tables.length p1, .slice Q1 a.tables.length q1] X (fun e w' => e = .returned (.bool true) ∧ Fr No X w')) := fun X f => (kCP P1 Q1 a.tables a.tables p1 q1 S T X (kAA ha1 f hS i2) (kAA hb1 f hT i2) om om).mono (fun e w' ⟨h1, n, h2⟩ => ⟨by rw [h1]; simp, by rw [h2]; exact (Fr.refl No X).drewN n⟩)
 have H2 : Hid (∀ X, Fr No w X → Calls prog 151 #[.slice P2 a.mems.length p2, .slice Q2 a.mems.length q2] X (fun e w' => e = .returned (.bool true) ∧ Fr No X w')) := fun X f => (kCP P2 Q2 a.mems a.mems p2 q2 S T X (kAA ha2 f hS i2) (kAA hb2 f hT i2) om om).mono (fun e w' ⟨h1, n, h2⟩ => ⟨by rw [h1]; simp, by rw [h2]; exact (Fr.refl No X).drewN n⟩)
 have H3 : Hid (∀ X, Fr No w X → Calls prog 151 #[.slice P3 a.globals.length p3, .slice Q3 a.globals.length q3] X (fun e w' => e = .returned (.bool true) ∧ Fr No X w')) := fun X f => (kCP P3 Q3 a.globals a.globals p3 q3 S T X (kAA ha3 f hS i2) (kAA hb3 f hT i2) om om).mono (fun e w' ⟨h1, n, h2⟩ => ⟨by rw [h1]; simp, by rw [h2]; exact (Fr.refl No X).drewN n⟩)
 have H4 : Hid (∀ X, Fr No w X → Calls prog 151 #[.slice P4 a.elems.length p4, .slice Q4 a.elems.length q4] X (fun e w' => e = .returned (.bool true) ∧ Fr No X w')) := fun X f => (kCP P4 Q4 a.elems a.elems p4 q4 S T X (kAA ha4 f hS i2) (kAA hb4 f hT i2) om om).mono (fun e w' ⟨h1, n, h2⟩ => ⟨by rw [h1]; simp, by rw [h2]; exact (Fr.refl No X).drewN n⟩)
 have H5 : Hid (∀ X, Fr No w X → Calls prog 151 #[.slice P5 a.datas.length p5, .slice Q5 a.datas.length q5] X (fun e w' => e = .returned (.bool true) ∧ Fr No X w')) := fun X f => (kCP P5 Q5 a.datas a.datas p5 q5 S T X (kAA ha5 f hS i2) (kAA hb5 f hT i2) om om).mono (fun e w' ⟨h1, n, h2⟩ => ⟨by rw [h1]; simp, by rw [h2]; exact (Fr.refl No X).drewN n⟩)
 clear ha0 hb0 ha1 hb1 ha2 hb2 ha3 hb3 ha4 hb4 ha5 hb5 ha hb hS hT hl
 go_enter func59, ntmps59
 go_upto_region 1 with fail
 generalize (w.alloc (.cells (kDK P0 P1 P2 P3 P4 P5 a p0 p1 p2 p3 p4 p5) 73)).alloc (.cells (kGq Q0 Q1 Q2 Q3 Q4 Q5 a q0 q1 q2 q3 q4 q5) 73) = W at *
 have z0 := G0.o.cell 0
 have y0 := G1.o.cell 0
 go_wp2_with fail
 refine (H0.o _ F0.o).mono ?_
 rintro e w0 ⟨rfl, f1⟩
 replace F0 := ftr F0 f1
 replace G0 := hid (G0.o.fr f1 id)
 replace G1 := hid (G1.o.fr f1 id)
 clear f1 z0 y0
 have z1 := G0.o.cell 1
 have y1 := G1.o.cell 1
 go_wp2_with fail
 refine (H1.o _ F0.o).mono ?_
 rintro e w1 ⟨rfl, f1⟩
 replace F0 := ftr F0 f1
 replace G0 := hid (G0.o.fr f1 id)
 replace G1 := hid (G1.o.fr f1 id)
 clear f1 z1 y1
 have z2 := G0.o.cell 2
 have y2 := G1.o.cell 2
 go_wp2_with fail
 refine (H2.o _ F0.o).mono ?_
 rintro e w2 ⟨rfl, f1⟩
 replace F0 := ftr F0 f1
 replace G0 := hid (G0.o.fr f1 id)
 replace G1 := hid (G1.o.fr f1 id)
 clear f1 z2 y2
 have z3 := G0.o.cell 3
 have y3 := G1.o.cell 3
 go_wp2_with fail
 refine (H3.o _ F0.o).mono ?_
 rintro e w3 ⟨rfl, f1⟩
 replace F0 := ftr F0 f1
 replace G0 := hid (G0.o.fr f1 id)
 replace G1 := hid (G1.o.fr f1 id)
 clear f1 z3 y3
 have z4 := G0.o.cell 4
 have y4 := G1.o.cell 4
 go_wp2_with fail
 refine (H4.o _ F0.o).mono ?_
 rintro e w4 ⟨rfl, f1⟩
 replace F0 := ftr F0 f1
 replace G0 := hid (G0.o.fr f1 id)
 replace G1 := hid (G1.o.fr f1 id)
 clear f1 z4 y4
 have z5 := G0.o.cell 5
 have y5 := G1.o.cell 5
 go_wp2_with fail
 refine (H5.o _ F0.o).mono ?_
 rintro e w5 ⟨rfl, f1⟩
 replace F0 := ftr F0 f1
 replace G0 := hid (G0.o.fr f1 id)
 replace G1 := hid (G1.o.fr f1 id)
 clear f1 z5 y5
 go_wp2
 go_ret
 exact ⟨rfl, F0.o⟩
abbrev kGp (a0 a1 a2 a3 a4 a5 : Option Addr) (a6 : Ad) (a7 a8 a9 a10 a11 a12 : Nat) : List Value := [.slice a0 a6.funcs.length a7, .slice a1 a6.tables.length a8, .slice a2 a6.mems.length a9, .slice a3 a6.globals.length a10, .slice a4 a6.elems.length a11, .slice a5 a6.datas.length a12]
abbrev kFc : Array Value := #[.slice none 0 0, .slice none 0 0, .slice none 0 0, .slice none 0 0, .slice none 0 0, .slice none 0 0]
theorem kEK (a : Ad) {ms : LV} (S : Nat → Prop) (w : World) (h : tAd.rd w S ms a) (hS : Lt S w) (b0 : a.funcs.length * 8 ≤ 140737488351232) (b1 : a.tables.length * 8 ≤ 140737488351232) (b2 : a.mems.length * 8 ≤ 140737488351232) (b3 : a.globals.length * 8 ≤ 140737488351232) (b4 : a.elems.length * 8 ≤ 140737488351232) (b5 : a.datas.length * 8 ≤ 140737488351232) :
    Calls prog 88 #[.agg ms.toArray] w (kAa tAd a w) := by
 obtain ⟨P0, p0, P1, p1, P2, p2, P3, p3, P4, p4, P5, p5, rfl, -, -, h0, -, -, h1, -, -, h2, -, -, h3, -, -, h4, -, -, h5⟩ := kDE h
 have F0 := hid (((Fr.refl No w).alloc (.cells (kDK P0 P1 P2 P3 P4 P5 a p0 p1 p2 p3 p4 p5) 73)).alloc (.cells kFc 73))
 have G0 := hid ((Blk.new w 73 (kDK P0 P1 P2 P3 P4 P5 a p0 p1 p2 p3 p4 p5)).alloc (.cells kFc 73))
 have G1 := hid (Blk.new1 w (.cells (kDK P0 P1 P2 P3 P4 P5 a p0 p1 p2 p3 p4 p5) 73) 73 kFc)
 have H0 := hid h0
 have HB0 := hid b0
 have H1 := hid h1
 have HB1 := hid b1
 have H2 := hid h2
 have HB2 := hid b2
 have H3 := hid h3
 have HB3 := hid b3
 have H4 := hid h4
 have HB4 := hid b4
 have H5 := hid h5
 have HB5 := hid b5
 have HS := hid hS
 clear h hS h0 b0 h1 b1 h2 b2 h3 b3 h4 b4 h5 b5
 go_enter func88, ntmps88
 go_upto_region 1 with fail
 generalize (w.alloc (.cells (kDK P0 P1 P2 P3 P4 P5 a p0 p1 p2 p3 p4 p5) 73)).alloc (.cells kFc 73) = W at *
 have HSW : Hid (Lt S W) := fun k hk => ltl (HS.o k hk) F0.o.size
 have HX : Hid (∀ X, Fr No W X → Ce X w.heap.size 0 (.slice P0 a.funcs.length p0) ∧ Ce X w.heap.size 1 (.slice P1 a.tables.length p1) ∧ Ce X w.heap.size 2 (.slice P2 a.mems.length p2) ∧ Ce X w.heap.size 3 (.slice P3 a.globals.length p3) ∧ Ce X w.heap.size 4 (.slice P4 a.elems.length p4) ∧ Ce X w.heap.size 5 (.slice P5 a.datas.length p5)) := fun X g => ⟨(G0.o.fr g id).cell 0, (G0.o.fr g id).cell 1, (G0.o.fr g id).cell 2, (G0.o.fr g id).cell 3, (G0.o.fr g id).cell 4, (G0.o.fr g id).cell 5⟩
 refine rwO (fun X => Ce X w.heap.size 0 (.slice P0 a.funcs.length p0) ∧ Ce X w.heap.size 1 (.slice P1 a.tables.length p1) ∧ Ce X w.heap.size 2 (.slice P2 a.mems.length p2) ∧ Ce X w.heap.size 3 (.slice P3 a.globals.length p3) ∧ Ce X w.heap.size 4 (.slice P4 a.elems.length p4) ∧ Ce X w.heap.size 5 (.slice P5 a.datas.length p5)) [19] [0, 1, 3, 4, 6, 7, 9, 10, 12, 13, 15, 16, 2, 5, 8, 11, 14, 17, 18, 19] [2, 5, 8, 11, 14, 17, 19] (HX.o _ (Fr.refl No _).drew) ?_
 have FZ := hid (Fr.refl No W).drew
 refine rC ?_
 refine wpO_eff rfl rfl fun K hK => sz ?_
 refine (kBP P0 p0 a.funcs S _ (kAA H0.o (F0.o.trans FZ.o i3) HS.o i2) (fun k hk => ltl (HSW.o k hk) FZ.o.size) HB0.o).mono ?_
 rintro e w0 ⟨B0, d0, rfl, hr, f1⟩
 obtain ⟨l1, l2, el⟩ := kBK hr
 have E0 : Hid (a.funcs.length ≤ d0 ∧ d0 ≤ maxLen ∧ tI.els w0 (Nw W w0) B0 a.funcs) := ⟨l1, l2, kBp el (fun k o e hk => by subst e; obtain ⟨g1, _, g2⟩ := hr.own (g := k) (by have := hr; obtain ⟨css, _, ho⟩ := this; rcases ho.2 with ⟨hv, _⟩ | ⟨g, cap, cur, hv, _⟩; (cases hv); (injection hv with q1 _ _; injection q1 with q1; injection q1 with q1 _ _; subst q1; rfl)); exact ⟨Nat.le_trans FZ.o.size g1, g2.lt⟩)⟩
 replace FZ := ftr FZ f1
 clear f1 hr el l1 l2
 refine hK _ _ (fun _ => HX.o _ FZ.o) ?_
 clear hK K
 refine rC ?_
 refine wpO_eff rfl rfl fun K hK => sz ?_
 refine (kBP P1 p1 a.tables S _ (kAA H1.o (F0.o.trans FZ.o i3) HS.o i2) (fun k hk => ltl (HSW.o k hk) FZ.o.size) HB1.o).mono ?_
 rintro e w1 ⟨B1, d1, rfl, hr, f1⟩
 obtain ⟨l1, l2, el⟩ := kBK hr
 have E1 : Hid (a.tables.length ≤ d1 ∧ d1 ≤ maxLen ∧ tI.els w1 (Nw W w1) B1 a.tables) := ⟨l1, l2, kBp el (fun k o e hk => by subst e; obtain ⟨g1, _, g2⟩ := hr.own (g := k) (by have := hr; obtain ⟨css, _, ho⟩ := this; rcases ho.2 with ⟨hv, _⟩ | ⟨g, cap, cur, hv, _⟩; (cases hv); (injection hv with q1 _ _; injection q1 with q1; injection q1 with q1 _ _; subst q1; rfl)); exact ⟨Nat.le_trans FZ.o.size g1, g2.lt⟩)⟩
 replace E0 : Hid (a.funcs.length ≤ d0 ∧ d0 ≤ maxLen ∧ tI.els w1 (Nw W w1) B0 a.funcs) := ⟨E0.o.1, E0.o.2.1, kAA E0.o.2.2 f1 (fun k hk => hk.2) (fun k hk => ⟨hk.1, ltl hk.2 f1.size⟩)⟩
 replace FZ := ftr FZ f1
 clear f1 hr el l1 l2
 refine hK _ _ (fun _ => HX.o _ FZ.o) ?_
 clear hK K
 refine rC ?_
 refine wpO_eff rfl rfl fun K hK => sz ?_
 refine (kBP P2 p2 a.mems S _ (kAA H2.o (F0.o.trans FZ.o i3) HS.o i2) (fun k hk => ltl (HSW.o k hk) FZ.o.size) HB2.o).mono ?_
 rintro e w2 ⟨B2, d2, rfl, hr, f1⟩
 obtain ⟨l1, l2, el⟩ := kBK hr
 have E2 : Hid (a.mems.length ≤ d2 ∧ d2 ≤ maxLen ∧ tI.els w2 (Nw W w2) B2 a.mems) := ⟨l1, l2, kBp el (fun k o e hk => by subst e; obtain ⟨g1, _, g2⟩ := hr.own (g := k) (by have := hr; obtain ⟨css, _, ho⟩ := this; rcases ho.2 with ⟨hv, _⟩ | ⟨g, cap, cur, hv, _⟩; (cases hv); (injection hv with q1 _ _; injection q1 with q1; injection q1 with q1 _ _; subst q1; rfl)); exact ⟨Nat.le_trans FZ.o.size g1, g2.lt⟩)⟩
 replace E0 : Hid (a.funcs.length ≤ d0 ∧ d0 ≤ maxLen ∧ tI.els w2 (Nw W w2) B0 a.funcs) := ⟨E0.o.1, E0.o.2.1, kAA E0.o.2.2 f1 (fun k hk => hk.2) (fun k hk => ⟨hk.1, ltl hk.2 f1.size⟩)⟩
 replace E1 : Hid (a.tables.length ≤ d1 ∧ d1 ≤ maxLen ∧ tI.els w2 (Nw W w2) B1 a.tables) := ⟨E1.o.1, E1.o.2.1, kAA E1.o.2.2 f1 (fun k hk => hk.2) (fun k hk => ⟨hk.1, ltl hk.2 f1.size⟩)⟩
 replace FZ := ftr FZ f1
 clear f1 hr el l1 l2
 refine hK _ _ (fun _ => HX.o _ FZ.o) ?_
 clear hK K
 refine rC ?_
 refine wpO_eff rfl rfl fun K hK => sz ?_
 refine (kBP P3 p3 a.globals S _ (kAA H3.o (F0.o.trans FZ.o i3) HS.o i2) (fun k hk => ltl (HSW.o k hk) FZ.o.size) HB3.o).mono ?_
 rintro e w3 ⟨B3, d3, rfl, hr, f1⟩
 obtain ⟨l1, l2, el⟩ := kBK hr
 have E3 : Hid (a.globals.length ≤ d3 ∧ d3 ≤ maxLen ∧ tI.els w3 (Nw W w3) B3 a.globals) := ⟨l1, l2, kBp el (fun k o e hk => by subst e; obtain ⟨g1, _, g2⟩ := hr.own (g := k) (by have := hr; obtain ⟨css, _, ho⟩ := this; rcases ho.2 with ⟨hv, _⟩ | ⟨g, cap, cur, hv, _⟩; (cases hv); (injection hv with q1 _ _; injection q1 with q1; injection q1 with q1 _ _; subst q1; rfl)); exact ⟨Nat.le_trans FZ.o.size g1, g2.lt⟩)⟩
 replace E0 : Hid (a.funcs.length ≤ d0 ∧ d0 ≤ maxLen ∧ tI.els w3 (Nw W w3) B0 a.funcs) := ⟨E0.o.1, E0.o.2.1, kAA E0.o.2.2 f1 (fun k hk => hk.2) (fun k hk => ⟨hk.1, ltl hk.2 f1.size⟩)⟩
 replace E1 : Hid (a.tables.length ≤ d1 ∧ d1 ≤ maxLen ∧ tI.els w3 (Nw W w3) B1 a.tables) := ⟨E1.o.1, E1.o.2.1, kAA E1.o.2.2 f1 (fun k hk => hk.2) (fun k hk => ⟨hk.1, ltl hk.2 f1.size⟩)⟩
 replace E2 : Hid (a.mems.length ≤ d2 ∧ d2 ≤ maxLen ∧ tI.els w3 (Nw W w3) B2 a.mems) := ⟨E2.o.1, E2.o.2.1, kAA E2.o.2.2 f1 (fun k hk => hk.2) (fun k hk => ⟨hk.1, ltl hk.2 f1.size⟩)⟩
 replace FZ := ftr FZ f1
 clear f1 hr el l1 l2
 refine hK _ _ (fun _ => HX.o _ FZ.o) ?_
 clear hK K
 refine rC ?_
 refine wpO_eff rfl rfl fun K hK => sz ?_
 refine (kBP P4 p4 a.elems S _ (kAA H4.o (F0.o.trans FZ.o i3) HS.o i2) (fun k hk => ltl (HSW.o k hk) FZ.o.size) HB4.o).mono ?_
 rintro e w4 ⟨B4, d4, rfl, hr, f1⟩
 obtain ⟨l1, l2, el⟩ := kBK hr
 have E4 : Hid (a.elems.length ≤ d4 ∧ d4 ≤ maxLen ∧ tI.els w4 (Nw W w4) B4 a.elems) := ⟨l1, l2, kBp el (fun k o e hk => by subst e; obtain ⟨g1, _, g2⟩ := hr.own (g := k) (by have := hr; obtain ⟨css, _, ho⟩ := this; rcases ho.2 with ⟨hv, _⟩ | ⟨g, cap, cur, hv, _⟩; (cases hv); (injection hv with q1 _ _; injection q1 with q1; injection q1 with q1 _ _; subst q1; rfl)); exact ⟨Nat.le_trans FZ.o.size g1, g2.lt⟩)⟩
 replace E0 : Hid (a.funcs.length ≤ d0 ∧ d0 ≤ maxLen ∧ tI.els w4 (Nw W w4) B0 a.funcs) := ⟨E0.o.1, E0.o.2.1, kAA E0.o.2.2 f1 (fun k hk => hk.2) (fun k hk => ⟨hk.1, ltl hk.2 f1.size⟩)⟩
 replace E1 : Hid (a.tables.length ≤ d1 ∧ d1 ≤ maxLen ∧ tI.els w4 (Nw W w4) B1 a.tables) := ⟨E1.o.1, E1.o.2.1, kAA E1.o.2.2 f1 (fun k hk => hk.2) (fun k hk => ⟨hk.1, ltl hk.2 f1.size⟩)⟩
 replace E2 : Hid (a.mems.length ≤ d2 ∧ d2 ≤ maxLen ∧ tI.els w4 (Nw W w4) B2 a.mems) := ⟨E2.o.1, E2.o.2.1, kAA E2.o.2.2 f1 (fun k hk => hk.2) (fun k hk => ⟨hk.1, ltl hk.2 f1.size⟩)⟩
 replace E3 : Hid (a.globals.length ≤ d3 ∧ d3 ≤ maxLen ∧ tI.els w4 (Nw W w4) B3 a.globals) := ⟨E3.o.1, E3.o.2.1, kAA E3.o.2.2 f1 (fun k hk => hk.2) (fun k hk => ⟨hk.1, ltl hk.2 f1.size⟩)⟩
 replace FZ := ftr FZ f1
 clear f1 hr el l1 l2
 refine hK _ _ (fun _ => HX.o _ FZ.o) ?_
 clear hK K
 refine rC ?_
 refine wpO_eff rfl rfl fun K hK => sz ?_
 refine (kBP P5 p5 a.datas S _ (kAA H5.o (F0.o.trans FZ.o i3) HS.o i2) (fun k hk => ltl (HSW.o k hk) FZ.o.size) HB5.o).mono ?_
 rintro e w5 ⟨B5, d5, rfl, hr, f1⟩
 obtain ⟨l1, l2, el⟩ := kBK hr
 have E5 : Hid (a.datas.length ≤ d5 ∧ d5 ≤ maxLen ∧ tI.els w5 (Nw W w5) B5 a.datas) := ⟨l1, l2, kBp el (fun k o e hk => by subst e; obtain ⟨g1, _, g2⟩ := hr.own (g := k) (by have := hr; obtain ⟨css, _, ho⟩ := this; rcases ho.2 with ⟨hv, _⟩ | ⟨g, cap, cur, hv, _⟩; (cases hv); (injection hv with q1 _ _; injection q1 with q1; injection q1 with q1 _ _; subst q1; rfl)); exact ⟨Nat.le_trans FZ.o.size g1, g2.lt⟩)⟩
 replace E0 : Hid (a.funcs.length ≤ d0 ∧ d0 ≤ maxLen ∧ tI.els w5 (Nw W w5) B0 a.funcs) := ⟨E0.o.1, E0.o.2.1, kAA E0.o.2.2 f1 (fun k hk => hk.2) (fun k hk => ⟨hk.1, ltl hk.2 f1.size⟩)⟩
 replace E1 : Hid (a.tables.length ≤ d1 ∧ d1 ≤ maxLen ∧ tI.els w5 (Nw W w5) B1 a.tables) := ⟨E1.o.1, E1.o.2.1, kAA E1.o.2.2 f1 (fun k hk => hk.2) (fun k hk => ⟨hk.1, ltl hk.2 f1.size⟩)⟩
 replace E2 : Hid (a.mems.length ≤ d2 ∧ d2 ≤ maxLen ∧ tI.els w5 (Nw W w5) B2 a.mems) := ⟨E2.o.1, E2.o.2.1, kAA E2.o.2.2 f1 (fun k hk => hk.2) (fun k hk => ⟨hk.1, ltl hk.2 f1.size⟩)⟩
 replace E3 : Hid (a.globals.length ≤ d3 ∧ d3 ≤ maxLen ∧ tI.els w5 (Nw W w5) B3 a.globals) := ⟨E3.o.1, E3.o.2.1, kAA E3.o.2.2 f1 (fun k hk => hk.2) (fun k hk => ⟨hk.1, ltl hk.2 f1.size⟩)⟩
 replace E4 : Hid (a.elems.length ≤ d4 ∧ d4 ≤ maxLen ∧ tI.els w5 (Nw W w5) B4 a.elems) := ⟨E4.o.1, E4.o.2.1, kAA E4.o.2.2 f1 (fun k hk => hk.2) (fun k hk => ⟨hk.1, ltl hk.2 f1.size⟩)⟩
 replace FZ := ftr FZ f1
 clear f1 hr el l1 l2
 refine hK _ _ (fun _ => HX.o _ FZ.o) ?_
 clear hK K
 refine rC ?_
 have GZ := hid (G1.o.fr FZ.o id)
 refine wpO_eff rfl rfl (fun K hK => ?_)
 simp only [zA]
 refine wp_store_mid 73 _ _ (by rfl) (w.heap.size + 1) 0 #[.slice B0 a.funcs.length d0, .slice B1 a.tables.length d1, .slice B2 a.mems.length d2, .slice B3 a.globals.length d3, .slice B4 a.elems.length d4, .slice B5 a.datas.length d5] (by rfl) (by rfl) (there_blk GZ.o rfl) kr (by simp [Value.oneCell']) ?_
 refine hK _ _ (fun h => by cases h) ?_
 clear hK K
 refine wpO_nil ?_
 have FT := Fr.setCells' (a := w) (b := w.heap.size + 1) (M := No) (fun h => absurd h om) (kGp B0 B1 B2 B3 B4 B5 a d0 d1 d2 d3 d4 d5) 0 w5 (F0.o.trans FZ.o i3)
 have FY := Fr.setCells' (M := fun q => q = w.heap.size + 1) (b := w.heap.size + 1) (fun _ => rfl) (kGp B0 B1 B2 B3 B4 B5 a d0 d1 d2 d3 d4 d5) 0 w5 (Fr.refl _ w5)
 have RR := World.rangeAt_setCells_same w5 (w.heap.size + 1) 0 (kGp B0 B1 B2 B3 B4 B5 a d0 d1 d2 d3 d4 d5) (there_blk GZ.o rfl)
 have hG := G1.o.lt
 go_wp2
 refine bodyPost_ret (v := .agg (kGp B0 B1 B2 B3 B4 B5 a d0 d1 d2 d3 d4 d5).toArray) (kAv (fn := f88) (p := 2) (ty := 73) rfl _ _ (w.heap.size + 1) _ _ (by rfl) RR underlying73 (by rfl) kr) rfl ?_
 exact ⟨_, rfl, Ad_mk (a := a) E0.o.1 E0.o.2.1 ((E0.o.2.2.fr FY (fun k hk => ⟨hk.2, by have := hk.1; omega⟩)).more (fun k hk => ⟨Nat.le_trans F0.o.size hk.1, ltl hk.2 FY.size⟩)) E1.o.1 E1.o.2.1 ((E1.o.2.2.fr FY (fun k hk => ⟨hk.2, by have := hk.1; omega⟩)).more (fun k hk => ⟨Nat.le_trans F0.o.size hk.1, ltl hk.2 FY.size⟩)) E2.o.1 E2.o.2.1 ((E2.o.2.2.fr FY (fun k hk => ⟨hk.2, by have := hk.1; omega⟩)).more (fun k hk => ⟨Nat.le_trans F0.o.size hk.1, ltl hk.2 FY.size⟩)) E3.o.1 E3.o.2.1 ((E3.o.2.2.fr FY (fun k hk => ⟨hk.2, by have := hk.1; omega⟩)).more (fun k hk => ⟨Nat.le_trans F0.o.size hk.1, ltl hk.2 FY.size⟩)) E4.o.1 E4.o.2.1 ((E4.o.2.2.fr FY (fun k hk => ⟨hk.2, by have := hk.1; omega⟩)).more (fun k hk => ⟨Nat.le_trans F0.o.size hk.1, ltl hk.2 FY.size⟩)) E5.o.1 E5.o.2.1 ((E5.o.2.2.fr FY (fun k hk => ⟨hk.2, by have := hk.1; omega⟩)).more (fun k hk => ⟨Nat.le_trans F0.o.size hk.1, ltl hk.2 FY.size⟩)), FT⟩
def EachTo {α : Type} (t : Ty α) (l : List α) (w : World) (e : Ending) (w' : World) : Prop :=
 ∃ (A : OA) (c : Nat), e = .returned (.slice A l.length c) ∧ l.length ≤ c ∧ c ≤ maxLen ∧ t.els w' (Nw w w') A l ∧ Fr No w w'
def Sv (w wr : World) (v : Value) (q : Nat) : Prop := Nw w wr q ∧ ¬ some q = v.ownBlock
section
variable {α : Type} {t : Ty α} [hok : TyOk t] [hm : TyMore t] {w wr w2 : World} {e : TypeId} {v : Value} {xs : List α} {x : α} {es : LV}
theorem kCF [hone : kAG t] {P : Program} {ts : TypeId} {bytes : Nat} {z : Value} {ops : Array Oper} {rest : List Oper} {o : Oper} {a : Act} {Q : Exit → Act → World → Prop} (E : ElemOk P ts e t.size bytes z) (F1 : Fr No w wr) (HR : t.row wr w.heap.size (Sv w wr v) e v xs) (f2 : Fr No wr w2) (hr : t.rd w2 (Nw wr w2) es x) (hl : xs.length ≤ 1048576) (hby : bytes ≤ 1000)
    (h : ∀ v3 w3, Fr No w w3 → t.row w3 w.heap.size (Sv w w3 v3) e v3 (xs ++ [x]) → wpList P ops Q rest (a.put o.dst v3) w3)
    (hgd : o.guard = none := by rfl) {s y : Operand} (ho : o.op = .call { callee := .builtin .append, args := #[s, y], argTypes := #[ts, ts] } := by rfl) (hs : a.eval s = v := by rfl) {cs : Nat} (hx : a.eval y = .slice (some ⟨w2.heap.size, 0, none⟩) 1 cs := by rfl) :
    wpList P ops Q (o :: rest) a (w2.alloc (.cells es.toArray e)) := by
 have FB := (Fr.refl No w2).alloc (.cells es.toArray e)
 have s1 := f2.size
 have s2 := F1.size
 have s3 := FB.size
 have OW : ∀ q, v.ownBlock = some q → w.heap.size ≤ q ∧ q < wr.heap.size := fun q hq => by
  obtain ⟨g1, _, g2⟩ := HR.own hq
  exact ⟨g1, g2.lt⟩
 have HRA := (HR.fr (f2.trans FB i3) (fun q hq => ⟨hq.1.2, fun x => x⟩) (fun _ _ x => x)).more (S' := Sv w w2 v) nr (fun q hq => ⟨⟨hq.1.1, by have := hq.1.2; omega⟩, hq.2⟩)
 have HRE : t.rd (w2.alloc (.cells es.toArray e)) (Sv w w2 v) es x := hm.more _ _ _ _ _ (hok.keep _ _ _ _ _ hr (fun p hp => FB.cell hp.2 id)) (fun q hq => ⟨⟨by have := hq.1; omega, hq.2⟩, fun e => by have := (OW q e.symm).2; have := hq.1; omega⟩)
 have hb : (xs.length + 1) * bytes ≤ 1048577 * 1000 := Nat.mul_le_mul om hby
 refine wpList_appC (dss := [es]) (B2 := w2.heap.size + 1) E hgd ho hs hx HRA (Css.one HRE) (by simpa using kFY w2 es e) rfl om om (fun q hq => ⟨ltl hq.1.2 s3, hq.2⟩) om fun v3 w3 hr3 fr3 hv3 => ?_
 have s4 := fr3.size
 refine h v3 w3 (((F1.trans f2 i3).trans FB i3).trans fr3 (fun i hi e => by have := (OW i e.symm).1; omega)) (hr3.more nr (fun q hq => ⟨⟨hq.1.1, by have := hq.1.2; omega⟩, fun e => ?_⟩))
 rcases hv3 with h | h
 · exact hq.2 (e.trans h)
 rw [h] at e
 have e2 := Option.some.inj e
 have e9 : (w2.alloc (.cells es.toArray ‹TypeId›)).heap.size = w2.heap.size + 1 := by simp
 have := hq.1.2
 omega
theorem eachEnd (HR : t.row wr w.heap.size (Sv w wr v) e v xs) : ∃ A c, v = .slice A xs.length c ∧ Hid (xs.length ≤ c ∧ c ≤ maxLen ∧ t.els wr (Nw w wr) A xs) := by
 obtain ⟨A, c, e, h⟩ := HR.els (S' := Nw w wr) (fun q hq => hq.1) (fun q hq => by obtain ⟨g1, _, g2⟩ := HR.own hq; exact ⟨g1, g2.lt⟩)
 exact ⟨A, c, e, h⟩
end
theorem kKK (A : OA) (c : Nat) (xs : List Fn) (S : Nat → Prop) (w : World) (h : tFn.els w S A xs) (hS : Lt S w) (hl : xs.length ≤ 1048576)
    (hT : ∀ (k : Nat) (hk : k < xs.length) (ds : LV) (X : World), Fr No w X → tFn.rd X S ds xs[k] → Calls prog 162 #[.agg ds.toArray] X (kAa tFn xs[k] X)) :
    Calls prog 161 #[.slice A xs.length c, .func (.func 162) #[] #[]] w (EachTo tFn xs w) := by
 have HE := hid h
 have HS := hid hS
 have HT := hid hT
 clear h hS hT
 go_enter func161, ntmps161
 go_wp2
 go_loopw [5, 10] (fun v i wr => ∃ k, k ≤ xs.length ∧ i = .int .i64 (k : Nat) ∧ Hid (Fr No w wr) ∧ Hid (tFn.row wr w.heap.size (Sv w wr v) 45 v (xs.take k))) (fun _ i _ => xs.length - (intOf i).toNat)
 case atStart => exact ⟨0, nz, rfl, Fr.refl _ _, Ty.row.nil _ _ _ _⟩
 obtain ⟨k, hk, rfl, F1, HR⟩ := hrel
 have i0 := nki k
 by_cases hlt : k < xs.length
 · obtain ⟨b, o, ds, rfl, hb, hc, hr⟩ := HE.o.at_ k hlt
   have hln : ds.length = 2 := TyOk.len _ _ _ _ hr
   have HLN := hid hln
   have RE : wr.rangeAt b (o + k * 2) ds := fun j u hu => (F1.o.cell (p := ⟨b, o + k * 2 + j, none⟩) (HS.o _ hb) id).trans (by have := hc j u hu; rwa [← Nat.add_assoc] at this)
   have HRD := hid hr
   have HI : Hid ((prog.info? 45).map (·.size) = some 2) := by unfold Hid; kernel_rfl
   have HON := hid (all_oneCell_toArray ((inferInstance : kAG tFn).one _ _ _ _ hr))
   have i1 : (k : Int) < xs.length := om
   clear hr hc hln
   go_upto_region 5 with (first | refine ldG underlying45 HI.o RE HLN.o ?_ | refine nwG HI.o rfl HLN.o (by simpa using HON.o) ?_ | fail)
   have FA0 := hid ((Fr.refl No wr).alloc (.cells ds.toArray 45))
   have FA := ftr F1 FA0.o
   have BN := hid (Blk.new wr 45 ds.toArray)
   generalize wr.alloc (.cells ds.toArray 45) = W1 at *
   have RQ : W1.rangeAt wr.heap.size 0 ds := rangeAt_blk BN.o
   have HC := hid (HT.o k hlt ds W1 FA.o (kAH HRD.o FA.o HS.o i2))
   go_wp2_with (first | refine ldG underlying45 HI.o RQ HLN.o ?_ | fail)
   refine HC.o.mono ?_
   rintro e w2 ⟨es, rfl, hr2, f2⟩
   clear HC RQ RE
   have hel : es.length = 2 := TyOk.len _ _ _ _ hr2
   have HEL := hid hel
   have hfs := kBj (ds := es) (Z := #[.slice none 0 0, .slice none 0 0]) (by rw [hel]; rfl)
   have HR2 := hid (TyMore.more _ _ _ _ hr2 (S' := Nw wr w2) (fun _ hk => ⟨Nat.le_trans FA0.o.size hk.1, hk.2⟩))
   have F2 := ftr FA0 f2
   clear hr2 f2
   go_wp2_with (first | (at_builtin; refine kCF elFn F1.o HR.o F2.o HR2.o so dc ?_; intro v3 w3 f3 hr3; have F3 := hid f3; have R3 := hid hr3; clear f3 hr3) | fail)
   exact yy19
 exact yy16
theorem kKO (A : OA) (c : Nat) (xs : List Cd) (S : Nat → Prop) (w : World) (h : tCd.els w S A xs) (hS : Lt S w) (hl : xs.length ≤ 1048576)
    (hT : ∀ (k : Nat) (hk : k < xs.length) (ds : LV) (X : World), Fr No w X → tCd.rd X S ds xs[k] → Calls prog 168 #[.agg ds.toArray] X (kAa tCd xs[k] X)) :
    Calls prog 167 #[.slice A xs.length c, .func (.func 168) #[] #[]] w (EachTo tCd xs w) := by
 have HE := hid h
 have HS := hid hS
 have HT := hid hT
 clear h hS hT
 go_enter func167, ntmps167
 go_wp2
 go_loopw [5, 10] (fun v i wr => ∃ k, k ≤ xs.length ∧ i = .int .i64 (k : Nat) ∧ Hid (Fr No w wr) ∧ Hid (tCd.row wr w.heap.size (Sv w wr v) 301 v (xs.take k))) (fun _ i _ => xs.length - (intOf i).toNat)
 case atStart => exact ⟨0, nz, rfl, Fr.refl _ _, Ty.row.nil _ _ _ _⟩
 obtain ⟨k, hk, rfl, F1, HR⟩ := hrel
 have i0 := nki k
 by_cases hlt : k < xs.length
 · obtain ⟨b, o, ds, rfl, hb, hc, hr⟩ := HE.o.at_ k hlt
   have hln : ds.length = 3 := TyOk.len _ _ _ _ hr
   have HLN := hid hln
   have RE : wr.rangeAt b (o + k * 3) ds := fun j u hu => (F1.o.cell (p := ⟨b, o + k * 3 + j, none⟩) (HS.o _ hb) id).trans (by have := hc j u hu; rwa [← Nat.add_assoc] at this)
   have HRD := hid hr
   have HI : Hid ((prog.info? 301).map (·.size) = some 3) := by unfold Hid; kernel_rfl
   have HON := hid (all_oneCell_toArray ((inferInstance : kAG tCd).one _ _ _ _ hr))
   have i1 : (k : Int) < xs.length := om
   clear hr hc hln
   go_upto_region 5 with (first | refine ldG underlying301 HI.o RE HLN.o ?_ | refine nwG HI.o rfl HLN.o (by simpa using HON.o) ?_ | fail)
   have FA0 := hid ((Fr.refl No wr).alloc (.cells ds.toArray 301))
   have FA := ftr F1 FA0.o
   have BN := hid (Blk.new wr 301 ds.toArray)
   generalize wr.alloc (.cells ds.toArray 301) = W1 at *
   have RQ : W1.rangeAt wr.heap.size 0 ds := rangeAt_blk BN.o
   have HC := hid (HT.o k hlt ds W1 FA.o (kAH HRD.o FA.o HS.o i2))
   go_wp2_with (first | refine ldG underlying301 HI.o RQ HLN.o ?_ | fail)
   refine HC.o.mono ?_
   rintro e w2 ⟨es, rfl, hr2, f2⟩
   clear HC RQ RE
   have hel : es.length = 3 := TyOk.len _ _ _ _ hr2
   have HEL := hid hel
   have hfs := kBj (ds := es) (Z := #[.int .i64 0, .slice none 0 0, .slice none 0 0]) (by rw [hel]; rfl)
   have HR2 := hid (TyMore.more _ _ _ _ hr2 (S' := Nw wr w2) (fun _ hk => ⟨Nat.le_trans FA0.o.size hk.1, hk.2⟩))
   have F2 := ftr FA0 f2
   clear hr2 f2
   go_wp2_with (first | (at_builtin; refine kCF elCd F1.o HR.o F2.o HR2.o so dc ?_; intro v3 w3 f3 hr3; have F3 := hid f3; have R3 := hid hr3; clear f3 hr3) | fail)
   exact yy19
 exact yy16
theorem kKJ (A : OA) (c : Nat) (xs : List Gd) (S : Nat → Prop) (w : World) (h : tGd.els w S A xs) (hS : Lt S w) (hl : xs.length ≤ 1048576)
    (hT : ∀ (k : Nat) (hk : k < xs.length) (ds : LV) (X : World), Fr No w X → tGd.rd X S ds xs[k] → Calls prog 171 #[.agg ds.toArray] X (kAa tGd xs[k] X)) :
    Calls prog 170 #[.slice A xs.length c, .func (.func 171) #[] #[]] w (EachTo tGd xs w) := by
 have HE := hid h
 have HS := hid hS
 have HT := hid hT
 clear h hS hT
 go_enter func170, ntmps170
 go_wp2
 go_loopw [5, 10] (fun v i wr => ∃ k, k ≤ xs.length ∧ i = .int .i64 (k : Nat) ∧ Hid (Fr No w wr) ∧ Hid (tGd.row wr w.heap.size (Sv w wr v) 306 v (xs.take k))) (fun _ i _ => xs.length - (intOf i).toNat)
 case atStart => exact ⟨0, nz, rfl, Fr.refl _ _, Ty.row.nil _ _ _ _⟩
 obtain ⟨k, hk, rfl, F1, HR⟩ := hrel
 have i0 := nki k
 by_cases hlt : k < xs.length
 · obtain ⟨b, o, ds, rfl, hb, hc, hr⟩ := HE.o.at_ k hlt
   have hln : ds.length = 3 := TyOk.len _ _ _ _ hr
   have HLN := hid hln
   have RE : wr.rangeAt b (o + k * 3) ds := fun j u hu => (F1.o.cell (p := ⟨b, o + k * 3 + j, none⟩) (HS.o _ hb) id).trans (by have := hc j u hu; rwa [← Nat.add_assoc] at this)
   have HRD := hid hr
   have HI : Hid ((prog.info? 306).map (·.size) = some 3) := by unfold Hid; kernel_rfl
   have HON := hid (all_oneCell_toArray ((inferInstance : kAG tGd).one _ _ _ _ hr))
   have i1 : (k : Int) < xs.length := om
   clear hr hc hln
   go_upto_region 5 with (first | refine ldG underlying306 HI.o RE HLN.o ?_ | refine nwG HI.o rfl HLN.o (by simpa using HON.o) ?_ | fail)
   have FA0 := hid ((Fr.refl No wr).alloc (.cells ds.toArray 306))
   have FA := ftr F1 FA0.o
   have BN := hid (Blk.new wr 306 ds.toArray)
   generalize wr.alloc (.cells ds.toArray 306) = W1 at *
   have RQ : W1.rangeAt wr.heap.size 0 ds := rangeAt_blk BN.o
   have HC := hid (HT.o k hlt ds W1 FA.o (kAH HRD.o FA.o HS.o i2))
   go_wp2_with (first | refine ldG underlying306 HI.o RQ HLN.o ?_ | fail)
   refine HC.o.mono ?_
   rintro e w2 ⟨es, rfl, hr2, f2⟩
   clear HC RQ RE
   have hel : es.length = 3 := TyOk.len _ _ _ _ hr2
   have HEL := hid hel
   have hfs := kBj (ds := es) (Z := #[.int .i64 0, .bool false, .slice none 0 0]) (by rw [hel]; rfl)
   have HR2 := hid (TyMore.more _ _ _ _ hr2 (S' := Nw wr w2) (fun _ hk => ⟨Nat.le_trans FA0.o.size hk.1, hk.2⟩))
   have F2 := ftr FA0 f2
   clear hr2 f2
   go_wp2_with (first | (at_builtin; refine kCF elGd F1.o HR.o F2.o HR2.o so dc ?_; intro v3 w3 f3 hr3; have F3 := hid f3; have R3 := hid hr3; clear f3 hr3) | fail)
   exact yy19
 exact yy16
abbrev kDY : Array Value := #[.int .i64 0, .int .i64 0, .slice none 0 0, .int .i64 0, .slice none 0 0]
theorem kKL (A : OA) (c : Nat) (xs : List El) (S : Nat → Prop) (w : World) (h : tEl.els w S A xs) (hS : Lt S w) (hl : xs.length ≤ 1048576)
    (hT : ∀ (k : Nat) (hk : k < xs.length) (ds : LV) (X : World), Fr No w X → tEl.rd X S ds xs[k] → Calls prog 173 #[.agg ds.toArray] X (kAa tEl xs[k] X)) :
    Calls prog 172 #[.slice A xs.length c, .func (.func 173) #[] #[]] w (EachTo tEl xs w) := by
 have HE := hid h
 have HS := hid hS
 have HT := hid hT
 clear h hS hT
 go_enter func172, ntmps172
 go_wp2
 go_loopw [5, 10] (fun v i wr => ∃ k, k ≤ xs.length ∧ i = .int .i64 (k : Nat) ∧ Hid (Fr No w wr) ∧ Hid (tEl.row wr w.heap.size (Sv w wr v) 311 v (xs.take k))) (fun _ i _ => xs.length - (intOf i).toNat)
 case atStart => exact ⟨0, nz, rfl, Fr.refl _ _, Ty.row.nil _ _ _ _⟩
 obtain ⟨k, hk, rfl, F1, HR⟩ := hrel
 have i0 := nki k
 by_cases hlt : k < xs.length
 · obtain ⟨b, o, ds, rfl, hb, hc, hr⟩ := HE.o.at_ k hlt
   have hln : ds.length = 5 := TyOk.len _ _ _ _ hr
   have HLN := hid hln
   have RE : wr.rangeAt b (o + k * 5) ds := fun j u hu => (F1.o.cell (p := ⟨b, o + k * 5 + j, none⟩) (HS.o _ hb) id).trans (by have := hc j u hu; rwa [← Nat.add_assoc] at this)
   have HRD := hid hr
   have HI : Hid ((prog.info? 311).map (·.size) = some 5) := by unfold Hid; kernel_rfl
   have HON := hid (all_oneCell_toArray ((inferInstance : kAG tEl).one _ _ _ _ hr))
   have i1 : (k : Int) < xs.length := om
   clear hr hc hln
   go_upto_region 5 with (first | refine ldG underlying311 HI.o RE HLN.o ?_ | refine nwG HI.o rfl HLN.o (by simpa using HON.o) ?_ | fail)
   have FA0 := hid ((Fr.refl No wr).alloc (.cells ds.toArray 311))
   have FA := ftr F1 FA0.o
   have BN := hid (Blk.new wr 311 ds.toArray)
   generalize wr.alloc (.cells ds.toArray 311) = W1 at *
   have RQ : W1.rangeAt wr.heap.size 0 ds := rangeAt_blk BN.o
   have HC := hid (HT.o k hlt ds W1 FA.o (kAH HRD.o FA.o HS.o i2))
   go_wp2_with (first | refine ldG underlying311 HI.o RQ HLN.o ?_ | fail)
   refine HC.o.mono ?_
   rintro e w2 ⟨es, rfl, hr2, f2⟩
   clear HC RQ RE
   have hel : es.length = 5 := TyOk.len _ _ _ _ hr2
   have HEL := hid hel
   have hfs := kBj (ds := es) (Z := kDY) (by rw [hel]; rfl)
   have HR2 := hid (TyMore.more _ _ _ _ hr2 (S' := Nw wr w2) (fun _ hk => ⟨Nat.le_trans FA0.o.size hk.1, hk.2⟩))
   have F2 := ftr FA0 f2
   clear hr2 f2
   go_wp2_with (first | (at_builtin; refine kCF elEl F1.o HR.o F2.o HR2.o so dc ?_; intro v3 w3 f3 hr3; have F3 := hid f3; have R3 := hid hr3; clear f3 hr3) | fail)
   exact yy19
 exact yy16
abbrev kDS : Array Value := #[.int .i64 0, .int .i64 0, .slice none 0 0, .slice none 0 0]
theorem kKM (A : OA) (c : Nat) (xs : List Da) (S : Nat → Prop) (w : World) (h : tDa.els w S A xs) (hS : Lt S w) (hl : xs.length ≤ 1048576)
    (hT : ∀ (k : Nat) (hk : k < xs.length) (ds : LV) (X : World), Fr No w X → tDa.rd X S ds xs[k] → Calls prog 176 #[.agg ds.toArray] X (kAa tDa xs[k] X)) :
    Calls prog 175 #[.slice A xs.length c, .func (.func 176) #[] #[]] w (EachTo tDa xs w) := by
 have HE := hid h
 have HS := hid hS
 have HT := hid hT
 clear h hS hT
 go_enter func175, ntmps175
 go_wp2
 go_loopw [5, 10] (fun v i wr => ∃ k, k ≤ xs.length ∧ i = .int .i64 (k : Nat) ∧ Hid (Fr No w wr) ∧ Hid (tDa.row wr w.heap.size (Sv w wr v) 316 v (xs.take k))) (fun _ i _ => xs.length - (intOf i).toNat)
 case atStart => exact ⟨0, nz, rfl, Fr.refl _ _, Ty.row.nil _ _ _ _⟩
 obtain ⟨k, hk, rfl, F1, HR⟩ := hrel
 have i0 := nki k
 by_cases hlt : k < xs.length
 · obtain ⟨b, o, ds, rfl, hb, hc, hr⟩ := HE.o.at_ k hlt
   have hln : ds.length = 4 := TyOk.len _ _ _ _ hr
   have HLN := hid hln
   have RE : wr.rangeAt b (o + k * 4) ds := fun j u hu => (F1.o.cell (p := ⟨b, o + k * 4 + j, none⟩) (HS.o _ hb) id).trans (by have := hc j u hu; rwa [← Nat.add_assoc] at this)
   have HRD := hid hr
   have HI : Hid ((prog.info? 316).map (·.size) = some 4) := by unfold Hid; kernel_rfl
   have HON := hid (all_oneCell_toArray ((inferInstance : kAG tDa).one _ _ _ _ hr))
   have i1 : (k : Int) < xs.length := om
   clear hr hc hln
   go_upto_region 5 with (first | refine ldG underlying316 HI.o RE HLN.o ?_ | refine nwG HI.o rfl HLN.o (by simpa using HON.o) ?_ | fail)
   have FA0 := hid ((Fr.refl No wr).alloc (.cells ds.toArray 316))
   have FA := ftr F1 FA0.o
   have BN := hid (Blk.new wr 316 ds.toArray)
   generalize wr.alloc (.cells ds.toArray 316) = W1 at *
   have RQ : W1.rangeAt wr.heap.size 0 ds := rangeAt_blk BN.o
   have HC := hid (HT.o k hlt ds W1 FA.o (kAH HRD.o FA.o HS.o i2))
   go_wp2_with (first | refine ldG underlying316 HI.o RQ HLN.o ?_ | fail)
   refine HC.o.mono ?_
   rintro e w2 ⟨es, rfl, hr2, f2⟩
   clear HC RQ RE
   have hel : es.length = 4 := TyOk.len _ _ _ _ hr2
   have HEL := hid hel
   have hfs := kBj (ds := es) (Z := kDS) (by rw [hel]; rfl)
   have HR2 := hid (TyMore.more _ _ _ _ hr2 (S' := Nw wr w2) (fun _ hk => ⟨Nat.le_trans FA0.o.size hk.1, hk.2⟩))
   have F2 := ftr FA0 f2
   clear hr2 f2
   go_wp2_with (first | (at_builtin; refine kCF elDa F1.o HR.o F2.o HR2.o so dc ?_; intro v3 w3 f3 hr3; have F3 := hid f3; have R3 := hid hr3; clear f3 hr3) | fail)
   exact yy19
 exact yy16
theorem kKN (A : OA) (c : Nat) (xs : List Cu) (S : Nat → Prop) (w : World) (h : tCu.els w S A xs) (hS : Lt S w) (hl : xs.length ≤ 1048576)
    (hT : ∀ (k : Nat) (hk : k < xs.length) (ds : LV) (X : World), Fr No w X → tCu.rd X S ds xs[k] → Calls prog 178 #[.agg ds.toArray] X (kAa tCu xs[k] X)) :
    Calls prog 177 #[.slice A xs.length c, .func (.func 178) #[] #[]] w (EachTo tCu xs w) := by
 have HE := hid h
 have HS := hid hS
 have HT := hid hT
 clear h hS hT
 go_enter func177, ntmps177
 go_wp2
 go_loopw [5, 10] (fun v i wr => ∃ k, k ≤ xs.length ∧ i = .int .i64 (k : Nat) ∧ Hid (Fr No w wr) ∧ Hid (tCu.row wr w.heap.size (Sv w wr v) 320 v (xs.take k))) (fun _ i _ => xs.length - (intOf i).toNat)
 case atStart => exact ⟨0, nz, rfl, Fr.refl _ _, Ty.row.nil _ _ _ _⟩
 obtain ⟨k, hk, rfl, F1, HR⟩ := hrel
 have i0 := nki k
 by_cases hlt : k < xs.length
 · obtain ⟨b, o, ds, rfl, hb, hc, hr⟩ := HE.o.at_ k hlt
   have hln : ds.length = 3 := TyOk.len _ _ _ _ hr
   have HLN := hid hln
   have RE : wr.rangeAt b (o + k * 3) ds := fun j u hu => (F1.o.cell (p := ⟨b, o + k * 3 + j, none⟩) (HS.o _ hb) id).trans (by have := hc j u hu; rwa [← Nat.add_assoc] at this)
   have HRD := hid hr
   have HI : Hid ((prog.info? 320).map (·.size) = some 3) := by unfold Hid; kernel_rfl
   have HON := hid (all_oneCell_toArray ((inferInstance : kAG tCu).one _ _ _ _ hr))
   have i1 : (k : Int) < xs.length := om
   clear hr hc hln
   go_upto_region 5 with (first | refine ldG underlying320 HI.o RE HLN.o ?_ | refine nwG HI.o rfl HLN.o (by simpa using HON.o) ?_ | fail)
   have FA0 := hid ((Fr.refl No wr).alloc (.cells ds.toArray 320))
   have FA := ftr F1 FA0.o
   have BN := hid (Blk.new wr 320 ds.toArray)
   generalize wr.alloc (.cells ds.toArray 320) = W1 at *
   have RQ : W1.rangeAt wr.heap.size 0 ds := rangeAt_blk BN.o
   have HC := hid (HT.o k hlt ds W1 FA.o (kAH HRD.o FA.o HS.o i2))
   go_wp2_with (first | refine ldG underlying320 HI.o RQ HLN.o ?_ | fail)
   refine HC.o.mono ?_
   rintro e w2 ⟨es, rfl, hr2, f2⟩
   clear HC RQ RE
   have hel : es.length = 3 := TyOk.len _ _ _ _ hr2
   have HEL := hid hel
   have hfs := kBj (ds := es) (Z := #[.int .i64 0, .string ⟨#[]⟩, .slice none 0 0]) (by rw [hel]; rfl)
   have HR2 := hid (TyMore.more _ _ _ _ hr2 (S' := Nw wr w2) (fun _ hk => ⟨Nat.le_trans FA0.o.size hk.1, hk.2⟩))
   have F2 := ftr FA0 f2
   clear hr2 f2
   go_wp2_with (first | (at_builtin; refine kCF elCu F1.o HR.o F2.o HR2.o so dc ?_; intro v3 w3 f3 hr3; have F3 := hid f3; have R3 := hid hr3; clear f3 hr3) | fail)
   exact yy19
 exact yy16
abbrev kDZ : Array Value := #[.int .i64 0, .int .i64 0, .int .i64 0, .int .u64 0, .int .i64 0, .int .i64 0, .int .i64 0, .slice none 0 0, .slice none 0 0]
theorem kIk (A : OA) (c : Nat) (xs : List Ins) (S : Nat → Prop) (w : World) (h : tIns.els w S A xs) (hS : Lt S w) (hl : xs.length ≤ 1048576)
    (hT : ∀ (k : Nat) (hk : k < xs.length) (ds : LV) (X : World), Fr No w X → tIns.rd X S ds xs[k] → Calls prog 197 #[.agg ds.toArray] X (kAa tIns xs[k] X)) :
    Calls prog 196 #[.slice A xs.length c, .func (.func 197) #[] #[]] w (EachTo tIns xs w) := by
 have HE := hid h
 have HS := hid hS
 have HT := hid hT
 clear h hS hT
 go_enter func196, ntmps196
 go_wp2
 go_loopw [5, 10] (fun v i wr => ∃ k, k ≤ xs.length ∧ i = .int .i64 (k : Nat) ∧ Hid (Fr No w wr) ∧ Hid (tIns.row wr w.heap.size (Sv w wr v) 339 v (xs.take k))) (fun _ i _ => xs.length - (intOf i).toNat)
 case atStart => exact ⟨0, nz, rfl, Fr.refl _ _, Ty.row.nil _ _ _ _⟩
 obtain ⟨k, hk, rfl, F1, HR⟩ := hrel
 have i0 := nki k
 by_cases hlt : k < xs.length
 · obtain ⟨b, o, ds, rfl, hb, hc, hr⟩ := HE.o.at_ k hlt
   have hln : ds.length = 9 := TyOk.len _ _ _ _ hr
   have HLN := hid hln
   have RE : wr.rangeAt b (o + k * 9) ds := fun j u hu => (F1.o.cell (p := ⟨b, o + k * 9 + j, none⟩) (HS.o _ hb) id).trans (by have := hc j u hu; rwa [← Nat.add_assoc] at this)
   have HRD := hid hr
   have HI : Hid ((prog.info? 339).map (·.size) = some 9) := by unfold Hid; kernel_rfl
   have HON := hid (all_oneCell_toArray ((inferInstance : kAG tIns).one _ _ _ _ hr))
   have i1 : (k : Int) < xs.length := om
   clear hr hc hln
   go_upto_region 5 with (first | refine ldG underlying339 HI.o RE HLN.o ?_ | refine nwG HI.o rfl HLN.o (by simpa using HON.o) ?_ | fail)
   have FA0 := hid ((Fr.refl No wr).alloc (.cells ds.toArray 339))
   have FA := ftr F1 FA0.o
   have BN := hid (Blk.new wr 339 ds.toArray)
   generalize wr.alloc (.cells ds.toArray 339) = W1 at *
   have RQ : W1.rangeAt wr.heap.size 0 ds := rangeAt_blk BN.o
   have HC := hid (HT.o k hlt ds W1 FA.o (kAH HRD.o FA.o HS.o i2))
   go_wp2_with (first | refine ldG underlying339 HI.o RQ HLN.o ?_ | fail)
   refine HC.o.mono ?_
   rintro e w2 ⟨es, rfl, hr2, f2⟩
   clear HC RQ RE
   have hel : es.length = 9 := TyOk.len _ _ _ _ hr2
   have HEL := hid hel
   have hfs := kBj (ds := es) (Z := kDZ) (by rw [hel]; rfl)
   have HR2 := hid (TyMore.more _ _ _ _ hr2 (S' := Nw wr w2) (fun _ hk => ⟨Nat.le_trans FA0.o.size hk.1, hk.2⟩))
   have F2 := ftr FA0 f2
   clear hr2 f2
   go_wp2_with (first | (at_builtin; refine kCF kOq F1.o HR.o F2.o HR2.o so dc ?_; intro v3 w3 f3 hr3; have F3 := hid f3; have R3 := hid hr3; clear f3 hr3) | fail)
   exact yy19
 exact yy16
theorem kJQ (a : Fn) {ms : LV} (S : Nat → Prop) (w : World) (h : tFn.rd w S ms a) (hS : Lt S w) (b0 : a.params.length * 8 ≤ 140737488351232) (b1 : a.results.length * 8 ≤ 140737488351232) :
    Calls prog 162 #[.agg ms.toArray] w (kAa tFn a w) := by
 obtain ⟨P0, p0, P1, p1, rfl, -, -, h0, -, -, h1⟩ := Fn_cells h
 have F0 := hid (((Fr.refl No w).alloc (.cells #[.slice P0 a.params.length p0, .slice P1 a.results.length p1] 45)).alloc (.cells #[.slice none 0 0, .slice none 0 0] 45))
 have G0 := hid ((Blk.new w 45 #[.slice P0 a.params.length p0, .slice P1 a.results.length p1]).alloc (.cells #[.slice none 0 0, .slice none 0 0] 45))
 have G1 := hid (Blk.new1 w (.cells #[.slice P0 a.params.length p0, .slice P1 a.results.length p1] 45) 45 #[.slice none 0 0, .slice none 0 0])
 have H0 := hid h0
 have HB0 := hid b0
 have H1 := hid h1
 have HB1 := hid b1
 have HS := hid hS
 clear h hS h0 b0 h1 b1
 go_enter func162, ntmps162
 go_upto_region 1 with fail
 generalize (w.alloc (.cells #[.slice P0 a.params.length p0, .slice P1 a.results.length p1] 45)).alloc (.cells #[.slice none 0 0, .slice none 0 0] 45) = W at *
 have HSW : Hid (Lt S W) := fun k hk => ltl (HS.o k hk) F0.o.size
 have HX : Hid (∀ X, Fr No W X → Ce X w.heap.size 0 (.slice P0 a.params.length p0) ∧ Ce X w.heap.size 1 (.slice P1 a.results.length p1)) := fun X g => ⟨(G0.o.fr g id).cell 0, (G0.o.fr g id).cell 1⟩
 refine rwO (fun X => Ce X w.heap.size 0 (.slice P0 a.params.length p0) ∧ Ce X w.heap.size 1 (.slice P1 a.results.length p1)) [7] [0, 1, 3, 4, 2, 5, 6, 7] [2, 5, 7] (HX.o _ (Fr.refl No _).drew) ?_
 have FZ := hid (Fr.refl No W).drew
 refine rC ?_
 refine wpO_eff rfl rfl fun K hK => sz ?_
 refine (kBq P0 p0 a.params S _ (kAA H0.o (F0.o.trans FZ.o i3) HS.o i2) (fun k hk => ltl (HSW.o k hk) FZ.o.size) HB0.o).mono ?_
 rintro e w0 ⟨B0, d0, rfl, hr, f1⟩
 obtain ⟨l1, l2, el⟩ := kBK hr
 have E0 : Hid (a.params.length ≤ d0 ∧ d0 ≤ maxLen ∧ tI.els w0 (Nw W w0) B0 a.params) := ⟨l1, l2, kBp el (fun k o e hk => by subst e; obtain ⟨g1, _, g2⟩ := hr.own (g := k) (by have := hr; obtain ⟨css, _, ho⟩ := this; rcases ho.2 with ⟨hv, _⟩ | ⟨g, cap, cur, hv, _⟩; (cases hv); (injection hv with q1 _ _; injection q1 with q1; injection q1 with q1 _ _; subst q1; rfl)); exact ⟨Nat.le_trans FZ.o.size g1, g2.lt⟩)⟩
 replace FZ := ftr FZ f1
 clear f1 hr el l1 l2
 refine hK _ _ (fun _ => HX.o _ FZ.o) ?_
 clear hK K
 refine rC ?_
 refine wpO_eff rfl rfl fun K hK => sz ?_
 refine (kBq P1 p1 a.results S _ (kAA H1.o (F0.o.trans FZ.o i3) HS.o i2) (fun k hk => ltl (HSW.o k hk) FZ.o.size) HB1.o).mono ?_
 rintro e w1 ⟨B1, d1, rfl, hr, f1⟩
 obtain ⟨l1, l2, el⟩ := kBK hr
 have E1 : Hid (a.results.length ≤ d1 ∧ d1 ≤ maxLen ∧ tI.els w1 (Nw W w1) B1 a.results) := ⟨l1, l2, kBp el (fun k o e hk => by subst e; obtain ⟨g1, _, g2⟩ := hr.own (g := k) (by have := hr; obtain ⟨css, _, ho⟩ := this; rcases ho.2 with ⟨hv, _⟩ | ⟨g, cap, cur, hv, _⟩; (cases hv); (injection hv with q1 _ _; injection q1 with q1; injection q1 with q1 _ _; subst q1; rfl)); exact ⟨Nat.le_trans FZ.o.size g1, g2.lt⟩)⟩
 replace E0 : Hid (a.params.length ≤ d0 ∧ d0 ≤ maxLen ∧ tI.els w1 (Nw W w1) B0 a.params) := ⟨E0.o.1, E0.o.2.1, kAA E0.o.2.2 f1 (fun k hk => hk.2) (fun k hk => ⟨hk.1, ltl hk.2 f1.size⟩)⟩
 replace FZ := ftr FZ f1
 clear f1 hr el l1 l2
 refine hK _ _ (fun _ => HX.o _ FZ.o) ?_
 clear hK K
 refine rC ?_
 have GZ := hid (G1.o.fr FZ.o id)
 refine wpO_eff rfl rfl (fun K hK => ?_)
 simp only [zA]
 refine wp_store_mid 45 _ _ (by rfl) (w.heap.size + 1) 0 #[.slice B0 a.params.length d0, .slice B1 a.results.length d1] (by rfl) (by rfl) (there_blk GZ.o rfl) kr (by simp [Value.oneCell']) ?_
 refine hK _ _ (fun h => by cases h) ?_
 clear hK K
 refine wpO_nil ?_
 have FT := Fr.setCells' (a := w) (b := w.heap.size + 1) (M := No) (fun h => absurd h om) [.slice B0 a.params.length d0, .slice B1 a.results.length d1] 0 w1 (F0.o.trans FZ.o i3)
 have FY := Fr.setCells' (M := fun q => q = w.heap.size + 1) (b := w.heap.size + 1) (fun _ => rfl) [.slice B0 a.params.length d0, .slice B1 a.results.length d1] 0 w1 (Fr.refl _ w1)
 have RR := World.rangeAt_setCells_same w1 (w.heap.size + 1) 0 [.slice B0 a.params.length d0, .slice B1 a.results.length d1] (there_blk GZ.o rfl)
 have hG := G1.o.lt
 go_wp2
 refine bodyPost_ret (v := .agg [.slice B0 a.params.length d0, .slice B1 a.results.length d1].toArray) (kAv (fn := f162) (p := 2) (ty := 45) rfl _ _ (w.heap.size + 1) _ _ (by rfl) RR underlying45 (by rfl) kr) rfl ?_
 exact ⟨_, rfl, kNN (a := a) E0.o.1 E0.o.2.1 ((E0.o.2.2.fr FY (fun k hk => ⟨hk.2, by have := hk.1; omega⟩)).more (fun k hk => ⟨Nat.le_trans F0.o.size hk.1, ltl hk.2 FY.size⟩)) E1.o.1 E1.o.2.1 ((E1.o.2.2.fr FY (fun k hk => ⟨hk.2, by have := hk.1; omega⟩)).more (fun k hk => ⟨Nat.le_trans F0.o.size hk.1, ltl hk.2 FY.size⟩)), FT⟩
theorem EachTo.of_clone {α : Type} {t : Ty α} [TyOk t] [TyMore t] [kAh t] {el : TypeId} {S : Nat → Prop} {l : List α} {w : World} {e : Ending} {w' : World} (h : kAy t el S l w e w') : EachTo t l w e w' := by
 obtain ⟨A, c, h1, h2, h3⟩ := h
 obtain ⟨k1, k2, k3⟩ := kAl (w := w) h2 nr (Fr.refl No w') (fun _ _ _ x => x)
 exact ⟨A, c, h1, k1, k2, k3, h3⟩
def FnB (a : Fn) : Prop := a.params.length ≤ 1048576 ∧ a.results.length ≤ 1048576
def InsB (a : Ins) : Prop := a.types.length ≤ 1048576 ∧ a.labels.length ≤ 1048576
def kDP (l : List Ins) : Prop := l.length ≤ 1048576 ∧ ∀ i ∈ l, InsB i
def CdB (a : Cd) : Prop := a.locals.length ≤ 1048576 ∧ kDP a.body
def GdB (a : Gd) : Prop := kDP a.init
def ElB (a : El) : Prop := kDP a.off ∧ a.items.length ≤ 1048576 ∧ ∀ l ∈ a.items, kDP l
def DaB (a : Da) : Prop := kDP a.off ∧ a.bytes.length ≤ 1048576
def CuB (a : Cu) : Prop := a.bytes.length ≤ 1048576
abbrev kFa (a0 : Ins) (a1 a2 : Option Addr) (a3 a4 : Nat) : Array Value := #[.int .i64 a0.op, .int .i64 a0.a, .int .i64 a0.b, .int .u64 a0.n, .int .i64 a0.block.kind, .int .i64 a0.block.val, .int .i64 a0.block.index, .slice a1 a0.types.length a3, .slice a2 a0.labels.length a4]
theorem kII (a : Ins) {ms : LV} (S : Nat → Prop) (w : World) (h : tIns.rd w S ms a) (hS : Lt S w) (hb : InsB a) :
    Calls prog 197 #[.agg ms.toArray] w (kAa tIns a w) := by
 obtain ⟨P0, p0, P1, p1, rfl, f0, f1, f2, f3, f4, f5, f6, h0_l, h0_c, h0, h1_l, h1_c, h1⟩ := kCf h
 have HC0 : Hid (∀ X, Fr No w X → Calls prog 157 #[.slice P0 a.types.length p0] X (EachTo (Ty.int .i64) a.types X)) := fun X f => (kBq P0 p0 a.types S X (kAA h0 f hS i2) (fun k hk => ltl (hS k hk) f.size) (by have := hb.1; omega)).mono (fun _ _ h => EachTo.of_clone h)
 have HC1 : Hid (∀ X, Fr No w X → Calls prog 95 #[.slice P1 a.labels.length p1] X (EachTo (Ty.int .i64) a.labels X)) := fun X f => (kBP P1 p1 a.labels S X (kAA h1 f hS i2) (fun k hk => ltl (hS k hk) f.size) (by have := hb.2; omega)).mono (fun _ _ h => EachTo.of_clone h)
 have F0 := hid (((Fr.refl No w).alloc (.cells (kFa a P0 P1 p0 p1) 339)).alloc (.cells kDZ 339))
 have G0 := hid ((Blk.new w 339 (kFa a P0 P1 p0 p1)).alloc (.cells kDZ 339))
 have G1 := hid (Blk.new1 w (.cells (kFa a P0 P1 p0 p1) 339) 339 kDZ)
 have HF := hid ((⟨f0, f1, f2, f3, f4, f5, f6⟩ : _ ∧ _ ∧ _ ∧ _ ∧ _ ∧ _ ∧ _))
 have HS := hid hS
 clear h hS h0_l h0_c h0 h1_l h1_c h1 f0 f1 f2 f3 f4 f5 f6
 go_enter func197, ntmps197
 go_upto_region 1 with fail
 have HW : Hid (((w.alloc (.cells (kFa a P0 P1 p0 p1) 339)).alloc (.cells kDZ 339)).heap.size = w.heap.size + 2) := by unfold Hid; simp
 generalize (w.alloc (.cells (kFa a P0 P1 p0 p1) 339)).alloc (.cells kDZ 339) = W at *
 have FZ := hid (Fr.refl No W)
 have HE := hid (Its.nil (W := W) (X := W))
 have HX : Hid (∀ X, Fr No W X → Ce X w.heap.size 7 (.slice P0 a.types.length p0) ∧ Ce X w.heap.size 8 (.slice P1 a.labels.length p1)) := fun X g => ⟨(G0.o.fr g id).cell 7, (G0.o.fr g id).cell 8⟩
 refine rwP (Fr No W) [7] [0, 1, 3, 4, 2, 6, 5, 7, 8, 9] [2, 5, 7, 9] (Fr.refl No _).drew ?_
 replace FZ := hid (Fr.refl No W).drew
 replace HE := hid (HE.o.no FZ.o)
 refine rP HX.o ?_
 refine kAE rfl rfl fun K hK => sz ?_
 refine (HC0.o _ (F0.o.trans FZ.o i3)).mono ?_
 rintro e w0 ⟨B0, d0, rfl, l1, l2, el, f1⟩
 replace HE := hid (HE.o.push f1 FZ.o.size l1 l2 el)
 replace FZ := ftr FZ f1
 clear f1 el l1 l2
 refine hK _ _ (fun _ => FZ.o) ?_
 clear hK K
 refine rP HX.o ?_
 refine kAE rfl rfl fun K hK => sz ?_
 refine (HC1.o _ (F0.o.trans FZ.o i3)).mono ?_
 rintro e w1 ⟨B1, d1, rfl, l1, l2, el, f1⟩
 replace HE := hid (HE.o.push f1 FZ.o.size l1 l2 el)
 replace FZ := ftr FZ f1
 clear f1 el l1 l2
 refine hK _ _ (fun _ => FZ.o) ?_
 clear hK K
 refine rP HX.o ?_
 replace G0 := hid (G0.o.fr FZ.o id)
 replace G1 := hid (G1.o.fr FZ.o id)
 have Y0 := G0.o
 have z := Y0.cell 7
 have u := Y0.frozen 7
 refine kAE rfl rfl fun K hK => sz ?_
 clear z u
 refine hK _ _ (fun h => by cases h) ?_
 clear hK K
 refine rP HX.o ?_
 have Y1 := Y0.set_ 7 (.slice B0 a.types.length d0)
 simp only [zC] at Y1
 have z := Y1.cell 8
 have u := Y1.frozen 8
 refine kAE rfl rfl fun K hK => sz ?_
 clear z u
 refine hK _ _ (fun h => by cases h) ?_
 clear hK K
 refine rP HX.o ?_
 clear Y0 Y1 HX
 refine kAj ?_
 have FS := (((Fr.refl (One w.heap.size) w1).setCell ⟨w.heap.size, 7, none⟩ (.slice B0 a.types.length d0) (fun _ => rfl)).setCell ⟨w.heap.size, 8, none⟩ (.slice B1 a.labels.length d1) (fun _ => rfl))
 replace G0 := ((G0.o.set_ 7 (.slice B0 a.types.length d0)).set_ 8 (.slice B1 a.labels.length d1))
 simp only [zC] at G0
 replace G0 := hid G0
 replace G1 := hid (G1.o.fr FS (fun e => by have e : w.heap.size + 1 = w.heap.size := e; omega))
 replace HE := hid (HE.o.fr FS (fun k hk e => by have e : k = w.heap.size := e; have := HW.o; omega))
 replace F0 := hid ((F0.o.trans FZ.o i3).trans FS (fun i hi h => by have h : i = w.heap.size := h; omega))
 have HWZ : Hid (W.heap.size ≤ ((w1.setCell ⟨w.heap.size, 7, none⟩ (.slice B0 a.types.length d0)).setCell ⟨w.heap.size, 8, none⟩ (.slice B1 a.labels.length d1)).heap.size) := Nat.le_trans FZ.o.size FS.size
 clear FS FZ
 generalize ((w1.setCell ⟨w.heap.size, 7, none⟩ (.slice B0 a.types.length d0)).setCell ⟨w.heap.size, 8, none⟩ (.slice B1 a.labels.length d1)) = Z1 at *
 have FZ := hid (Fr.refl No Z1)
 obtain ⟨ds, hds⟩ : ∃ ds : LV, ds = [.int .i64 a.op, .int .i64 a.a, .int .i64 a.b, .int .u64 a.n, .int .i64 a.block.kind, .int .i64 a.block.val, .int .i64 a.block.index, .slice B0 a.types.length d0, .slice B1 a.labels.length d1] := ⟨_, rfl⟩
 have RG : Z1.rangeAt w.heap.size 0 ds := by rw [hds]; exact rangeAt_blk G0.o
 have HDS := hid hds
 clear hds
 have HT : Hid (Z1.there (w.heap.size + 1) 0 9) := there_blk G1.o rfl
 have HI : Hid ((prog.info? 339).map (·.size) = some 9) := by unfold Hid; kernel_rfl
 have HL : Hid (ds.length = 9) := by rw [HDS.o]; rfl
 go_wp2_with (first | refine ldG underlying339 HI.o RG HL.o ?_ | refine stG HI.o HT.o HL.o (by rw [HDS.o]; rfl) ?_ | fail)
 refine kDv underlying339 HI.o F0.o om HT.o HL.o (fun FY => ?_)
 have hG := G1.o.lt
 have hWW := HW.o
 rw [HDS.o] at FY ⊢
 have E := (HE.o.fr FY (fun k hk e => by have e : k = w.heap.size + 1 := e; omega)).low (w := w) om
 have x1 := E.get 0 rfl
 have x0 := E.get 1 rfl
 exact kOY (a := a) HF.o.1 HF.o.2.1 HF.o.2.2.1 HF.o.2.2.2.1 HF.o.2.2.2.2.1 HF.o.2.2.2.2.2.1 HF.o.2.2.2.2.2.2 x0.1 x0.2.1 x0.2.2 x1.1 x1.2.1 x1.2.2
theorem kDA (A : OA) (c : Nat) (xs : List Ins) (S : Nat → Prop) (w : World) (h : tIns.els w S A xs) (hS : Lt S w) (hb : kDP xs) :
    Calls prog 169 #[.slice A xs.length c] w (EachTo tIns xs w) := by
 have HC := hid (kIk A c xs S w h hS hb.1 (fun k hk ds X f hr => kII xs[k] S X hr (fun k hk => ltl (hS k hk) f.size) (hb.2 _ (List.getElem_mem hk))))
 clear h hS hb
 go_enter func169, ntmps169
 go_wp2_with fail
 refine HC.o.mono ?_
 rintro e w1 ⟨B, d, rfl, h1, h2, h3, h4⟩
 have HH := hid (And.intro h1 (And.intro h2 (And.intro h3 h4)))
 clear h1 h2 h3 h4 HC
 go_wp2
 go_ret
 exact ⟨B, d, rfl, HH.o.1, HH.o.2.1, HH.o.2.2.1, HH.o.2.2.2⟩
abbrev kEJ (a0 : Cd) (a1 a2 : Option Addr) (a3 a4 : Nat) : Array Value := #[.int .i64 a0.type, .slice a1 a0.locals.length a3, .slice a2 a0.body.length a4]
theorem kJU (a : Cd) {ms : LV} (S : Nat → Prop) (w : World) (h : tCd.rd w S ms a) (hS : Lt S w) (hb : CdB a) :
    Calls prog 168 #[.agg ms.toArray] w (kAa tCd a w) := by
 obtain ⟨P0, p0, P1, p1, rfl, f0, h0_l, h0_c, h0, h1_l, h1_c, h1⟩ := kFQ h
 have HC0 : Hid (∀ X, Fr No w X → Calls prog 157 #[.slice P0 a.locals.length p0] X (EachTo (Ty.int .i64) a.locals X)) := fun X f => (kBq P0 p0 a.locals S X (kAA h0 f hS i2) (fun k hk => ltl (hS k hk) f.size) (by have := hb.1; omega)).mono (fun _ _ h => EachTo.of_clone h)
 have HC1 : Hid (∀ X, Fr No w X → Calls prog 169 #[.slice P1 a.body.length p1] X (EachTo tIns a.body X)) := fun X f => kDA P1 p1 a.body S X (kAA h1 f hS i2) (fun k hk => ltl (hS k hk) f.size) hb.2
 have F0 := hid (((Fr.refl No w).alloc (.cells (kEJ a P0 P1 p0 p1) 301)).alloc (.cells #[.int .i64 0, .slice none 0 0, .slice none 0 0] 301))
 have G0 := hid ((Blk.new w 301 (kEJ a P0 P1 p0 p1)).alloc (.cells #[.int .i64 0, .slice none 0 0, .slice none 0 0] 301))
 have G1 := hid (Blk.new1 w (.cells (kEJ a P0 P1 p0 p1) 301) 301 #[.int .i64 0, .slice none 0 0, .slice none 0 0])
 have HF := hid (And.intro f0 True.intro)
 have HS := hid hS
 clear h hS h0_l h0_c h0 h1_l h1_c h1 f0
 go_enter func168, ntmps168
 go_upto_region 1 with fail
 have HW : Hid (((w.alloc (.cells (kEJ a P0 P1 p0 p1) 301)).alloc (.cells #[.int .i64 0, .slice none 0 0, .slice none 0 0] 301)).heap.size = w.heap.size + 2) := by unfold Hid; simp
 generalize (w.alloc (.cells (kEJ a P0 P1 p0 p1) 301)).alloc (.cells #[.int .i64 0, .slice none 0 0, .slice none 0 0] 301) = W at *
 have FZ := hid (Fr.refl No W)
 have HE := hid (Its.nil (W := W) (X := W))
 have HX : Hid (∀ X, Fr No W X → Ce X w.heap.size 0 (.int .i64 a.type) ∧ Ce X w.heap.size 1 (.slice P0 a.locals.length p0) ∧ Ce X w.heap.size 2 (.slice P1 a.body.length p1)) := fun X g => ⟨(G0.o.fr g id).cell 0, (G0.o.fr g id).cell 1, (G0.o.fr g id).cell 2⟩
 refine rwP (Fr No W) [9] [0, 1, 2, 3, 5, 6, 4, 7, 8, 9] [4, 7, 9] (Fr.refl No _).drew ?_
 replace FZ := hid (Fr.refl No W).drew
 replace HE := hid (HE.o.no FZ.o)
 refine rP HX.o ?_
 refine kAE rfl rfl fun K hK => sz ?_
 refine (HC0.o _ (F0.o.trans FZ.o i3)).mono ?_
 rintro e w0 ⟨B0, d0, rfl, l1, l2, el, f1⟩
 replace HE := hid (HE.o.push f1 FZ.o.size l1 l2 el)
 replace FZ := ftr FZ f1
 clear f1 el l1 l2
 refine hK _ _ (fun _ => FZ.o) ?_
 clear hK K
 refine rP HX.o ?_
 refine kAE rfl rfl fun K hK => sz ?_
 refine (HC1.o _ (F0.o.trans FZ.o i3)).mono ?_
 rintro e w1 ⟨B1, d1, rfl, l1, l2, el, f1⟩
 replace HE := hid (HE.o.push f1 FZ.o.size l1 l2 el)
 replace FZ := ftr FZ f1
 clear f1 el l1 l2
 refine hK _ _ (fun _ => FZ.o) ?_
 clear hK K
 refine rP HX.o ?_
 replace G1 := hid (G1.o.fr FZ.o id)
 replace F0 := ftr F0 FZ.o
 refine kAE rfl rfl (fun K hK => ?_)
 simp only [List.getElem_toArray, List.getElem_cons_succ, List.getElem_cons_zero]
 refine wp_store_mid 301 _ _ (by rfl) (w.heap.size + 1) 0 #[.int .i64 a.type, .slice B0 a.locals.length d0, .slice B1 a.body.length d1] (by rfl) (by rfl) (there_blk G1.o rfl) kr (by simp [Value.oneCell']) ?_
 refine hK _ _ (fun h => by cases h) ?_
 clear hK K HX
 refine kAj ?_
 go_wp2
 refine kDv (n := 3) underlying301 kr F0.o om (there_blk G1.o rfl) rfl (fun FY => ?_)
 have hG := G1.o.lt
 have hWW := HW.o
 have E := (HE.o.fr FY (fun k hk e => by have e : k = w.heap.size + 1 := e; omega)).low (w := w) om
 have x1 := E.get 0 rfl
 have x0 := E.get 1 rfl
 exact kPI (a := a) HF.o.1 x0.1 x0.2.1 x0.2.2 x1.1 x1.2.1 x1.2.2
theorem kJP (a : Gd) {ms : LV} (S : Nat → Prop) (w : World) (h : tGd.rd w S ms a) (hS : Lt S w) (hb : GdB a) :
    Calls prog 171 #[.agg ms.toArray] w (kAa tGd a w) := by
 obtain ⟨P0, p0, rfl, f0, h0_l, h0_c, h0⟩ := kFM h
 have HC0 : Hid (∀ X, Fr No w X → Calls prog 169 #[.slice P0 a.init.length p0] X (EachTo tIns a.init X)) := fun X f => kDA P0 p0 a.init S X (kAA h0 f hS i2) (fun k hk => ltl (hS k hk) f.size) hb
 have F0 := hid (((Fr.refl No w).alloc (.cells #[.int .i64 a.type.val, .bool a.type.mut_, .slice P0 a.init.length p0] 306)).alloc (.cells #[.int .i64 0, .bool false, .slice none 0 0] 306))
 have G0 := hid ((Blk.new w 306 #[.int .i64 a.type.val, .bool a.type.mut_, .slice P0 a.init.length p0]).alloc (.cells #[.int .i64 0, .bool false, .slice none 0 0] 306))
 have G1 := hid (Blk.new1 w (.cells #[.int .i64 a.type.val, .bool a.type.mut_, .slice P0 a.init.length p0] 306) 306 #[.int .i64 0, .bool false, .slice none 0 0])
 have HF := hid (And.intro f0 True.intro)
 have HS := hid hS
 clear h hS h0_l h0_c h0 f0
 go_enter func171, ntmps171
 go_upto_region 1 with fail
 have HW : Hid (((w.alloc (.cells #[.int .i64 a.type.val, .bool a.type.mut_, .slice P0 a.init.length p0] 306)).alloc (.cells #[.int .i64 0, .bool false, .slice none 0 0] 306)).heap.size = w.heap.size + 2) := by unfold Hid; simp
 generalize (w.alloc (.cells #[.int .i64 a.type.val, .bool a.type.mut_, .slice P0 a.init.length p0] 306)).alloc (.cells #[.int .i64 0, .bool false, .slice none 0 0] 306) = W at *
 have FZ := hid (Fr.refl No W)
 have HE := hid (Its.nil (W := W) (X := W))
 have HX : Hid (∀ X, Fr No W X → Ce X w.heap.size 0 (.int .i64 a.type.val) ∧ Ce X w.heap.size 1 (.bool a.type.mut_) ∧ Ce X w.heap.size 2 (.slice P0 a.init.length p0)) := fun X g => ⟨(G0.o.fr g id).cell 0, (G0.o.fr g id).cell 1, (G0.o.fr g id).cell 2⟩
 refine rwP (Fr No W) [6] (List.range 7) [4, 6] (Fr.refl No _).drew ?_
 replace FZ := hid (Fr.refl No W).drew
 replace HE := hid (HE.o.no FZ.o)
 refine rP HX.o ?_
 refine kAE rfl rfl fun K hK => sz ?_
 refine (HC0.o _ (F0.o.trans FZ.o i3)).mono ?_
 rintro e w0 ⟨B0, d0, rfl, l1, l2, el, f1⟩
 replace HE := hid (HE.o.push f1 FZ.o.size l1 l2 el)
 replace FZ := ftr FZ f1
 clear f1 el l1 l2
 refine hK _ _ (fun _ => FZ.o) ?_
 clear hK K
 refine rP HX.o ?_
 replace G1 := hid (G1.o.fr FZ.o id)
 replace F0 := ftr F0 FZ.o
 refine kAE rfl rfl (fun K hK => ?_)
 simp only [List.getElem_toArray, List.getElem_cons_succ, List.getElem_cons_zero]
 refine wp_store_mid 306 _ _ (by rfl) (w.heap.size + 1) 0 #[.int .i64 a.type.val, .bool a.type.mut_, .slice B0 a.init.length d0] (by rfl) (by rfl) (there_blk G1.o rfl) kr (by simp [Value.oneCell']) ?_
 refine hK _ _ (fun h => by cases h) ?_
 clear hK K HX
 refine kAj ?_
 go_wp2
 refine kDv (n := 3) underlying306 kr F0.o om (there_blk G1.o rfl) rfl (fun FY => ?_)
 have hG := G1.o.lt
 have hWW := HW.o
 have E := (HE.o.fr FY (fun k hk e => by have e : k = w.heap.size + 1 := e; omega)).low (w := w) om
 have x0 := E.get 0 rfl
 exact kPC (a := a) HF.o.1 x0.1 x0.2.1 x0.2.2
abbrev kEO (a0 : Da) (a1 a2 : Option Addr) (a3 a4 : Nat) : Array Value := #[.int .i64 a0.mode, .int .i64 a0.mem, .slice a1 a0.off.length a3, .slice a2 a0.bytes.length a4]
theorem kJS (a : Da) {ms : LV} (S : Nat → Prop) (w : World) (h : tDa.rd w S ms a) (hS : Lt S w) (hb : DaB a) :
    Calls prog 176 #[.agg ms.toArray] w (kAa tDa a w) := by
 obtain ⟨P0, p0, P1, p1, rfl, f0, f1, h0_l, h0_c, h0, h1_l, h1_c, h1⟩ := kFO h
 have HC0 : Hid (∀ X, Fr No w X → Calls prog 169 #[.slice P0 a.off.length p0] X (EachTo tIns a.off X)) := fun X f => kDA P0 p0 a.off S X (kAA h0 f hS i2) (fun k hk => ltl (hS k hk) f.size) hb.1
 have HC1 : Hid (∀ X, Fr No w X → Calls prog 85 #[.slice P1 a.bytes.length p1] X (EachTo (Ty.int .u8) a.bytes X)) := fun X f => (kCn P1 p1 a.bytes S X (kAA h1 f hS i2) (fun k hk => ltl (hS k hk) f.size) (by have := hb.2; omega)).mono (fun _ _ h => EachTo.of_clone h)
 have F0 := hid (((Fr.refl No w).alloc (.cells (kEO a P0 P1 p0 p1) 316)).alloc (.cells kDS 316))
 have G0 := hid ((Blk.new w 316 (kEO a P0 P1 p0 p1)).alloc (.cells kDS 316))
 have G1 := hid (Blk.new1 w (.cells (kEO a P0 P1 p0 p1) 316) 316 kDS)
 have HF := hid ((⟨f0, f1⟩ : _ ∧ _))
 have HS := hid hS
 clear h hS h0_l h0_c h0 h1_l h1_c h1 f0 f1
 go_enter func176, ntmps176
 go_upto_region 1 with fail
 have HW : Hid (((w.alloc (.cells (kEO a P0 P1 p0 p1) 316)).alloc (.cells kDS 316)).heap.size = w.heap.size + 2) := by unfold Hid; simp
 generalize (w.alloc (.cells (kEO a P0 P1 p0 p1) 316)).alloc (.cells kDS 316) = W at *
 have FZ := hid (Fr.refl No W)
 have HE := hid (Its.nil (W := W) (X := W))
 have HX : Hid (∀ X, Fr No W X → Ce X w.heap.size 2 (.slice P0 a.off.length p0) ∧ Ce X w.heap.size 3 (.slice P1 a.bytes.length p1)) := fun X g => ⟨(G0.o.fr g id).cell 2, (G0.o.fr g id).cell 3⟩
 refine rwP (Fr No W) [7] [0, 1, 3, 4, 2, 6, 5, 7, 8, 9] [2, 5, 7, 9] (Fr.refl No _).drew ?_
 replace FZ := hid (Fr.refl No W).drew
 replace HE := hid (HE.o.no FZ.o)
 refine rP HX.o ?_
 refine kAE rfl rfl fun K hK => sz ?_
 refine (HC0.o _ (F0.o.trans FZ.o i3)).mono ?_
 rintro e w0 ⟨B0, d0, rfl, l1, l2, el, f1⟩
 replace HE := hid (HE.o.push f1 FZ.o.size l1 l2 el)
 replace FZ := ftr FZ f1
 clear f1 el l1 l2
 refine hK _ _ (fun _ => FZ.o) ?_
 clear hK K
 refine rP HX.o ?_
 refine kAE rfl rfl fun K hK => sz ?_
 refine (HC1.o _ (F0.o.trans FZ.o i3)).mono ?_
 rintro e w1 ⟨B1, d1, rfl, l1, l2, el, f1⟩
 replace HE := hid (HE.o.push f1 FZ.o.size l1 l2 el)
 replace FZ := ftr FZ f1
 clear f1 el l1 l2
 refine hK _ _ (fun _ => FZ.o) ?_
 clear hK K
 refine rP HX.o ?_
 replace G0 := hid (G0.o.fr FZ.o id)
 replace G1 := hid (G1.o.fr FZ.o id)
 have Y0 := G0.o
 have z := Y0.cell 2
 have u := Y0.frozen 2
 refine kAE rfl rfl fun K hK => sz ?_
 clear z u
 refine hK _ _ (fun h => by cases h) ?_
 clear hK K
 refine rP HX.o ?_
 have Y1 := Y0.set_ 2 (.slice B0 a.off.length d0)
 simp only [zC] at Y1
 have z := Y1.cell 3
 have u := Y1.frozen 3
 refine kAE rfl rfl fun K hK => sz ?_
 clear z u
 refine hK _ _ (fun h => by cases h) ?_
 clear hK K
 refine rP HX.o ?_
 clear Y0 Y1 HX
 refine kAj ?_
 have FS := (((Fr.refl (One w.heap.size) w1).setCell ⟨w.heap.size, 2, none⟩ (.slice B0 a.off.length d0) (fun _ => rfl)).setCell ⟨w.heap.size, 3, none⟩ (.slice B1 a.bytes.length d1) (fun _ => rfl))
 replace G0 := ((G0.o.set_ 2 (.slice B0 a.off.length d0)).set_ 3 (.slice B1 a.bytes.length d1))
 simp only [zC] at G0
 replace G0 := hid G0
 replace G1 := hid (G1.o.fr FS (fun e => by have e : w.heap.size + 1 = w.heap.size := e; omega))
 replace HE := hid (HE.o.fr FS (fun k hk e => by have e : k = w.heap.size := e; have := HW.o; omega))
 replace F0 := hid ((F0.o.trans FZ.o i3).trans FS (fun i hi h => by have h : i = w.heap.size := h; omega))
 have HWZ : Hid (W.heap.size ≤ ((w1.setCell ⟨w.heap.size, 2, none⟩ (.slice B0 a.off.length d0)).setCell ⟨w.heap.size, 3, none⟩ (.slice B1 a.bytes.length d1)).heap.size) := Nat.le_trans FZ.o.size FS.size
 clear FS FZ
 generalize ((w1.setCell ⟨w.heap.size, 2, none⟩ (.slice B0 a.off.length d0)).setCell ⟨w.heap.size, 3, none⟩ (.slice B1 a.bytes.length d1)) = Z1 at *
 have FZ := hid (Fr.refl No Z1)
 obtain ⟨ds, hds⟩ : ∃ ds : LV, ds = [.int .i64 a.mode, .int .i64 a.mem, .slice B0 a.off.length d0, .slice B1 a.bytes.length d1] := ⟨_, rfl⟩
 have RG : Z1.rangeAt w.heap.size 0 ds := by rw [hds]; exact rangeAt_blk G0.o
 have HDS := hid hds
 clear hds
 have HT : Hid (Z1.there (w.heap.size + 1) 0 4) := there_blk G1.o rfl
 have HI : Hid ((prog.info? 316).map (·.size) = some 4) := by unfold Hid; kernel_rfl
 have HL : Hid (ds.length = 4) := by rw [HDS.o]; rfl
 go_wp2_with (first | refine ldG underlying316 HI.o RG HL.o ?_ | refine stG HI.o HT.o HL.o (by rw [HDS.o]; rfl) ?_ | fail)
 refine kDv underlying316 HI.o F0.o om HT.o HL.o (fun FY => ?_)
 have hG := G1.o.lt
 have hWW := HW.o
 rw [HDS.o] at FY ⊢
 have E := (HE.o.fr FY (fun k hk e => by have e : k = w.heap.size + 1 := e; omega)).low (w := w) om
 have x1 := E.get 0 rfl
 have x0 := E.get 1 rfl
 exact kPG (a := a) HF.o.1 HF.o.2 x0.1 x0.2.1 x0.2.2 x1.1 x1.2.1 x1.2.2
abbrev kEI (a0 : Cu) (a1 : Option Addr) (a2 : Nat) : Array Value := #[.int .i64 a0.after, .string a0.name, .slice a1 a0.bytes.length a2]
theorem kJT (a : Cu) {ms : LV} (S : Nat → Prop) (w : World) (h : tCu.rd w S ms a) (hS : Lt S w) (hb : CuB a) :
    Calls prog 178 #[.agg ms.toArray] w (kAa tCu a w) := by
 obtain ⟨P0, p0, rfl, f0, f1, h0_l, h0_c, h0⟩ := kFP h
 have HC0 : Hid (∀ X, Fr No w X → Calls prog 85 #[.slice P0 a.bytes.length p0] X (EachTo (Ty.int .u8) a.bytes X)) := fun X f => (kCn P0 p0 a.bytes S X (kAA h0 f hS i2) (fun k hk => ltl (hS k hk) f.size) (by have : a.bytes.length ≤ 1048576 := hb; omega)).mono (fun _ _ h => EachTo.of_clone h)
 have F0 := hid (((Fr.refl No w).alloc (.cells (kEI a P0 p0) 320)).alloc (.cells #[.int .i64 0, .string ⟨#[]⟩, .slice none 0 0] 320))
 have G0 := hid ((Blk.new w 320 (kEI a P0 p0)).alloc (.cells #[.int .i64 0, .string ⟨#[]⟩, .slice none 0 0] 320))
 have G1 := hid (Blk.new1 w (.cells (kEI a P0 p0) 320) 320 #[.int .i64 0, .string ⟨#[]⟩, .slice none 0 0])
 have HF := hid ((⟨f0, f1⟩ : _ ∧ _))
 have HS := hid hS
 clear h hS h0_l h0_c h0 f0 f1
 go_enter func178, ntmps178
 go_upto_region 1 with fail
 have HW : Hid (((w.alloc (.cells (kEI a P0 p0) 320)).alloc (.cells #[.int .i64 0, .string ⟨#[]⟩, .slice none 0 0] 320)).heap.size = w.heap.size + 2) := by unfold Hid; simp
 generalize (w.alloc (.cells (kEI a P0 p0) 320)).alloc (.cells #[.int .i64 0, .string ⟨#[]⟩, .slice none 0 0] 320) = W at *
 have FZ := hid (Fr.refl No W)
 have HE := hid (Its.nil (W := W) (X := W))
 have z := G0.o.cell 2
 go_wp2_with fail
 refine (HC0.o _ (F0.o.trans FZ.o i3)).mono ?_
 rintro e w0 ⟨B0, d0, rfl, l1, l2, el, f1⟩
 replace HE := hid (HE.o.push f1 FZ.o.size l1 l2 el)
 replace FZ := ftr FZ f1
 clear f1 el l1 l2
 clear z
 replace G0 := hid (G0.o.fr FZ.o id)
 replace G1 := hid (G1.o.fr FZ.o id)
 have z := G0.o.cell 2
 have u := G0.o.frozen 2
 go_upto_region 2 with fail
 clear z u
 have FS := ((Fr.refl (One w.heap.size) w0).setCell ⟨w.heap.size, 2, none⟩ (.slice B0 a.bytes.length d0) (fun _ => rfl))
 replace G0 := (G0.o.set_ 2 (.slice B0 a.bytes.length d0))
 simp only [zC] at G0
 replace G0 := hid G0
 replace G1 := hid (G1.o.fr FS (fun e => by have e : w.heap.size + 1 = w.heap.size := e; omega))
 replace HE := hid (HE.o.fr FS (fun k hk e => by have e : k = w.heap.size := e; have := HW.o; omega))
 replace F0 := hid ((F0.o.trans FZ.o i3).trans FS (fun i hi h => by have h : i = w.heap.size := h; omega))
 have HWZ : Hid (W.heap.size ≤ (w0.setCell ⟨w.heap.size, 2, none⟩ (.slice B0 a.bytes.length d0)).heap.size) := Nat.le_trans FZ.o.size FS.size
 clear FS FZ
 generalize (w0.setCell ⟨w.heap.size, 2, none⟩ (.slice B0 a.bytes.length d0)) = Z0 at *
 have FZ := hid (Fr.refl No Z0)
 obtain ⟨ds, hds⟩ : ∃ ds : LV, ds = [.int .i64 a.after, .string a.name, .slice B0 a.bytes.length d0] := ⟨_, rfl⟩
 have RG : Z0.rangeAt w.heap.size 0 ds := by rw [hds]; exact rangeAt_blk G0.o
 have HDS := hid hds
 clear hds
 have HT : Hid (Z0.there (w.heap.size + 1) 0 3) := there_blk G1.o rfl
 have HI : Hid ((prog.info? 320).map (·.size) = some 3) := by unfold Hid; kernel_rfl
 have HL : Hid (ds.length = 3) := by rw [HDS.o]; rfl
 go_wp2_with (first | refine ldG underlying320 HI.o RG HL.o ?_ | refine stG HI.o HT.o HL.o (by rw [HDS.o]; rfl) ?_ | fail)
 refine kDv underlying320 HI.o F0.o om HT.o HL.o (fun FY => ?_)
 have hG := G1.o.lt
 have hWW := HW.o
 rw [HDS.o] at FY ⊢
 have E := (HE.o.fr FY (fun k hk e => by have e : k = w.heap.size + 1 := e; omega)).low (w := w) om
 have x0 := E.get 0 rfl
 exact kPH (a := a) HF.o.1 HF.o.2 x0.1 x0.2.1 x0.2.2
theorem kGi (A : OA) (c : Nat) (xs : List (List Ins)) (S : Nat → Prop) (w : World) (h : tIns.slice.els w S A xs) (hS : Lt S w) (hl : xs.length ≤ 1048576) (hb : ∀ l ∈ xs, kDP l) :
    Calls prog 174 #[.slice A xs.length c, .func (.func 169) #[] #[]] w (EachTo tIns.slice xs w) := by
 have HE := hid h
 have HS := hid hS
 have HB := hid hb
 clear h hS hb
 go_enter func174, ntmps174
 go_wp2
 go_loopw [5, 10] (fun v i wr => ∃ k, k ≤ xs.length ∧ i = .int .i64 (k : Nat) ∧ Hid (Fr No w wr) ∧ Hid (tIns.slice.row wr w.heap.size (Sv w wr v) 299 v (xs.take k))) (fun _ i _ => xs.length - (intOf i).toNat)
 case atStart => exact ⟨0, nz, rfl, Fr.refl _ _, Ty.row.nil _ _ _ _⟩
 obtain ⟨k, hk, rfl, F1, HR⟩ := hrel
 have i0 := nki k
 by_cases hlt : k < xs.length
 · obtain ⟨b, o, ds, rfl, hb, hc, A1, c1, rfl, _, _, hr⟩ := HE.o.at_ k hlt
   have y : wr.cell? ⟨b, o + k, none⟩ = some (.slice A1 xs[k].length c1) := by
    have h1 := hc 0 _ rfl
    have e : o + (k * tIns.slice.size + 0) = o + k := by show o + (k * 1 + 0) = o + k; omega
    rw [e] at h1
    exact (F1.o.cell (p := ⟨b, o + k, none⟩) (HS.o _ hb) id).trans h1
   have i1 : (k : Int) < xs.length := om
   have HC := hid (kDA A1 c1 xs[k] S wr (kAA hr F1.o HS.o i2) (fun k hk => ltl (HS.o k hk) F1.o.size) (HB.o _ (List.getElem_mem hlt)))
   clear hr hc
   go_wp2_with fail
   refine HC.o.mono ?_
   rintro e w2 ⟨A2, c2, rfl, l1, l2, hr2, f2⟩
   clear HC y
   have HR2 : Hid (tIns.slice.rd w2 (Nw wr w2) [.slice A2 xs[k].length c2] xs[k]) := ⟨A2, c2, rfl, l1, l2, hr2⟩
   have F2 := hid f2
   clear hr2 f2 l1 l2
   go_wp2_with (first | (at_builtin; refine kCF (t := tIns.slice) kOL F1.o HR.o F2.o HR2.o so dc ?_; intro v3 w3 f3 hr3; have F3 := hid f3; have R3 := hid hr3; clear f3 hr3) | fail)
   exact yy19
 exact yy16
abbrev kER (a0 : El) (a1 a2 : Option Addr) (a3 a4 : Nat) : Array Value := #[.int .i64 a0.mode, .int .i64 a0.table, .slice a1 a0.off.length a3, .int .i64 a0.type, .slice a2 a0.items.length a4]
theorem kJR (a : El) {ms : LV} (S : Nat → Prop) (w : World) (h : tEl.rd w S ms a) (hS : Lt S w) (hb : ElB a) :
    Calls prog 173 #[.agg ms.toArray] w (kAa tEl a w) := by
 obtain ⟨P0, p0, P1, p1, rfl, f0, f1, h0_l, h0_c, h0, f3, h1_l, h1_c, h1⟩ := kFN h
 have HC0 : Hid (∀ X, Fr No w X → Calls prog 169 #[.slice P0 a.off.length p0] X (EachTo tIns a.off X)) := fun X f => kDA P0 p0 a.off S X (kAA h0 f hS i2) (fun k hk => ltl (hS k hk) f.size) hb.1
 have HC1 : Hid (∀ X, Fr No w X → Calls prog 174 #[.slice P1 a.items.length p1, .func (.func 169) #[] #[]] X (EachTo tIns.slice a.items X)) := fun X f => kGi P1 p1 a.items S X (kAA h1 f hS i2) (fun k hk => ltl (hS k hk) f.size) hb.2.1 hb.2.2
 have F0 := hid (((Fr.refl No w).alloc (.cells (kER a P0 P1 p0 p1) 311)).alloc (.cells kDY 311))
 have G0 := hid ((Blk.new w 311 (kER a P0 P1 p0 p1)).alloc (.cells kDY 311))
 have G1 := hid (Blk.new1 w (.cells (kER a P0 P1 p0 p1) 311) 311 kDY)
 have HF := hid ((⟨f0, f1, f3⟩ : _ ∧ _ ∧ _))
 have HS := hid hS
 clear h hS h0_l h0_c h0 h1_l h1_c h1 f0 f1 f3
 go_enter func173, ntmps173
 go_upto_region 1 with fail
 have HW : Hid (((w.alloc (.cells (kER a P0 P1 p0 p1) 311)).alloc (.cells kDY 311)).heap.size = w.heap.size + 2) := by unfold Hid; simp
 generalize (w.alloc (.cells (kER a P0 P1 p0 p1) 311)).alloc (.cells kDY 311) = W at *
 have FZ := hid (Fr.refl No W)
 have HE := hid (Its.nil (W := W) (X := W))
 have HX : Hid (∀ X, Fr No W X → Ce X w.heap.size 2 (.slice P0 a.off.length p0) ∧ Ce X w.heap.size 4 (.slice P1 a.items.length p1)) := fun X g => ⟨(G0.o.fr g id).cell 2, (G0.o.fr g id).cell 4⟩
 refine rwP (Fr No W) [7] [0, 1, 3, 4, 2, 6, 5, 7, 8, 9] [2, 5, 7, 9] (Fr.refl No _).drew ?_
 replace FZ := hid (Fr.refl No W).drew
 replace HE := hid (HE.o.no FZ.o)
 refine rP HX.o ?_
 refine kAE rfl rfl fun K hK => sz ?_
 refine (HC0.o _ (F0.o.trans FZ.o i3)).mono ?_
 rintro e w0 ⟨B0, d0, rfl, l1, l2, el, f1⟩
 replace HE := hid (HE.o.push f1 FZ.o.size l1 l2 el)
 replace FZ := ftr FZ f1
 clear f1 el l1 l2
 refine hK _ _ (fun _ => FZ.o) ?_
 clear hK K
 refine rP HX.o ?_
 refine kAE rfl rfl fun K hK => sz ?_
 refine (HC1.o _ (F0.o.trans FZ.o i3)).mono ?_
 rintro e w1 ⟨B1, d1, rfl, l1, l2, el, f1⟩
 replace HE := hid (HE.o.push f1 FZ.o.size l1 l2 el)
 replace FZ := ftr FZ f1
 clear f1 el l1 l2
 refine hK _ _ (fun _ => FZ.o) ?_
 clear hK K
 refine rP HX.o ?_
 replace G0 := hid (G0.o.fr FZ.o id)
 replace G1 := hid (G1.o.fr FZ.o id)
 have Y0 := G0.o
 have z := Y0.cell 2
 have u := Y0.frozen 2
 refine kAE rfl rfl fun K hK => sz ?_
 clear z u
 refine hK _ _ (fun h => by cases h) ?_
 clear hK K
 refine rP HX.o ?_
 have Y1 := Y0.set_ 2 (.slice B0 a.off.length d0)
 simp only [zC] at Y1
 have z := Y1.cell 4
 have u := Y1.frozen 4
 refine kAE rfl rfl fun K hK => sz ?_
 clear z u
 refine hK _ _ (fun h => by cases h) ?_
 clear hK K
 refine rP HX.o ?_
 clear Y0 Y1 HX
 refine kAj ?_
 have FS := (((Fr.refl (One w.heap.size) w1).setCell ⟨w.heap.size, 2, none⟩ (.slice B0 a.off.length d0) (fun _ => rfl)).setCell ⟨w.heap.size, 4, none⟩ (.slice B1 a.items.length d1) (fun _ => rfl))
 replace G0 := ((G0.o.set_ 2 (.slice B0 a.off.length d0)).set_ 4 (.slice B1 a.items.length d1))
 simp only [zC] at G0
 replace G0 := hid G0
 replace G1 := hid (G1.o.fr FS (fun e => by have e : w.heap.size + 1 = w.heap.size := e; omega))
 replace HE := hid (HE.o.fr FS (fun k hk e => by have e : k = w.heap.size := e; have := HW.o; omega))
 replace F0 := hid ((F0.o.trans FZ.o i3).trans FS (fun i hi h => by have h : i = w.heap.size := h; omega))
 have HWZ : Hid (W.heap.size ≤ ((w1.setCell ⟨w.heap.size, 2, none⟩ (.slice B0 a.off.length d0)).setCell ⟨w.heap.size, 4, none⟩ (.slice B1 a.items.length d1)).heap.size) := Nat.le_trans FZ.o.size FS.size
 clear FS FZ
 generalize ((w1.setCell ⟨w.heap.size, 2, none⟩ (.slice B0 a.off.length d0)).setCell ⟨w.heap.size, 4, none⟩ (.slice B1 a.items.length d1)) = Z1 at *
 have FZ := hid (Fr.refl No Z1)
 obtain ⟨ds, hds⟩ : ∃ ds : LV, ds = [.int .i64 a.mode, .int .i64 a.table, .slice B0 a.off.length d0, .int .i64 a.type, .slice B1 a.items.length d1] := ⟨_, rfl⟩
 have RG : Z1.rangeAt w.heap.size 0 ds := by rw [hds]; exact rangeAt_blk G0.o
 have HDS := hid hds
 clear hds
 have HT : Hid (Z1.there (w.heap.size + 1) 0 5) := there_blk G1.o rfl
 have HI : Hid ((prog.info? 311).map (·.size) = some 5) := by unfold Hid; kernel_rfl
 have HL : Hid (ds.length = 5) := by rw [HDS.o]; rfl
 go_wp2_with (first | refine ldG underlying311 HI.o RG HL.o ?_ | refine stG HI.o HT.o HL.o (by rw [HDS.o]; rfl) ?_ | fail)
 refine kDv underlying311 HI.o F0.o om HT.o HL.o (fun FY => ?_)
 have hG := G1.o.lt
 have hWW := HW.o
 rw [HDS.o] at FY ⊢
 have E := (HE.o.fr FY (fun k hk e => by have e : k = w.heap.size + 1 := e; omega)).low (w := w) om
 have x1 := E.get 0 rfl
 have x0 := E.get 1 rfl
 exact kPF (a := a) HF.o.1 HF.o.2.1 x0.1 x0.2.1 x0.2.2 HF.o.2.2 x1.1 x1.2.1 x1.2.2
structure MdB (a : Md) : Prop where
 types : a.types.length ≤ 1048576 ∧ ∀ x ∈ a.types, FnB x
 imports : a.imports.length ≤ 1048576
 funcs : a.funcs.length ≤ 1048576 ∧ ∀ x ∈ a.funcs, CdB x
 tables : a.tables.length ≤ 1048576
 mems : a.mems.length ≤ 1048576
 globals : a.globals.length ≤ 1048576 ∧ ∀ x ∈ a.globals, GdB x
 exports : a.exports.length ≤ 1048576
 elems : a.elems.length ≤ 1048576 ∧ ∀ x ∈ a.elems, ElB x
 datas : a.datas.length ≤ 1048576 ∧ ∀ x ∈ a.datas, DaB x
 customs : a.customs.length ≤ 1048576 ∧ ∀ x ∈ a.customs, CuB x
instance : kAh tLim := by unfold tLim tLim0; infer_instance
instance : kAh tTb := by unfold tTb tTb0; infer_instance
instance : kAh tGl := by unfold tGl tGl0; infer_instance
instance : kAh tIm := by unfold tIm tIm0; infer_instance
instance : kAh tEx := by unfold tEx tEx0; infer_instance
abbrev kFd (a0 a1 a2 a3 a4 a5 a6 a7 a8 a9 : Option Addr) (a10 : Md) (a11 a12 a13 a14 a15 a16 a17 a18 a19 a20 : Nat) : Array Value := #[.slice a0 a10.types.length a11, .slice a1 a10.imports.length a12, .slice a2 a10.funcs.length a13, .slice a3 a10.tables.length a14, .slice a4 a10.mems.length a15, .slice a5 a10.globals.length a16, .slice a6 a10.exports.length a17, .bool a10.hasStart, .int .i64 a10.start, .slice a7 a10.elems.length a18, .slice a8 a10.datas.length a19, .slice a9 a10.customs.length a20]
abbrev kFb : Array Value := #[.slice none 0 0, .slice none 0 0, .slice none 0 0, .slice none 0 0, .slice none 0 0, .slice none 0 0, .slice none 0 0, .bool false, .int .i64 0, .slice none 0 0, .slice none 0 0, .slice none 0 0]
theorem kHl (a : Md) {ms : LV} (S : Nat → Prop) (w : World) (h : tMd.rd w S ms a) (hS : Lt S w) (hb : MdB a) :
    Calls prog 87 #[.agg ms.toArray] w (kAa tMd a w) := by
 obtain ⟨P0, p0, P1, p1, P2, p2, P3, p3, P4, p4, P5, p5, P6, p6, P7, p7, P8, p8, P9, p9, rfl, h0_l, h0_c, h0, h1_l, h1_c, h1, h2_l, h2_c, h2, h3_l, h3_c, h3, h4_l, h4_c, h4, h5_l, h5_c, h5, h6_l, h6_c, h6, f7, h7_l, h7_c, h7, h8_l, h8_c, h8, h9_l, h9_c, h9⟩ := kBl h
 have HC0 : Hid (∀ X, Fr No w X → Calls prog 161 #[.slice P0 a.types.length p0, .func (.func 162) #[] #[]] X (EachTo tFn a.types X)) := fun X f => kKK P0 p0 a.types S X (kAA h0 f hS i2) (fun k hk => ltl (hS k hk) f.size) hb.types.1 (fun k hk ds Y f2 hr => kJQ a.types[k] S Y hr (fun k hk => ltl (hS k hk) (Nat.le_trans f.size f2.size)) (by have := (hb.types.2 _ (List.getElem_mem hk)).1; omega) (by have := (hb.types.2 _ (List.getElem_mem hk)).2; omega))
 have HC1 : Hid (∀ X, Fr No w X → Calls prog 163 #[.slice P1 a.imports.length p1] X (EachTo tIm a.imports X)) := fun X f => (kIn P1 p1 a.imports S X (kAA h1 f hS i2) (fun k hk => ltl (hS k hk) f.size) (by have := hb.imports; omega)).mono (fun _ _ h => EachTo.of_clone h)
 have HC2 : Hid (∀ X, Fr No w X → Calls prog 167 #[.slice P2 a.funcs.length p2, .func (.func 168) #[] #[]] X (EachTo tCd a.funcs X)) := fun X f => kKO P2 p2 a.funcs S X (kAA h2 f hS i2) (fun k hk => ltl (hS k hk) f.size) hb.funcs.1 (fun k hk ds Y f2 hr => kJU a.funcs[k] S Y hr (fun k hk => ltl (hS k hk) (Nat.le_trans f.size f2.size)) (hb.funcs.2 _ (List.getElem_mem hk)))
 have HC3 : Hid (∀ X, Fr No w X → Calls prog 164 #[.slice P3 a.tables.length p3] X (EachTo tTb a.tables X)) := fun X f => (kIm P3 p3 a.tables S X (kAA h3 f hS i2) (fun k hk => ltl (hS k hk) f.size) (by have := hb.tables; omega)).mono (fun _ _ h => EachTo.of_clone h)
 have HC4 : Hid (∀ X, Fr No w X → Calls prog 165 #[.slice P4 a.mems.length p4] X (EachTo tLim a.mems X)) := fun X f => (kHn P4 p4 a.mems S X (kAA h4 f hS i2) (fun k hk => ltl (hS k hk) f.size) (by have := hb.mems; omega)).mono (fun _ _ h => EachTo.of_clone h)
 have HC5 : Hid (∀ X, Fr No w X → Calls prog 170 #[.slice P5 a.globals.length p5, .func (.func 171) #[] #[]] X (EachTo tGd a.globals X)) := fun X f => kKJ P5 p5 a.globals S X (kAA h5 f hS i2) (fun k hk => ltl (hS k hk) f.size) hb.globals.1 (fun k hk ds Y f2 hr => kJP a.globals[k] S Y hr (fun k hk => ltl (hS k hk) (Nat.le_trans f.size f2.size)) (hb.globals.2 _ (List.getElem_mem hk)))
 have HC6 : Hid (∀ X, Fr No w X → Calls prog 166 #[.slice P6 a.exports.length p6] X (EachTo tEx a.exports X)) := fun X f => (kIo P6 p6 a.exports S X (kAA h6 f hS i2) (fun k hk => ltl (hS k hk) f.size) (by have := hb.exports; omega)).mono (fun _ _ h => EachTo.of_clone h)
 have HC7 : Hid (∀ X, Fr No w X → Calls prog 172 #[.slice P7 a.elems.length p7, .func (.func 173) #[] #[]] X (EachTo tEl a.elems X)) := fun X f => kKL P7 p7 a.elems S X (kAA h7 f hS i2) (fun k hk => ltl (hS k hk) f.size) hb.elems.1 (fun k hk ds Y f2 hr => kJR a.elems[k] S Y hr (fun k hk => ltl (hS k hk) (Nat.le_trans f.size f2.size)) (hb.elems.2 _ (List.getElem_mem hk)))
 have HC8 : Hid (∀ X, Fr No w X → Calls prog 175 #[.slice P8 a.datas.length p8, .func (.func 176) #[] #[]] X (EachTo tDa a.datas X)) := fun X f => kKM P8 p8 a.datas S X (kAA h8 f hS i2) (fun k hk => ltl (hS k hk) f.size) hb.datas.1 (fun k hk ds Y f2 hr => kJS a.datas[k] S Y hr (fun k hk => ltl (hS k hk) (Nat.le_trans f.size f2.size)) (hb.datas.2 _ (List.getElem_mem hk)))
 have HC9 : Hid (∀ X, Fr No w X → Calls prog 177 #[.slice P9 a.customs.length p9, .func (.func 178) #[] #[]] X (EachTo tCu a.customs X)) := fun X f => kKN P9 p9 a.customs S X (kAA h9 f hS i2) (fun k hk => ltl (hS k hk) f.size) hb.customs.1 (fun k hk ds Y f2 hr => kJT a.customs[k] S Y hr (fun k hk => ltl (hS k hk) (Nat.le_trans f.size f2.size)) (hb.customs.2 _ (List.getElem_mem hk)))
 have F0 := hid (((Fr.refl No w).alloc (.cells (kFd P0 P1 P2 P3 P4 P5 P6 P7 P8 P9 a p0 p1 p2 p3 p4 p5 p6 p7 p8 p9) 71)).alloc (.cells kFb 71))
 have G0 := hid ((Blk.new w 71 (kFd P0 P1 P2 P3 P4 P5 P6 P7 P8 P9 a p0 p1 p2 p3 p4 p5 p6 p7 p8 p9)).alloc (.cells kFb 71))
 have G1 := hid (Blk.new1 w (.cells (kFd P0 P1 P2 P3 P4 P5 P6 P7 P8 P9 a p0 p1 p2 p3 p4 p5 p6 p7 p8 p9) 71) 71 kFb)
 have HF := hid (And.intro f7 True.intro)
 have HS := hid hS
 clear h hS h0_l h0_c h0 h1_l h1_c h1 h2_l h2_c h2 h3_l h3_c h3 h4_l h4_c h4 h5_l h5_c h5 h6_l h6_c h6 h7_l h7_c h7 h8_l h8_c h8 h9_l h9_c h9 f7
 go_enter func87, ntmps87
 go_upto_region 1 with fail
 have HW : Hid (((w.alloc (.cells (kFd P0 P1 P2 P3 P4 P5 P6 P7 P8 P9 a p0 p1 p2 p3 p4 p5 p6 p7 p8 p9) 71)).alloc (.cells kFb 71)).heap.size = w.heap.size + 2) := by unfold Hid; simp
 generalize (w.alloc (.cells (kFd P0 P1 P2 P3 P4 P5 P6 P7 P8 P9 a p0 p1 p2 p3 p4 p5 p6 p7 p8 p9) 71)).alloc (.cells kFb 71) = W at *
 have FZ := hid (Fr.refl No W)
 have HE := hid (Its.nil (W := W) (X := W))
 have z := G0.o.cell 0
 go_wp2_with fail
 refine (HC0.o _ (F0.o.trans FZ.o i3)).mono ?_
 rintro e w0 ⟨B0, d0, rfl, l1, l2, el, f1⟩
 replace HE := hid (HE.o.push f1 FZ.o.size l1 l2 el)
 replace FZ := ftr FZ f1
 clear f1 el l1 l2
 clear z
 replace G0 := hid (G0.o.fr FZ.o id)
 replace G1 := hid (G1.o.fr FZ.o id)
 have z := G0.o.cell 0
 have u := G0.o.frozen 0
 go_upto_region 2 with fail
 clear z u
 have FS := ((Fr.refl (One w.heap.size) w0).setCell ⟨w.heap.size, 0, none⟩ (.slice B0 a.types.length d0) (fun _ => rfl))
 replace G0 := (G0.o.set_ 0 (.slice B0 a.types.length d0))
 simp only [zC] at G0
 replace G0 := hid G0
 replace G1 := hid (G1.o.fr FS (fun e => by have e : w.heap.size + 1 = w.heap.size := e; omega))
 replace HE := hid (HE.o.fr FS (fun k hk e => by have e : k = w.heap.size := e; have := HW.o; omega))
 replace F0 := hid ((F0.o.trans FZ.o i3).trans FS (fun i hi h => by have h : i = w.heap.size := h; omega))
 have HWZ : Hid (W.heap.size ≤ (w0.setCell ⟨w.heap.size, 0, none⟩ (.slice B0 a.types.length d0)).heap.size) := Nat.le_trans FZ.o.size FS.size
 clear FS FZ
 generalize (w0.setCell ⟨w.heap.size, 0, none⟩ (.slice B0 a.types.length d0)) = Z0 at *
 have FZ := hid (Fr.refl No Z0)
 have HX : Hid (∀ X, Fr No Z0 X → Ce X w.heap.size 1 (.slice P1 a.imports.length p1) ∧ Ce X w.heap.size 3 (.slice P3 a.tables.length p3) ∧ Ce X w.heap.size 4 (.slice P4 a.mems.length p4) ∧ Ce X w.heap.size 6 (.slice P6 a.exports.length p6)) := fun X g => ⟨(G0.o.fr g id).cell 1, (G0.o.fr g id).cell 3, (G0.o.fr g id).cell 4, (G0.o.fr g id).cell 6⟩
 refine rwP (Fr No Z0) [13] [0, 1, 3, 4, 6, 7, 9, 10, 2, 12, 5, 8, 11, 13, 14, 15, 16, 17, 18, 19] [2, 5, 8, 11, 13, 15, 17, 19] (Fr.refl No _).drew ?_
 replace FZ := hid (Fr.refl No Z0).drew
 replace HE := hid (HE.o.no FZ.o)
 refine rP HX.o ?_
 refine kAE rfl rfl fun K hK => sz ?_
 refine (HC1.o _ (F0.o.trans FZ.o i3)).mono ?_
 rintro e w1 ⟨B1, d1, rfl, l1, l2, el, f1⟩
 replace HE := hid (HE.o.push f1 (Nat.le_trans HWZ.o FZ.o.size) l1 l2 el)
 replace FZ := ftr FZ f1
 clear f1 el l1 l2
 refine hK _ _ (fun _ => FZ.o) ?_
 clear hK K
 refine rP HX.o ?_
 refine kAE rfl rfl fun K hK => sz ?_
 refine (HC3.o _ (F0.o.trans FZ.o i3)).mono ?_
 rintro e w3 ⟨B3, d3, rfl, l1, l2, el, f1⟩
 replace HE := hid (HE.o.push f1 (Nat.le_trans HWZ.o FZ.o.size) l1 l2 el)
 replace FZ := ftr FZ f1
 clear f1 el l1 l2
 refine hK _ _ (fun _ => FZ.o) ?_
 clear hK K
 refine rP HX.o ?_
 refine kAE rfl rfl fun K hK => sz ?_
 refine (HC4.o _ (F0.o.trans FZ.o i3)).mono ?_
 rintro e w4 ⟨B4, d4, rfl, l1, l2, el, f1⟩
 replace HE := hid (HE.o.push f1 (Nat.le_trans HWZ.o FZ.o.size) l1 l2 el)
 replace FZ := ftr FZ f1
 clear f1 el l1 l2
 refine hK _ _ (fun _ => FZ.o) ?_
 clear hK K
 refine rP HX.o ?_
 refine kAE rfl rfl fun K hK => sz ?_
 refine (HC6.o _ (F0.o.trans FZ.o i3)).mono ?_
 rintro e w6 ⟨B6, d6, rfl, l1, l2, el, f1⟩
 replace HE := hid (HE.o.push f1 (Nat.le_trans HWZ.o FZ.o.size) l1 l2 el)
 replace FZ := ftr FZ f1
 clear f1 el l1 l2
 refine hK _ _ (fun _ => FZ.o) ?_
 clear hK K
 refine rP HX.o ?_
 replace G0 := hid (G0.o.fr FZ.o id)
 replace G1 := hid (G1.o.fr FZ.o id)
 have Y1 := G0.o
 have z := Y1.cell 1
 have u := Y1.frozen 1
 refine kAE rfl rfl fun K hK => sz ?_
 clear z u
 refine hK _ _ (fun h => by cases h) ?_
 clear hK K
 refine rP HX.o ?_
 have Y3 := Y1.set_ 1 (.slice B1 a.imports.length d1)
 simp only [zC] at Y3
 have z := Y3.cell 3
 have u := Y3.frozen 3
 refine kAE rfl rfl fun K hK => sz ?_
 clear z u
 refine hK _ _ (fun h => by cases h) ?_
 clear hK K
 refine rP HX.o ?_
 have Y4 := Y3.set_ 3 (.slice B3 a.tables.length d3)
 simp only [zC] at Y4
 have z := Y4.cell 4
 have u := Y4.frozen 4
 refine kAE rfl rfl fun K hK => sz ?_
 clear z u
 refine hK _ _ (fun h => by cases h) ?_
 clear hK K
 refine rP HX.o ?_
 have Y6 := Y4.set_ 4 (.slice B4 a.mems.length d4)
 simp only [zC] at Y6
 have z := Y6.cell 6
 have u := Y6.frozen 6
 refine kAE rfl rfl fun K hK => sz ?_
 clear z u
 refine hK _ _ (fun h => by cases h) ?_
 clear hK K
 refine rP HX.o ?_
 clear Y1 Y3 Y4 Y6 HX
 refine kAj ?_
 have FS := (((((Fr.refl (One w.heap.size) w6).setCell ⟨w.heap.size, 1, none⟩ (.slice B1 a.imports.length d1) (fun _ => rfl)).setCell ⟨w.heap.size, 3, none⟩ (.slice B3 a.tables.length d3) (fun _ => rfl)).setCell ⟨w.heap.size, 4, none⟩ (.slice B4 a.mems.length d4) (fun _ => rfl)).setCell ⟨w.heap.size, 6, none⟩ (.slice B6 a.exports.length d6) (fun _ => rfl))
 replace G0 := ((((G0.o.set_ 1 (.slice B1 a.imports.length d1)).set_ 3 (.slice B3 a.tables.length d3)).set_ 4 (.slice B4 a.mems.length d4)).set_ 6 (.slice B6 a.exports.length d6))
 simp only [zC] at G0
 replace G0 := hid G0
 replace G1 := hid (G1.o.fr FS (fun e => by have e : w.heap.size + 1 = w.heap.size := e; omega))
 replace HE := hid (HE.o.fr FS (fun k hk e => by have e : k = w.heap.size := e; have := HW.o; omega))
 replace F0 := hid ((F0.o.trans FZ.o i3).trans FS (fun i hi h => by have h : i = w.heap.size := h; omega))
 have HWZ : Hid (W.heap.size ≤ ((((w6.setCell ⟨w.heap.size, 1, none⟩ (.slice B1 a.imports.length d1)).setCell ⟨w.heap.size, 3, none⟩ (.slice B3 a.tables.length d3)).setCell ⟨w.heap.size, 4, none⟩ (.slice B4 a.mems.length d4)).setCell ⟨w.heap.size, 6, none⟩ (.slice B6 a.exports.length d6)).heap.size) := Nat.le_trans HWZ.o (Nat.le_trans FZ.o.size FS.size)
 clear FS FZ
 generalize ((((w6.setCell ⟨w.heap.size, 1, none⟩ (.slice B1 a.imports.length d1)).setCell ⟨w.heap.size, 3, none⟩ (.slice B3 a.tables.length d3)).setCell ⟨w.heap.size, 4, none⟩ (.slice B4 a.mems.length d4)).setCell ⟨w.heap.size, 6, none⟩ (.slice B6 a.exports.length d6)) = Z6 at *
 have FZ := hid (Fr.refl No Z6)
 have z := G0.o.cell 2
 go_wp2_with fail
 refine (HC2.o _ (F0.o.trans FZ.o i3)).mono ?_
 rintro e w2 ⟨B2, d2, rfl, l1, l2, el, f1⟩
 replace HE := hid (HE.o.push f1 (Nat.le_trans HWZ.o FZ.o.size) l1 l2 el)
 replace FZ := ftr FZ f1
 clear f1 el l1 l2
 clear z
 replace G0 := hid (G0.o.fr FZ.o id)
 replace G1 := hid (G1.o.fr FZ.o id)
 have z := G0.o.cell 2
 have u := G0.o.frozen 2
 go_upto_region 4 with fail
 clear z u
 have FS := ((Fr.refl (One w.heap.size) w2).setCell ⟨w.heap.size, 2, none⟩ (.slice B2 a.funcs.length d2) (fun _ => rfl))
 replace G0 := (G0.o.set_ 2 (.slice B2 a.funcs.length d2))
 simp only [zC] at G0
 replace G0 := hid G0
 replace G1 := hid (G1.o.fr FS (fun e => by have e : w.heap.size + 1 = w.heap.size := e; omega))
 replace HE := hid (HE.o.fr FS (fun k hk e => by have e : k = w.heap.size := e; have := HW.o; omega))
 replace F0 := hid ((F0.o.trans FZ.o i3).trans FS (fun i hi h => by have h : i = w.heap.size := h; omega))
 have HWZ : Hid (W.heap.size ≤ (w2.setCell ⟨w.heap.size, 2, none⟩ (.slice B2 a.funcs.length d2)).heap.size) := Nat.le_trans HWZ.o (Nat.le_trans FZ.o.size FS.size)
 clear FS FZ
 generalize (w2.setCell ⟨w.heap.size, 2, none⟩ (.slice B2 a.funcs.length d2)) = Z2 at *
 have FZ := hid (Fr.refl No Z2)
 have z := G0.o.cell 5
 go_wp2_with fail
 refine (HC5.o _ (F0.o.trans FZ.o i3)).mono ?_
 rintro e w5 ⟨B5, d5, rfl, l1, l2, el, f1⟩
 replace HE := hid (HE.o.push f1 (Nat.le_trans HWZ.o FZ.o.size) l1 l2 el)
 replace FZ := ftr FZ f1
 clear f1 el l1 l2
 clear z
 replace G0 := hid (G0.o.fr FZ.o id)
 replace G1 := hid (G1.o.fr FZ.o id)
 have z := G0.o.cell 5
 have u := G0.o.frozen 5
 go_upto_region 5 with fail
 clear z u
 have FS := ((Fr.refl (One w.heap.size) w5).setCell ⟨w.heap.size, 5, none⟩ (.slice B5 a.globals.length d5) (fun _ => rfl))
 replace G0 := (G0.o.set_ 5 (.slice B5 a.globals.length d5))
 simp only [zC] at G0
 replace G0 := hid G0
 replace G1 := hid (G1.o.fr FS (fun e => by have e : w.heap.size + 1 = w.heap.size := e; omega))
 replace HE := hid (HE.o.fr FS (fun k hk e => by have e : k = w.heap.size := e; have := HW.o; omega))
 replace F0 := hid ((F0.o.trans FZ.o i3).trans FS (fun i hi h => by have h : i = w.heap.size := h; omega))
 have HWZ : Hid (W.heap.size ≤ (w5.setCell ⟨w.heap.size, 5, none⟩ (.slice B5 a.globals.length d5)).heap.size) := Nat.le_trans HWZ.o (Nat.le_trans FZ.o.size FS.size)
 clear FS FZ
 generalize (w5.setCell ⟨w.heap.size, 5, none⟩ (.slice B5 a.globals.length d5)) = Z5 at *
 have FZ := hid (Fr.refl No Z5)
 have z := G0.o.cell 9
 go_wp2_with fail
 refine (HC7.o _ (F0.o.trans FZ.o i3)).mono ?_
 rintro e w7 ⟨B7, d7, rfl, l1, l2, el, f1⟩
 replace HE := hid (HE.o.push f1 (Nat.le_trans HWZ.o FZ.o.size) l1 l2 el)
 replace FZ := ftr FZ f1
 clear f1 el l1 l2
 clear z
 replace G0 := hid (G0.o.fr FZ.o id)
 replace G1 := hid (G1.o.fr FZ.o id)
 have z := G0.o.cell 9
 have u := G0.o.frozen 9
 go_upto_region 6 with fail
 clear z u
 have FS := ((Fr.refl (One w.heap.size) w7).setCell ⟨w.heap.size, 9, none⟩ (.slice B7 a.elems.length d7) (fun _ => rfl))
 replace G0 := (G0.o.set_ 9 (.slice B7 a.elems.length d7))
 simp only [zC] at G0
 replace G0 := hid G0
 replace G1 := hid (G1.o.fr FS (fun e => by have e : w.heap.size + 1 = w.heap.size := e; omega))
 replace HE := hid (HE.o.fr FS (fun k hk e => by have e : k = w.heap.size := e; have := HW.o; omega))
 replace F0 := hid ((F0.o.trans FZ.o i3).trans FS (fun i hi h => by have h : i = w.heap.size := h; omega))
 have HWZ : Hid (W.heap.size ≤ (w7.setCell ⟨w.heap.size, 9, none⟩ (.slice B7 a.elems.length d7)).heap.size) := Nat.le_trans HWZ.o (Nat.le_trans FZ.o.size FS.size)
 clear FS FZ
 generalize (w7.setCell ⟨w.heap.size, 9, none⟩ (.slice B7 a.elems.length d7)) = Z7 at *
 have FZ := hid (Fr.refl No Z7)
 have z := G0.o.cell 10
 go_wp2_with fail
 refine (HC8.o _ (F0.o.trans FZ.o i3)).mono ?_
 rintro e w8 ⟨B8, d8, rfl, l1, l2, el, f1⟩
 replace HE := hid (HE.o.push f1 (Nat.le_trans HWZ.o FZ.o.size) l1 l2 el)
 replace FZ := ftr FZ f1
 clear f1 el l1 l2
 clear z
 replace G0 := hid (G0.o.fr FZ.o id)
 replace G1 := hid (G1.o.fr FZ.o id)
 have z := G0.o.cell 10
 have u := G0.o.frozen 10
 go_upto_region 7 with fail
 clear z u
 have FS := ((Fr.refl (One w.heap.size) w8).setCell ⟨w.heap.size, 10, none⟩ (.slice B8 a.datas.length d8) (fun _ => rfl))
 replace G0 := (G0.o.set_ 10 (.slice B8 a.datas.length d8))
 simp only [zC] at G0
 replace G0 := hid G0
 replace G1 := hid (G1.o.fr FS (fun e => by have e : w.heap.size + 1 = w.heap.size := e; omega))
 replace HE := hid (HE.o.fr FS (fun k hk e => by have e : k = w.heap.size := e; have := HW.o; omega))
 replace F0 := hid ((F0.o.trans FZ.o i3).trans FS (fun i hi h => by have h : i = w.heap.size := h; omega))
 have HWZ : Hid (W.heap.size ≤ (w8.setCell ⟨w.heap.size, 10, none⟩ (.slice B8 a.datas.length d8)).heap.size) := Nat.le_trans HWZ.o (Nat.le_trans FZ.o.size FS.size)
 clear FS FZ
 generalize (w8.setCell ⟨w.heap.size, 10, none⟩ (.slice B8 a.datas.length d8)) = Z8 at *
 have FZ := hid (Fr.refl No Z8)
 have z := G0.o.cell 11
 go_wp2_with fail
 refine (HC9.o _ (F0.o.trans FZ.o i3)).mono ?_
 rintro e w9 ⟨B9, d9, rfl, l1, l2, el, f1⟩
 replace HE := hid (HE.o.push f1 (Nat.le_trans HWZ.o FZ.o.size) l1 l2 el)
 replace FZ := ftr FZ f1
 clear f1 el l1 l2
 clear z
 replace G0 := hid (G0.o.fr FZ.o id)
 replace G1 := hid (G1.o.fr FZ.o id)
 have z := G0.o.cell 11
 have u := G0.o.frozen 11
 go_upto_region 8 with fail
 clear z u
 have FS := ((Fr.refl (One w.heap.size) w9).setCell ⟨w.heap.size, 11, none⟩ (.slice B9 a.customs.length d9) (fun _ => rfl))
 replace G0 := (G0.o.set_ 11 (.slice B9 a.customs.length d9))
 simp only [zC] at G0
 replace G0 := hid G0
 replace G1 := hid (G1.o.fr FS (fun e => by have e : w.heap.size + 1 = w.heap.size := e; omega))
 replace HE := hid (HE.o.fr FS (fun k hk e => by have e : k = w.heap.size := e; have := HW.o; omega))
 replace F0 := hid ((F0.o.trans FZ.o i3).trans FS (fun i hi h => by have h : i = w.heap.size := h; omega))
 have HWZ : Hid (W.heap.size ≤ (w9.setCell ⟨w.heap.size, 11, none⟩ (.slice B9 a.customs.length d9)).heap.size) := Nat.le_trans HWZ.o (Nat.le_trans FZ.o.size FS.size)
 clear FS FZ
 generalize (w9.setCell ⟨w.heap.size, 11, none⟩ (.slice B9 a.customs.length d9)) = Z9 at *
 have FZ := hid (Fr.refl No Z9)
 obtain ⟨ds, hds⟩ : ∃ ds : LV, ds = [.slice B0 a.types.length d0, .slice B1 a.imports.length d1, .slice B2 a.funcs.length d2, .slice B3 a.tables.length d3, .slice B4 a.mems.length d4, .slice B5 a.globals.length d5, .slice B6 a.exports.length d6, .bool a.hasStart, .int .i64 a.start, .slice B7 a.elems.length d7, .slice B8 a.datas.length d8, .slice B9 a.customs.length d9] := ⟨_, rfl⟩
 have RG : Z9.rangeAt w.heap.size 0 ds := by rw [hds]; exact rangeAt_blk G0.o
 have HDS := hid hds
 clear hds
 have HT : Hid (Z9.there (w.heap.size + 1) 0 12) := there_blk G1.o rfl
 have HI : Hid ((prog.info? 71).map (·.size) = some 12) := by unfold Hid; kernel_rfl
 have HL : Hid (ds.length = 12) := by rw [HDS.o]; rfl
 go_wp2_with (first | refine ldG underlying71 HI.o RG HL.o ?_ | refine stG HI.o HT.o HL.o (by rw [HDS.o]; rfl) ?_ | fail)
 refine kDv underlying71 HI.o F0.o om HT.o HL.o (fun FY => ?_)
 have hG := G1.o.lt
 have hWW := HW.o
 rw [HDS.o] at FY ⊢
 have E := (HE.o.fr FY (fun k hk e => by have e : k = w.heap.size + 1 := e; omega)).low (w := w) om
 have x9 := E.get 0 rfl
 have x8 := E.get 1 rfl
 have x7 := E.get 2 rfl
 have x5 := E.get 3 rfl
 have x2 := E.get 4 rfl
 have x6 := E.get 5 rfl
 have x4 := E.get 6 rfl
 have x3 := E.get 7 rfl
 have x1 := E.get 8 rfl
 have x0 := E.get 9 rfl
 exact Md_mk (a := a) x0.1 x0.2.1 x0.2.2 x1.1 x1.2.1 x1.2.2 x2.1 x2.2.1 x2.2.2 x3.1 x3.2.1 x3.2.2 x4.1 x4.2.1 x4.2.2 x5.1 x5.2.1 x5.2.2 x6.1 x6.2.1 x6.2.2 HF.o.1 x7.1 x7.2.1 x7.2.2 x8.1 x8.2.1 x8.2.2 x9.1 x9.2.1 x9.2.2
end Go.Proofs.YtdckghiipijobaaGreat
