/- Chapter 46: fresh blocks of numbers; edges. -/
import Derived.Test.YtiafkakkbbclhaaSlI
namespace Go.Proofs.Ytiafkakkbbclhaa
open Go.RowKit

/-- The fresh blocks of numbers. -/
def Sn (base : Nat) (w : World) : Nat → Prop := fun j => base ≤ j ∧ ∃ cs, Blk w j 3 cs
theorem Sn.lt {base : Nat} {w : World} {j : Nat} (h : Sn base w j) : j < w.heap.size := by
  obtain ⟨_, cs, hb⟩ := h
  exact hb.lt
theorem Sn.fr {base : Nat} {w w' : World} {M : Nat → Prop} (f : Fr M w w') (hM : ∀ j cs, M j → ¬ Blk w j 3 cs) : ∀ j, Sn base w j → Sn base w' j := fun j ⟨h1, cs, hb⟩ => ⟨h1, cs, hb.fr f (fun hm => hM j cs hm hb)⟩
theorem Sn.frNo {base : Nat} {w w' : World} (f : Fr No w w') : ∀ j, Sn base w j → Sn base w' j := Sn.fr f (fun _ _ h => h.elim)
theorem Sn.base {base base' : Nat} {w : World} (h : base' ≤ base) : ∀ j, Sn base w j → Sn base' w j := fun _ ⟨h1, h2⟩ => ⟨Nat.le_trans h h1, h2⟩
theorem rowSi_fr {α : Type} {t : Ty α} [TyOk t] [TyMore t] {base base2 : Nat} {w w' : World} {M : Nat → Prop} {e : TypeId} {v : Value} {l : List α} (h : t.row w base2 (Sn base w) e v l) (f : Fr M w w') (hM : ∀ j cs, M j → ¬ Blk w j 3 cs) (hv : ∀ k, v.ownBlock = some k → ¬ M k) : t.row w' base2 (Sn base w') e v l :=
  (h.fr f (fun k hk => ⟨hk.lt, fun hm => by obtain ⟨_, cs, hb⟩ := hk; exact hM k cs hm hb⟩) hv).more (Nat.le_refl _) (Sn.fr f hM)
theorem rowSi_frNo {α : Type} {t : Ty α} [TyOk t] [TyMore t] {base base2 : Nat} {w w' : World} {e : TypeId} {v : Value} {l : List α} (h : t.row w base2 (Sn base w) e v l) (f : Fr No w w') : t.row w' base2 (Sn base w') e v l := rowSi_fr h f (fun _ _ h => h.elim) (fun _ _ h => h)
/-- What a fresh list of numbers reads as. -/
theorem row_els {base : Nat} {w : World} {A : Option Addr} {c : Nat} {l : List Int} (h : tI.row w base Emp 3 (.slice A l.length c) l) : l.length ≤ c ∧ c ≤ maxLen ∧ tI.els w (Sn base w) A l := by
  obtain ⟨A', c', e, h1, h2, h3⟩ := h.els (S' := Sn base w) (fun _ h => h.elim) (fun g hg => by obtain ⟨h0, cs, hb⟩ := h.own hg; exact ⟨h0, cs, hb⟩)
  injection e with e1 _ e3
  subst e1 e3
  exact ⟨h1, h2, h3⟩
theorem row_els2 {base : Nat} {w : World} {A : Option Addr} {n c : Nat} {l : List Int} (h : tI.row w base Emp 3 (.slice A n c) l) (hn : l.length = n) : l.length ≤ c ∧ c ≤ maxLen ∧ tI.els w (Sn base w) A l := by
  subst hn
  exact row_els h
theorem elEds : ElemOk Try.prog 37 44 2 32 (.agg #[.int .i64 0, .slice none 0 0]) := ElemOk.mk' Try.underlying37 (by kernel_rfl) rfl (by decide)
def EdTo (es : List Ed) (w : World) (e : Ending) (w' : World) : Prop :=
  ∃ (A : Option Addr) (c : Nat), e = .returned (.slice A es.length c) ∧ tEd.row w' w.heap.size (Sn w.heap.size w') 44 (.slice A es.length c) es ∧ Fr No w w'
set_option maxRecDepth 100000 in
set_option maxHeartbeats 3200000 in
theorem edges_any (A0 : Option Addr) (c0 : Nat) (es : List Ed) (S : Nat → Prop) (w : World) (h : tEd.els w S A0 es) (hS : ∀ k, S k → k < w.heap.size) (hl : es.length ≤ 100000) (hla : ∀ e ∈ es, e.args.length * 8 ≤ 140737488351232) :
    Calls Try.prog 31 #[.slice A0 es.length c0] w (EdTo es w) := by
  have HE := hid h
  have hbl := hid hS
  have HLA := hid hla
  clear h hS hla
  obtain ⟨m, hm⟩ : ∃ m, es.length = m := ⟨_, rfl⟩
  have HM := hid hm
  rw [hm] at hl ⊢
  go_enter Try.func31, Try.ntmps31
  go_wp2_with fail
  go_loopw [3, 8] (fun v i wr => ∃ (k : Nat) (A : Option Addr) (c : Nat), k ≤ m ∧ i = .int .i64 k ∧ v = .slice A k c ∧ Hid (tEd.row wr w.heap.size (Sn w.heap.size wr) 44 (.slice A k c) (es.take k)) ∧ Hid (Fr No w wr)) (fun _ i _ => m - (intOf i).toNat)
  case atStart => exact ⟨0, none, 0, by omega, rfl, rfl, hid (by rw [List.take_zero]; exact Ty.row.nil _ _ _ _), hid (Fr.refl No w)⟩
  case round =>
    obtain ⟨k, A, c, hk, rfl, rfl, HR, FR⟩ := hrel
    by_cases hgo : k < m
    · have hlk : k < es.length := by have := HM.out; omega
      obtain ⟨b, o, A', c', rfl, hb, z0, z1, hwf, _, _, ha⟩ := Ed_at HE.out k hlk
      have hbb := hbl.out b hb
      replace z0 := (FR.out.cell (p := ⟨b, o + k * 2, none⟩) hbb (fun x => x)).trans z0
      replace z1 := (FR.out.cell (p := ⟨b, o + k * 2 + 1, none⟩) hbb (fun x => x)).trans z1
      have hla := HLA.out _ (List.getElem_mem hlk)
      have htk : es.take (k + 1) = es.take k ++ [es[k]] := List.take_succ_eq_append_getElem hlk
      have HTK := hid htk
      have HAR := hid (ha.fr FR.out (fun k hk => ⟨hbl.out k hk, fun x => x⟩))
      have FB := (Fr.refl No wr).alloc (.cells #[.int .i64 es[k].to, .slice A' es[k].args.length c'] 44)
      have HCL := hid (fun X (f : Fr No wr X) => cloneI_any A' c' es[k].args S X (HAR.out.fr f (fun k hk => ⟨Nat.lt_of_lt_of_le (hbl.out k hk) FR.out.size, fun x => x⟩)) (fun k hk => Nat.lt_of_lt_of_le (hbl.out k hk) (Nat.le_trans FR.out.size f.size)) hla)
      unfold CloneTo at HCL
      have G := hid (Blk.new wr 44 #[.int .i64 es[k].to, .slice A' es[k].args.length c'])
      have HWF := hid hwf
      generalize hx : es[k] = x at *
      obtain ⟨n2, hn2⟩ : ∃ n, x.args.length = n := ⟨_, rfl⟩
      have HN2 := hid hn2
      rw [hn2] at z1 HCL FB G
      have FA := hid FB
      have HXR : Hid (∀ X, Fr (fun j => some j = (Value.slice A k c).ownBlock) (wr.alloc (.cells #[.int .i64 x.to, .slice A' n2 c'] 44)) X → X.cell? ⟨wr.heap.size, 0, none⟩ = some (.int .i64 x.to) ∧ X.cell? ⟨wr.heap.size, 1, none⟩ = some (.slice A' n2 c')) := hid fun X f => by
        have hng : ¬ some wr.heap.size = (Value.slice A k c).ownBlock := fun e => by
          obtain ⟨_, cs, hb⟩ := HR.out.own e.symm
          exact Nat.lt_irrefl _ hb.lt
        have g := G.out.fr f hng
        exact ⟨g.cell 0, g.cell 1⟩
      have i0 : (0 : Int) ≤ k := by omega
      have i1 : (k : Int) < m := by omega
      clear ha FB htk hwf hx hn2 hlk hla
      go_upto_region 5 with fail
      clear z0 z1
      generalize wr.alloc (.cells #[.int .i64 x.to, .slice A' n2 c'] 44) = W1 at *
      refine wp_region_ort (Fr (fun j => some j = (Value.slice A k c).ownBlock) W1) (.rd 0 (.rd 1 (.rd 2 (.rd 3 (.rd 4 (.eff 5 (.rd 6 (.eff 7 (.eff 8 (.rd 9 .nil)))))))))) (by kernel_rfl) (by kernel_rfl) (by kernel_rfl) rfl (Fr.refl _ W1).drew ?_
      repeat (first
        | (refine wpT_skip rfl rfl ?_; simp only [List.getElem_toArray, List.getElem_cons_succ, List.getElem_cons_zero, Act.put, List.setIfInBounds_toArray, List.set_cons_zero, List.set_cons_succ])
        | (refine wpT_call rfl rfl ?_; simp only [List.getElem_toArray, List.getElem_cons_succ, List.getElem_cons_zero]; apply Exists.intro; refine ⟨fun X hX => ?_, ?_⟩
           · (obtain ⟨s0, s1⟩ := HXR.out X hX; go_simp; exact stillUpon_value)
           simp only [Act.put, List.setIfInBounds_toArray, List.set_cons_zero, List.set_cons_succ]))
      refine wpT_eff rfl rfl (fun K hK => ?_)
      simp only [List.getElem_toArray, List.getElem_cons_succ, List.getElem_cons_zero]
      go_simp
      refine (HCL.out _ FA.out.drew).mono ?_
      rintro e w5 ⟨A2, c2, rfl, hrow, f⟩
      have F5 := hid ((Fr.refl No W1).drew.trans f (fun _ _ h => h))
      have FX := hid (FA.out.trans F5.out (fun _ _ h => h))
      have HR5 := hid (rowSi_frNo HR.out FX.out)
      have HA5 := hid (hrow.more (base' := w.heap.size) (by have h1 := FR.out.size; have h2 := FA.out.size; simp only [World.drew] at *; omega) (fun _ h => h))
      clear hrow f HCL
      refine hK _ _ (F5.out.mono (fun _ _ h => h.elim)) ?_
      clear hK K
      repeat (first
        | (refine wpT_skip rfl rfl ?_; simp only [List.getElem_toArray, List.getElem_cons_succ, List.getElem_cons_zero, Act.put, List.setIfInBounds_toArray, List.set_cons_zero, List.set_cons_succ])
        | (refine wpT_call rfl rfl ?_; simp only [List.getElem_toArray, List.getElem_cons_succ, List.getElem_cons_zero]; apply Exists.intro; refine ⟨fun X hX => ?_, ?_⟩
           · (obtain ⟨s0, s1⟩ := HXR.out X hX; go_simp; exact stillUpon_value)
           simp only [Act.put, List.setIfInBounds_toArray, List.set_cons_zero, List.set_cons_succ]))
      refine wpT_eff rfl rfl (fun K hK => ?_)
      simp only [List.getElem_toArray, List.getElem_cons_succ, List.getElem_cons_zero]
      go_simp
      have FL := (Fr.refl No w5).alloc (.cells #[.int .i64 x.to, .slice A2 n2 c2] 44)
      have F6 := hid (F5.out.trans FL (fun _ _ h => h))
      have FX6 := hid (FX.out.trans FL (fun _ _ h => h))
      have HR6 := hid (rowSi_frNo HR5.out FL)
      have HA6 := hid (HA5.out.fr FL (fun _ h => h.elim) (fun _ _ h => h))
      have BL := hid (Blk.new w5 44 #[.int .i64 x.to, .slice A2 n2 c2])
      clear FL F5 FX HR5 HA5
      generalize w5.alloc (.cells #[.int .i64 x.to, .slice A2 n2 c2] 44) = w6 at *
      generalize w5.heap.size = ql at *
      refine hK _ _ (F6.out.mono (fun _ _ h => h.elim)) ?_
      clear hK K
      repeat (first
        | (refine wpT_skip rfl rfl ?_; simp only [List.getElem_toArray, List.getElem_cons_succ, List.getElem_cons_zero, Act.put, List.setIfInBounds_toArray, List.set_cons_zero, List.set_cons_succ])
        | (refine wpT_call rfl rfl ?_; simp only [List.getElem_toArray, List.getElem_cons_succ, List.getElem_cons_zero]; apply Exists.intro; refine ⟨fun X hX => ?_, ?_⟩
           · (obtain ⟨s0, s1⟩ := HXR.out X hX; go_simp; exact stillUpon_value)
           simp only [Act.put, List.setIfInBounds_toArray, List.set_cons_zero, List.set_cons_succ]))
      obtain ⟨hc1, hc2, hael⟩ := row_els (by have h := HA6.out; rw [← HN2.out] at h; exact h)
      have hcs : Css tEd w6 (Sn w.heap.size w6) [[.int .i64 x.to, .slice A2 n2 c2]] [x] := Css.one (by have := Ed_mk (w := w6) (S := Sn w.heap.size w6) (a := x) HWF.out hc1 hc2 hael; rw [HN2.out] at this; exact this)
      have HCS := hid hcs
      have htl : (es.take k).length = k := by rw [List.length_take, HM.out]; omega
      have HTL := hid htl
      have hnt : Hid (∀ j, Sn w.heap.size w6 j → j < w6.heap.size ∧ ¬ some j = (Value.slice A k c).ownBlock) := hid fun j hj => ⟨hj.lt, fun e => by
        obtain ⟨_, cs, hb⟩ := HR6.out.own e.symm
        obtain ⟨_, cs', hb'⟩ := hj
        exact Blk.ne_ hb hb' (by decide) rfl⟩
      clear hcs htl hael hc1 hc2 HA6
      refine wpT_eff rfl rfl (fun K hK => ?_)
      simp only [List.getElem_toArray, List.getElem_cons_succ, List.getElem_cons_zero]
      refine opwp_appC (t := tEd) (P := Try.prog) (base := w.heap.size) (S := Sn w.heap.size w6) (v := .slice A k c) (xs := es.take k) (ys := [x]) (B2 := w6.heap.size) (m := 1) (dss := [[.int .i64 x.to, .slice A2 n2 c2]]) elEds rfl rfl rfl HR6.out HCS.out (by simpa using Rd.blk BL.out BL.out.lt 0 (xs := [.int .i64 x.to, .slice A2 n2 c2]) (fun i u h => by rw [Nat.zero_add]; simpa using h)) rfl (by rw [HTL.out]; omega) (by rw [HTL.out]; omega) hnt.out (by have h1 := FR.out.size; have h2 := FX6.out.size; omega) ?_
      intro v7 w7 hr fr1 hv
      have HSV := hid ((F6.out.mono (M := fun j => some j = (Value.slice A k c).ownBlock) (fun _ _ h => h.elim)).trans fr1 (fun _ _ h => h))
      have F7 := hid (own_frame HR6.out (FR.out.trans FX6.out (fun _ _ h => h)) fr1 (Nat.le_refl _))
      rw [← HTK.out] at hr
      have HR7 := hid (hr.more (Nat.le_refl _) (Sn.fr fr1 (fun j cs hm hb => by
        obtain ⟨_, cs', hb'⟩ := HR6.out.own hm.symm
        exact Blk.ne_ hb' hb (by decide) rfl)))
      refine hK _ _ HSV.out ?_
      clear hK K hr fr1 hv HSV HR6 HCS
      simp only [Act.put, List.setIfInBounds_toArray, List.set_cons_zero, List.set_cons_succ]
      repeat (first
        | (refine wpT_skip rfl rfl ?_; simp only [List.getElem_toArray, List.getElem_cons_succ, List.getElem_cons_zero, Act.put, List.setIfInBounds_toArray, List.set_cons_zero, List.set_cons_succ])
        | (refine wpT_call rfl rfl ?_; simp only [List.getElem_toArray, List.getElem_cons_succ, List.getElem_cons_zero]; apply Exists.intro; refine ⟨fun X hX => ?_, ?_⟩
           · (obtain ⟨s0, s1⟩ := HXR.out X hX; go_simp; exact stillUpon_value)
           simp only [Act.put, List.setIfInBounds_toArray, List.set_cons_zero, List.set_cons_succ]))
      refine wpT_nil ?_
      obtain ⟨A8, c8, e8, _, _, _⟩ := HR7.out.els (S' := fun _ => True) (fun _ _ => trivial) (fun _ _ => trivial)
      have htl1 : (es.take (k + 1)).length = k + 1 := by rw [List.length_take, HM.out]; omega
      rw [htl1] at e8
      subst e8
      clear HXR htl1
      go_wp2
      go_round
      case rel => exact ⟨k + 1, A8, c8, by omega, by go_num, rfl, HR7, F7⟩
      case measure => simp [intOf]; omega
    · have hkm : m = k := by omega
      subst hkm
      clear hgo
      have htk : es.take m = es := List.take_of_length_le (by rw [HM.out]; exact Nat.le_refl _)
      rw [htk] at HR
      go_wp2
      go_ret
      refine ⟨A, c, ?_, ?_, FR.out⟩
      · rw [HM.out]
        first | done | rfl
      · rw [HM.out]; exact HR.out
end Go.Proofs.Ytiafkakkbbclhaa
