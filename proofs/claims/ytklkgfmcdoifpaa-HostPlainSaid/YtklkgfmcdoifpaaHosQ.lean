/- Contract: alive. -/
import Derived.Test.YtklkgfmcdoifpaaHosO
namespace Go.Proofs.Ytklkgfmcdoifpaa
open Go.RowKit

def zeroH : Ho := ⟨⟨#[]⟩, ⟨#[]⟩, ⟨[], []⟩, []⟩
theorem find_five : findFrom ⟨#[109]⟩ ⟨#[110]⟩ [zeroH, fiveH] 0 = 1 := by
  simp [findFrom, findAt, zeroH, fiveH, ByteArray.toList_eq]
theorem ho_mk {w : World} {B : Nat} {h : Ho} {A1 A2 A3 : Option Addr} {c1 c2 c3 : Nat} (ok : HoOk w B h A1 A2 A3) (h1 : h.ty.params.length ≤ c1) (h2 : h.ty.results.length ≤ c2) (h3 : h.acts.length ≤ c3) (m1 : c1 ≤ maxLen) (m2 : c2 ≤ maxLen) (m3 : c3 ≤ maxLen) :
    tHo.rd w B [.string h.mod, .string h.name, .slice A1 h.ty.params.length c1, .slice A2 h.ty.results.length c2, .slice A3 h.acts.length c3] h :=
  ⟨[.string h.mod], [.string h.name, .slice A1 h.ty.params.length c1, .slice A2 h.ty.results.length c2, .slice A3 h.acts.length c3], rfl, ⟨rfl, by have := ok.lm; simp only [maxLen]; omega⟩,
    [.string h.name], [.slice A1 h.ty.params.length c1, .slice A2 h.ty.results.length c2, .slice A3 h.acts.length c3], rfl, ⟨rfl, by have := ok.ln; simp only [maxLen]; omega⟩,
    [.slice A1 h.ty.params.length c1, .slice A2 h.ty.results.length c2], [.slice A3 h.acts.length c3], rfl,
    ⟨[.slice A1 h.ty.params.length c1], [.slice A2 h.ty.results.length c2], rfl, ⟨A1, c1, rfl, h1, m1, ok.p⟩, A2, c2, rfl, h2, m2, ok.r⟩, A3, c3, rfl, h3, m3, ok.a⟩
theorem zero_ok (w : World) (B : Nat) : HoOk w B zeroH none none none := ⟨.inl rfl, .inl rfl, .inl rfl, by decide, by decide, by decide, by decide, by decide, by decide⟩
instance : TyMore tFn := by unfold tFn tFn0; infer_instance
instance : TyMore tHo := by unfold tHo tHo0; infer_instance

set_option maxHeartbeats 3200000 in
theorem alive_any (w : World) : Calls Try.prog 9 #[] w fun e w' => e = .returned (.bool true) ∧ Fr No w w' := by
  go_enter Try.func9, Try.ntmps9
  go_wp2_with fail
  refine (five_any _).mono ?_
  rintro e w1 ⟨A2, A3, rfl, ok1, f1⟩
  have OK1 := hid ok1
  have F1 := hid f1
  clear ok1 f1
  go_wp2_with fail
  have G := hid (Blk.new w1 27 #[.string ⟨#[109]⟩, .string ⟨#[110]⟩, .slice none 0 0, .slice A2 1 1, .slice A3 2 2])
  have OK2 := hid ((OK1.out.fr (Nat.le_refl _) ((Fr.refl No w1).alloc (.cells #[.string ⟨#[109]⟩, .string ⟨#[110]⟩, .slice none 0 0, .slice A2 1 1, .slice A3 2 2] 27))).more (by simp : w1.heap.size ≤ (w1.alloc (.cells #[.string ⟨#[109]⟩, .string ⟨#[110]⟩, .slice none 0 0, .slice A2 1 1, .slice A3 2 2] 27)).heap.size))
  have F2 := hid (F1.out.alloc (.cells #[.string ⟨#[109]⟩, .string ⟨#[110]⟩, .slice none 0 0, .slice A2 1 1, .slice A3 2 2] 27))
  have hg : w1.heap.size < (w1.alloc (.cells #[.string ⟨#[109]⟩, .string ⟨#[110]⟩, .slice none 0 0, .slice A2 1 1, .slice A3 2 2] 27)).heap.size := G.out.lt
  generalize w1.alloc (.cells #[.string ⟨#[109]⟩, .string ⟨#[110]⟩, .slice none 0 0, .slice A2 1 1, .slice A3 2 2] 27) = W at *
  generalize w1.heap.size = g at *
  clear F1 OK1
  have AF : Calls Try.prog 12 #[.agg #[.string ⟨#[109]⟩, .string ⟨#[110]⟩, .slice none 0 0, .slice A2 1 1, .slice A3 2 2], .int .i64 3] W (ActTo ⟨1, [], 0, 0, 0⟩ W) := act_some fiveH none A2 A3 _ _ _ W.heap.size 3 1 W (Nat.le_refl _) OK2.out.a (by decide) (by decide) (by decide) (by decide) (by decide) (by decide)
  have HA := hid AF
  clear AF
  refine HA.out.mono ?_
  clear HA
  rintro e w2 ⟨A, c, rfl, -, f2⟩
  simp only [List.length_nil]
  have F3 := hid f2
  clear f2
  obtain ⟨b, o, LA, cv, rfl, hb, y0, y1, y2, y3, y4, _, _, hv, _⟩ := ac_at OK2.out.a 0 (by decide)
  have HX : Hid (∀ X, Fr No W X → (X.cell? ⟨g, 0, none⟩ = some (.string ⟨#[109]⟩) ∧ X.cell? ⟨g, 1, none⟩ = some (.string ⟨#[110]⟩) ∧ X.cell? ⟨g, 2, none⟩ = some (.slice none 0 0) ∧ X.cell? ⟨g, 3, none⟩ = some (.slice A2 1 1) ∧ X.cell? ⟨g, 4, none⟩ = some (.slice (some ⟨b, o, none⟩) 2 2)) ∧
      X.cell? ⟨b, o, none⟩ = some (.int .i64 0) ∧ X.cell? ⟨b, o + 1, none⟩ = some (.slice LA 1 cv) ∧ X.cell? ⟨b, o + 2, none⟩ = some (.int .i64 0) ∧ X.cell? ⟨b, o + 3, none⟩ = some (.int .i64 0) ∧ X.cell? ⟨b, o + 4, none⟩ = some (.int .u8 0)) := fun X f =>
    ⟨⟨(G.out.fr f (fun x => x)).cell 0, (G.out.fr f (fun x => x)).cell 1, (G.out.fr f (fun x => x)).cell 2, (G.out.fr f (fun x => x)).cell 3, (G.out.fr f (fun x => x)).cell 4⟩,
     (f.cell (p := ⟨b, _, none⟩) hb (fun x => x)).trans y0, (f.cell (p := ⟨b, _, none⟩) hb (fun x => x)).trans y1, (f.cell (p := ⟨b, _, none⟩) hb (fun x => x)).trans y2, (f.cell (p := ⟨b, _, none⟩) hb (fun x => x)).trans y3, (f.cell (p := ⟨b, _, none⟩) hb (fun x => x)).trans y4⟩
  have HV : Hid (tVl.els W W.heap.size LA [⟨1, 5⟩]) := hv
  clear y0 y1 y2 y3 y4 hv
  obtain ⟨⟨x0, x1, x2, x3, x4⟩, -⟩ := HX.out _ F3.out
  go_wp2_with fail
  have KB := hid (Blk.new w2 32 #[.int .i64 1, .slice A 0 c, .int .i64 0, .int .i64 0, .int .u8 0])
  have F4 := hid (F3.out.alloc (.cells #[.int .i64 1, .slice A 0 c, .int .i64 0, .int .i64 0, .int .u8 0] 32))
  generalize w2.alloc (.cells #[.int .i64 1, .slice A 0 c, .int .i64 0, .int .i64 0, .int .u8 0] 32) = W2 at *
  generalize w2.heap.size = g2 at *
  clear F3 x0 x1 x2 x3 x4
  refine wp_region_ord (fun X => (X.cell? ⟨g, 0, none⟩ = some (.string ⟨#[109]⟩) ∧ X.cell? ⟨g, 1, none⟩ = some (.string ⟨#[110]⟩) ∧ X.cell? ⟨g, 2, none⟩ = some (.slice none 0 0) ∧ X.cell? ⟨g, 3, none⟩ = some (.slice A2 1 1) ∧ X.cell? ⟨g, 4, none⟩ = some (.slice (some ⟨b, o, none⟩) 2 2)) ∧
      X.cell? ⟨b, o, none⟩ = some (.int .i64 0) ∧ X.cell? ⟨b, o + 1, none⟩ = some (.slice LA 1 cv) ∧ X.cell? ⟨b, o + 2, none⟩ = some (.int .i64 0) ∧ X.cell? ⟨b, o + 3, none⟩ = some (.int .i64 0) ∧ X.cell? ⟨b, o + 4, none⟩ = some (.int .u8 0)) [] [(0, true), (1, true), (2, true), (3, true), (4, true), (5, true), (6, false), (7, true), (8, true), (9, true), (10, true), (11, true)] (by kernel_rfl) (by kernel_rfl) (by kernel_rfl) rfl (HX.out _ F4.out.drew) ?_
  repeat (first
    | (refine wpO_skip rfl rfl ?_; simp only [List.getElem_toArray, List.getElem_cons_succ, List.getElem_cons_zero, Act.put, List.setIfInBounds_toArray, List.set_cons_zero, List.set_cons_succ])
    | (refine wpO_call rfl rfl ?_; simp only [List.getElem_toArray, List.getElem_cons_succ, List.getElem_cons_zero]; apply Exists.intro; refine ⟨fun X hX => ?_, ?_⟩
       · (obtain ⟨⟨s0, s1, s2, s3, s4⟩, s5, s6, s7, s8, s9⟩ := hX; go_simp; exact stillUpon_value)
       simp only [Act.put, List.setIfInBounds_toArray, List.set_cons_zero, List.set_cons_succ]))
  refine wpO_eff rfl rfl (fun K hK => ?_)
  simp only [List.getElem_toArray, List.getElem_cons_succ, List.getElem_cons_zero]
  go_simp
  refine (hans_yes 0 0 0 0 [⟨1, 5⟩] 0 [1] LA none A2 _ _ _ W.heap.size _ F4.out.drew.size (HV.out.fr (Nat.le_refl _) F4.out.drew (fun _ _ x => x)) (OK2.out.r.fr (Nat.le_refl _) F4.out.drew (fun _ _ x => x)) (by decide) (by decide) (.inl rfl) (by rfl)).mono ?_
  rintro e w3 ⟨Q, cq, rfl, hq, f3⟩
  simp only [List.length_nil, List.length_cons, Nat.zero_add]
  have F5 := hid (F4.out.drew.trans f3 (fun _ _ h => h))
  have K3 := hid (KB.out.drew.fr f3 (fun x => x))
  have HQ := hid hq
  clear hq f3
  refine hK _ _ (fun _ => HX.out _ F5.out) ?_
  clear hK K
  repeat (first
    | (refine wpO_skip rfl rfl ?_; simp only [List.getElem_toArray, List.getElem_cons_succ, List.getElem_cons_zero, Act.put, List.setIfInBounds_toArray, List.set_cons_zero, List.set_cons_succ])
    | (refine wpO_call rfl rfl ?_; simp only [List.getElem_toArray, List.getElem_cons_succ, List.getElem_cons_zero]; apply Exists.intro; refine ⟨fun X hX => ?_, ?_⟩
       · (go_simp; exact stillUpon_value)
       simp only [Act.put, List.setIfInBounds_toArray, List.set_cons_zero, List.set_cons_succ]))
  refine wpO_nil ?_
  obtain ⟨⟨x0, x1, x2, x3, x4⟩, -⟩ := HX.out _ F5.out
  have z0 : w3.cell? ⟨g2, 0, none⟩ = some (.int .i64 1) := K3.out.cell 0
  clear F4 KB
  go_wp2_with fail
  have HR : Hid (Calls Try.prog 10 #[.agg #[.string ⟨#[109]⟩, .string ⟨#[110]⟩, .slice none 0 0, .slice A2 1 1, .slice (some ⟨b, o, none⟩) 2 2]] w3 fun e w' => e = .returned (.bool true) ∧ Fr No w3 w') :=
    hright_any fiveH none A2 (some ⟨b, o, none⟩) 0 1 2 W.heap.size w3 F5.out.size (OK2.out.fr (Nat.le_refl _) F5.out)
  refine HR.out.mono ?_
  clear HR x0 x1 x2 x3 x4 z0
  rintro e w4 ⟨rfl, f4⟩
  have F6 := hid (F5.out.trans f4 (fun _ _ h => h))
  obtain ⟨⟨x0, x1, x2, x3, x4⟩, -⟩ := HX.out _ F6.out
  have z0 : w4.cell? ⟨g2, 0, none⟩ = some (.int .i64 1) := (K3.out.fr f4 (fun x => x)).cell 0
  obtain ⟨bq, oq, rfl, hbq, q0, q1, -⟩ := vl_at (HQ.out.fr (Nat.le_refl _) f4 (fun _ _ x => x)) 0 (by decide)
  have q2 : w4.cell? ⟨bq, oq + 1, none⟩ = some (.int .u64 5) := q1
  clear q0 q1 F5 K3 HQ f4
  go_wp2_with fail
  have BZ := Blk.new w4 27 #[.string ⟨#[]⟩, .string ⟨#[]⟩, .slice none 0 0, .slice none 0 0, .slice none 0 0, .string ⟨#[109]⟩, .string ⟨#[110]⟩, .slice none 0 0, .slice A2 1 1, .slice (some ⟨b, o, none⟩) 2 2]
  have F7 := hid (F6.out.alloc (.cells #[.string ⟨#[]⟩, .string ⟨#[]⟩, .slice none 0 0, .slice none 0 0, .slice none 0 0, .string ⟨#[109]⟩, .string ⟨#[110]⟩, .slice none 0 0, .slice A2 1 1, .slice (some ⟨b, o, none⟩) 2 2] 27))
  have OK7 := (OK2.out.fr (Nat.le_refl _) F7.out).more F7.out.size
  have HE : Hid (tHo.els (w4.alloc (.cells #[.string ⟨#[]⟩, .string ⟨#[]⟩, .slice none 0 0, .slice none 0 0, .slice none 0 0, .string ⟨#[109]⟩, .string ⟨#[110]⟩, .slice none 0 0, .slice A2 1 1, .slice (some ⟨b, o, none⟩) 2 2] 27)) (w4.alloc (.cells #[.string ⟨#[]⟩, .string ⟨#[]⟩, .slice none 0 0, .slice none 0 0, .slice none 0 0, .string ⟨#[109]⟩, .string ⟨#[110]⟩, .slice none 0 0, .slice A2 1 1, .slice (some ⟨b, o, none⟩) 2 2] 27)).heap.size (some ⟨w4.heap.size, 0, none⟩) [zeroH, fiveH]) :=
    blk_els (css := [[.string ⟨#[]⟩, .string ⟨#[]⟩, .slice none 0 0, .slice none 0 0, .slice none 0 0], [.string ⟨#[109]⟩, .string ⟨#[110]⟩, .slice none 0 0, .slice A2 1 1, .slice (some ⟨b, o, none⟩) 2 2]]) BZ BZ.lt
      (Css.append (css := [_]) (dss := [_]) (xs := [_]) (ys := [_]) (Css.one (ho_mk (h := zeroH) (zero_ok _ _) (by decide) (by decide) (by decide) (by simp [maxLen]) (by simp [maxLen]) (by simp [maxLen]))) (Css.one (ho_mk (h := fiveH) (c1 := 0) (c2 := 1) (c3 := 2) OK7 (by decide) (by decide) (by decide) (by simp [maxLen]) (by simp [maxLen]) (by simp [maxLen]))))
  refine (find_any _ [zeroH, fiveH] ⟨#[109]⟩ ⟨#[110]⟩ 2 _ _ HE.out (by decide)).mono ?_
  rintro e w5 ⟨rfl, rfl⟩
  rw [find_five]
  clear BZ OK7 HE
  go_wp2_with fail
  go_ret
  exact ⟨rfl, (by assumption : Hid (Fr No w W)).out.trans F7.out (fun _ _ h => h)⟩
end Go.Proofs.Ytklkgfmcdoifpaa
