/- The reference's contract: Declared. -/
import Derived.Test.YtfngopoaegofhaaSpV
namespace Go.Proofs.Ytfngopoaegofhaa
open Go.RowKit

set_option maxRecDepth 100000 in
set_option maxHeartbeats 6400000 in
theorem rDecl_any (nt ni nf nta nm ng ne nel nd nc ct ci cf cta cm cg ce cel cd cc : Nat) (At Ai Af Ata Am Ag Ae Ael Ad Ac : Option Addr) (bst : Bool) (vst : Int) (w : World) (m : Md) (i : Int) (S : Nat → Prop) (hI : tIm.els w S Ai m.imports) (hE : tEx.els w S Ae m.exports) (hG : tGd.els w S Ag m.globals) (hL : tEl.els w S Ael m.elems) (hS : ∀ k, S k → k < w.heap.size)
    (ei : Hid (m.imports.length = ni)) (ef : Hid (m.funcs.length = nf)) (ee : Hid (m.exports.length = ne)) (eg : Hid (m.globals.length = ng)) (eel : Hid (m.elems.length = nel)) (li : ni ≤ 101) (lf : nf ≤ 100) (lg : ng ≤ 100) (le : ne ≤ 200) (lel : nel ≤ 50)
    (hgi : Hid (∀ g ∈ m.globals, g.init.length ≤ 140737488351232)) (hit : Hid (∀ e ∈ m.elems, e.items.length ≤ 500)) (hii : Hid (∀ e ∈ m.elems, ∀ l ∈ e.items, l.length ≤ 140737488351232)) :
    Calls Try.prog 23 #[.agg #[.slice At nt ct, .slice Ai ni ci, .slice Af nf cf, .slice Ata nta cta, .slice Am nm cm, .slice Ag ng cg, .slice Ae ne ce, .bool bst, .int .i64 vst, .slice Ael nel cel, .slice Ad nd cd, .slice Ac nc cc], .int .i64 i] w fun e w' => e = .returned (.bool (rDeclB m i)) ∧ Fr No w w' := by
  have F0 := hid ((Fr.refl No w).alloc (.cells #[.slice At nt ct, .slice Ai ni ci, .slice Af nf cf, .slice Ata nta cta, .slice Am nm cm, .slice Ag ng cg, .slice Ae ne ce, .bool bst, .int .i64 vst, .slice Ael nel cel, .slice Ad nd cd, .slice Ac nc cc] 33))
  have G0 := hid (Blk.new w 33 #[.slice At nt ct, .slice Ai ni ci, .slice Af nf cf, .slice Ata nta cta, .slice Am nm cm, .slice Ag ng cg, .slice Ae ne ce, .bool bst, .int .i64 vst, .slice Ael nel cel, .slice Ad nd cd, .slice Ac nc cc])
  have HFn := hid (fun W (F : Fr No w W) => rFuncs_any nt ni nf nta nm ng ne nel nd nc ct ci cf cta cm cg ce cel cd cc At Ai Af Ata Am Ag Ae Ael Ad Ac bst vst W m.imports S (hI.fr F (fun k hk => ⟨hS k hk, fun x => x⟩)) (fun k hk => Nat.lt_of_lt_of_le (hS k hk) F.size) ei li lf)
  have HD : Hid (∀ b, rDeclB m i = b ↔ (decide (0 ≤ i) && (decide (i < (impN m.imports 0 : Nat) + nf) && (globB m.globals i || elemB m.elems i || expB m.exports i))) = b) := fun b => by rw [rDeclB, ef.out]
  generalize hB : rDeclB m i = B at *
  have hN : impN m.imports 0 ≤ 101 := by have := impN_le m.imports 0; have := ei.out; omega
  generalize impN m.imports 0 = N at *
  by_cases h0 : i < 0
  · have hR : B = false := (HD.out false).2 (by rw [show decide (0 ≤ i) = false from decide_eq_false (by omega)]; rfl)
    subst hR
    clear hI hE hG hL hS HFn HD hB
    go_enter Try.func23, Try.ntmps23
    go_wp2
    go_ret
    exact ⟨rfl, F0.out⟩
  by_cases h1 : (N : Int) + nf ≤ i
  · have hR : B = false := (HD.out false).2 (by rw [show decide (i < (N : Int) + nf) = false from decide_eq_false (by omega)]; simp)
    subst hR
    clear hI hE hG hL hS HD hB
    go_enter Try.func23, Try.ntmps23
    go_wp2_with fail
    refine (HFn.out _ F0.out).mono ?_
    rintro e w1 ⟨rfl, f1⟩
    have F1 := hid (F0.out.trans f1 (fun _ _ h => h))
    clear f1
    go_wp2
    go_ret
    exact ⟨rfl, F1.out⟩
  have HR : Hid (B = (globB m.globals i || elemB m.elems i || expB m.exports i)) := by
    exact (HD.out _).2 (by rw [show decide (0 ≤ i) = true from decide_eq_true (by omega), show decide (i < (N : Int) + nf) = true from decide_eq_true (by omega)]; simp)
  clear HD hB
  go_enter Try.func23, Try.ntmps23
  go_wp2_with fail
  refine (HFn.out _ F0.out).mono ?_
  rintro e w1 ⟨rfl, f1⟩
  have F1 := hid (F0.out.trans f1 (fun _ _ h => h))
  have G1 := hid (G0.out.fr f1 (fun x => x))
  have HE := hid (hE.fr F1.out (fun k hk => ⟨hS k hk, fun x => x⟩))
  have HG := hid (hG.fr F1.out (fun k hk => ⟨hS k hk, fun x => x⟩))
  have HL := hid (hL.fr F1.out (fun k hk => ⟨hS k hk, fun x => x⟩))
  have x5 : w1.cell? ⟨w.heap.size, 5, none⟩ = some (.slice Ag ng cg) := G1.out.cell 5
  have x6 : w1.cell? ⟨w.heap.size, 6, none⟩ = some (.slice Ae ne ce) := G1.out.cell 6
  have x9 : w1.cell? ⟨w.heap.size, 9, none⟩ = some (.slice Ael nel cel) := G1.out.cell 9
  clear f1 hI hE hG hL HFn G0 G1 hS
  generalize w.heap.size = gb at *
  go_wp2
  go_loop [5] (fun j => ∃ k : Nat, k ≤ ne ∧ j = .int .i64 k ∧ Hid (expB (m.exports.take k) i = false)) (fun j => ne - (intOf j).toNat)
  case atStart => exact ⟨0, by omega, rfl, by simp [Hid, expB]⟩
  case round =>
    obtain ⟨k, hk, rfl, HA⟩ := hrel
    by_cases hlt : k < ne
    · have hlk : k < m.exports.length := by have := ee.out; omega
      obtain ⟨b, o, rfl, hb, c0, c1, c2, _⟩ := Ex_at HE.out k hlk
      have i0 : (0 : Int) ≤ k := by omega
      have i1 : (k : Int) < ne := by omega
      have HST := hid (fun h => any_step (p := fun (e : Ex) => e.kind == 0 && e.index == i) hlk HA.out h)
      have HSP := hid (fun h => any_stop (p := fun (e : Ex) => e.kind == 0 && e.index == i) hlk h)
      generalize m.exports[k] = ex at *
      cases e0 : (ex.kind == 0) with
      | true =>
        cases e1 : (ex.index == i) with
        | true =>
          have HX := hid (HSP.out (by simp only [e0, e1, Bool.and_self]))
          go_wp2
          go_ret
          exact ⟨rt_bool (by rw [HR.out, expB, HX.out]; simp), F1.out⟩
        | false =>
          have HX := hid (HST.out (by simp only [e0, e1, Bool.and_false]))
          go_wp2
          go_round
          case rel => exact ⟨k + 1, by omega, by go_num, HX.out⟩
          case measure => simp [intOf]; omega
      | false =>
        have HX := hid (HST.out (by simp only [e0, Bool.false_and]))
        go_wp2
        go_round
        case rel => exact ⟨k + 1, by omega, by go_num, HX.out⟩
        case measure => simp [intOf]; omega
    · have HXE : Hid (expB m.exports i = false) := any_all (by have := ee.out; omega) HA.out
      clear HA HE
      go_wp2

      go_loop [6] (fun j => ∃ k : Nat, k ≤ ng ∧ j = .int .i64 k ∧ Hid (globB (m.globals.take k) i = false)) (fun j => ng - (intOf j).toNat)
      case atStart => exact ⟨0, by omega, rfl, by simp [Hid, globB]⟩
      case round =>
        obtain ⟨k, hk, rfl, HA⟩ := hrel
        by_cases hlt : k < ng
        · have hlk : k < m.globals.length := by have := eg.out; omega
          have HXX := hid (Gd_at HG.out k hlk)
          obtain ⟨b, o, A', c', rfl, hb, _, _, c2, _, _, _, he⟩ := HXX.out
          have i0 : (0 : Int) ≤ k := by omega
          have i1 : (k : Int) < ng := by omega
          have HST := hid (fun h => any_step (p := fun (g : Gd) => namesB g.init i) hlk HA.out h)
          have HSP := hid (fun h => any_stop (p := fun (g : Gd) => namesB g.init i) hlk h)
          have hle := hgi.out _ (List.getElem_mem hlk)
          have HNM := hid (rNames_any A' _ c' _ i w1 S he rfl hle)
          clear HXX he hle
          generalize m.globals[k] = gd at *
          go_wp2_with fail
          refine HNM.out.mono ?_
          clear HNM
          cases hv : namesB gd.init i with
          | true =>
            have HX := hid (HSP.out hv)
            rintro e w' ⟨rfl, rfl⟩
            go_wp2
            go_ret
            exact ⟨rt_bool (by rw [HR.out, globB, HX.out]; simp), F1.out⟩
          | false =>
            have HX := hid (HST.out hv)
            rintro e w' ⟨rfl, rfl⟩
            go_wp2
            go_round
            case rel => exact ⟨k + 1, by omega, by go_num, HX.out⟩
            case measure => simp [intOf]; omega
        · have HXG : Hid (globB m.globals i = false) := any_all (by have := eg.out; omega) HA.out
          clear HA HG
          go_wp2
          go_loop [7] (fun j => ∃ k : Nat, k ≤ nel ∧ j = .int .i64 k ∧ Hid (elemB (m.elems.take k) i = false)) (fun j => nel - (intOf j).toNat)
          case atStart => exact ⟨0, by omega, rfl, by simp [Hid, elemB]⟩
          case round =>
            obtain ⟨k, hk, rfl, HA⟩ := hrel
            by_cases hlt : k < nel
            · have hlk : k < m.elems.length := by have := eel.out; omega
              have HXX := hid (El_at HL.out k hlk)
              obtain ⟨b, o, A', c', A'', c'', rfl, hb, _, _, _, _, c4, _, _, _, _, _, _, _, he⟩ := HXX.out
              have i0 : (0 : Int) ≤ k := by omega
              have i1 : (k : Int) < nel := by omega
              have HST := hid (fun h => any_step (p := fun (e : El) => e.items.any (fun x => namesB x i)) hlk HA.out h)
              have HSP := hid (fun h => any_stop (p := fun (e : El) => e.items.any (fun x => namesB x i)) hlk h)
              have hle := hit.out _ (List.getElem_mem hlk)
              have HII := hid (hii.out _ (List.getElem_mem hlk))
              have HIT := hid he
              clear HXX he
              generalize m.elems[k].items = its at *
              generalize hq : its.length = nq at *
              have HQ := hid hq
              clear hq
              go_wp2
              go_loop [8] (fun j => ∃ q : Nat, q ≤ nq ∧ j = .int .i64 q ∧ Hid ((its.take q).any (fun x => namesB x i) = false)) (fun j => nq - (intOf j).toNat)
              case atStart => exact ⟨0, by omega, rfl, by simp [Hid]⟩
              case round =>
                obtain ⟨q, hq, rfl, HB⟩ := hrel
                by_cases hql : q < nq
                · have hqk : q < its.length := by have := HQ.out; omega
                  obtain ⟨b2, o2, Ax, cx, rfl, hb2, y0, hex⟩ := lists_at HIT.out q hqk
                  have j0 : (0 : Int) ≤ q := by omega
                  have j1 : (q : Int) < nq := by omega
                  have HST2 := hid (fun h => any_step (p := fun x => namesB x i) hqk HB.out h)
                  have HSP2 := hid (fun h => any_stop (p := fun x => namesB x i) hqk h)
                  have hle2 := HII.out _ (List.getElem_mem hqk)
                  generalize its[q] = ix at *
                  have HNM := hid (rNames_any Ax _ cx ix i w1 S hex rfl hle2)
                  clear hex hle2
                  go_wp2_with fail
                  refine HNM.out.mono ?_
                  clear HNM
                  cases hv : namesB ix i with
                  | true =>
                    have HX := hid (HSP.out (HSP2.out hv))
                    rintro e w' ⟨rfl, rfl⟩
                    go_wp2
                    go_ret
                    exact ⟨rt_bool (by rw [HR.out, elemB, HX.out]; simp), F1.out⟩
                  | false =>
                    have HX := hid (HST2.out hv)
                    rintro e w' ⟨rfl, rfl⟩
                    go_wp2
                    go_round
                    case rel => exact ⟨q + 1, by omega, by go_num, HX.out⟩
                    case measure => simp [intOf]; omega
                · have HX := hid (HST.out (any_all (by have := HQ.out; omega) HB.out))
                  go_wp2
                  go_round
                  case rel => exact ⟨k + 1, by omega, by go_num, HX.out⟩
                  case measure => simp [intOf]; omega
            · have HXL : Hid (elemB m.elems i = false) := any_all (by have := eel.out; omega) HA.out
              clear HA HL
              go_wp2
              go_ret
              exact ⟨rt_bool (by rw [HR.out, HXG.out, HXL.out, HXE.out]; rfl), F1.out⟩
end Go.Proofs.Ytfngopoaegofhaa
