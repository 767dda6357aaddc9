/- Contract: few. -/
import Derived.Test.YtklkgfmcdoifpaaHosH
namespace Go.Proofs.Ytklkgfmcdoifpaa
open Go.RowKit

def fewH (h : Ho) : Prop := h.acts.length ≤ 50 ∧ (∀ i (hi : i < h.acts.length), h.acts[i].vals.length ≤ 500) ∧ h.ty.params.length ≤ 50 ∧ h.ty.results.length ≤ 50 ∧ h.mod.size ≤ 200 ∧ h.name.size ≤ 200
def FewPost (h : Ho) (w : World) (e : Ending) (w' : World) : Prop := ∃ r : Bool, e = .returned (.bool r) ∧ (r = true → fewH h) ∧ Fr No w w'
structure HoFew (h : Ho) (n : Int) (k : Nat) : Prop where
  lo : 0 ≤ n
  hi : n ≤ 500 + 140737488351232
  ub : ∀ i (hi : i < h.acts.length), i < k → (h.acts[i].vals.length : Int) ≤ n
theorem HoFew.next {h : Ho} {n : Int} {k : Nat} (f : HoFew h n k) (hn : n ≤ 500) (hk : k < h.acts.length) (hl : h.acts[k].vals.length ≤ 140737488351232) : HoFew h (n + h.acts[k].vals.length) (k + 1) :=
  ⟨by have := f.lo; omega, by omega, fun i hi hik => by
    by_cases e : i = k
    · subst e; have := f.lo; omega
    · have := f.ub i hi (by omega); omega⟩

set_option maxHeartbeats 1600000 in
theorem few_any (h : Ho) (A1 A2 A3 : Option Addr) (c1 c2 c3 B : Nat) (w : World) (hB : B ≤ w.heap.size) (ha : tAc.els w B A3 h.acts) (hla : h.acts.length ≤ 140737488351232) (hlv : ∀ a ∈ h.acts, a.vals.length ≤ 140737488351232)
    (hp : h.ty.params.length ≤ 140737488351232) (hr : h.ty.results.length ≤ 140737488351232) (hm : h.mod.size ≤ 140737488351232) (hnm : h.name.size ≤ 140737488351232) :
    Calls Try.prog 8 #[.agg #[.string h.mod, .string h.name, .slice A1 h.ty.params.length c1, .slice A2 h.ty.results.length c2, .slice A3 h.acts.length c3]] w (FewPost h w) := by
  have F0 := hid ((Fr.refl No w).alloc (.cells #[.string h.mod, .string h.name, .slice A1 h.ty.params.length c1, .slice A2 h.ty.results.length c2, .slice A3 h.acts.length c3] 27))
  have HE := hid (ha.fr hB F0.out (fun _ _ x => x))
  have HX := hid (five_box (Fr.refl No (w.alloc (.cells #[.string h.mod, .string h.name, .slice A1 h.ty.params.length c1, .slice A2 h.ty.results.length c2, .slice A3 h.acts.length c3] 27))))
  have HLV := hid hlv
  clear ha hB hlv
  go_enter Try.func8, Try.ntmps8
  go_wp2
  generalize w.alloc (.cells #[.string h.mod, .string h.name, .slice A1 h.ty.params.length c1, .slice A2 h.ty.results.length c2, .slice A3 h.acts.length c3] 27) = W at *
  generalize w.heap.size = g at *
  obtain ⟨x0, x1, x2, x3, x4⟩ := HX.out
  go_loop [3, 4] (fun n i => ∃ (m : Int) (k : Nat), n = .int .i64 m ∧ i = .int .i64 k ∧ k ≤ h.acts.length ∧ k ≤ 60 ∧ Hid (HoFew h m k)) (fun _ i => 60 - (intOf i).toNat)
  case atStart => exact ⟨0, 0, rfl, rfl, by omega, by omega, ⟨by omega, by omega, fun i _ h => by omega⟩⟩
  case round =>
    obtain ⟨m, k, rfl, rfl, hk, hk6, HF⟩ := hrel
    have m0 := HF.out.lo
    have m1 := HF.out.hi
    by_cases hc : k < h.acts.length ∧ k < 60 ∧ m ≤ 500
    · obtain ⟨hlt, h60, hm5⟩ := hc
      have hl := HLV.out _ (List.getElem_mem hlt)
      have HN := hid (HF.out.next hm5 hlt hl)
      obtain ⟨b, o, LA, c, rfl, hb, y0, y1, _⟩ := ac_at HE.out k hlt
      generalize h.acts[k].vals.length = vl at *
      clear y0
      go_wp2
      go_round
      case rel => exact ⟨_, k + 1, rfl, by go_num, by omega, by omega, HN.out⟩
      case measure => simp [intOf]; omega
    · have HC : Hid (k < h.acts.length → k < 60 → 500 < m) := fun a b => by omega
      clear hc
      go_wp2
      all_goals first
        | (go_ret
           refine ⟨_, rfl, fun hr => ?_, F0.out⟩
           first
             | (cases hr; done)
             | (simp only [decide_eq_true_eq] at hr
                have hC := HC.out
                exact ⟨by omega, fun i hi => (by have := HF.out.ub i hi (by omega); omega), by omega, by omega, by omega, by omega⟩))
        | (exfalso; have hC := HC.out; omega)
        | trace_state
end Go.Proofs.Ytklkgfmcdoifpaa
