/- The operations of the statements on tables, as data; the contract of few. -/
import Derived.Test.YtndhbamfgihncaaTabA
import Derived.Test.YtndhbamfgihncaaTy
namespace Go.Proofs.Ytndhbamfgihncaa
open Go.RowKit

structure Act_ where
  kind : Int
  other : Bool
  to : Int
  at_ : Int
  n : Int
  ref : Int
  l : List Int

def tAct0 : Ty (Int × Bool × Int × Int × Int × Int × List Int) :=
  (Ty.int .u8).pair (Ty.bool.pair ((Ty.int .u64).pair ((Ty.int .u64).pair ((Ty.int .u64).pair ((Ty.int .u64).pair (Ty.int .u64).slice)))))
instance : TyOk tAct0 := by unfold tAct0; infer_instance
def tAct : Ty Act_ := tAct0.iso fun a => (a.kind, a.other, a.to, a.at_, a.n, a.ref, a.l)
instance : TyOk tAct := by unfold tAct; infer_instance

theorem opens_u64s : Opens Try.prog 22 (Ty.int .u64).slice := opens_slice Try.underlying22 (by kernel_rfl) (by decide) (opens_int Try.underlying23)
theorem opens_act : Opens Try.prog 55 tAct := by
  refine opens_iso _ (fun x => ⟨x.1, x.2.1, x.2.2.1, x.2.2.2.1, x.2.2.2.2.1, x.2.2.2.2.2.1, x.2.2.2.2.2.2⟩) (fun _ => rfl) ?_
  exact opens_struct Try.underlying55 (by kernel_rfl)
    (Flds.cons rfl (by kernel_rfl) (opens_int Try.underlying5) (Flds.cons rfl (by kernel_rfl) (opens_bool Try.underlying4)
    (Flds.cons rfl (by kernel_rfl) (opens_int Try.underlying23) (Flds.cons rfl (by kernel_rfl) (opens_int Try.underlying23)
    (Flds.cons rfl (by kernel_rfl) (opens_int Try.underlying23) (Flds.cons rfl (by kernel_rfl) (opens_int Try.underlying23) (Flds.one rfl (by kernel_rfl) opens_u64s)))))))
theorem opens_acts : Opens Try.prog 48 tAct.slice := opens_slice Try.underlying48 (by kernel_rfl) (by decide) opens_act

/-- The cells of an operation. -/
theorem act_cells {w : World} {B : Nat} {cs : List Value} {a : Act_} (h : tAct.rd w B cs a) : ∃ (A : Option Addr) (c : Nat),
    cs = [.int .u8 a.kind, .bool a.other, .int .u64 a.to, .int .u64 a.at_, .int .u64 a.n, .int .u64 a.ref, .slice A a.l.length c] ∧ a.l.length ≤ c ∧ c ≤ maxLen ∧ Rd w B A (a.l.map (Value.int .u64)) ∧
    (0 ≤ a.kind ∧ a.kind ≤ 255) ∧ (0 ≤ a.to ∧ a.to < 18446744073709551616) ∧ (0 ≤ a.at_ ∧ a.at_ < 18446744073709551616) ∧ (0 ≤ a.n ∧ a.n < 18446744073709551616) ∧ (0 ≤ a.ref ∧ a.ref < 18446744073709551616) := by
  obtain ⟨c1, r1, rfl, ⟨rfl, w1⟩, c2, r2, rfl, e2, c3, r3, rfl, ⟨rfl, w3⟩, c4, r4, rfl, ⟨rfl, w4⟩, c5, r5, rfl, ⟨rfl, w5⟩, c6, r6, rfl, ⟨rfl, w6⟩, A, c, rfl, h1, h2, h3⟩ := h
  have e2 : c2 = [.bool a.other] := e2
  subst e2
  refine ⟨A, c, rfl, h1, h2, h3.ints, ?_, wf_u64 w3, wf_u64 w4, wf_u64 w5, wf_u64 w6⟩
  have : 0 ≤ a.kind ∧ a.kind ≤ 255 := by simpa [Lit.wf, IntKind.min, IntKind.max, IntKind.signed, IntKind.bits] using w1
  exact this

theorem act_at {w : World} {B : Nat} {A : Option Addr} {l : List Act_} (h : tAct.els w B A l) (k : Nat) (hk : k < l.length) : ∃ (b o : Nat) (LA : Option Addr) (c : Nat), A = some ⟨b, o, none⟩ ∧ b < B ∧
    w.cell? ⟨b, o + k * 7, none⟩ = some (.int .u8 l[k].kind) ∧ w.cell? ⟨b, o + k * 7 + 1, none⟩ = some (.bool l[k].other) ∧ w.cell? ⟨b, o + k * 7 + 2, none⟩ = some (.int .u64 l[k].to) ∧
    w.cell? ⟨b, o + k * 7 + 3, none⟩ = some (.int .u64 l[k].at_) ∧ w.cell? ⟨b, o + k * 7 + 4, none⟩ = some (.int .u64 l[k].n) ∧ w.cell? ⟨b, o + k * 7 + 5, none⟩ = some (.int .u64 l[k].ref) ∧
    w.cell? ⟨b, o + k * 7 + 6, none⟩ = some (.slice LA l[k].l.length c) ∧ l[k].l.length ≤ c ∧ c ≤ maxLen ∧ Rd w B LA (l[k].l.map (Value.int .u64)) ∧
    (0 ≤ l[k].kind ∧ l[k].kind ≤ 255) ∧ (0 ≤ l[k].to ∧ l[k].to < 18446744073709551616) ∧ (0 ≤ l[k].at_ ∧ l[k].at_ < 18446744073709551616) ∧ (0 ≤ l[k].n ∧ l[k].n < 18446744073709551616) ∧ (0 ≤ l[k].ref ∧ l[k].ref < 18446744073709551616) := by
  obtain ⟨b, o, ds, rfl, hb, hc, hr⟩ := h.at_ k hk
  obtain ⟨LA, c, rfl, h1, h2, h3, h4⟩ := act_cells hr
  have e7 : tAct.size = 7 := rfl
  rw [e7] at hc
  exact ⟨b, o, LA, c, rfl, hb, hc 0 _ rfl, by have := hc 1 _ rfl; rwa [← Nat.add_assoc] at this, by have := hc 2 _ rfl; rwa [← Nat.add_assoc] at this, by have := hc 3 _ rfl; rwa [← Nat.add_assoc] at this,
    by have := hc 4 _ rfl; rwa [← Nat.add_assoc] at this, by have := hc 5 _ rfl; rwa [← Nat.add_assoc] at this, by have := hc 6 _ rfl; rwa [← Nat.add_assoc] at this, h1, h2, h3, h4⟩

def fewB (l : List Act_) : Bool := decide (l.length ≤ 40) && l.all fun a => decide (a.l.length ≤ 60)

set_option maxHeartbeats 400000 in
theorem few_any (A : Option Addr) (l : List Act_) (c B : Nat) (w : World) (hr : tAct.els w B A l) (hl : l.length ≤ 9223372036854775807) :
    Calls Try.prog 20 #[.slice A l.length c] w fun e w' => e = .returned (.bool (fewB l)) ∧ w = w' := by
  by_cases h40 : 40 < l.length
  · have d0 : decide ((40 : Int) < l.length) = true := by simp; omega
    go_enter Try.func20, Try.ntmps20
    go_wp2
    go_ret
    refine ⟨ret_bool ?_, rfl⟩
    simp [fewB]; omega
  · have d0 : decide ((40 : Int) < l.length) = false := by simp; omega
    go_enter Try.func20, Try.ntmps20
    go_wp2
    go_loop [3] (fun i => ∃ k : Nat, k ≤ l.length ∧ i = .int .i64 k ∧ ∀ j (hj : j < l.length), j < k → l[j].l.length ≤ 60) (fun i => l.length - (intOf i).toNat)
    case atStart => exact ⟨0, by omega, rfl, fun _ _ h => by omega⟩
    case round =>
      obtain ⟨k, hk, rfl, hq⟩ := hrel
      have HQ := hid hq
      clear hq
      by_cases hlt : k < l.length
      · obtain ⟨b, o, LA, c', rfl, _, _, _, _, _, _, _, c6, hc1, hc2, _⟩ := act_at hr k hlt
        have HR := hid hr
        obtain ⟨m, hm⟩ : ∃ m, m = l[k].l.length := ⟨_, rfl⟩
        rw [← hm] at c6 hc1
        have HM := hid hm
        unfold maxLen at hc2
        have i0 : (0 : Int) ≤ k := by omega
        have i1 : (k : Int) < l.length := by omega
        clear hr hm
        by_cases h60 : 60 < m
        · have d1 : decide ((60 : Int) < m) = true := by simp; omega
          go_wp2
          go_ret
          refine ⟨ret_bool ?_, rfl⟩
          symm
          simp only [fewB, Bool.and_eq_false_iff]
          right
          rw [List.all_eq_false]
          exact ⟨l[k], List.getElem_mem hlt, by simp; have := HM.out; omega⟩
        · have d1 : decide ((60 : Int) < m) = false := by simp; omega
          go_wp2
          go_round
          case rel =>
            refine ⟨k + 1, by omega, by go_num, fun j hj hjk => ?_⟩
            by_cases e : j = k
            · subst e; have := HM.out; omega
            · exact HQ.out j hj (by omega)
          case measure => simp [intOf]; omega
      · go_wp2
        go_ret
        refine ⟨ret_bool ?_, rfl⟩
        symm
        simp only [fewB, Bool.and_eq_true]
        refine ⟨by simp; omega, ?_⟩
        rw [List.all_eq_true]
        intro a ha
        obtain ⟨j, hj, rfl⟩ := List.getElem_of_mem ha
        have := HQ.out j hj (by omega)
        simpa using this
end Go.Proofs.Ytndhbamfgihncaa
