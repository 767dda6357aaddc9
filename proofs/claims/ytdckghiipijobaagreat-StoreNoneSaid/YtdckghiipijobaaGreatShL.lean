/- Contracts: Answer. -/
import Derived.Test.YtdckghiipijobaaGreatShK
namespace Go.Proofs.YtdckghiipijobaaGreat
open Go.RowKit

def AnsTo (vals : List Vl) (w : World) (e : Ending) (w' : World) : Prop :=
  ∃ (A : Option Addr) (c : Nat), e = .returned (.tuple #[.slice A vals.length c, .int .i64 0]) ∧ vals.length ≤ c ∧ tVl.els w' (fun k => w.heap.size ≤ k ∧ k < w'.heap.size) A vals ∧ Fr No w w'
def RansTo (vals : List Vl) (S : Nat → Prop) (w : World) (e : Ending) (w' : World) : Prop :=
  ∃ (A : Option Addr) (c : Nat), e = .returned (.tuple #[.slice A vals.length c, .int .i64 0]) ∧ vals.length ≤ c ∧ tVl.els w' S A vals ∧ Fr No w w'
def AnsNo (w : World) (e : Ending) (w' : World) : Prop := e = .returned (.tuple #[.slice none 0 0, .int .i64 11]) ∧ Fr No w w'
def ansB (a : Ac) (rs : List Int) : Bool := (decide (a.kind = 0) || decide (a.kind = 2)) && fitB a.vals rs

set_option maxHeartbeats 1600000 in
theorem hans_yes (kind mem at_ byte : Int) (vals : List Vl) (np : Nat) (rs : List Int) (A A1 A2 : Option Addr) (c c1 c2 : Nat) (S : Nat → Prop) (w : World) (hB : ∀ k, S k → k < w.heap.size) (ha : tVl.els w S A vals) (h2 : (Ty.int .i64).els w S A2 rs) (hc : vals.length ≤ c) (l1 : vals.length ≤ 500) (l2 : rs.length ≤ 140737488351232) (hk : kind = 0 ∨ kind = 2) (hf : fitB vals rs = true) :
    Calls Tryz.prog 93 #[.agg #[.int .i64 kind, .slice A vals.length c, .int .i64 mem, .int .i64 at_, .int .u8 byte], .agg #[.slice A1 np c1, .slice A2 rs.length c2]] w (AnsTo vals w) := by
  have HA := hid ha
  have HS := hid hB
  have H1 := hid (ha.more (S' := (· < w.heap.size)) hB)
  have H2 := hid (h2.more (S' := (· < w.heap.size)) hB)
  have HB := hid (Nat.le_refl w.heap.size)
  have L1 := hid (show vals.length ≤ 140737488351232 by omega)
  have L2 := hid l2
  obtain ⟨css, hcs, hrd⟩ := els_flat ha hB
  have HC := hid hcs
  have HR := hid hrd
  clear hcs hrd
  clear ha h2 hB l2
  have HV := hid hf
  clear hf
  rcases hk with rfl | rfl
  all_goals
    go_enter Tryz.func93, Tryz.ntmps93
    go_wp2_with (first
      | (go_at_call 89; refine (vfit_any _ _ vals rs _ _ w.heap.size w.heap.size _ (Nat.le_trans HB.out (((Fr.refl No w).alloc _).alloc _).size) (Nat.le_trans HB.out (((Fr.refl No w).alloc _).alloc _).size) (H1.out.frB HB.out (((Fr.refl No w).alloc _).alloc _) (fun _ _ x => x)) (H2.out.frB HB.out (((Fr.refl No w).alloc _).alloc _) (fun _ _ x => x)) L1.out L2.out).mono ?_; rintro e w1 ⟨rfl, f1⟩; rw [HV.out]; obtain ⟨z0, z1, z2, z3, z4⟩ := act_box f1; have F1 := hid ((((Fr.refl No w).alloc _).alloc _).trans f1 (fun _ _ h => h)); clear f1)
      | (at_builtin; refine wpList_appC (t := tVl) (v := .slice none 0 0) (base := w1.heap.size) (S := Emp) (xs := []) (ys := vals) (dss := css) (B2 := w.heap.size) elVl rfl rfl rfl rfl (Ty.row.nil _ _ _ _) (HC.out _ _) (HR.out.frNo F1.out) rfl (by simp; omega) (by simp; omega) (fun _ h => h.elim) (Nat.le_refl _) ?_; intro v' w2 hr fr _; have R2 := hid hr; have F2 := hid (F1.out.trans (fr.mono (M := No) (fun _ _ h => by simp [Value.ownBlock] at h)) (fun _ _ h => h)); obtain ⟨A', c', rfl, hc', _, _⟩ := R2.out.els (S' := fun _ => True) (fun _ _ => trivial) (fun _ _ => trivial); clear hr fr))
    go_ret2
    refine ⟨_, _, rfl, hc', R2.out.els' (fun _ h => h.elim) (fun g hg => ?_), F2.out⟩
    obtain ⟨h1, cs, h2⟩ := R2.out.own hg
    have := F1.out.size
    exact ⟨by omega, h2.lt⟩

set_option maxHeartbeats 1600000 in
theorem hans_no (kind mem at_ byte : Int) (vals : List Vl) (np : Nat) (rs : List Int) (A A1 A2 : Option Addr) (c c1 c2 : Nat) (S : Nat → Prop) (w : World) (hB : ∀ k, S k → k < w.heap.size) (ha : tVl.els w S A vals) (h2 : (Ty.int .i64).els w S A2 rs) (hc : vals.length ≤ c) (l1 : vals.length ≤ 500) (l2 : rs.length ≤ 140737488351232) (hk : kind = 0 ∨ kind = 2) (hf : fitB vals rs = false) :
    Calls Tryz.prog 93 #[.agg #[.int .i64 kind, .slice A vals.length c, .int .i64 mem, .int .i64 at_, .int .u8 byte], .agg #[.slice A1 np c1, .slice A2 rs.length c2]] w (AnsNo w) := by
  have HA := hid ha
  have HS := hid hB
  have H1 := hid (ha.more (S' := (· < w.heap.size)) hB)
  have H2 := hid (h2.more (S' := (· < w.heap.size)) hB)
  have HB := hid (Nat.le_refl w.heap.size)
  have L1 := hid (show vals.length ≤ 140737488351232 by omega)
  have L2 := hid l2
  clear ha h2 hB l2
  have HV := hid hf
  clear hf
  rcases hk with rfl | rfl
  all_goals
    go_enter Tryz.func93, Tryz.ntmps93
    go_wp2_with (first
      | (go_at_call 89; refine (vfit_any _ _ vals rs _ _ w.heap.size w.heap.size _ (Nat.le_trans HB.out (((Fr.refl No w).alloc _).alloc _).size) (Nat.le_trans HB.out (((Fr.refl No w).alloc _).alloc _).size) (H1.out.frB HB.out (((Fr.refl No w).alloc _).alloc _) (fun _ _ x => x)) (H2.out.frB HB.out (((Fr.refl No w).alloc _).alloc _) (fun _ _ x => x)) L1.out L2.out).mono ?_; rintro e w1 ⟨rfl, f1⟩; rw [HV.out]; obtain ⟨z0, z1, z2, z3, z4⟩ := act_box f1; have F1 := hid ((((Fr.refl No w).alloc _).alloc _).trans f1 (fun _ _ h => h)); clear f1))
    go_ret2
    exact ⟨rfl, F1.out⟩

set_option maxHeartbeats 1600000 in
theorem hans_not (kind mem at_ byte : Int) (vals : List Vl) (np : Nat) (rs : List Int) (A A1 A2 : Option Addr) (c c1 c2 : Nat) (S : Nat → Prop) (w : World) (hB : ∀ k, S k → k < w.heap.size) (ha : tVl.els w S A vals) (h2 : (Ty.int .i64).els w S A2 rs) (hc : vals.length ≤ c) (l1 : vals.length ≤ 500) (l2 : rs.length ≤ 140737488351232) (hk0 : ¬ kind = 0) (hk2 : ¬ kind = 2) :
    Calls Tryz.prog 93 #[.agg #[.int .i64 kind, .slice A vals.length c, .int .i64 mem, .int .i64 at_, .int .u8 byte], .agg #[.slice A1 np c1, .slice A2 rs.length c2]] w (AnsNo w) := by
  have HA := hid ha
  have HS := hid hB
  have H1 := hid (ha.more (S' := (· < w.heap.size)) hB)
  have H2 := hid (h2.more (S' := (· < w.heap.size)) hB)
  have HB := hid (Nat.le_refl w.heap.size)
  have L1 := hid (show vals.length ≤ 140737488351232 by omega)
  have L2 := hid l2
  clear ha h2 hB l2
  have e0 : (kind == 0) = false := by simpa using hk0
  have e2 : (kind == 2) = false := by simpa using hk2
  have g0 : (kind != 0) = true := by simpa using hk0
  have g2 : (kind != 2) = true := by simpa using hk2
  go_enter Tryz.func93, Tryz.ntmps93
  go_wp2
  go_ret2
  exact ⟨rfl, (((Fr.refl No w).alloc _).alloc _)⟩

set_option maxHeartbeats 1600000 in
theorem rans_yes (kind mem at_ byte : Int) (vals : List Vl) (np : Nat) (rs : List Int) (A A1 A2 : Option Addr) (c c1 c2 : Nat) (S : Nat → Prop) (w : World) (hB : ∀ k, S k → k < w.heap.size) (ha : tVl.els w S A vals) (h2 : (Ty.int .i64).els w S A2 rs) (hc : vals.length ≤ c) (l1 : vals.length ≤ 500) (l2 : rs.length ≤ 140737488351232) (hk : kind = 0 ∨ kind = 2) (hf : fitB vals rs = true) :
    Calls Tryz.prog 130 #[.agg #[.int .i64 kind, .slice A vals.length c, .int .i64 mem, .int .i64 at_, .int .u8 byte], .agg #[.slice A1 np c1, .slice A2 rs.length c2]] w (RansTo vals S w) := by
  have HA := hid ha
  have HS := hid hB
  have H1 := hid (ha.more (S' := (· < w.heap.size)) hB)
  have H2 := hid (h2.more (S' := (· < w.heap.size)) hB)
  have HB := hid (Nat.le_refl w.heap.size)
  have L1 := hid (show vals.length ≤ 140737488351232 by omega)
  have L2 := hid l2
  clear ha h2 hB l2
  have HV := hid hf
  clear hf
  rcases hk with rfl | rfl
  all_goals
    go_enter Tryz.func130, Tryz.ntmps130
    go_wp2_with (first
      | (go_at_call 127; refine (r27fit_any _ _ vals rs _ _ w.heap.size w.heap.size _ (Nat.le_trans HB.out (((Fr.refl No w).alloc _).alloc _).size) (Nat.le_trans HB.out (((Fr.refl No w).alloc _).alloc _).size) (H1.out.frB HB.out (((Fr.refl No w).alloc _).alloc _) (fun _ _ x => x)) (H2.out.frB HB.out (((Fr.refl No w).alloc _).alloc _) (fun _ _ x => x)) L1.out L2.out).mono ?_; rintro e w1 ⟨rfl, f1⟩; rw [HV.out]; obtain ⟨z0, z1, z2, z3, z4⟩ := act_box f1; have F1 := hid ((((Fr.refl No w).alloc _).alloc _).trans f1 (fun _ _ h => h)); clear f1))
    go_ret2
    exact ⟨_, _, rfl, hc, HA.out.fr F1.out (fun k hk => ⟨HS.out k hk, fun x => x⟩), F1.out⟩

set_option maxHeartbeats 1600000 in
theorem rans_no (kind mem at_ byte : Int) (vals : List Vl) (np : Nat) (rs : List Int) (A A1 A2 : Option Addr) (c c1 c2 : Nat) (S : Nat → Prop) (w : World) (hB : ∀ k, S k → k < w.heap.size) (ha : tVl.els w S A vals) (h2 : (Ty.int .i64).els w S A2 rs) (hc : vals.length ≤ c) (l1 : vals.length ≤ 500) (l2 : rs.length ≤ 140737488351232) (hk : kind = 0 ∨ kind = 2) (hf : fitB vals rs = false) :
    Calls Tryz.prog 130 #[.agg #[.int .i64 kind, .slice A vals.length c, .int .i64 mem, .int .i64 at_, .int .u8 byte], .agg #[.slice A1 np c1, .slice A2 rs.length c2]] w (AnsNo w) := by
  have HA := hid ha
  have HS := hid hB
  have H1 := hid (ha.more (S' := (· < w.heap.size)) hB)
  have H2 := hid (h2.more (S' := (· < w.heap.size)) hB)
  have HB := hid (Nat.le_refl w.heap.size)
  have L1 := hid (show vals.length ≤ 140737488351232 by omega)
  have L2 := hid l2
  clear ha h2 hB l2
  have HV := hid hf
  clear hf
  rcases hk with rfl | rfl
  all_goals
    go_enter Tryz.func130, Tryz.ntmps130
    go_wp2_with (first
      | (go_at_call 127; refine (r27fit_any _ _ vals rs _ _ w.heap.size w.heap.size _ (Nat.le_trans HB.out (((Fr.refl No w).alloc _).alloc _).size) (Nat.le_trans HB.out (((Fr.refl No w).alloc _).alloc _).size) (H1.out.frB HB.out (((Fr.refl No w).alloc _).alloc _) (fun _ _ x => x)) (H2.out.frB HB.out (((Fr.refl No w).alloc _).alloc _) (fun _ _ x => x)) L1.out L2.out).mono ?_; rintro e w1 ⟨rfl, f1⟩; rw [HV.out]; obtain ⟨z0, z1, z2, z3, z4⟩ := act_box f1; have F1 := hid ((((Fr.refl No w).alloc _).alloc _).trans f1 (fun _ _ h => h)); clear f1))
    go_ret2
    exact ⟨rfl, F1.out⟩

set_option maxHeartbeats 1600000 in
theorem rans_not (kind mem at_ byte : Int) (vals : List Vl) (np : Nat) (rs : List Int) (A A1 A2 : Option Addr) (c c1 c2 : Nat) (S : Nat → Prop) (w : World) (hB : ∀ k, S k → k < w.heap.size) (ha : tVl.els w S A vals) (h2 : (Ty.int .i64).els w S A2 rs) (hc : vals.length ≤ c) (l1 : vals.length ≤ 500) (l2 : rs.length ≤ 140737488351232) (hk0 : ¬ kind = 0) (hk2 : ¬ kind = 2) :
    Calls Tryz.prog 130 #[.agg #[.int .i64 kind, .slice A vals.length c, .int .i64 mem, .int .i64 at_, .int .u8 byte], .agg #[.slice A1 np c1, .slice A2 rs.length c2]] w (AnsNo w) := by
  have HA := hid ha
  have HS := hid hB
  have H1 := hid (ha.more (S' := (· < w.heap.size)) hB)
  have H2 := hid (h2.more (S' := (· < w.heap.size)) hB)
  have HB := hid (Nat.le_refl w.heap.size)
  have L1 := hid (show vals.length ≤ 140737488351232 by omega)
  have L2 := hid l2
  clear ha h2 hB l2
  have e0 : (kind == 0) = false := by simpa using hk0
  have e2 : (kind == 2) = false := by simpa using hk2
  have g0 : (kind != 0) = true := by simpa using hk0
  have g2 : (kind != 2) = true := by simpa using hk2
  go_enter Tryz.func130, Tryz.ntmps130
  go_wp2
  go_ret2
  exact ⟨rfl, (((Fr.refl No w).alloc _).alloc _)⟩
end Go.Proofs.YtdckghiipijobaaGreat
