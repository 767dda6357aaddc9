/- Chapter 30's readings over sets. -/
import Derived.Test.YthggdemiddjlgaaStA
import Derived.Test.YthggdemiddjlgaaOrt
import Derived.Test.YthggdemiddjlgaaEq
import Derived.Test.YthggdemiddjlgaaAll
namespace Go.Proofs.Ythggdemiddjlgaa
open Go.RowKit

theorem Ty.els.frB {α : Type} {t : Ty α} [TyOk t] {w w' : World} {B : Nat} {A : Option Addr} {xs : List α} {M : Nat → Prop} (h : t.els w (· < B) A xs) (hB : B ≤ w.heap.size) (f : Fr M w w') (hM : ∀ k, k < B → ¬ M k) : t.els w' (· < B) A xs :=
  h.fr f fun k hk => ⟨Nat.lt_of_lt_of_le hk hB, hM k hk⟩
theorem Ty.els.moreB {α : Type} {t : Ty α} [TyMore t] {w : World} {B B' : Nat} {A : Option Addr} {xs : List α} (h : t.els w (· < B) A xs) (hB : B ≤ B') : t.els w (· < B') A xs := h.more fun _ hk => Nat.lt_of_lt_of_le hk hB
theorem wf_u8 {n : Int} (h : (Lit.int .u8 n).wf = true) : 0 ≤ n ∧ n ≤ 255 := by
  simpa [Lit.wf, IntKind.min, IntKind.max, IntKind.signed, IntKind.bits] using h

/-- The cells of a value. -/
theorem vl_cells {w : World} {B : Nat} {cs : List Value} {a : Vl} (h : tVl.rd w (· < B) cs a) : cs = [.int .i64 a.t, .int .u64 a.n] ∧ (-9223372036854775808 ≤ a.t ∧ a.t ≤ 9223372036854775807) ∧ 0 ≤ a.n ∧ a.n < 18446744073709551616 := by
  obtain ⟨c1, c2, rfl, ⟨rfl, w1⟩, rfl, w2⟩ := h
  exact ⟨rfl, wf_i64 w1, wf_u64 w2⟩
theorem vl_at {w : World} {B : Nat} {A : Option Addr} {l : List Vl} (h : tVl.els w (· < B) A l) (k : Nat) (hk : k < l.length) : ∃ (b o : Nat), A = some ⟨b, o, none⟩ ∧ b < B ∧
    w.cell? ⟨b, o + k * 2, none⟩ = some (.int .i64 l[k].t) ∧ w.cell? ⟨b, o + k * 2 + 1, none⟩ = some (.int .u64 l[k].n) ∧ (-9223372036854775808 ≤ l[k].t ∧ l[k].t ≤ 9223372036854775807) ∧ 0 ≤ l[k].n ∧ l[k].n < 18446744073709551616 := by
  obtain ⟨b, o, ds, rfl, hb, hc, hr⟩ := h.at_ k hk
  obtain ⟨rfl, h1, h2⟩ := vl_cells hr
  have e : tVl.size = 2 := rfl
  rw [e] at hc
  exact ⟨b, o, rfl, hb, hc 0 _ rfl, by have := hc 1 _ rfl; rwa [← Nat.add_assoc] at this, h1, h2⟩

theorem ac_cells {w : World} {B : Nat} {cs : List Value} {a : Ac} (h : tAc.rd w (· < B) cs a) : ∃ (A : Option Addr) (c : Nat),
    cs = [.int .i64 a.kind, .slice A a.vals.length c, .int .i64 a.mem, .int .i64 a.at_, .int .u8 a.byte] ∧ a.vals.length ≤ c ∧ c ≤ maxLen ∧ tVl.els w (· < B) A a.vals ∧
    (-9223372036854775808 ≤ a.kind ∧ a.kind ≤ 9223372036854775807) ∧ (-9223372036854775808 ≤ a.mem ∧ a.mem ≤ 9223372036854775807) ∧ (-9223372036854775808 ≤ a.at_ ∧ a.at_ ≤ 9223372036854775807) ∧ 0 ≤ a.byte ∧ a.byte ≤ 255 := by
  obtain ⟨c1, r1, rfl, ⟨rfl, w1⟩, c2, r2, rfl, ⟨A, c, rfl, h1, h2, h3⟩, c3, r3, rfl, ⟨rfl, w3⟩, c4, r4, rfl, ⟨rfl, w4⟩, rfl, w5⟩ := h
  exact ⟨A, c, rfl, h1, h2, h3, wf_i64 w1, wf_i64 w3, wf_i64 w4, wf_u8 w5⟩
theorem ac_at {w : World} {B : Nat} {A : Option Addr} {l : List Ac} (h : tAc.els w (· < B) A l) (k : Nat) (hk : k < l.length) : ∃ (b o : Nat) (LA : Option Addr) (c : Nat), A = some ⟨b, o, none⟩ ∧ b < B ∧
    w.cell? ⟨b, o + k * 5, none⟩ = some (.int .i64 l[k].kind) ∧ w.cell? ⟨b, o + k * 5 + 1, none⟩ = some (.slice LA l[k].vals.length c) ∧ w.cell? ⟨b, o + k * 5 + 2, none⟩ = some (.int .i64 l[k].mem) ∧
    w.cell? ⟨b, o + k * 5 + 3, none⟩ = some (.int .i64 l[k].at_) ∧ w.cell? ⟨b, o + k * 5 + 4, none⟩ = some (.int .u8 l[k].byte) ∧ l[k].vals.length ≤ c ∧ c ≤ maxLen ∧ tVl.els w (· < B) LA l[k].vals ∧
    (-9223372036854775808 ≤ l[k].kind ∧ l[k].kind ≤ 9223372036854775807) ∧ (-9223372036854775808 ≤ l[k].mem ∧ l[k].mem ≤ 9223372036854775807) ∧ (-9223372036854775808 ≤ l[k].at_ ∧ l[k].at_ ≤ 9223372036854775807) ∧ 0 ≤ l[k].byte ∧ l[k].byte ≤ 255 := by
  obtain ⟨b, o, ds, rfl, hb, hc, hr⟩ := h.at_ k hk
  obtain ⟨LA, c, rfl, h1, h2, h3, h4⟩ := ac_cells hr
  have e : tAc.size = 5 := rfl
  rw [e] at hc
  exact ⟨b, o, LA, c, rfl, hb, hc 0 _ rfl, by have := hc 1 _ rfl; rwa [← Nat.add_assoc] at this, by have := hc 2 _ rfl; rwa [← Nat.add_assoc] at this, by have := hc 3 _ rfl; rwa [← Nat.add_assoc] at this,
    by have := hc 4 _ rfl; rwa [← Nat.add_assoc] at this, h1, h2, h3, h4⟩
theorem fn_cells {w : World} {B : Nat} {cs : List Value} {a : Fn} (h : tFn.rd w (· < B) cs a) : ∃ (A1 : Option Addr) (c1 : Nat) (A2 : Option Addr) (c2 : Nat),
    cs = [.slice A1 a.params.length c1, .slice A2 a.results.length c2] ∧ a.params.length ≤ c1 ∧ c1 ≤ maxLen ∧ (Ty.int .i64).els w (· < B) A1 a.params ∧ a.results.length ≤ c2 ∧ c2 ≤ maxLen ∧ (Ty.int .i64).els w (· < B) A2 a.results := by
  obtain ⟨x1, x2, rfl, ⟨A, c, rfl, h1, h2, h3⟩, A', c', rfl, h1', h2', h3'⟩ := h
  exact ⟨A, c, A', c', rfl, h1, h2, h3, h1', h2', h3'⟩
theorem ho_cells {w : World} {B : Nat} {cs : List Value} {a : Ho} (h : tHo.rd w (· < B) cs a) : ∃ (A1 : Option Addr) (c1 : Nat) (A2 : Option Addr) (c2 : Nat) (A3 : Option Addr) (c3 : Nat),
    cs = [.string a.mod, .string a.name, .slice A1 a.ty.params.length c1, .slice A2 a.ty.results.length c2, .slice A3 a.acts.length c3] ∧ a.mod.size ≤ maxLen ∧ a.name.size ≤ maxLen ∧
    a.ty.params.length ≤ c1 ∧ c1 ≤ maxLen ∧ (Ty.int .i64).els w (· < B) A1 a.ty.params ∧ a.ty.results.length ≤ c2 ∧ c2 ≤ maxLen ∧ (Ty.int .i64).els w (· < B) A2 a.ty.results ∧ a.acts.length ≤ c3 ∧ c3 ≤ maxLen ∧ tAc.els w (· < B) A3 a.acts := by
  obtain ⟨x1, r1, rfl, ⟨rfl, w1⟩, x2, r2, rfl, ⟨rfl, w2⟩, x3, r3, rfl, hf, A3, c3, rfl, h1, h2, h3⟩ := h
  obtain ⟨A1, c1, A2, c2, rfl, g⟩ := fn_cells hf
  obtain ⟨g1, g2, g3, g4, g5, g6⟩ := g
  exact ⟨A1, c1, A2, c2, A3, c3, rfl, w1, w2, g1, g2, g3, g4, g5, g6, h1, h2, h3⟩
theorem ho_at {w : World} {B : Nat} {A : Option Addr} {l : List Ho} (h : tHo.els w (· < B) A l) (k : Nat) (hk : k < l.length) : ∃ (b o : Nat), A = some ⟨b, o, none⟩ ∧ b < B ∧
    w.cell? ⟨b, o + k * 5, none⟩ = some (.string l[k].mod) ∧ w.cell? ⟨b, o + k * 5 + 1, none⟩ = some (.string l[k].name) ∧ l[k].mod.size ≤ maxLen ∧ l[k].name.size ≤ maxLen := by
  obtain ⟨b, o, ds, rfl, hb, hc, hr⟩ := h.at_ k hk
  obtain ⟨A1, c1, A2, c2, A3, c3, rfl, h1, h2, _⟩ := ho_cells hr
  have e : tHo.size = 5 := rfl
  rw [e] at hc
  exact ⟨b, o, rfl, hb, hc 0 _ rfl, by have := hc 1 _ rfl; rwa [← Nat.add_assoc] at this, h1, h2⟩
theorem int_at {k : IntKind} {w : World} {B : Nat} {A : Option Addr} {l : List Int} (h : (Ty.int k).els w (· < B) A l) (i : Nat) (hi : i < l.length) : ∃ (b o : Nat), A = some ⟨b, o, none⟩ ∧ b < B ∧
    w.cell? ⟨b, o + i, none⟩ = some (.int k l[i]) ∧ (Lit.int k l[i]).wf = true := by
  obtain ⟨b, o, ds, rfl, hb, hc, rfl, hw⟩ := h.at_ i hi
  have := hc 0 _ rfl
  have e : (Ty.int k).size = 1 := rfl
  rw [e, Nat.mul_one, Nat.add_zero] at this
  exact ⟨b, o, rfl, hb, this, hw⟩
end Go.Proofs.Ythggdemiddjlgaa
