/- Contracts: the example. -/
import Derived.Test.YtklkgfmcdoifpaaHosN
namespace Go.Proofs.Ytklkgfmcdoifpaa
open Go.RowKit

theorem vl_mk {w : World} {B : Nat} {a : Vl} (h1 : (Lit.int .i64 a.t).wf = true) (h2 : (Lit.int .u64 a.n).wf = true) : tVl.rd w B [.int .i64 a.t, .int .u64 a.n] a :=
  ⟨[.int .i64 a.t], [.int .u64 a.n], rfl, ⟨rfl, h1⟩, rfl, h2⟩
theorem ac_mk {w : World} {B : Nat} {a : Ac} {A : Option Addr} {c : Nat} (h1 : (Lit.int .i64 a.kind).wf = true) (h3 : (Lit.int .i64 a.mem).wf = true) (h4 : (Lit.int .i64 a.at_).wf = true) (h5 : (Lit.int .u8 a.byte).wf = true) (hc : a.vals.length ≤ c) (hm : c ≤ maxLen) (h2 : tVl.els w B A a.vals) :
    tAc.rd w B [.int .i64 a.kind, .slice A a.vals.length c, .int .i64 a.mem, .int .i64 a.at_, .int .u8 a.byte] a :=
  ⟨[.int .i64 a.kind], [.slice A a.vals.length c, .int .i64 a.mem, .int .i64 a.at_, .int .u8 a.byte], rfl, ⟨rfl, h1⟩, [.slice A a.vals.length c], [.int .i64 a.mem, .int .i64 a.at_, .int .u8 a.byte], rfl, ⟨A, c, rfl, hc, hm, h2⟩,
    [.int .i64 a.mem], [.int .i64 a.at_, .int .u8 a.byte], rfl, ⟨rfl, h3⟩, [.int .i64 a.at_], [.int .u8 a.byte], rfl, ⟨rfl, h4⟩, rfl, h5⟩
theorem int_mk {k : IntKind} {w : World} {B : Nat} {n : Int} (h : (Lit.int k n).wf = true) : (Ty.int k).rd w B [.int k n] n := ⟨rfl, h⟩
/-- The elements of a row that is known whole. -/
theorem blk_els {α : Type} {t : Ty α} [TyOk t] [hm : TyMore t] {w : World} {q B : Nat} {e : TypeId} {css : List (List Value)} {xs : List α} (hb : Blk w q e css.flatten.toArray) (hq : q < B) (h : Css t w B css xs) : t.els w B (some ⟨q, 0, none⟩) xs :=
  css_els h hm (Nat.le_refl _) hq 0 (fun k u hu => by rw [Nat.zero_add, hb.cell]; simpa using hu)

def FiveTo (w : World) (e : Ending) (w' : World) : Prop :=
  ∃ A2 A3 : Option Addr, e = .returned (.agg #[.string ⟨#[109]⟩, .string ⟨#[110]⟩, .slice none 0 0, .slice A2 1 1, .slice A3 2 2]) ∧ HoOk w' w'.heap.size fiveH none A2 A3 ∧ Fr No w w'
set_option maxHeartbeats 1600000 in
theorem five_any (w : World) : Calls Try.prog 21 #[] w (FiveTo w) := by
  go_enter Try.func21, Try.ntmps21
  go_wp2
  refine bodyPost_ret (v := .agg #[.string ⟨#[109]⟩, .string ⟨#[110]⟩, .slice none 0 0, .slice (some ⟨w.heap.size + 1, 0, none⟩) 1 1, .slice (some ⟨w.heap.size + 1 + 1 + 1, 0, none⟩) 2 2]) (by simp [results, Try.results21, go_sem]) rfl ⟨_, _, rfl, ?_, ((((Fr.refl No w).alloc _).alloc _).alloc _).alloc _⟩
  generalize hX : (w.alloc (.cells #[.string ⟨#[109]⟩, .string ⟨#[110]⟩, .slice none 0 0, .slice (some ⟨w.heap.size + 1, 0, none⟩) 1 1, .slice (some ⟨w.heap.size + 1 + 1 + 1, 0, none⟩) 2 2] 27)) = X
  have hs : X.heap.size = w.heap.size + 1 := by rw [← hX]; simp
  have b1 := ((Blk.new X 48 #[.int .i64 1]).alloc (.cells #[.int .i64 1, .int .u64 5] 51)).alloc (.cells #[.int .i64 0, .slice (some ⟨w.heap.size + 1 + 1, 0, none⟩) 1 1, .int .i64 0, .int .i64 0, .int .u8 0, .int .i64 1, .slice none 0 0, .int .i64 0, .int .i64 0, .int .u8 0] 32)
  have b2 := (Blk.new (X.alloc (.cells #[.int .i64 1] 48)) 51 #[.int .i64 1, .int .u64 5]).alloc (.cells #[.int .i64 0, .slice (some ⟨w.heap.size + 1 + 1, 0, none⟩) 1 1, .int .i64 0, .int .i64 0, .int .u8 0, .int .i64 1, .slice none 0 0, .int .i64 0, .int .i64 0, .int .u8 0] 32)
  have b3 := Blk.new ((X.alloc (.cells #[.int .i64 1] 48)).alloc (.cells #[.int .i64 1, .int .u64 5] 51)) 32 #[.int .i64 0, .slice (some ⟨w.heap.size + 1 + 1, 0, none⟩) 1 1, .int .i64 0, .int .i64 0, .int .u8 0, .int .i64 1, .slice none 0 0, .int .i64 0, .int .i64 0, .int .u8 0]
  generalize ((X.alloc (.cells #[.int .i64 1] 48)).alloc (.cells #[.int .i64 1, .int .u64 5] 51)).alloc (.cells #[.int .i64 0, .slice (some ⟨w.heap.size + 1 + 1, 0, none⟩) 1 1, .int .i64 0, .int .i64 0, .int .u8 0, .int .i64 1, .slice none 0 0, .int .i64 0, .int .i64 0, .int .u8 0] 32) = Y at *
  simp only [World.size_alloc, hs] at b1 b2 b3
  refine ⟨.inl rfl, blk_els (css := [[.int .i64 1]]) b1 b1.lt (Css.one (int_mk rfl)), ?_, by decide, by decide, by decide, by decide, by decide, by decide⟩
  refine blk_els (css := [[.int .i64 0, .slice (some ⟨w.heap.size + 1 + 1, 0, none⟩) 1 1, .int .i64 0, .int .i64 0, .int .u8 0], [.int .i64 1, .slice none 0 0, .int .i64 0, .int .i64 0, .int .u8 0]]) b3 b3.lt
    (Css.append (css := [_]) (dss := [_]) (xs := [_]) (ys := [_]) (Css.one (ac_mk (a := ⟨0, [⟨1, 5⟩], 0, 0, 0⟩) (c := 1) rfl rfl rfl rfl (by decide) (by simp [maxLen]) ?_)) (Css.one (ac_mk (a := ⟨1, [], 0, 0, 0⟩) rfl rfl rfl rfl (by decide) (by simp [maxLen]) (.inl rfl))))
  exact blk_els (css := [[.int .i64 1, .int .u64 5]]) b2 b2.lt (Css.one (vl_mk (a := ⟨1, 5⟩) rfl rfl))
end Go.Proofs.Ytklkgfmcdoifpaa
