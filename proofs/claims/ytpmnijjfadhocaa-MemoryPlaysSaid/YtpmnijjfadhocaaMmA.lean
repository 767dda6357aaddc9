/- Types of data as structures, with their readings. -/
import Derived.Test.YtpmnijjfadhocaaSels
namespace Go.Proofs.Ytpmnijjfadhocaa
open Go.RowKit

structure Lim where
  min : Int
  max : Int
  has : Bool
def tLim0 : Ty (Int × Int × Bool) := (Ty.int .i64).pair ((Ty.int .i64).pair (Ty.bool))
def tLim : Ty Lim := tLim0.iso fun a => (a.min, a.max, a.has)
instance : TyOk tLim := by unfold tLim tLim0; infer_instance
instance : TyMore tLim := by unfold tLim tLim0; infer_instance
instance : TyOne tLim := by unfold tLim tLim0; infer_instance
theorem opens_Lim : Opens Try.prog 23 tLim := by
  refine opens_iso _ (fun x => ⟨x.1, x.2.1, x.2.2⟩) (fun _ => rfl) ?_
  exact opens_struct Try.underlying23 (by kernel_rfl) (Flds.cons rfl (by kernel_rfl) (opens_int Try.underlying3) (Flds.cons rfl (by kernel_rfl) (opens_int Try.underlying3) (Flds.one rfl (by kernel_rfl) (opens_bool Try.underlying4))))
theorem Lim_cells {w : World} {S : Nat → Prop} {cs : List Value} {a : Lim} (h : tLim.rd w S cs a) : cs = [.int .i64 a.min, .int .i64 a.max, .bool a.has] ∧ (Lit.int .i64 a.min).wf = true ∧ (Lit.int .i64 a.max).wf = true := by
  obtain ⟨xmin, rmin, rfl, ⟨rfl, wmin⟩, xmax, rmax, rfl, ⟨rfl, wmax⟩, rfl⟩ := h
  exact ⟨rfl, wmin, wmax⟩
theorem Lim_mk {w : World} {S : Nat → Prop} {a : Lim}  (f0 : (Lit.int .i64 a.min).wf = true) (f1 : (Lit.int .i64 a.max).wf = true) : tLim.rd w S [.int .i64 a.min, .int .i64 a.max, .bool a.has] a :=
  ⟨[.int .i64 a.min], [.int .i64 a.max, .bool a.has], rfl, ⟨rfl, f0⟩, ⟨[.int .i64 a.max], [.bool a.has], rfl, ⟨rfl, f1⟩, rfl⟩⟩
theorem Lim_at {w : World} {S : Nat → Prop} {A : Option Addr} {l : List Lim} (h : tLim.els w S A l) (k : Nat) (hk : k < l.length) : ∃ (b o : Nat), A = some ⟨b, o, none⟩ ∧ S b ∧ w.cell? ⟨b, o + k * 3, none⟩ = some (.int .i64 l[k].min) ∧ w.cell? ⟨b, o + k * 3 + 1, none⟩ = some (.int .i64 l[k].max) ∧ w.cell? ⟨b, o + k * 3 + 2, none⟩ = some (.bool l[k].has) ∧ (Lit.int .i64 l[k].min).wf = true ∧ (Lit.int .i64 l[k].max).wf = true := by
  obtain ⟨b, o, ds, rfl, hb, hc, hr⟩ := h.at_ k hk
  obtain ⟨rfl, f0, f1⟩ := Lim_cells hr
  have e : tLim.size = 3 := rfl
  rw [e] at hc
  exact ⟨b, o, rfl, hb, hc 0 _ rfl, (by have := hc 1 _ rfl; rwa [← Nat.add_assoc] at this), (by have := hc 2 _ rfl; rwa [← Nat.add_assoc] at this), f0, f1⟩

structure Rm where
  lim : Lim
  b : List Int
def tRm0 : Ty (Lim × List Int) := tLim.pair ((Ty.int .u8).slice)
def tRm : Ty Rm := tRm0.iso fun a => (a.lim, a.b)
instance : TyOk tRm := by unfold tRm tRm0; infer_instance
instance : TyMore tRm := by unfold tRm tRm0; infer_instance
instance : TyOne tRm := by unfold tRm tRm0; infer_instance
theorem opens_Rm : Opens Try.prog 28 tRm := by
  refine opens_iso _ (fun x => ⟨x.1, x.2⟩) (fun _ => rfl) ?_
  exact opens_struct Try.underlying28 (by kernel_rfl) (Flds.cons rfl (by kernel_rfl) opens_Lim (Flds.one rfl (by kernel_rfl) (opens_slice Try.underlying26 (by kernel_rfl) (by decide) (opens_int Try.underlying5))))
theorem Rm_cells {w : World} {S : Nat → Prop} {cs : List Value} {a : Rm} (h : tRm.rd w S cs a) : ∃ (Ab : Option Addr) (cb : Nat), cs = [.int .i64 a.lim.min, .int .i64 a.lim.max, .bool a.lim.has, .slice Ab a.b.length cb] ∧ (Lit.int .i64 a.lim.min).wf = true ∧ (Lit.int .i64 a.lim.max).wf = true ∧ a.b.length ≤ cb ∧ cb ≤ maxLen ∧ (Ty.int .u8).els w S Ab a.b := by
  obtain ⟨xlim, rlim, rfl, hlim, Ab, cb, rfl, gb, mb, eb⟩ := h
  obtain ⟨rfl, klim0, klim1⟩ := Lim_cells hlim
  exact ⟨Ab, cb, rfl, klim0, klim1, gb, mb, eb⟩
theorem Rm_mk {w : World} {S : Nat → Prop} {a : Rm} {Ab : Option Addr} {cb : Nat} (f0 : (Lit.int .i64 a.lim.min).wf = true) (f1 : (Lit.int .i64 a.lim.max).wf = true) (f2 : a.b.length ≤ cb) (f3 : cb ≤ maxLen) (f4 : (Ty.int .u8).els w S Ab a.b) : tRm.rd w S [.int .i64 a.lim.min, .int .i64 a.lim.max, .bool a.lim.has, .slice Ab a.b.length cb] a :=
  ⟨[.int .i64 a.lim.min, .int .i64 a.lim.max, .bool a.lim.has], [.slice Ab a.b.length cb], rfl, ⟨[.int .i64 a.lim.min], [.int .i64 a.lim.max, .bool a.lim.has], rfl, ⟨rfl, f0⟩, ⟨[.int .i64 a.lim.max], [.bool a.lim.has], rfl, ⟨rfl, f1⟩, rfl⟩⟩, ⟨_, _, rfl, f2, f3, f4⟩⟩
theorem Rm_at {w : World} {S : Nat → Prop} {A : Option Addr} {l : List Rm} (h : tRm.els w S A l) (k : Nat) (hk : k < l.length) : ∃ (b o : Nat) (Ab : Option Addr) (cb : Nat), A = some ⟨b, o, none⟩ ∧ S b ∧ w.cell? ⟨b, o + k * 4, none⟩ = some (.int .i64 l[k].lim.min) ∧ w.cell? ⟨b, o + k * 4 + 1, none⟩ = some (.int .i64 l[k].lim.max) ∧ w.cell? ⟨b, o + k * 4 + 2, none⟩ = some (.bool l[k].lim.has) ∧ w.cell? ⟨b, o + k * 4 + 3, none⟩ = some (.slice Ab l[k].b.length cb) ∧ (Lit.int .i64 l[k].lim.min).wf = true ∧ (Lit.int .i64 l[k].lim.max).wf = true ∧ l[k].b.length ≤ cb ∧ cb ≤ maxLen ∧ (Ty.int .u8).els w S Ab l[k].b := by
  obtain ⟨b, o, ds, rfl, hb, hc, hr⟩ := h.at_ k hk
  obtain ⟨Ab, cb, rfl, f0, f1, f2, f3, f4⟩ := Rm_cells hr
  have e : tRm.size = 4 := rfl
  rw [e] at hc
  exact ⟨b, o, Ab, cb, rfl, hb, hc 0 _ rfl, (by have := hc 1 _ rfl; rwa [← Nat.add_assoc] at this), (by have := hc 2 _ rfl; rwa [← Nat.add_assoc] at this), (by have := hc 3 _ rfl; rwa [← Nat.add_assoc] at this), f0, f1, f2, f3, f4⟩

structure Ac where
  call : Int
  op : Int
  to_ : Int
  at_ : Int
  n : Int
  x : Int
  b : List Int
def tAc0 : Ty (Int × Int × Int × Int × Int × Int × List Int) := (Ty.int .i64).pair ((Ty.int .i64).pair ((Ty.int .u64).pair ((Ty.int .u64).pair ((Ty.int .u64).pair ((Ty.int .u64).pair ((Ty.int .u8).slice))))))
def tAc : Ty Ac := tAc0.iso fun a => (a.call, a.op, a.to_, a.at_, a.n, a.x, a.b)
instance : TyOk tAc := by unfold tAc tAc0; infer_instance
instance : TyMore tAc := by unfold tAc tAc0; infer_instance
instance : TyOne tAc := by unfold tAc tAc0; infer_instance
theorem opens_Ac : Opens Try.prog 44 tAc := by
  refine opens_iso _ (fun x => ⟨x.1, x.2.1, x.2.2.1, x.2.2.2.1, x.2.2.2.2.1, x.2.2.2.2.2.1, x.2.2.2.2.2.2⟩) (fun _ => rfl) ?_
  exact opens_struct Try.underlying44 (by kernel_rfl) (Flds.cons rfl (by kernel_rfl) (opens_int Try.underlying3) (Flds.cons rfl (by kernel_rfl) (opens_int Try.underlying38) (Flds.cons rfl (by kernel_rfl) (opens_int Try.underlying35) (Flds.cons rfl (by kernel_rfl) (opens_int Try.underlying35) (Flds.cons rfl (by kernel_rfl) (opens_int Try.underlying35) (Flds.cons rfl (by kernel_rfl) (opens_int Try.underlying35) (Flds.one rfl (by kernel_rfl) (opens_slice Try.underlying26 (by kernel_rfl) (by decide) (opens_int Try.underlying5)))))))))
theorem Ac_cells {w : World} {S : Nat → Prop} {cs : List Value} {a : Ac} (h : tAc.rd w S cs a) : ∃ (Ab : Option Addr) (cb : Nat), cs = [.int .i64 a.call, .int .i64 a.op, .int .u64 a.to_, .int .u64 a.at_, .int .u64 a.n, .int .u64 a.x, .slice Ab a.b.length cb] ∧ (Lit.int .i64 a.call).wf = true ∧ (Lit.int .i64 a.op).wf = true ∧ (Lit.int .u64 a.to_).wf = true ∧ (Lit.int .u64 a.at_).wf = true ∧ (Lit.int .u64 a.n).wf = true ∧ (Lit.int .u64 a.x).wf = true ∧ a.b.length ≤ cb ∧ cb ≤ maxLen ∧ (Ty.int .u8).els w S Ab a.b := by
  obtain ⟨xcall, rcall, rfl, ⟨rfl, wcall⟩, xop, rop, rfl, ⟨rfl, wop⟩, xto_, rto_, rfl, ⟨rfl, wto_⟩, xat_, rat_, rfl, ⟨rfl, wat_⟩, xn, rn, rfl, ⟨rfl, wn⟩, xx, rx, rfl, ⟨rfl, wx⟩, Ab, cb, rfl, gb, mb, eb⟩ := h
  exact ⟨Ab, cb, rfl, wcall, wop, wto_, wat_, wn, wx, gb, mb, eb⟩
theorem Ac_mk {w : World} {S : Nat → Prop} {a : Ac} {Ab : Option Addr} {cb : Nat} (f0 : (Lit.int .i64 a.call).wf = true) (f1 : (Lit.int .i64 a.op).wf = true) (f2 : (Lit.int .u64 a.to_).wf = true) (f3 : (Lit.int .u64 a.at_).wf = true) (f4 : (Lit.int .u64 a.n).wf = true) (f5 : (Lit.int .u64 a.x).wf = true) (f6 : a.b.length ≤ cb) (f7 : cb ≤ maxLen) (f8 : (Ty.int .u8).els w S Ab a.b) : tAc.rd w S [.int .i64 a.call, .int .i64 a.op, .int .u64 a.to_, .int .u64 a.at_, .int .u64 a.n, .int .u64 a.x, .slice Ab a.b.length cb] a :=
  ⟨[.int .i64 a.call], [.int .i64 a.op, .int .u64 a.to_, .int .u64 a.at_, .int .u64 a.n, .int .u64 a.x, .slice Ab a.b.length cb], rfl, ⟨rfl, f0⟩, ⟨[.int .i64 a.op], [.int .u64 a.to_, .int .u64 a.at_, .int .u64 a.n, .int .u64 a.x, .slice Ab a.b.length cb], rfl, ⟨rfl, f1⟩, ⟨[.int .u64 a.to_], [.int .u64 a.at_, .int .u64 a.n, .int .u64 a.x, .slice Ab a.b.length cb], rfl, ⟨rfl, f2⟩, ⟨[.int .u64 a.at_], [.int .u64 a.n, .int .u64 a.x, .slice Ab a.b.length cb], rfl, ⟨rfl, f3⟩, ⟨[.int .u64 a.n], [.int .u64 a.x, .slice Ab a.b.length cb], rfl, ⟨rfl, f4⟩, ⟨[.int .u64 a.x], [.slice Ab a.b.length cb], rfl, ⟨rfl, f5⟩, ⟨_, _, rfl, f6, f7, f8⟩⟩⟩⟩⟩⟩⟩
theorem Ac_at {w : World} {S : Nat → Prop} {A : Option Addr} {l : List Ac} (h : tAc.els w S A l) (k : Nat) (hk : k < l.length) : ∃ (b o : Nat) (Ab : Option Addr) (cb : Nat), A = some ⟨b, o, none⟩ ∧ S b ∧ w.cell? ⟨b, o + k * 7, none⟩ = some (.int .i64 l[k].call) ∧ w.cell? ⟨b, o + k * 7 + 1, none⟩ = some (.int .i64 l[k].op) ∧ w.cell? ⟨b, o + k * 7 + 2, none⟩ = some (.int .u64 l[k].to_) ∧ w.cell? ⟨b, o + k * 7 + 3, none⟩ = some (.int .u64 l[k].at_) ∧ w.cell? ⟨b, o + k * 7 + 4, none⟩ = some (.int .u64 l[k].n) ∧ w.cell? ⟨b, o + k * 7 + 5, none⟩ = some (.int .u64 l[k].x) ∧ w.cell? ⟨b, o + k * 7 + 6, none⟩ = some (.slice Ab l[k].b.length cb) ∧ (Lit.int .i64 l[k].call).wf = true ∧ (Lit.int .i64 l[k].op).wf = true ∧ (Lit.int .u64 l[k].to_).wf = true ∧ (Lit.int .u64 l[k].at_).wf = true ∧ (Lit.int .u64 l[k].n).wf = true ∧ (Lit.int .u64 l[k].x).wf = true ∧ l[k].b.length ≤ cb ∧ cb ≤ maxLen ∧ (Ty.int .u8).els w S Ab l[k].b := by
  obtain ⟨b, o, ds, rfl, hb, hc, hr⟩ := h.at_ k hk
  obtain ⟨Ab, cb, rfl, f0, f1, f2, f3, f4, f5, f6, f7, f8⟩ := Ac_cells hr
  have e : tAc.size = 7 := rfl
  rw [e] at hc
  exact ⟨b, o, Ab, cb, rfl, hb, hc 0 _ rfl, (by have := hc 1 _ rfl; rwa [← Nat.add_assoc] at this), (by have := hc 2 _ rfl; rwa [← Nat.add_assoc] at this), (by have := hc 3 _ rfl; rwa [← Nat.add_assoc] at this), (by have := hc 4 _ rfl; rwa [← Nat.add_assoc] at this), (by have := hc 5 _ rfl; rwa [← Nat.add_assoc] at this), (by have := hc 6 _ rfl; rwa [← Nat.add_assoc] at this), f0, f1, f2, f3, f4, f5, f6, f7, f8⟩

theorem ints_at {k : IntKind} {w : World} {S : Nat → Prop} {A : Option Addr} {l : List Int} (h : (Ty.int k).els w S A l) (i : Nat) (hi : i < l.length) : ∃ (b o : Nat), A = some ⟨b, o, none⟩ ∧ S b ∧
    w.cell? ⟨b, o + i, none⟩ = some (.int k l[i]) ∧ (Lit.int k l[i]).wf = true := by
  obtain ⟨b, o, ds, rfl, hb, hc, rfl, hw⟩ := h.at_ i hi
  have := hc 0 _ rfl
  have e : (Ty.int k).size = 1 := rfl
  rw [e, Nat.mul_one, Nat.add_zero] at this
  exact ⟨b, o, rfl, hb, this, hw⟩
theorem int_mk {k : IntKind} {w : World} {S : Nat → Prop} {n : Int} (h : (Lit.int k n).wf = true) : (Ty.int k).rd w S [.int k n] n := ⟨rfl, h⟩
theorem blk_els {α : Type} {t : Ty α} [TyOk t] [hm : TyMore t] {w : World} {q : Nat} {S : Nat → Prop} {e : TypeId} {css : List (List Value)} {xs : List α} (hb : Blk w q e css.flatten.toArray) (hq : S q) (h : Css t w S css xs) : t.els w S (some ⟨q, 0, none⟩) xs :=
  css_els h hm (fun _ h => h) hq 0 (fun k u hu => by rw [Nat.zero_add, hb.cell]; simpa using hu)
theorem wf_bool64 {n : Int} (h : -9223372036854775808 ≤ n ∧ n ≤ 9223372036854775807) : (Lit.int .i64 n).wf = true := by
  simpa [Lit.wf, IntKind.min, IntKind.max, IntKind.signed, IntKind.bits] using h

end Go.Proofs.Ytpmnijjfadhocaa
