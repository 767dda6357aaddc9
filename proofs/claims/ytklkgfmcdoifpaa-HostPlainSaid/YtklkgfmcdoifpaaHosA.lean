/- Host functions, acts, values and function types as data. No condition. -/
import Derived.Test.YtklkgfmcdoifpaaTy
import Derived.Test.YtklkgfmcdoifpaaApp
namespace Go.Proofs.Ytklkgfmcdoifpaa
open Go.RowKit

structure Vl where
  t : Int
  n : Int
deriving DecidableEq
structure Ac where
  kind : Int
  vals : List Vl
  mem : Int
  at_ : Int
  byte : Int
deriving DecidableEq
structure Fn where
  params : List Int
  results : List Int
deriving DecidableEq
structure Ho where
  mod : ByteArray
  name : ByteArray
  ty : Fn
  acts : List Ac

def tVl0 : Ty (Int × Int) := (Ty.int .i64).pair (Ty.int .u64)
instance : TyOk tVl0 := by unfold tVl0; infer_instance
def tVl : Ty Vl := tVl0.iso fun a => (a.t, a.n)
instance : TyOk tVl := by unfold tVl; infer_instance
def tAc0 : Ty (Int × List Vl × Int × Int × Int) := (Ty.int .i64).pair (tVl.slice.pair ((Ty.int .i64).pair ((Ty.int .i64).pair (Ty.int .u8))))
instance : TyOk tAc0 := by unfold tAc0; infer_instance
def tAc : Ty Ac := tAc0.iso fun a => (a.kind, a.vals, a.mem, a.at_, a.byte)
instance : TyOk tAc := by unfold tAc; infer_instance
def tFn0 : Ty (List Int × List Int) := (Ty.int .i64).slice.pair (Ty.int .i64).slice
instance : TyOk tFn0 := by unfold tFn0; infer_instance
def tFn : Ty Fn := tFn0.iso fun a => (a.params, a.results)
instance : TyOk tFn := by unfold tFn; infer_instance
def tHo0 : Ty (ByteArray × ByteArray × Fn × List Ac) := Ty.str.pair (Ty.str.pair (tFn.pair tAc.slice))
instance : TyOk tHo0 := by unfold tHo0; infer_instance
def tHo : Ty Ho := tHo0.iso fun a => (a.mod, a.name, a.ty, a.acts)
instance : TyOk tHo := by unfold tHo; infer_instance

theorem opens_vl : Opens Try.prog 51 tVl := by
  refine opens_iso _ (fun x => ⟨x.1, x.2⟩) (fun _ => rfl) ?_
  exact opens_struct Try.underlying51 (by kernel_rfl)
    (Flds.cons rfl (by kernel_rfl) (opens_int Try.underlying48) (Flds.one rfl (by kernel_rfl) (opens_int Try.underlying49)))
theorem opens_vls : Opens Try.prog 30 tVl.slice := opens_slice Try.underlying30 (by kernel_rfl) (by decide) opens_vl
theorem opens_ac : Opens Try.prog 32 tAc := by
  refine opens_iso _ (fun x => ⟨x.1, x.2.1, x.2.2.1, x.2.2.2.1, x.2.2.2.2⟩) (fun _ => rfl) ?_
  exact opens_struct Try.underlying32 (by kernel_rfl)
    (Flds.cons rfl (by kernel_rfl) (opens_int Try.underlying3) (Flds.cons rfl (by kernel_rfl) opens_vls
    (Flds.cons rfl (by kernel_rfl) (opens_int Try.underlying3) (Flds.cons rfl (by kernel_rfl) (opens_int Try.underlying3)
    (Flds.one rfl (by kernel_rfl) (opens_int Try.underlying5))))))
theorem opens_acs : Opens Try.prog 25 tAc.slice := opens_slice Try.underlying25 (by kernel_rfl) (by decide) opens_ac
theorem opens_vts : Opens Try.prog 22 (Ty.int .i64).slice := opens_slice Try.underlying22 (by kernel_rfl) (by decide) (opens_int Try.underlying48)
theorem opens_fn : Opens Try.prog 24 tFn := by
  refine opens_iso _ (fun x => ⟨x.1, x.2⟩) (fun _ => rfl) ?_
  exact opens_struct Try.underlying24 (by kernel_rfl) (Flds.cons rfl (by kernel_rfl) opens_vts (Flds.one rfl (by kernel_rfl) opens_vts))
theorem opens_ho : Opens Try.prog 27 tHo := by
  refine opens_iso _ (fun x => ⟨x.1, x.2.1, x.2.2.1, x.2.2.2⟩) (fun _ => rfl) ?_
  exact opens_struct Try.underlying27 (by kernel_rfl)
    (Flds.cons rfl (by kernel_rfl) (opens_str Try.underlying9) (Flds.cons rfl (by kernel_rfl) (opens_str Try.underlying9)
    (Flds.cons rfl (by kernel_rfl) opens_fn (Flds.one rfl (by kernel_rfl) opens_acs))))
theorem opens_hos : Opens Try.prog 41 tHo.slice := opens_slice Try.underlying41 (by kernel_rfl) (by decide) opens_ho

theorem wf_u8 {n : Int} (h : (Lit.int .u8 n).wf = true) : 0 ≤ n ∧ n ≤ 255 := by
  simpa [Lit.wf, IntKind.min, IntKind.max, IntKind.signed, IntKind.bits] using h

/-- The cells of a value. -/
theorem vl_cells {w : World} {B : Nat} {cs : List Value} {a : Vl} (h : tVl.rd w B cs a) : cs = [.int .i64 a.t, .int .u64 a.n] ∧ (-9223372036854775808 ≤ a.t ∧ a.t ≤ 9223372036854775807) ∧ 0 ≤ a.n ∧ a.n < 18446744073709551616 := by
  obtain ⟨c1, c2, rfl, ⟨rfl, w1⟩, rfl, w2⟩ := h
  exact ⟨rfl, wf_i64 w1, wf_u64 w2⟩
theorem vl_at {w : World} {B : Nat} {A : Option Addr} {l : List Vl} (h : tVl.els w B A l) (k : Nat) (hk : k < l.length) : ∃ (b o : Nat), A = some ⟨b, o, none⟩ ∧ b < B ∧
    w.cell? ⟨b, o + k * 2, none⟩ = some (.int .i64 l[k].t) ∧ w.cell? ⟨b, o + k * 2 + 1, none⟩ = some (.int .u64 l[k].n) ∧ (-9223372036854775808 ≤ l[k].t ∧ l[k].t ≤ 9223372036854775807) ∧ 0 ≤ l[k].n ∧ l[k].n < 18446744073709551616 := by
  obtain ⟨b, o, ds, rfl, hb, hc, hr⟩ := h.at_ k hk
  obtain ⟨rfl, h1, h2⟩ := vl_cells hr
  have e : tVl.size = 2 := rfl
  rw [e] at hc
  exact ⟨b, o, rfl, hb, hc 0 _ rfl, by have := hc 1 _ rfl; rwa [← Nat.add_assoc] at this, h1, h2⟩

theorem ac_cells {w : World} {B : Nat} {cs : List Value} {a : Ac} (h : tAc.rd w B cs a) : ∃ (A : Option Addr) (c : Nat),
    cs = [.int .i64 a.kind, .slice A a.vals.length c, .int .i64 a.mem, .int .i64 a.at_, .int .u8 a.byte] ∧ a.vals.length ≤ c ∧ c ≤ maxLen ∧ tVl.els w B A a.vals ∧
    (-9223372036854775808 ≤ a.kind ∧ a.kind ≤ 9223372036854775807) ∧ (-9223372036854775808 ≤ a.mem ∧ a.mem ≤ 9223372036854775807) ∧ (-9223372036854775808 ≤ a.at_ ∧ a.at_ ≤ 9223372036854775807) ∧ 0 ≤ a.byte ∧ a.byte ≤ 255 := by
  obtain ⟨c1, r1, rfl, ⟨rfl, w1⟩, c2, r2, rfl, ⟨A, c, rfl, h1, h2, h3⟩, c3, r3, rfl, ⟨rfl, w3⟩, c4, r4, rfl, ⟨rfl, w4⟩, rfl, w5⟩ := h
  exact ⟨A, c, rfl, h1, h2, h3, wf_i64 w1, wf_i64 w3, wf_i64 w4, wf_u8 w5⟩
theorem ac_at {w : World} {B : Nat} {A : Option Addr} {l : List Ac} (h : tAc.els w B A l) (k : Nat) (hk : k < l.length) : ∃ (b o : Nat) (LA : Option Addr) (c : Nat), A = some ⟨b, o, none⟩ ∧ b < B ∧
    w.cell? ⟨b, o + k * 5, none⟩ = some (.int .i64 l[k].kind) ∧ w.cell? ⟨b, o + k * 5 + 1, none⟩ = some (.slice LA l[k].vals.length c) ∧ w.cell? ⟨b, o + k * 5 + 2, none⟩ = some (.int .i64 l[k].mem) ∧
    w.cell? ⟨b, o + k * 5 + 3, none⟩ = some (.int .i64 l[k].at_) ∧ w.cell? ⟨b, o + k * 5 + 4, none⟩ = some (.int .u8 l[k].byte) ∧ l[k].vals.length ≤ c ∧ c ≤ maxLen ∧ tVl.els w B LA l[k].vals ∧
    (-9223372036854775808 ≤ l[k].kind ∧ l[k].kind ≤ 9223372036854775807) ∧ (-9223372036854775808 ≤ l[k].mem ∧ l[k].mem ≤ 9223372036854775807) ∧ (-9223372036854775808 ≤ l[k].at_ ∧ l[k].at_ ≤ 9223372036854775807) ∧ 0 ≤ l[k].byte ∧ l[k].byte ≤ 255 := by
  obtain ⟨b, o, ds, rfl, hb, hc, hr⟩ := h.at_ k hk
  obtain ⟨LA, c, rfl, h1, h2, h3, h4⟩ := ac_cells hr
  have e : tAc.size = 5 := rfl
  rw [e] at hc
  exact ⟨b, o, LA, c, rfl, hb, hc 0 _ rfl, by have := hc 1 _ rfl; rwa [← Nat.add_assoc] at this, by have := hc 2 _ rfl; rwa [← Nat.add_assoc] at this, by have := hc 3 _ rfl; rwa [← Nat.add_assoc] at this,
    by have := hc 4 _ rfl; rwa [← Nat.add_assoc] at this, h1, h2, h3, h4⟩
theorem fn_cells {w : World} {B : Nat} {cs : List Value} {a : Fn} (h : tFn.rd w B cs a) : ∃ (A1 : Option Addr) (c1 : Nat) (A2 : Option Addr) (c2 : Nat),
    cs = [.slice A1 a.params.length c1, .slice A2 a.results.length c2] ∧ a.params.length ≤ c1 ∧ c1 ≤ maxLen ∧ (Ty.int .i64).els w B A1 a.params ∧ a.results.length ≤ c2 ∧ c2 ≤ maxLen ∧ (Ty.int .i64).els w B A2 a.results := by
  obtain ⟨x1, x2, rfl, ⟨A, c, rfl, h1, h2, h3⟩, A', c', rfl, h1', h2', h3'⟩ := h
  exact ⟨A, c, A', c', rfl, h1, h2, h3, h1', h2', h3'⟩
theorem ho_cells {w : World} {B : Nat} {cs : List Value} {a : Ho} (h : tHo.rd w B cs a) : ∃ (A1 : Option Addr) (c1 : Nat) (A2 : Option Addr) (c2 : Nat) (A3 : Option Addr) (c3 : Nat),
    cs = [.string a.mod, .string a.name, .slice A1 a.ty.params.length c1, .slice A2 a.ty.results.length c2, .slice A3 a.acts.length c3] ∧ a.mod.size ≤ maxLen ∧ a.name.size ≤ maxLen ∧
    a.ty.params.length ≤ c1 ∧ c1 ≤ maxLen ∧ (Ty.int .i64).els w B A1 a.ty.params ∧ a.ty.results.length ≤ c2 ∧ c2 ≤ maxLen ∧ (Ty.int .i64).els w B A2 a.ty.results ∧ a.acts.length ≤ c3 ∧ c3 ≤ maxLen ∧ tAc.els w B A3 a.acts := by
  obtain ⟨x1, r1, rfl, ⟨rfl, w1⟩, x2, r2, rfl, ⟨rfl, w2⟩, x3, r3, rfl, hf, A3, c3, rfl, h1, h2, h3⟩ := h
  obtain ⟨A1, c1, A2, c2, rfl, g⟩ := fn_cells hf
  obtain ⟨g1, g2, g3, g4, g5, g6⟩ := g
  exact ⟨A1, c1, A2, c2, A3, c3, rfl, w1, w2, g1, g2, g3, g4, g5, g6, h1, h2, h3⟩
theorem ho_at {w : World} {B : Nat} {A : Option Addr} {l : List Ho} (h : tHo.els w B A l) (k : Nat) (hk : k < l.length) : ∃ (b o : Nat), A = some ⟨b, o, none⟩ ∧ b < B ∧
    w.cell? ⟨b, o + k * 5, none⟩ = some (.string l[k].mod) ∧ w.cell? ⟨b, o + k * 5 + 1, none⟩ = some (.string l[k].name) ∧ l[k].mod.size ≤ maxLen ∧ l[k].name.size ≤ maxLen := by
  obtain ⟨b, o, ds, rfl, hb, hc, hr⟩ := h.at_ k hk
  obtain ⟨A1, c1, A2, c2, A3, c3, rfl, h1, h2, _⟩ := ho_cells hr
  have e : tHo.size = 5 := rfl
  rw [e] at hc
  exact ⟨b, o, rfl, hb, hc 0 _ rfl, by have := hc 1 _ rfl; rwa [← Nat.add_assoc] at this, h1, h2⟩
theorem int_at {k : IntKind} {w : World} {B : Nat} {A : Option Addr} {l : List Int} (h : (Ty.int k).els w B A l) (i : Nat) (hi : i < l.length) : ∃ (b o : Nat), A = some ⟨b, o, none⟩ ∧ b < B ∧
    w.cell? ⟨b, o + i, none⟩ = some (.int k l[i]) ∧ (Lit.int k l[i]).wf = true := by
  obtain ⟨b, o, ds, rfl, hb, hc, rfl, hw⟩ := h.at_ i hi
  have := hc 0 _ rfl
  have e : (Ty.int k).size = 1 := rfl
  rw [e, Nat.mul_one, Nat.add_zero] at this
  exact ⟨b, o, rfl, hb, this, hw⟩
end Go.Proofs.Ytklkgfmcdoifpaa
