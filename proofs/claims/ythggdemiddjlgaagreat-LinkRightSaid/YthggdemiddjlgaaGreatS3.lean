/- Part 3 of the proof: lemmas and contracts of functions. No condition. -/
import Derived.Test.YthggdemiddjlgaaGreatS2
import Derived.Test.YthggdemiddjlgaaGreatS1
set_option maxRecDepth 100000
set_option maxHeartbeats 12800000
set_option linter.unusedVariables false
set_option linter.unusedSimpArgs false
set_option linter.unusedSectionVars false
namespace Go.Proofs.YthggdemiddjlgaaGreat
open Go.RowKit Go.Proofs.Tryz
theorem rt_int {k : IntKind} {a b : Int} (h : a = b) : Ending.returned (.int k a) = .returned (.int k b) := by rw [h]
abbrev tI : Ty Int := Ty.int .i64
abbrev tB : Ty Int := Ty.int .u8
def Emp : Nat → Prop := fun _ => False
def tPt : Ty Nat := ⟨1, fun _ _ cs p => cs = [.pointer (some ⟨p, 0, none⟩)], fun _ _ => True, 8, fun _ _ => True⟩
instance : TyOk tPt := ⟨fun _ _ _ _ h => by rw [show _ = _ from h]; rfl, fun _ _ _ _ _ h _ => h⟩
instance : TyMore tPt := ⟨fun _ _ _ _ _ h _ => h⟩
instance : kAG tPt := ⟨fun _ _ _ _ h u hu => by rw [show _ = _ from h] at hu; simp at hu; subst hu; rfl⟩
theorem kAP {w w' w0 : World} {base : Nat} {e : TypeId} {α : Type} {t : Ty α} {S : Nat → Prop} {v : Value} {l : List α} (h : t.row w base S e v l) (F : Fr No w0 w) (f : Fr (fun k => some k = v.ownBlock) w w') (hb : w0.heap.size ≤ base) : Fr No w0 w' :=
 F.trans f (fun i hi hh => by have := (h.own hh.symm).1; omega)
def kAZ {α : Type} (t : Ty α) (el : TypeId) (S : Nat → Prop) (l : List α) (w : World) (e : Ending) (w' : World) : Prop :=
 ∃ (A : OA) (c : Nat), e = .returned (.slice A l.length c) ∧ t.row w' w.heap.size S el (.slice A l.length c) l ∧ Fr No w w'
theorem kAe {α : Type} {t : Ty α} [TyOk t] [TyMore t] {w : World} {base : Nat} {S : Nat → Prop} {el : TypeId} {l : List α} {A : OA} {c : Nat} (h : t.row w base S el (.slice A l.length c) l) : l.length ≤ c ∧ c ≤ maxLen ∧ t.els w (fun k => S k ∨ base ≤ k ∧ k < w.heap.size) A l := by
 obtain ⟨A', c', e, h1, h2, h3⟩ := h.els (S' := fun k => S k ∨ base ≤ k ∧ k < w.heap.size) (fun _ h => .inl h) (fun g hg => by obtain ⟨h0, _, hb⟩ := h.own hg; exact .inr ⟨h0, hb.lt⟩)
 injection e with e1 _ e3
 subst e1 e3
 exact ⟨h1, h2, h3⟩
theorem elVl : ElemOk prog 224 84 2 16 (.agg #[.int .i64 0, .int .u64 0]) := ElemOk.mk' underlying224 kr rfl dc
theorem elAc : ElemOk prog 96 226 5 56 (.agg #[.int .i64 0, .slice none 0 0, .int .i64 0, .int .i64 0, .int .u8 0]) := ElemOk.mk' underlying96 kr rfl dc
theorem kIO : ElemOk prog 76 35 1 8 (.int .i64 0) := ElemOk.mk' underlying76 kr rfl dc
theorem kFx : ElemOk prog 23 3 1 8 (.int .i64 0) := ElemOk.mk' underlying23 kr rfl dc
theorem elU8 : ElemOk prog 87 5 1 1 (.int .u8 0) := ElemOk.mk' underlying87 kr rfl dc
theorem elFi : ElemOk prog 25 80 4 64 (.agg #[.slice none 0 0, .slice none 0 0, .int .i64 0, .int .i64 0]) := ElemOk.mk' underlying25 kr rfl dc
theorem elHo : ElemOk prog 22 98 5 104 (.agg #[.string ⟨#[]⟩, .string ⟨#[]⟩, .slice none 0 0, .slice none 0 0, .slice none 0 0]) := ElemOk.mk' underlying22 kr rfl dc
theorem kIc : ElemOk prog 162 128 1 8 (.pointer none) := ElemOk.mk' underlying162 kr rfl dc
theorem kId : ElemOk prog 165 131 1 8 (.pointer none) := ElemOk.mk' underlying165 kr rfl dc
theorem elGg : ElemOk prog 168 188 4 32 (.agg #[.int .i64 0, .bool false, .int .i64 0, .int .u64 0]) := ElemOk.mk' underlying168 kr rfl dc
theorem elGi : ElemOk prog 177 210 18 400 (.agg #[.slice none 0 0, .slice none 0 0, .slice none 0 0, .slice none 0 0, .slice none 0 0, .slice none 0 0, .slice none 0 0, .bool false, .int .i64 0, .slice none 0 0, .slice none 0 0, .slice none 0 0, .slice none 0 0, .slice none 0 0, .slice none 0 0, .slice none 0 0, .slice none 0 0, .slice none 0 0]) := ElemOk.mk' underlying177 kr rfl dc
theorem elFn : ElemOk prog 44 78 2 48 (.agg #[.slice none 0 0, .slice none 0 0]) := ElemOk.mk' underlying44 kr rfl dc
theorem elIm : ElemOk prog 45 43 13 120 (.agg #[.string ⟨#[]⟩, .string ⟨#[]⟩, .int .i64 0, .int .i64 0, .int .i64 0, .int .i64 0, .int .i64 0, .bool false, .int .i64 0, .int .i64 0, .bool false, .int .i64 0, .bool false]) := ElemOk.mk' underlying45 kr rfl dc
theorem elTb : ElemOk prog 47 39 4 32 (.agg #[.int .i64 0, .int .i64 0, .int .i64 0, .bool false]) := ElemOk.mk' underlying47 kr rfl dc
theorem kIe : ElemOk prog 48 37 3 24 (.agg #[.int .i64 0, .int .i64 0, .bool false]) := ElemOk.mk' underlying48 kr rfl dc
theorem elEx : ElemOk prog 50 110 3 32 (.agg #[.string ⟨#[]⟩, .int .i64 0, .int .i64 0]) := ElemOk.mk' underlying50 kr rfl dc
theorem kIf : ElemOk prog 104 159 9 104 (.agg #[.int .i64 0, .int .i64 0, .int .i64 0, .int .u64 0, .int .i64 0, .int .i64 0, .int .i64 0, .slice none 0 0, .slice none 0 0]) := ElemOk.mk' underlying104 kr rfl dc
theorem elCd : ElemOk prog 46 106 3 56 (.agg #[.int .i64 0, .slice none 0 0, .slice none 0 0]) := ElemOk.mk' underlying46 kr rfl dc
theorem elGd : ElemOk prog 49 108 3 40 (.agg #[.int .i64 0, .bool false, .slice none 0 0]) := ElemOk.mk' underlying49 kr rfl dc
theorem elEl : ElemOk prog 51 112 5 72 (.agg #[.int .i64 0, .int .i64 0, .slice none 0 0, .int .i64 0, .slice none 0 0]) := ElemOk.mk' underlying51 kr rfl dc
theorem kBl : ElemOk prog 103 104 1 24 (.slice none 0 0) := ElemOk.mk' underlying103 kr rfl dc
theorem elDa : ElemOk prog 52 114 4 64 (.agg #[.int .i64 0, .int .i64 0, .slice none 0 0, .slice none 0 0]) := ElemOk.mk' underlying52 kr rfl dc
theorem elCu : ElemOk prog 53 116 3 48 (.agg #[.int .i64 0, .string ⟨#[]⟩, .slice none 0 0]) := ElemOk.mk' underlying53 kr rfl dc
theorem kCt (A : OA) (c : Nat) (l : List Int) (S : Nat → Prop) (w : World) (h : tB.els w S A l) (hS : Lt S w) (hl : l.length * 1 ≤ 140737488351232) :
    Calls prog 108 #[.slice A l.length c] w (kAZ tB 5 S l w) := by
 cases A with
 | none =>
  have hn : l = [] := by
   exact yy21
  subst hn
  have he := fun W => Lib.run_eql_slice_nil (P := prog) W 87 _ none 0 c 0 0 underlying87
  go_enter func108, ntmps108
  exact yy15
 | some ad =>
  obtain ⟨css, hcs, hrd⟩ := kAk h hS
  have F0 := hid ((Fr.refl No w).alloc (.cells #[] 5))
  have R0 := hid (Ty.row.lit (t := tB) (S := S) (base := w.heap.size) (css := []) (xs := []) (Blk.new w 5 #[]) nr Css.nil dc)
  have HC := hid (hcs.fr F0.o (fun k hk => ⟨hS k hk, fun x => x⟩))
  have HR := hid (hrd.fr F0.o (fun _ _ x => x))
  have HS := hid hS
  clear h hcs hrd hS
  obtain ⟨n, hn⟩ : ∃ n, l.length = n := ⟨_, rfl⟩
  have HN := hid hn
  rw [hn] at hl ⊢
  clear hn
  have he := fun W => Lib.run_eql_slice_nil (P := prog) W 87 _ (some ad) n c 0 0 underlying87
  go_enter func108, ntmps108
  go_wp2_with (at_builtin; refine kAK (t := tB) (base := w.heap.size) (S := S) (xs := []) (ys := l) (dss := css) (B2 := w.heap.size) elU8 rfl rfl rfl rfl R0.o HC.o HR.o HN.o so so (fun k hk => ⟨ltl (HS.o k hk) F0.o.size, fun e => by have := HS.o k hk; have e2 := Option.some.inj (show some k = some w.heap.size from e); omega⟩) F0.o.size ?_; intro v1 w2 hr1 fr1 hv1; have F2 := hid (kAP R0.o F0.o fr1 nr); have R1 := hid hr1; clear hr1 fr1 hv1)
  exact yy3
theorem kEW (A : OA) (c : Nat) (l : List Vl) (S : Nat → Prop) (w : World) (h : tVl.els w S A l) (hS : Lt S w) (hl : l.length * 16 ≤ 140737488351232) :
    Calls prog 83 #[.slice A l.length c] w (kAZ tVl 84 S l w) := by
 cases A with
 | none =>
  have hn : l = [] := by
   exact yy21
  subst hn
  have he := fun W => Lib.run_eql_slice_nil (P := prog) W 224 _ none 0 c 0 0 underlying224
  go_enter func83, ntmps83
  exact yy15
 | some ad =>
  obtain ⟨css, hcs, hrd⟩ := kAk h hS
  have F0 := hid ((Fr.refl No w).alloc (.cells #[] 84))
  have R0 := hid (Ty.row.lit (t := tVl) (S := S) (base := w.heap.size) (css := []) (xs := []) (Blk.new w 84 #[]) nr Css.nil dc)
  have HC := hid (hcs.fr F0.o (fun k hk => ⟨hS k hk, fun x => x⟩))
  have HR := hid (hrd.fr F0.o (fun _ _ x => x))
  have HS := hid hS
  clear h hcs hrd hS
  obtain ⟨n, hn⟩ : ∃ n, l.length = n := ⟨_, rfl⟩
  have HN := hid hn
  rw [hn] at hl ⊢
  clear hn
  have he := fun W => Lib.run_eql_slice_nil (P := prog) W 224 _ (some ad) n c 0 0 underlying224
  go_enter func83, ntmps83
  go_wp2_with (at_builtin; refine kAK (t := tVl) (base := w.heap.size) (S := S) (xs := []) (ys := l) (dss := css) (B2 := w.heap.size) elVl rfl rfl rfl rfl R0.o HC.o HR.o HN.o so so (fun k hk => ⟨ltl (HS.o k hk) F0.o.size, fun e => by have := HS.o k hk; have e2 := Option.some.inj (show some k = some w.heap.size from e); omega⟩) F0.o.size ?_; intro v1 w2 hr1 fr1 hv1; have F2 := hid (kAP R0.o F0.o fr1 nr); have R1 := hid hr1; clear hr1 fr1 hv1)
  exact yy3
theorem kEa (A : OA) (c : Nat) (l : List Ac) (S : Nat → Prop) (w : World) (h : tAc.els w S A l) (hS : Lt S w) (hl : l.length * 56 ≤ 140737488351232) :
    Calls prog 82 #[.slice A l.length c] w (kAZ tAc 226 S l w) := by
 cases A with
 | none =>
  have hn : l = [] := by
   exact yy21
  subst hn
  have he := fun W => Lib.run_eql_slice_nil (P := prog) W 96 _ none 0 c 0 0 underlying96
  go_enter func82, ntmps82
  exact yy15
 | some ad =>
  obtain ⟨css, hcs, hrd⟩ := kAk h hS
  have F0 := hid ((Fr.refl No w).alloc (.cells #[] 226))
  have R0 := hid (Ty.row.lit (t := tAc) (S := S) (base := w.heap.size) (css := []) (xs := []) (Blk.new w 226 #[]) nr Css.nil dc)
  have HC := hid (hcs.fr F0.o (fun k hk => ⟨hS k hk, fun x => x⟩))
  have HR := hid (hrd.fr F0.o (fun _ _ x => x))
  have HS := hid hS
  clear h hcs hrd hS
  obtain ⟨n, hn⟩ : ∃ n, l.length = n := ⟨_, rfl⟩
  have HN := hid hn
  rw [hn] at hl ⊢
  clear hn
  have he := fun W => Lib.run_eql_slice_nil (P := prog) W 96 _ (some ad) n c 0 0 underlying96
  go_enter func82, ntmps82
  go_wp2_with (at_builtin; refine kAK (t := tAc) (base := w.heap.size) (S := S) (xs := []) (ys := l) (dss := css) (B2 := w.heap.size) elAc rfl rfl rfl rfl R0.o HC.o HR.o HN.o so so (fun k hk => ⟨ltl (HS.o k hk) F0.o.size, fun e => by have := HS.o k hk; have e2 := Option.some.inj (show some k = some w.heap.size from e); omega⟩) F0.o.size ?_; intro v1 w2 hr1 fr1 hv1; have F2 := hid (kAP R0.o F0.o fr1 nr); have R1 := hid hr1; clear hr1 fr1 hv1)
  exact yy3
theorem kAi (A : OA) (c : Nat) (l : List Int) (S : Nat → Prop) (w : World) (h : tI.els w S A l) (hS : Lt S w) (hl : l.length * 8 ≤ 140737488351232) :
    Calls prog 89 #[.slice A l.length c] w (kAZ tI 35 S l w) := by
 cases A with
 | none =>
  have hn : l = [] := by
   exact yy21
  subst hn
  have he := fun W => Lib.run_eql_slice_nil (P := prog) W 76 _ none 0 c 0 0 underlying76
  go_enter func89, ntmps89
  exact yy15
 | some ad =>
  obtain ⟨css, hcs, hrd⟩ := kAk h hS
  have F0 := hid ((Fr.refl No w).alloc (.cells #[] 35))
  have R0 := hid (Ty.row.lit (t := tI) (S := S) (base := w.heap.size) (css := []) (xs := []) (Blk.new w 35 #[]) nr Css.nil dc)
  have HC := hid (hcs.fr F0.o (fun k hk => ⟨hS k hk, fun x => x⟩))
  have HR := hid (hrd.fr F0.o (fun _ _ x => x))
  have HS := hid hS
  clear h hcs hrd hS
  obtain ⟨n, hn⟩ : ∃ n, l.length = n := ⟨_, rfl⟩
  have HN := hid hn
  rw [hn] at hl ⊢
  clear hn
  have he := fun W => Lib.run_eql_slice_nil (P := prog) W 76 _ (some ad) n c 0 0 underlying76
  go_enter func89, ntmps89
  go_wp2_with (at_builtin; refine kAK (t := tI) (base := w.heap.size) (S := S) (xs := []) (ys := l) (dss := css) (B2 := w.heap.size) kIO rfl rfl rfl rfl R0.o HC.o HR.o HN.o so so (fun k hk => ⟨ltl (HS.o k hk) F0.o.size, fun e => by have := HS.o k hk; have e2 := Option.some.inj (show some k = some w.heap.size from e); omega⟩) F0.o.size ?_; intro v1 w2 hr1 fr1 hv1; have F2 := hid (kAP R0.o F0.o fr1 nr); have R1 := hid hr1; clear hr1 fr1 hv1)
  exact yy3
theorem kAd (A : OA) (c : Nat) (l : List Int) (S : Nat → Prop) (w : World) (h : tI.els w S A l) (hS : Lt S w) (hl : l.length * 8 ≤ 140737488351232) :
    Calls prog 111 #[.slice A l.length c] w (kAZ tI 3 S l w) := by
 cases A with
 | none =>
  have hn : l = [] := by
   exact yy21
  subst hn
  have he := fun W => Lib.run_eql_slice_nil (P := prog) W 23 _ none 0 c 0 0 underlying23
  go_enter func111, ntmps111
  exact yy15
 | some ad =>
  obtain ⟨css, hcs, hrd⟩ := kAk h hS
  have F0 := hid ((Fr.refl No w).alloc (.cells #[] 3))
  have R0 := hid (Ty.row.lit (t := tI) (S := S) (base := w.heap.size) (css := []) (xs := []) (Blk.new w 3 #[]) nr Css.nil dc)
  have HC := hid (hcs.fr F0.o (fun k hk => ⟨hS k hk, fun x => x⟩))
  have HR := hid (hrd.fr F0.o (fun _ _ x => x))
  have HS := hid hS
  clear h hcs hrd hS
  obtain ⟨n, hn⟩ : ∃ n, l.length = n := ⟨_, rfl⟩
  have HN := hid hn
  rw [hn] at hl ⊢
  clear hn
  have he := fun W => Lib.run_eql_slice_nil (P := prog) W 23 _ (some ad) n c 0 0 underlying23
  go_enter func111, ntmps111
  go_wp2_with (at_builtin; refine kAK (t := tI) (base := w.heap.size) (S := S) (xs := []) (ys := l) (dss := css) (B2 := w.heap.size) kFx rfl rfl rfl rfl R0.o HC.o HR.o HN.o so so (fun k hk => ⟨ltl (HS.o k hk) F0.o.size, fun e => by have := HS.o k hk; have e2 := Option.some.inj (show some k = some w.heap.size from e); omega⟩) F0.o.size ?_; intro v1 w2 hr1 fr1 hv1; have F2 := hid (kAP R0.o F0.o fr1 nr); have R1 := hid hr1; clear hr1 fr1 hv1)
  exact yy3
theorem kEY (A : OA) (c : Nat) (l : List Im) (S : Nat → Prop) (w : World) (h : tIm.els w S A l) (hS : Lt S w) (hl : l.length * 120 ≤ 140737488351232) :
    Calls prog 94 #[.slice A l.length c] w (kAZ tIm 43 S l w) := by
 cases A with
 | none =>
  have hn : l = [] := by
   exact yy21
  subst hn
  have he := fun W => Lib.run_eql_slice_nil (P := prog) W 45 _ none 0 c 0 0 underlying45
  go_enter func94, ntmps94
  exact yy15
 | some ad =>
  obtain ⟨css, hcs, hrd⟩ := kAk h hS
  have F0 := hid ((Fr.refl No w).alloc (.cells #[] 43))
  have R0 := hid (Ty.row.lit (t := tIm) (S := S) (base := w.heap.size) (css := []) (xs := []) (Blk.new w 43 #[]) nr Css.nil dc)
  have HC := hid (hcs.fr F0.o (fun k hk => ⟨hS k hk, fun x => x⟩))
  have HR := hid (hrd.fr F0.o (fun _ _ x => x))
  have HS := hid hS
  clear h hcs hrd hS
  obtain ⟨n, hn⟩ : ∃ n, l.length = n := ⟨_, rfl⟩
  have HN := hid hn
  rw [hn] at hl ⊢
  clear hn
  have he := fun W => Lib.run_eql_slice_nil (P := prog) W 45 _ (some ad) n c 0 0 underlying45
  go_enter func94, ntmps94
  go_wp2_with (at_builtin; refine kAK (t := tIm) (base := w.heap.size) (S := S) (xs := []) (ys := l) (dss := css) (B2 := w.heap.size) elIm rfl rfl rfl rfl R0.o HC.o HR.o HN.o so so (fun k hk => ⟨ltl (HS.o k hk) F0.o.size, fun e => by have := HS.o k hk; have e2 := Option.some.inj (show some k = some w.heap.size from e); omega⟩) F0.o.size ?_; intro v1 w2 hr1 fr1 hv1; have F2 := hid (kAP R0.o F0.o fr1 nr); have R1 := hid hr1; clear hr1 fr1 hv1)
  exact yy3
theorem kEX (A : OA) (c : Nat) (l : List Tb) (S : Nat → Prop) (w : World) (h : tTb.els w S A l) (hS : Lt S w) (hl : l.length * 32 ≤ 140737488351232) :
    Calls prog 95 #[.slice A l.length c] w (kAZ tTb 39 S l w) := by
 cases A with
 | none =>
  have hn : l = [] := by
   exact yy21
  subst hn
  have he := fun W => Lib.run_eql_slice_nil (P := prog) W 47 _ none 0 c 0 0 underlying47
  go_enter func95, ntmps95
  exact yy15
 | some ad =>
  obtain ⟨css, hcs, hrd⟩ := kAk h hS
  have F0 := hid ((Fr.refl No w).alloc (.cells #[] 39))
  have R0 := hid (Ty.row.lit (t := tTb) (S := S) (base := w.heap.size) (css := []) (xs := []) (Blk.new w 39 #[]) nr Css.nil dc)
  have HC := hid (hcs.fr F0.o (fun k hk => ⟨hS k hk, fun x => x⟩))
  have HR := hid (hrd.fr F0.o (fun _ _ x => x))
  have HS := hid hS
  clear h hcs hrd hS
  obtain ⟨n, hn⟩ : ∃ n, l.length = n := ⟨_, rfl⟩
  have HN := hid hn
  rw [hn] at hl ⊢
  clear hn
  have he := fun W => Lib.run_eql_slice_nil (P := prog) W 47 _ (some ad) n c 0 0 underlying47
  go_enter func95, ntmps95
  go_wp2_with (at_builtin; refine kAK (t := tTb) (base := w.heap.size) (S := S) (xs := []) (ys := l) (dss := css) (B2 := w.heap.size) elTb rfl rfl rfl rfl R0.o HC.o HR.o HN.o so so (fun k hk => ⟨ltl (HS.o k hk) F0.o.size, fun e => by have := HS.o k hk; have e2 := Option.some.inj (show some k = some w.heap.size from e); omega⟩) F0.o.size ?_; intro v1 w2 hr1 fr1 hv1; have F2 := hid (kAP R0.o F0.o fr1 nr); have R1 := hid hr1; clear hr1 fr1 hv1)
  exact yy3
theorem kDu (A : OA) (c : Nat) (l : List Lim) (S : Nat → Prop) (w : World) (h : tLim.els w S A l) (hS : Lt S w) (hl : l.length * 24 ≤ 140737488351232) :
    Calls prog 96 #[.slice A l.length c] w (kAZ tLim 37 S l w) := by
 cases A with
 | none =>
  have hn : l = [] := by
   exact yy21
  subst hn
  have he := fun W => Lib.run_eql_slice_nil (P := prog) W 48 _ none 0 c 0 0 underlying48
  go_enter func96, ntmps96
  exact yy15
 | some ad =>
  obtain ⟨css, hcs, hrd⟩ := kAk h hS
  have F0 := hid ((Fr.refl No w).alloc (.cells #[] 37))
  have R0 := hid (Ty.row.lit (t := tLim) (S := S) (base := w.heap.size) (css := []) (xs := []) (Blk.new w 37 #[]) nr Css.nil dc)
  have HC := hid (hcs.fr F0.o (fun k hk => ⟨hS k hk, fun x => x⟩))
  have HR := hid (hrd.fr F0.o (fun _ _ x => x))
  have HS := hid hS
  clear h hcs hrd hS
  obtain ⟨n, hn⟩ : ∃ n, l.length = n := ⟨_, rfl⟩
  have HN := hid hn
  rw [hn] at hl ⊢
  clear hn
  have he := fun W => Lib.run_eql_slice_nil (P := prog) W 48 _ (some ad) n c 0 0 underlying48
  go_enter func96, ntmps96
  go_wp2_with (at_builtin; refine kAK (t := tLim) (base := w.heap.size) (S := S) (xs := []) (ys := l) (dss := css) (B2 := w.heap.size) kIe rfl rfl rfl rfl R0.o HC.o HR.o HN.o so so (fun k hk => ⟨ltl (HS.o k hk) F0.o.size, fun e => by have := HS.o k hk; have e2 := Option.some.inj (show some k = some w.heap.size from e); omega⟩) F0.o.size ?_; intro v1 w2 hr1 fr1 hv1; have F2 := hid (kAP R0.o F0.o fr1 nr); have R1 := hid hr1; clear hr1 fr1 hv1)
  exact yy3
theorem kEZ (A : OA) (c : Nat) (l : List Ex) (S : Nat → Prop) (w : World) (h : tEx.els w S A l) (hS : Lt S w) (hl : l.length * 32 ≤ 140737488351232) :
    Calls prog 97 #[.slice A l.length c] w (kAZ tEx 110 S l w) := by
 cases A with
 | none =>
  have hn : l = [] := by
   exact yy21
  subst hn
  have he := fun W => Lib.run_eql_slice_nil (P := prog) W 50 _ none 0 c 0 0 underlying50
  go_enter func97, ntmps97
  exact yy15
 | some ad =>
  obtain ⟨css, hcs, hrd⟩ := kAk h hS
  have F0 := hid ((Fr.refl No w).alloc (.cells #[] 110))
  have R0 := hid (Ty.row.lit (t := tEx) (S := S) (base := w.heap.size) (css := []) (xs := []) (Blk.new w 110 #[]) nr Css.nil dc)
  have HC := hid (hcs.fr F0.o (fun k hk => ⟨hS k hk, fun x => x⟩))
  have HR := hid (hrd.fr F0.o (fun _ _ x => x))
  have HS := hid hS
  clear h hcs hrd hS
  obtain ⟨n, hn⟩ : ∃ n, l.length = n := ⟨_, rfl⟩
  have HN := hid hn
  rw [hn] at hl ⊢
  clear hn
  have he := fun W => Lib.run_eql_slice_nil (P := prog) W 50 _ (some ad) n c 0 0 underlying50
  go_enter func97, ntmps97
  go_wp2_with (at_builtin; refine kAK (t := tEx) (base := w.heap.size) (S := S) (xs := []) (ys := l) (dss := css) (B2 := w.heap.size) elEx rfl rfl rfl rfl R0.o HC.o HR.o HN.o so so (fun k hk => ⟨ltl (HS.o k hk) F0.o.size, fun e => by have := HS.o k hk; have e2 := Option.some.inj (show some k = some w.heap.size from e); omega⟩) F0.o.size ?_; intro v1 w2 hr1 fr1 hv1; have F2 := hid (kAP R0.o F0.o fr1 nr); have R1 := hid hr1; clear hr1 fr1 hv1)
  exact yy3
theorem kAM {a b : Bool} (h : a = b) : Ending.returned (.bool a) = .returned (.bool b) := by rw [h]
def kAc (t : Int) : Bool := decide (1 ≤ t ∧ t ≤ 4)
def kBs (l : List Int) : Bool := decide (l.length ≤ 8) && l.all kAc
def fnB (f : Fn) : Bool := kBs f.params && kBs f.results
def vlB (v : Vl) : Bool := kAc v.t && (decide (v.t ≠ 1) || decide (v.n < 4294967296))
theorem kHT (t : Int) (w : World) : Calls prog 122 #[.int .i64 t] w fun e w' => e = .returned (.bool (t == 1 || t == 2)) ∧ w = w' := by
 go_enter func122, ntmps122
 go_wp2
 all_goals
  go_ret
  refine ⟨kAM ?_, rfl⟩
  simp_all
theorem kHQ (t : Int) (w : World) : Calls prog 90 #[.int .i64 t] w fun e w' => e = .returned (.bool (t == 3 || t == 4)) ∧ w = w' := by
 go_enter func90, ntmps90
 go_wp2
 all_goals
  go_ret
  refine ⟨kAM ?_, rfl⟩
  simp_all
theorem kCK (t : Int) (w : World) : Calls prog 84 #[.int .i64 t] w fun e w' => e = .returned (.bool (kAc t)) ∧ w = w' := by
 go_enter func84, ntmps84
 go_wp2_with (first
  | (go_at_call 122; refine (kHT _ _).mono ?_; rintro e w' ⟨rfl, rfl⟩)
  | (go_at_call 90; refine (kHQ _ _).mono ?_; rintro e w' ⟨rfl, rfl⟩))
 all_goals
  go_ret
  refine ⟨kAM ?_, rfl⟩
  rw [Bool.eq_iff_iff]
  simp_all [kAc] <;> omega
theorem kCh (v : Vl) (w : World) : Calls prog 85 #[.agg #[.int .i64 v.t, .int .u64 v.n]] w fun e w' => e = .returned (.bool (vlB v)) ∧ Fr No w w' := by
 go_enter func85, ntmps85
 go_wp2_with (first
  | (go_at_call 84; refine (kCK _ _).mono ?_; rintro e w' ⟨rfl, rfl⟩))
 all_goals
  go_ret
  refine ⟨kAM ?_, (Fr.refl No w).alloc _⟩
  simp_all [vlB]
theorem kGx {l : List Int} {k : Nat} (hk : k < l.length) (h : (l.take k).all kAc = true) (hv : kAc l[k] = true) : (l.take (k + 1)).all kAc = true := by
 rw [List.take_succ_eq_append_getElem hk, List.all_append, h]; simp [hv]
theorem kGw {l : List Int} {k : Nat} (hk : k < l.length) (hv : kAc l[k] = false) : l.all kAc = false := by
 rw [← Bool.not_eq_true]; intro h
 have := List.all_eq_true.1 h l[k] (List.getElem_mem hk)
 rw [hv] at this; cases this
theorem kDB (A : OA) (l : List Int) (c B : Nat) (w : World) (hr : (Ty.int .i64).els w (· < B) A l) (hl : l.length ≤ 140737488351232) :
    Calls prog 87 #[.slice A l.length c, .func (.func 84) #[] #[]] w fun e w' => e = .returned (.bool (kBs l)) ∧ w = w' := by
 by_cases h8 : 8 < l.length
 · go_enter func87, ntmps87
   go_wp2
   go_ret
   refine ⟨kAM ?_, rfl⟩
   simp [kBs]; omega
 go_enter func87, ntmps87
 go_wp2
 go_loop [12] (fun i => ∃ k : Nat, k ≤ l.length ∧ i = .int .i64 k ∧ Hid ((l.take k).all kAc = true)) (fun i => l.length - (intOf i).toNat)
 case atStart => exact ⟨0, by omega, rfl, by simp [Hid]⟩
 obtain ⟨k, hk, rfl, HA⟩ := hrel
 by_cases hlt : k < l.length
 · obtain ⟨b, o, rfl, _, hc, _⟩ := kFp hr k hlt
   cases hv : kAc l[k] with
   | true =>
    have HV := hid hv
    go_wp2_with (first
     | (go_at_call 84; refine (kCK _ _).mono ?_; rintro e w' ⟨rfl, rfl⟩))
    go_round
    case rel => exact ⟨k + 1, by omega, by go_num, kGx hlt HA.o HV.o⟩
    case measure => simp [intOf]; omega
   | false =>
    have HV := hid hv
    go_wp2_with (first
     | (go_at_call 84; refine (kCK _ _).mono ?_; rintro e w' ⟨rfl, rfl⟩))
    go_ret
    refine ⟨kAM ?_, rfl⟩
    simp [kBs, kGw hlt HV.o]
 go_wp2
 go_ret
 refine ⟨kAM ?_, rfl⟩
 have h := HA.o
 rw [List.take_of_length_le (by omega)] at h
 rw [kBs, h]
 simp
 try omega
theorem kAh (f : Fn) (A1 A2 : OA) (c1 c2 B : Nat) (w : World) (hB : B ≤ w.heap.size) (h1 : (Ty.int .i64).els w (· < B) A1 f.params) (h2 : (Ty.int .i64).els w (· < B) A2 f.results) (l1 : f.params.length ≤ 140737488351232) (l2 : f.results.length ≤ 140737488351232) :
    Calls prog 56 #[.agg #[.slice A1 f.params.length c1, .slice A2 f.results.length c2]] w fun e w' => e = .returned (.bool (fnB f)) ∧ Fr No w w' := by
 have F := hid ((Fr.refl No w).alloc (.cells #[.slice A1 f.params.length c1, .slice A2 f.results.length c2] 78))
 have H1 := hid (h1.frB hB F.o (fun _ _ x => x))
 have H2 := hid (h2.frB hB F.o (fun _ _ x => x))
 cases hp : kBs f.params with
 | true =>
  go_enter func56, ntmps56
  go_wp2_with fail
  refine (kDB _ _ _ _ _ H1.o om).mono ?_
  rintro e w' ⟨rfl, rfl⟩
  rw [hp]
  go_wp2_with fail
  refine (kDB _ _ _ _ _ H2.o om).mono ?_
  rintro e w' ⟨rfl, rfl⟩
  go_wp2
  go_ret
  exact ⟨kAM (by simp [fnB, hp]), F.o⟩
 | false =>
  go_enter func56, ntmps56
  go_wp2_with fail
  refine (kDB _ _ _ _ _ H1.o om).mono ?_
  rintro e w' ⟨rfl, rfl⟩
  rw [hp]
  go_wp2
  go_ret
  exact ⟨kAM (by simp [fnB, hp]), F.o⟩
def kBX (vs : List Vl) (ts : List Int) (i : Nat) : Bool :=
 match vs[i]?, ts[i]? with
 | some v, some t => vlB v && decide (v.t = t)
 | _, _ => false
def fitB (vs : List Vl) (ts : List Int) : Bool := decide (vs.length = ts.length) && kBE (kBX vs ts) vs.length
theorem kFw {vs : List Vl} {ts : List Int} {i : Nat} (h : i < vs.length) (h' : i < ts.length) : kBX vs ts i = (vlB vs[i] && decide (vs[i].t = ts[i])) := by
 simp [kBX, h, h']
theorem kIN {vs : List Vl} {ts : List Int} (h : ¬ vs.length = ts.length) : false = fitB vs ts := by simp [fitB, h]
theorem kFv {vs : List Vl} {ts : List Int} {i : Nat} (h : i < vs.length) (hp : kBX vs ts i = false) : false = fitB vs ts := by simp [fitB, kCu h hp]
theorem kHk {vs : List Vl} {ts : List Int} (hl : vs.length = ts.length) (h : kBE (kBX vs ts) vs.length = true) : true = fitB vs ts := by simp [fitB, hl]; rw [← hl, h]
theorem kGp {vs : List Vl} {ts : List Int} {i : Nat} {v : Vl} {t : Int} (h : i < vs.length) (h' : i < ts.length) (hv : vs[i] = v) (ht : ts[i] = t) {r : Bool} (hr : (vlB v && decide (v.t = t)) = r) : kBX vs ts i = r := by
 rw [kFw h h', hv, ht, hr]
theorem kGI (A A' : OA) (vs : List Vl) (ts : List Int) (c c' B B' : Nat) (w : World) (hB : B ≤ w.heap.size) (hB' : B' ≤ w.heap.size) (ha : tVl.els w (· < B) A vs) (hb : (Ty.int .i64).els w (· < B') A' ts) (h1 : vs.length ≤ 140737488351232) (h2 : ts.length ≤ 140737488351232) :
    Calls prog 121 #[.slice A vs.length c, .slice A' ts.length c'] w fun e w' => e = .returned (.bool (fitB vs ts)) ∧ Fr No w w' := by
 by_cases hl : vs.length = ts.length
 · have e1 : (((vs.length : Nat) : Int) != ((ts.length : Nat) : Int)) = false := by simp [hl]
   have hL := hid hl
   have hl1 : vs.length ≤ ts.length := om
   clear hl
   go_enter func121, ntmps121
   go_wp2
   go_loopw [14] (fun i wr => ∃ k : Nat, k ≤ vs.length ∧ i = .int .i64 k ∧ Hid (Fr No w wr) ∧ Hid (kBE (kBX vs ts) k = true)) (fun i _ => vs.length - (intOf i).toNat)
   case atStart => exact ⟨0, by omega, rfl, Fr.refl _ _, rfl⟩
   obtain ⟨k, hk, rfl, HF, HQ⟩ := hrel
   clear e1
   by_cases hlt : k < vs.length
   · obtain ⟨b, o, rfl, hbB, c1, c2, _⟩ := kIW ha k hlt
     obtain ⟨b', o', rfl, hbB', c3, _⟩ := kFp hb k om
     have i0 := nki k
     have i1 : (k : Int) < vs.length := om
     have i2 : (k : Int) < ts.length := om
     have HX : Hid (∀ X, Fr No w X → Ce X b (o + k * 2) (.int .i64 vs[k].t) ∧ Ce X b (o + k * 2 + 1) (.int .u64 vs[k].n) ∧ Ce X b' (o' + k) (.int .i64 ts[k])) := fun X f =>
      ⟨(f.cell (p := ⟨b, _, none⟩) (ltl hbB hB) id).trans c1, (f.cell (p := ⟨b, _, none⟩) (ltl hbB hB) id).trans c2, (f.cell (p := ⟨b', _, none⟩) (ltl hbB' hB') id).trans c3⟩
     clear c1 c2 c3
     have HM : Hid (∀ r, (vlB vs[k] && decide (vs[k].t = ts[k])) = r → kBX vs ts k = r) := fun r hr => kGp hlt om rfl rfl hr
     generalize vs[k] = x at *
     generalize ts[k] = t at *
     clear ha hb
     obtain ⟨s0, s1, s2⟩ := HX.o _ HF.o
     go_wp2
     clear s0 s1 s2
     have NB := hid (Blk.new wr 84 #[.int .i64 x.t, .int .u64 x.n])
     have HF1 := hid (HF.o.alloc (.cells #[.int .i64 x.t, .int .u64 x.n] 84))
     generalize wr.heap.size = g at *
     generalize wr.alloc (.cells #[.int .i64 x.t, .int .u64 x.n] 84) = W0 at *
     have HY : Hid (∀ X, Fr No W0 X → Ce X g 0 (.int .i64 x.t) ∧ Ce X g 1 (.int .u64 x.n) ∧ Ce X b' (o' + k) (.int .i64 t)) := fun X f =>
      ⟨(NB.o.fr f id).cell 0, (NB.o.fr f id).cell 1, (HX.o X (HF1.o.trans f i3)).2.2⟩
     clear HX
     refine rwO (fun X => Ce X g 0 (.int .i64 x.t) ∧ Ce X g 1 (.int .u64 x.n) ∧ Ce X b' (o' + k) (.int .i64 t)) [] (List.range 14) [1] (HY.o _ (Fr.refl _ _).drew) ?_
     refine rC ?_
     refine wpO_eff rfl rfl fun K hK => sz ?_
     refine (kCh x _).mono ?_
     cases hv : vlB x with
     | true =>
      rintro e w1 ⟨rfl, f1⟩
      have F1 := hid ((Fr.refl No W0).drew.trans f1 i3)
      clear f1
      refine hK _ _ (fun _ => HY.o _ F1.o) ?_
      clear hK K
      have HV := hid hv
      clear hv
      by_cases ht : x.t = t
      · subst ht
        refine rC ?_
        refine wpO_nil ?_
        go_wp2
        go_roundw
        case rel => exact ⟨k + 1, by omega, by go_num, HF1.o.trans F1.o i3, kCv HQ.o (HM.o _ (by rw [HV.o]; simp))⟩
        simp [intOf]; omega
      · have ht' : decide (x.t = t) = false := decide_eq_false ht
        refine rC ?_
        refine wpO_nil ?_
        go_wp2
        go_ret
        exact ⟨kAM (kFv hlt (HM.o _ (by rw [HV.o]; simpa using ht))), HF1.o.trans F1.o i3⟩
     | false =>
      rintro e w1 ⟨rfl, f1⟩
      have F1 := hid ((Fr.refl No W0).drew.trans f1 i3)
      clear f1
      refine hK _ _ (fun _ => HY.o _ F1.o) ?_
      clear hK K
      have HV := hid hv
      clear hv
      refine rC ?_
      refine wpO_nil ?_
      go_wp2
      go_ret
      exact ⟨kAM (kFv hlt (HM.o _ (by rw [HV.o]; simp))), HF1.o.trans F1.o i3⟩
   go_wp2
   go_ret
   refine ⟨kAM ?_, HF.o⟩
   obtain rfl : k = vs.length := om
   exact kHk hL.o HQ.o
 have e1 : (((vs.length : Nat) : Int) != ((ts.length : Nat) : Int)) = true := by simp; omega
 have hL := hid hl
 clear hl
 go_enter func121, ntmps121
 go_wp2
 go_ret
 exact ⟨kAM (kIN hL.o), Fr.refl _ _⟩
def actB (a : Ac) (r : List Int) : Bool :=
 if a.kind = 0 then fitB a.vals r && (decide (a.mem = 0) && (decide (a.at_ = 0) && decide (a.byte = 0)))
 else if a.kind = 1 then decide (a.vals.length = 0) && (decide (a.mem = 0) && (decide (a.at_ = 0) && decide (a.byte = 0)))
 else if a.kind = 2 then fitB a.vals r && (decide (0 ≤ a.mem) && decide (0 ≤ a.at_))
 else false
theorem kHq {w w1 : World} {kind v mem at_ byte : Value} {t u : TypeId} {ds : Array Value} (f : Fr No ((w.alloc (.cells #[kind, v, mem, at_, byte] t)).alloc (.cells ds u)) w1) :
    w1.cell? ⟨w.heap.size, 0, none⟩ = some kind ∧ w1.cell? ⟨w.heap.size, 1, none⟩ = some v ∧ w1.cell? ⟨w.heap.size, 2, none⟩ = some mem ∧ w1.cell? ⟨w.heap.size, 3, none⟩ = some at_ ∧ w1.cell? ⟨w.heap.size, 4, none⟩ = some byte := by
 have h := ((Blk.new w t #[kind, v, mem, at_, byte]).alloc (.cells ds u)).fr f id
 exact ⟨h.cell 0, h.cell 1, h.cell 2, h.cell 3, h.cell 4⟩
theorem kHX (kind mem at_ byte : Int) (vals : List Vl) (np : Nat) (rs : List Int) (A A1 A2 : OA) (c c1 c2 B : Nat) (w : World) (hB : B ≤ w.heap.size) (ha : tVl.els w (· < B) A vals) (h2 : (Ty.int .i64).els w (· < B) A2 rs) (l1 : vals.length ≤ 140737488351232) (l2 : rs.length ≤ 140737488351232) :
    Calls prog 81 #[.agg #[.int .i64 kind, .slice A vals.length c, .int .i64 mem, .int .i64 at_, .int .u8 byte], .agg #[.slice A1 np c1, .slice A2 rs.length c2]] w fun e w' => e = .returned (.bool (actB ⟨kind, vals, mem, at_, byte⟩ rs)) ∧ Fr No w w' := by
 have H1 := hid ha
 have H2 := hid h2
 have HB := hid hB
 have L1 := hid l1
 have L2 := hid l2
 clear ha h2 hB l1 l2
 cases hf : fitB vals rs
 all_goals
  have HV := hid hf
  clear hf
  go_enter func81, ntmps81
  go_wp2_with (first
   | (go_at_call 121; refine (kGI _ _ vals rs _ _ B B _ (Nat.le_trans HB.o (((Fr.refl No w).alloc _).alloc _).size) (Nat.le_trans HB.o (((Fr.refl No w).alloc _).alloc _).size) (H1.o.frB HB.o (((Fr.refl No w).alloc _).alloc _) (fun _ _ x => x)) (H2.o.frB HB.o (((Fr.refl No w).alloc _).alloc _) (fun _ _ x => x)) L1.o L2.o).mono ?_; rintro e w1 ⟨rfl, f1⟩; rw [HV.o]; obtain ⟨z0, z1, z2, z3, z4⟩ := kHq f1; have F1 := hid ((((Fr.refl No w).alloc _).alloc _).trans f1 i3); clear f1))
  all_goals
   go_ret
   refine ⟨kAM ?_, by first | exact F1.o | exact (((Fr.refl No w).alloc _).alloc _)⟩
   have hv := HV.o
   clear H1 H2 HB HV L1 L2
   first | (simp_all [actB]; done) | (simp_all [actB]; omega) | (rw [Bool.eq_iff_iff]; simp_all [actB]; done) | (rw [Bool.eq_iff_iff]; simp_all [actB]; omega)
theorem ret_bool {a b : Bool} (h : a = b) : Ending.returned (.bool a) = .returned (.bool b) := by rw [h]
theorem ret_int {k : IntKind} {a b : Int} (h : a = b) : Ending.returned (.int k a) = .returned (.int k b) := by rw [h]
def Ks (k : IntKind) (xs : List Int) : LV := xs.map (Value.int k)
@[simp] theorem kIH (k : IntKind) (xs : List Int) : (Ks k xs).length = xs.length := by simp [Ks]
theorem kJD (k : IntKind) (xs : List Int) : ∀ u ∈ Ks k xs, u.oneCell' = true := by
 intro u hu
 simp only [Ks, List.mem_map] at hu
 obtain ⟨a, _, rfl⟩ := hu
 rfl
theorem kGF (k : IntKind) (xs ys : List Int) : Ks k (xs ++ ys) = Ks k xs ++ Ks k ys := by simp [Ks]
def cb (b : UInt8) : Bool := decide (128 ≤ b.toNat ∧ b.toNat < 192)
def isR (n : Nat) : Bool := decide (n < 55296 ∨ (57343 < n ∧ n ≤ 1114111))
def headN (b : Nat) : Nat := if 192 ≤ b ∧ b < 224 then 2 else if 224 ≤ b ∧ b < 240 then 3 else if 240 ≤ b ∧ b < 248 then 4 else 0
def headL (b : Nat) : Nat := if 192 ≤ b ∧ b < 224 then 128 else if 224 ≤ b ∧ b < 240 then 2048 else if 240 ≤ b ∧ b < 248 then 65536 else 0
def headX (b : Nat) : Nat := if 192 ≤ b ∧ b < 224 then b - 192 else if 224 ≤ b ∧ b < 240 then b - 224 else if 240 ≤ b ∧ b < 248 then b - 240 else 0
def conts : Nat → List UInt8 → Nat → Option Nat
 | 0, _, x => some x
 | _ + 1, [], _ => none
 | k + 1, c :: r, x => if cb c then conts k r (x * 64 + (c.toNat - 128)) else none
def dec : List UInt8 → Option (Nat × Nat)
 | [] => none
 | b :: r =>
  if b.toNat < 128 then some (b.toNat, 1)
  else if headN b.toNat = 0 ∨ r.length + 1 < headN b.toNat then none
  else match conts (headN b.toNat - 1) r (headX b.toNat) with
   | none => none
   | some x => if x < headL b.toNat ∨ isR x = false then none else some (x, headN b.toNat)
def wid (l : List UInt8) : Nat := match dec l with | some (_, n) => n | none => 1
theorem getB (s : ByteArray) (i : Nat) : s.get! i = s.data.toList.getD i 0 := by
 show s.data[i]! = _
 rw [Array.getElem!_eq_getD, Array.getD_eq_getD_getElem?, List.getD_eq_getElem?_getD, Array.getElem?_toList]
 rfl
theorem kCs {l : List UInt8} {c n : Nat} (h : dec l = some (c, n)) : 1 ≤ n ∧ n ≤ l.length ∧ n ≤ 4 ∧ isR c = true := by
 cases l with
 | nil => simp [dec] at h
 | cons b r =>
  simp only [dec] at h
  split at h
  · simp at h; obtain ⟨rfl, rfl⟩ := h; refine ⟨by omega, by simp, by omega, ?_⟩; simp [isR]; omega
  · split at h
    · cases h
    rename_i h1 h2
    split at h
    · cases h
    split at h
    · cases h
    rename_i h3
    simp at h; obtain ⟨rfl, rfl⟩ := h
    have : headN b.toNat ≤ 4 := by unfold headN; split <;> (try split) <;> (try split) <;> omega
    refine ⟨by omega, by simp; omega, this, ?_⟩
    exact Bool.not_eq_false _ |>.mp fun hh => h3 (.inr hh)
theorem kHw (l : List UInt8) (h : l ≠ []) : 1 ≤ wid l ∧ wid l ≤ l.length ∧ wid l ≤ 4 := by
 unfold wid
 cases hd : dec l with
 | none => have := List.length_pos_iff.2 h; exact ⟨by simp, by simp; omega, by simp⟩
 | some p => obtain ⟨h1, h2, h3, _⟩ := kCs hd; exact ⟨h1, h2, h3⟩
theorem kIP (b : UInt8) : (b.toNat / 64 == 2) = cb b := by
 have := b.toNat_lt
 simp only [cb]
 rw [Bool.eq_iff_iff]; simp; omega
theorem kDr (y n L : Nat) (p : Prop) [Decidable p] (hp : p ↔ L ≤ y ∧ isR y = true) : (if p then (y, n) else (65533, 1)) = (if y < L ∨ isR y = false then none else some (y, n)).getD (65533, 1) := by
 by_cases h : p
 · have := hp.1 h
   rw [if_pos h, if_neg (by intro h'; rcases h' with h' | h'; omega; simp [this.2] at h')]; rfl
 rw [if_neg h, if_pos]; rfl
 by_cases h1 : L ≤ y
 · right; cases h2 : isR y with
   | false => rfl
   | true => exact absurd (hp.2 ⟨h1, h2⟩) h
 left; omega
theorem kBG (y : Nat) : Utf8.valid (y : Int) = isR y := by
 simp only [isR, Utf8.valid]; rw [Bool.eq_iff_iff]; simp; omega
theorem kBw (s : ByteArray) (i : Nat) (hi : i < s.size) : Utf8.decode s i = (dec (s.data.toList.drop i)).getD (65533, 1) := by
 have hz : s.data.toList.length = s.size := by simp
 obtain ⟨l, hl⟩ : ∃ l, s.data.toList.drop i = l := ⟨_, rfl⟩
 have hlen : l.length = s.size - i := by rw [← hl]; simp
 have hg : ∀ k, s.get! (i + k) = l.getD k 0 := fun k => by
  rw [getB, ← hl]; simp [List.getD_eq_getElem?_getD, List.getElem?_drop]
 have hc : ∀ k, decide (i + k < s.size) = decide (k < l.length) := fun k => by rw [hlen]; simp; omega
 rw [hl]
 unfold Utf8.decode
 simp only [hg, hc, kIP]
 clear hg hc hl hz
 match l, hlen with
 | [], h => simp at h; omega
 | b :: r, _ =>
  have hb := b.toNat_lt
  simp only [List.getD_cons_zero]
  by_cases h0 : b.toNat < 128
  · simp [dec, h0]
  · have e6 : (b.toNat / 32 == 6) = decide (192 ≤ b.toNat ∧ b.toNat < 224) := by rw [Bool.eq_iff_iff]; simp; omega
    have e14 : (b.toNat / 16 == 14) = decide (224 ≤ b.toNat ∧ b.toNat < 240) := by rw [Bool.eq_iff_iff]; simp; omega
    have e30 : (b.toNat / 8 == 30) = decide (240 ≤ b.toNat ∧ b.toNat < 248) := by rw [Bool.eq_iff_iff]; simp; omega
    rw [e6, e14, e30]
    by_cases h2 : 192 ≤ b.toNat ∧ b.toNat < 224
    · have h3 : ¬ (224 ≤ b.toNat ∧ b.toNat < 240) := om
      have h4 : ¬ (240 ≤ b.toNat ∧ b.toNat < 248) := om
      match r with
      | [] => simp [dec, h0, h2, h3, h4, headN, Utf8.runeError]
      | c1 :: r =>
       by_cases k1 : cb c1
       · have k1' : 128 ≤ c1.toNat ∧ c1.toNat < 192 := by simpa [cb] using k1
         have e1 : b.toNat % 32 * 64 + c1.toNat % 64 = (b.toNat - 192) * 64 + (c1.toNat - 128) := om
         have e2 : isR ((b.toNat - 192) * 64 + (c1.toNat - 128)) = true := by simp [isR]; omega
         simp only [List.getD_cons_zero, List.getD_cons_succ, e1, kBG]
         simp [dec, h0, h2, headN, headX, headL, conts, k1, Utf8.runeError]
         generalize (b.toNat - 192) * 64 + (c1.toNat - 128) = y at e2
         rw [if_neg (show ¬ r.length + 1 + 1 < 2 by omega)]
         exact kDr y 2 128 (128 ≤ y) (by simp [e2])
       · exact yy59
    by_cases h3 : 224 ≤ b.toNat ∧ b.toNat < 240
    · have h4 : ¬ (240 ≤ b.toNat ∧ b.toNat < 248) := om
      match r with
      | [] => simp [dec, h0, h2, h3, h4, headN, Utf8.runeError]
      | [c1] => simp [dec, h0, h2, h3, h4, headN, Utf8.runeError]
      | c1 :: c2 :: r =>
       by_cases k1 : cb c1
       · by_cases k2 : cb c2
         · have k1' : 128 ≤ c1.toNat ∧ c1.toNat < 192 := by simpa [cb] using k1
           have k2' : 128 ≤ c2.toNat ∧ c2.toNat < 192 := by simpa [cb] using k2
           have e1 : b.toNat % 16 * 4096 + c1.toNat % 64 * 64 + c2.toNat % 64 = ((b.toNat - 224) * 64 + (c1.toNat - 128)) * 64 + (c2.toNat - 128) := om
           simp only [List.getD_cons_zero, List.getD_cons_succ, e1, kBG]
           simp [dec, h0, h2, h3, headN, headX, headL, conts, k1, k2, Utf8.runeError, kBG]
           generalize ((b.toNat - 224) * 64 + (c1.toNat - 128)) * 64 + (c2.toNat - 128) = y
           rw [if_neg (show ¬ r.length + 1 + 1 + 1 < 3 by omega)]
           generalize hL : 2048 = L
           exact kDr y 3 L _ Iff.rfl
         simp [dec, h0, h2, h3, h4, headN, headX, headL, conts, k1, k2, Utf8.runeError]
       · exact yy59
    by_cases h4 : 240 ≤ b.toNat ∧ b.toNat < 248
    · match r with
      | [] => simp [dec, h0, h2, h3, h4, headN, Utf8.runeError]
      | [c1] => simp [dec, h0, h2, h3, h4, headN, Utf8.runeError]
      | [c1, c2] => simp [dec, h0, h2, h3, h4, headN, Utf8.runeError]
      | c1 :: c2 :: c3 :: r =>
       by_cases k1 : cb c1
       · by_cases k2 : cb c2
         · by_cases k3 : cb c3
           · have k1' : 128 ≤ c1.toNat ∧ c1.toNat < 192 := by simpa [cb] using k1
             have k2' : 128 ≤ c2.toNat ∧ c2.toNat < 192 := by simpa [cb] using k2
             have k3' : 128 ≤ c3.toNat ∧ c3.toNat < 192 := by simpa [cb] using k3
             have e1 : b.toNat % 8 * 262144 + c1.toNat % 64 * 4096 + c2.toNat % 64 * 64 + c3.toNat % 64 = (((b.toNat - 240) * 64 + (c1.toNat - 128)) * 64 + (c2.toNat - 128)) * 64 + (c3.toNat - 128) := om
             simp only [List.getD_cons_zero, List.getD_cons_succ, e1, kBG]
             simp [dec, h0, h2, h3, h4, headN, headX, headL, conts, k1, k2, k3, Utf8.runeError, kBG]
             generalize (((b.toNat - 240) * 64 + (c1.toNat - 128)) * 64 + (c2.toNat - 128)) * 64 + (c3.toNat - 128) = y
             rw [if_neg (show ¬ r.length + 1 + 1 + 1 + 1 < 4 by omega)]
             generalize hL : 65536 = L
             exact kDr y 4 L _ Iff.rfl
           simp [dec, h0, h2, h3, h4, headN, headX, headL, conts, k1, k2, k3, Utf8.runeError]
         simp [dec, h0, h2, h3, h4, headN, headX, headL, conts, k1, k2, Utf8.runeError]
       · exact yy59
    simp [dec, h0, h2, h3, h4, headN, Utf8.runeError]
theorem kFN (s : ByteArray) (i : Nat) (hi : i < s.size) : (Utf8.decode s i).2 = wid (s.data.toList.drop i) := by
 rw [kBw s i hi]
 unfold wid
 cases dec (s.data.toList.drop i) <;> rfl
def kBi : Nat → List UInt8 → Option (List Int)
 | 0, _ => some []
 | f + 1, l => match l with
  | [] => some []
  | _ :: _ => match dec l with
   | none => none
   | some (c, n) => (kBi f (l.drop n)).map ((c : Int) :: ·)
def kAU (l : List UInt8) : Option (List Int) := kBi l.length l
theorem kDF : ∀ (f g : Nat) (l : List UInt8), l.length ≤ f → l.length ≤ g → kBi f l = kBi g l
 | 0, 0, _, _, _ => rfl
 | 0, g + 1, l, h, _ => by
  have : l = [] := List.eq_nil_of_length_eq_zero om
  subst this; rfl
 | f + 1, 0, l, _, h => by
  have : l = [] := List.eq_nil_of_length_eq_zero om
  subst this; rfl
 | f + 1, g + 1, l, hf, hg => by
  cases l with
  | nil => rfl
  | cons b r =>
   simp only [kBi]
   cases hd : dec (b :: r) with
   | none => rfl
   | some p =>
    obtain ⟨c, n⟩ := p
    obtain ⟨h1, h2, _⟩ := kCs hd
    simp only
    rw [kDF f g _ (by simp at *; omega) (by simp at *; omega)]
theorem kFd : kAU [] = some [] := rfl
theorem kDd {l : List UInt8} (h : l ≠ []) : kAU l = match dec l with | none => none | some (c, n) => (kAU (l.drop n)).map ((c : Int) :: ·) := by
 cases l with
 | nil => exact absurd rfl h
 | cons b r =>
  unfold kAU
  simp only [List.length_cons, kBi]
  cases hd : dec (b :: r) with
  | none => rfl
  | some p =>
   obtain ⟨c, n⟩ := p
   obtain ⟨h1, h2, _⟩ := kCs hd
   simp only
   rw [kDF r.length _ _ (by simp at *; omega) nr]
def enc (x : Nat) : List UInt8 :=
 if x < 128 then [UInt8.ofNat x]
 else if x < 2048 then [UInt8.ofNat (192 + x / 64), UInt8.ofNat (128 + x % 64)]
 else if x < 65536 then [UInt8.ofNat (224 + x / 4096), UInt8.ofNat (128 + x / 64 % 64), UInt8.ofNat (128 + x % 64)]
 else [UInt8.ofNat (240 + x / 262144), UInt8.ofNat (128 + x / 4096 % 64), UInt8.ofNat (128 + x / 64 % 64), UInt8.ofNat (128 + x % 64)]
theorem kAj {n : Nat} (h : n < 256) : (UInt8.ofNat n).toNat = n := by simp; omega
theorem kBB (y : Nat) : cb (UInt8.ofNat (128 + y % 64)) = true ∧ (UInt8.ofNat (128 + y % 64)).toNat - 128 = y % 64 := by
 rw [cb, kAj (by omega)]
 exact ⟨by simp; omega, by omega⟩
theorem kII {x : Nat} (h : isR x = true) : x ≤ 1114111 := by simp [isR] at h; omega
theorem kHn (x : Nat) (r : List UInt8) (h : isR x = true) : dec (enc x ++ r) = some (x, (enc x).length) := by
 have hx := kII h
 unfold enc
 split
 · simp only [List.cons_append, List.nil_append, dec]
   rw [kAj (by omega), if_pos (by assumption)]; rfl
 split
 · obtain ⟨k1, k2⟩ := kBB x
   simp only [List.cons_append, List.nil_append, dec]
   rw [kAj (by omega), if_neg (by omega)]
   have e1 : headN (192 + x / 64) = 2 := by unfold headN; rw [if_pos (by omega)]
   have e2 : headX (192 + x / 64) = x / 64 := by unfold headX; rw [if_pos (by omega)]; omega
   have e3 : headL (192 + x / 64) = 128 := by unfold headL; rw [if_pos (by omega)]
   rw [e1, e2, e3, if_neg (by simp)]
   simp only [conts, k1, k2, if_true]
   have e4 : x / 64 * 64 + x % 64 = x := om
   rw [e4, if_neg (by simp [h]; omega)]
   rfl
 split
 · obtain ⟨k1, k2⟩ := kBB x
   obtain ⟨j1, j2⟩ := kBB (x / 64)
   simp only [List.cons_append, List.nil_append, dec]
   rw [kAj (by omega), if_neg (by omega)]
   have e1 : headN (224 + x / 4096) = 3 := by unfold headN; rw [if_neg (by omega), if_pos (by omega)]
   have e2 : headX (224 + x / 4096) = x / 4096 := by unfold headX; rw [if_neg (by omega), if_pos (by omega)]; omega
   have e3 : headL (224 + x / 4096) = 2048 := by unfold headL; rw [if_neg (by omega), if_pos (by omega)]
   rw [e1, e2, e3, if_neg (by simp)]
   simp only [conts, k1, k2, j1, j2, if_true]
   have e4 : (x / 4096 * 64 + x / 64 % 64) * 64 + x % 64 = x := om
   rw [e4, if_neg (by simp [h]; omega)]
   rfl
 obtain ⟨k1, k2⟩ := kBB x
 obtain ⟨j1, j2⟩ := kBB (x / 64)
 obtain ⟨i1, i2⟩ := kBB (x / 4096)
 simp only [List.cons_append, List.nil_append, dec]
 rw [kAj (by omega), if_neg (by omega)]
 have e1 : headN (240 + x / 262144) = 4 := by unfold headN; rw [if_neg (by omega), if_neg (by omega), if_pos (by omega)]
 have e2 : headX (240 + x / 262144) = x / 262144 := by unfold headX; rw [if_neg (by omega), if_neg (by omega), if_pos (by omega)]; omega
 have e3 : headL (240 + x / 262144) = 65536 := by unfold headL; rw [if_neg (by omega), if_neg (by omega), if_pos (by omega)]
 rw [e1, e2, e3, if_neg (by simp)]
 simp only [conts, k1, k2, j1, j2, i1, i2, if_true]
 have e4 : ((x / 262144 * 64 + x / 4096 % 64) * 64 + x / 64 % 64) * 64 + x % 64 = x := om
 rw [e4, if_neg (by simp [h]; omega)]
 rfl
theorem kAb {b : UInt8} {n : Nat} (h : b.toNat = n) : UInt8.ofNat n = b := by subst h; simp
theorem kHl {l : List UInt8} {x n : Nat} (h : dec l = some (x, n)) : enc x = l.take n := by
 cases l with
 | nil => simp [dec] at h
 | cons b r =>
  have hb := b.toNat_lt
  simp only [dec] at h
  split at h
  · rename_i h0
    simp at h; obtain ⟨rfl, rfl⟩ := h
    rw [enc, if_pos h0]; simp
  · split at h
    · cases h
    rename_i h1 h2
    split at h
    · cases h
    rename_i y hy
    split at h
    · cases h
    rename_i h3
    simp at h; obtain ⟨rfl, rfl⟩ := h
    by_cases c2 : 192 ≤ b.toNat ∧ b.toNat < 224
    · have e1 : headN b.toNat = 2 := by unfold headN; rw [if_pos c2]
      have e2 : headX b.toNat = b.toNat - 192 := by unfold headX; rw [if_pos c2]
      have e3 : headL b.toNat = 128 := by unfold headL; rw [if_pos c2]
      rw [e1, e2] at hy
      rw [e3] at h3
      rw [e1] at h2 ⊢
      match r with
      | [] => simp at h2
      | c1 :: r =>
       simp only [conts] at hy
       split at hy
       · rename_i k1
         have k1 : 128 ≤ c1.toNat ∧ c1.toNat < 192 := by simpa [cb] using k1
         simp at hy h3
         rw [enc, if_neg (by omega), if_pos (by omega)]
         simp only [List.take_succ_cons, List.take_zero, List.cons.injEq, and_true]
         exact ⟨kAb om, kAb om⟩
       · cases hy
    by_cases c3 : 224 ≤ b.toNat ∧ b.toNat < 240
    · have e1 : headN b.toNat = 3 := by unfold headN; rw [if_neg c2, if_pos c3]
      have e2 : headX b.toNat = b.toNat - 224 := by unfold headX; rw [if_neg c2, if_pos c3]
      have e3 : headL b.toNat = 2048 := by unfold headL; rw [if_neg c2, if_pos c3]
      rw [e1, e2] at hy
      rw [e3] at h3
      rw [e1] at h2 ⊢
      match r with
      | [] => simp at h2
      | [c1] => simp at h2
      | c1 :: c2 :: r =>
       simp only [conts] at hy
       split at hy
       · rename_i k1
         have k1 : 128 ≤ c1.toNat ∧ c1.toNat < 192 := by simpa [cb] using k1
         split at hy
         · rename_i k2
           have k2 : 128 ≤ c2.toNat ∧ c2.toNat < 192 := by simpa [cb] using k2
           simp at hy h3
           rw [enc, if_neg (by omega), if_neg (by omega), if_pos (by omega)]
           simp only [List.take_succ_cons, List.take_zero, List.cons.injEq, and_true]
           exact ⟨kAb om, kAb om, kAb om⟩
         cases hy
       · cases hy
    by_cases c4 : 240 ≤ b.toNat ∧ b.toNat < 248
    · have e1 : headN b.toNat = 4 := by unfold headN; rw [if_neg c2, if_neg c3, if_pos c4]
      have e2 : headX b.toNat = b.toNat - 240 := by unfold headX; rw [if_neg c2, if_neg c3, if_pos c4]
      have e3 : headL b.toNat = 65536 := by unfold headL; rw [if_neg c2, if_neg c3, if_pos c4]
      rw [e1, e2] at hy
      rw [e3] at h3
      rw [e1] at h2 ⊢
      match r with
      | [] => simp at h2
      | [c1] => simp at h2
      | [c1, c2] => simp at h2
      | c1 :: c2 :: c3 :: r =>
       simp only [conts] at hy
       split at hy
       · rename_i k1
         have k1 : 128 ≤ c1.toNat ∧ c1.toNat < 192 := by simpa [cb] using k1
         split at hy
         · rename_i k2
           have k2 : 128 ≤ c2.toNat ∧ c2.toNat < 192 := by simpa [cb] using k2
           split at hy
           · rename_i k3
             have k3 : 128 ≤ c3.toNat ∧ c3.toNat < 192 := by simpa [cb] using k3
             simp at hy h3
             rw [enc, if_neg (by omega), if_neg (by omega), if_neg (by omega)]
             simp only [List.take_succ_cons, List.take_zero, List.cons.injEq, and_true]
             exact ⟨kAb om, kAb om, kAb om, kAb om⟩
           cases hy
         cases hy
       · cases hy
    have e1 : headN b.toNat = 0 := by unfold headN; rw [if_neg c2, if_neg c3, if_neg c4]
    exact absurd (.inl e1) h2
theorem kEV {l : List UInt8} {p : Nat × Nat} (h : dec l = some p) : l ≠ [] := by rintro rfl; cases h
def It (w : World) (g : Nat) (s : ByteArray) (pos : Nat) : Prop := w.heap[g]? = some (.stringIter s pos)
def stepIt (w : World) (g : Nat) (s : ByteArray) (pos : Nat) : World := { w with heap := w.heap.setIfInBounds g (.stringIter s pos) }
theorem kHy {w w' : World} {M : Nat → Prop} {base size n : Nat} {e : TypeId} {v : Value} {xs : LV} (h : w.ownsRow base e size v n xs) (f : Fr M w w') (hM : ∀ k, v.ownBlock = some k → ¬ M k) : w'.ownsRow base e size v n xs := by
 refine ⟨h.1, ?_⟩
 rcases h.2 with hn | ⟨g, cap, cur, rfl, hb, hgg, rest⟩
 · exact .inl hn
 refine .inr ⟨g, cap, cur, rfl, hb, ?_, rest⟩
 have hlt : g < w.heap.size := by
  rcases Nat.lt_or_ge g w.heap.size with h' | h'
  · exact h'
  rw [Array.getElem?_eq_none h'] at hgg; cases hgg
 exact (f.block g hlt (hM g rfl)).trans hgg
section
variable {w w' : World} {g pos : Nat} {s : ByteArray} {M : Nat → Prop}
theorem It.lt (h : It w g s pos) : g < w.heap.size := by
 rcases Nat.lt_or_ge g w.heap.size with hlt | hge
 · exact hlt
 unfold It at h; rw [Array.getElem?_eq_none hge] at h; cases h
theorem It.fr (h : It w g s pos) (f : Fr M w w') (hg : ¬ M g) : It w' g s pos := (f.block g h.lt hg).trans h
theorem It.new (w : World) (s : ByteArray) : It (w.iter s 0) w.heap.size s 0 := World.iter_heap w s 0
theorem It.step (h : It w g s pos) (p : Nat) : It (stepIt w g s p) g s p := by
 have := h.lt
 simp [It, stepIt, this]
theorem It.pos_ (h : It w g s pos) : w.iterPos g = pos := by unfold World.iterPos; rw [show w.heap[g]? = _ from h]
theorem Fr.stepIt {a : World} (h : Fr M a w) (g : Nat) (s : ByteArray) (p : Nat) (hg : g < a.heap.size → M g) : Fr M a (stepIt w g s p) :=
 ⟨h.os, h.tape, h.output, by simpa [Go.Proofs.YthggdemiddjlgaaGreat.stepIt] using h.size, fun k hk hn => by
  by_cases e : g = k
  · subst e; exact absurd (hg hk) hn
  · rw [← h.block k hk hn]; simp [Go.Proofs.YthggdemiddjlgaaGreat.stepIt, e]⟩
theorem Fr.iter {a : World} (h : Fr M a w) (s : ByteArray) (p : Nat) : Fr M a (w.iter s p) := h.alloc _
theorem kEN {P : Program} (h : It w g s pos) (ty : TypeId) (hp : pos < s.size) :
    (Instr.next (.pointer (some ⟨g, 0, none⟩)) true ty).run P w = .ok (.tuple #[.bool true, .int .i64 pos, .int .i32 (Utf8.decode s pos).1]) (Go.Proofs.YthggdemiddjlgaaGreat.stepIt w g s (pos + (Utf8.decode s pos).2)) := by
 have h : w.heap[g]? = some (.stringIter s pos) := h
 simp only [Instr.next, getObj, setObj, Sem.run_bind, Sem.run, h, Result.andThen, hp, if_true]
 simp [goInt, Go.Proofs.YthggdemiddjlgaaGreat.stepIt]
theorem kCl {P : Program} (h : It w g s pos) (ty : TypeId) (hp : ¬ pos < s.size) :
    (Instr.next (.pointer (some ⟨g, 0, none⟩)) true ty).run P w = .ok (.tuple #[.bool false]) w := by
 have h : w.heap[g]? = some (.stringIter s pos) := h
 simp [Instr.next, getObj, Sem.run, h, hp]
end
def hpB (s p : ByteArray) : Bool := Lib.hasPrefix s.data.toList p.data.toList
theorem kHb (s p : ByteArray) (w : World) (_hs : s.size ≤ 1048576) (_hp : p.size ≤ 1048576) :
    Calls prog 127 #[.string s, .string p] w fun e w' => e = .returned (.bool (hpB s p)) ∧ w = w' := by
 have hr : Hid ((decide (p.size ≤ s.size) && ((s.extract 0 p.size).toList == p.toList)) = hpB s p) := Lib.hasPrefix_raw s p
 by_cases h : p.size ≤ s.size
 · go_enter func127, ntmps127
   go_wp2
   go_ret
   refine ⟨ret_bool ?_, rfl⟩
   rw [← hr.o]
   simp [h]
 go_enter func127, ntmps127
 go_wp2
 go_ret
 refine ⟨ret_bool ?_, rfl⟩
 rw [← hr.o]
 simp [h]
theorem kFq (s p : ByteArray) (w : World) (hs : s.size ≤ 1048576) (hp : p.size ≤ 1048576) :
    Calls prog 126 #[.string s, .string p] w fun e w' => e = .returned (.bool (hpB s p)) ∧ w = w' := by
 go_enter func126, ntmps126
 go_wp2_with (go_at_call 127; refine (kHb _ _ _ om om).mono ?_; rintro e w' ⟨rfl, rfl⟩)
 go_ret
 exact ⟨rfl, rfl⟩
theorem kFy (s : ByteArray) (i : Nat) (hi : i < s.size) (h : (Utf8.decode s i).1 ≠ 65533) : ∃ n, dec (s.data.toList.drop i) = some ((Utf8.decode s i).1, n) ∧ (Utf8.decode s i).2 = n := by
 rw [kBw s i hi] at h ⊢
 cases hd : dec (s.data.toList.drop i) with
 | none => rw [hd] at h; exact absurd rfl h
 | some p => exact ⟨p.2, rfl, rfl⟩
theorem kFO (s : ByteArray) (i : Nat) (hi : i < s.size) (h : (Utf8.decode s i).1 = 65533) :
    (hpB (s.extract i s.size) ⟨#[239, 191, 189]⟩ = true ∧ dec (s.data.toList.drop i) = some (65533, (Utf8.decode s i).2)) ∨ (hpB (s.extract i s.size) ⟨#[239, 191, 189]⟩ = false ∧ dec (s.data.toList.drop i) = none) := by
 have e1 : (s.extract i s.size).data.toList = s.data.toList.drop i := by
  rw [Lib.extract_data, List.take_of_length_le (by simp)]
 have e2 : enc 65533 = [239, 191, 189] := by decide
 have hp : hpB (s.extract i s.size) ⟨#[239, 191, 189]⟩ = List.isPrefixOf [239, 191, 189] (s.data.toList.drop i) := by
  unfold hpB Lib.hasPrefix; rw [e1]
 rw [hp]
 cases hd : dec (s.data.toList.drop i) with
 | none =>
  right
  refine ⟨?_, rfl⟩
  cases hq : List.isPrefixOf [239, 191, 189] (s.data.toList.drop i) with
  | false => rfl
  | true =>
   obtain ⟨t, ht⟩ := List.isPrefixOf_iff_prefix.1 hq
   have := kHn 65533 t dc
   rw [e2, ht, hd] at this
   cases this
 | some p =>
  left
  rw [kBw s i hi, hd] at h ⊢
  obtain ⟨c, n⟩ := p
  simp only [Option.getD_some] at h ⊢
  subst h
  refine ⟨List.isPrefixOf_iff_prefix.2 ?_, rfl⟩
  have := kHl hd
  rw [e2] at this
  rw [this]
  exact List.take_prefix _ _
def kHr (o : Option (List Int)) (w : World) (e : Ending) (w' : World) : Prop :=
 ∃ A c, e = .returned (.tuple #[.slice A (o.getD []).length c, .bool o.isSome]) ∧ Rd w' w'.heap.size A (Ks .i32 (o.getD [])) ∧ Fr No w w'
theorem i32s : ElemOk prog 278 21 1 4 (.int .i32 0) := ElemOk.mk' underlying278 kr rfl dc
theorem kEt {l : List UInt8} {c n : Nat} (hd : dec l = some (c, n)) : kAU l = (kAU (l.drop n)).map ((c : Int) :: ·) := by
 rw [kDd (kEV hd), hd]
theorem kEs {l : List UInt8} (h : l ≠ []) (hd : dec l = none) : kAU l = none := by
 rw [kDd h, hd]
theorem kGM {w : World} {base n : Nat} {e : TypeId} {v : Value} {acc : List Int} {x : Int} {k : IntKind} (h : w.ownsRow base e 1 v n (Ks k acc ++ [.int k x])) : w.ownsRow base e 1 v n (Ks k (acc ++ [x])) := by
 rw [kGF]; exact h
theorem kCV {s : ByteArray} {w wr W1 w2 : World} {i n c : Nat} {acc : List Int} {v v2 : Value} (hlt : i < s.size) (hk : acc.length ≤ i) (HC : kAU s.data.toList = (kAU (s.data.toList.drop i)).map (acc ++ ·))
    (hd : dec (s.data.toList.drop i) = some (c, n)) (I0 : It wr w.heap.size s i) (I1 : It W1 w.heap.size s (i + n)) (F1 : Fr No w W1) (O1 : W1.ownsRow (w.heap.size + 1) 21 1 v acc.length (Ks .i32 acc))
    (ho2 : w2.ownsRow (w.heap.size + 1) 21 1 v2 (acc.length + 1) (Ks .i32 acc ++ [.int .i32 (c : Int)])) (hf2 : Fr (fun k => some k = v.ownBlock) W1 w2) :
    (∃ (i : Nat) (acc : List Int), i ≤ s.size ∧ acc.length ≤ i ∧ It w2 w.heap.size s i ∧ Fr No w w2 ∧ w2.ownsRow (w.heap.size + 1) 21 1 v2 acc.length (Ks .i32 acc) ∧ Hid (kAU s.data.toList = (kAU (s.data.toList.drop i)).map (acc ++ ·))) ∧
     s.size - w2.iterPos w.heap.size < s.size - wr.iterPos w.heap.size := by
 have hnb : ∀ k, some k = v.ownBlock → w.heap.size + 1 ≤ k := fun k h => (O1.lt k h.symm).1
 obtain ⟨h1, h2, _⟩ := kCs hd
 simp at h2
 have I2 := I1.fr hf2 (fun h => by have := hnb _ h; omega)
 refine ⟨⟨i + n, acc ++ [(c : Int)], by omega, by simp; omega, I2, F1.trans hf2 (fun k hk h => by have := hnb _ h; omega), ?_, ?_⟩, ?_⟩
 · simpa using kGM ho2
 · rw [Hid, HC, kEt hd, List.drop_drop, Option.map_map]
   congr 1
   funext x
   simp
 rw [I2.pos_, I0.pos_]; omega
theorem kFe (s : ByteArray) (w : World) (hs : s.size ≤ 1048576) :
    Calls prog 125 #[.string s] w (kHr (kAU s.data.toList) w) := by
 go_enter func125, ntmps125
 go_wp2
 go_loopw [4] (fun v wr => ∃ (i : Nat) (acc : List Int), i ≤ s.size ∧ acc.length ≤ i ∧ It wr w.heap.size s i ∧ Fr No w wr ∧ wr.ownsRow (w.heap.size + 1) 21 1 v acc.length (Ks .i32 acc) ∧ Hid (kAU s.data.toList = (kAU (s.data.toList.drop i)).map (acc ++ ·))) (fun _ wr => s.size - wr.iterPos w.heap.size)
 case atStart => exact ⟨0, [], by omega, by simp, It.new w s, (Fr.refl No w).iter s 0, World.ownsRow_nil _ _ _ _, by simp [Hid]⟩
 obtain ⟨i, acc, hi, hk, hit, hf, ho, HC⟩ := hrel
 by_cases hlt : i < s.size
 · have hn := fun ty => kEN (P := prog) hit ty hlt
   have hne : Hid (s.data.toList.drop i ≠ []) := by unfold Hid; simp; omega
   have HW := hid (kFN s i hlt)
   have HB : Hid (1 ≤ wid (s.data.toList.drop i) ∧ i + wid (s.data.toList.drop i) ≤ s.size) := by
    obtain ⟨h1, h2, _⟩ := kHw _ hne.o
    simp at h2
    exact ⟨h1, by omega⟩
   have hle := decode_le s i
   have I1 := hid (hit.step (i + (Utf8.decode s i).2))
   have I0 := hid hit
   have F1 := hid (hf.stepIt w.heap.size s (i + (Utf8.decode s i).2) (fun h => by omega))
   have O1 := hid (kHy ho ((Fr.refl (One w.heap.size) wr).stepIt w.heap.size s (i + (Utf8.decode s i).2) (fun _ => rfl)) (fun k hk h => by have := (ho.lt k hk).1; have h : k = w.heap.size := h; omega))
   have hsz : w.heap.size + 1 ≤ (stepIt wr w.heap.size s (i + (Utf8.decode s i).2)).heap.size := I1.o.lt
   clear hit ho hf
   by_cases hb : (Utf8.decode s i).1 = 65533
   · have hb' : (((Utf8.decode s i).1 : Int) == 65533) = true := by simp [hb]
     rcases kFO s i hlt hb with ⟨g1, g2⟩ | ⟨g1, g2⟩
     · have HD : Hid (dec (s.data.toList.drop i) = some ((Utf8.decode s i).1, (Utf8.decode s i).2)) := by rw [Hid, g2, hb]
       clear g2 hb
       go_wp2_with (first
        | (go_at_call 126; refine (kFq _ _ _ (by have := Lib.size_eq (s.extract i s.size); rw [Lib.extract_data] at this; simp at this ⊢; omega) dc).mono ?_; rintro e w' ⟨rfl, rfl⟩)
        | (at_builtin; refine kCF i32s rfl rfl rfl rfl O1.o rfl om om hsz ?_; intro v2 w2 ho2 hf2 hq2))
       exact kCV hlt hk HC.o HD.o I0.o I1.o F1.o O1.o ho2 hf2
     have HD := hid (kEs hne.o g2)
     clear g2 hb
     go_wp2_with (go_at_call 126; refine (kFq _ _ _ (by have := Lib.size_eq (s.extract i s.size); rw [Lib.extract_data] at this; simp at this ⊢; omega) dc).mono ?_; rintro e w' ⟨rfl, rfl⟩)
     go_ret2
     have e : kAU s.data.toList = none := by rw [HC.o, HD.o]; rfl
     rw [e]
     exact ⟨none, 0, rfl, .inl rfl, F1.o⟩
   obtain ⟨n, hd, hq⟩ := kFy s i hlt hb
   have HD : Hid (dec (s.data.toList.drop i) = some ((Utf8.decode s i).1, (Utf8.decode s i).2)) := by rw [Hid, hq]; exact hd
   have hb' : (((Utf8.decode s i).1 : Int) == 65533) = false := by simp; omega
   clear hd hq hb
   go_wp2_with (at_builtin; refine kCF i32s rfl rfl rfl rfl O1.o rfl om om hsz ?_; intro v2 w2 ho2 hf2 hq2)
   exact kCV hlt hk HC.o HD.o I0.o I1.o F1.o O1.o ho2 hf2
 have hn := fun ty => kCl (P := prog) hit ty hlt
 obtain rfl : i = s.size := om
 obtain ⟨A, c, hv, hc, hr, _⟩ := kGN ho
 rw [kIH] at hv
 subst hv
 have HR := hid hr
 clear hit ho hr
 go_wp2
 go_ret2
 have e : kAU s.data.toList = some acc := by rw [HC.o, List.drop_of_length_le (by simp), kFd]; simp
 rw [e]
 exact ⟨A, c, rfl, HR.o, hf⟩
theorem kFa (s : ByteArray) (w : World) (hs : s.size ≤ 1048576) :
    Calls prog 120 #[.string s] w fun e w' => e = .returned (.bool (kAU s.data.toList).isSome) ∧ Fr No w w' := by
 go_enter func120, ntmps120
 go_wp2_with (go_at_call 125; refine (kFe _ _ om).mono ?_; rintro e w' ⟨A, c, rfl, hr, hf⟩)
 go_ret
 exact ⟨rfl, hf⟩
def kAV (s : ByteArray) : Bool := decide (s.size ≤ 64) && (kAU s.data.toList).isSome
theorem kAo (s : ByteArray) (w : World) (hs : s.size ≤ maxLen) :
    Calls prog 80 #[.string s] w fun e w' => e = .returned (.bool (kAV s)) ∧ Fr No w w' := by
 by_cases h : s.size ≤ 64
 · go_enter func80, ntmps80
   go_wp2_with (go_at_call 120; refine (kFa _ _ om).mono ?_; rintro e w' ⟨rfl, hf⟩)
   go_ret
   exact ⟨kAM (by simp [kAV, h]), hf⟩
 have h' : 64 < s.size := om
 unfold maxLen at hs
 go_enter func80, ntmps80
 go_wp2
 go_ret
 exact ⟨kAM (by simp [kAV]; omega), Fr.refl _ _⟩
instance : TyMore tVl := by unfold tVl tVl0; infer_instance
instance : TyMore tAc := by unfold tAc tAc0; infer_instance
structure HoOk (w : World) (B : Nat) (h : Ho) (A1 A2 A3 : OA) : Prop where
 p : (Ty.int .i64).els w (· < B) A1 h.ty.params
 r : (Ty.int .i64).els w (· < B) A2 h.ty.results
 a : tAc.els w (· < B) A3 h.acts
 lp : h.ty.params.length ≤ 140737488351232
 lr : h.ty.results.length ≤ 140737488351232
 la : h.acts.length ≤ 140737488351232
 lm : h.mod.size ≤ maxLen
 ln : h.name.size ≤ maxLen
 lv : ∀ a ∈ h.acts, a.vals.length ≤ 140737488351232
theorem HoOk.frB {w w' : World} {B : Nat} {h : Ho} {A1 A2 A3 : OA} (o : HoOk w B h A1 A2 A3) (hB : B ≤ w.heap.size) (f : Fr No w w') : HoOk w' B h A1 A2 A3 :=
 ⟨o.p.frB hB f (fun _ _ x => x), o.r.frB hB f (fun _ _ x => x), o.a.frB hB f (fun _ _ x => x), o.lp, o.lr, o.la, o.lm, o.ln, o.lv⟩
theorem kBP {w w1 : World} {a b c d e : Value} {t : TypeId} (f : Fr No (w.alloc (.cells #[a, b, c, d, e] t)) w1) :
    w1.cell? ⟨w.heap.size, 0, none⟩ = some a ∧ w1.cell? ⟨w.heap.size, 1, none⟩ = some b ∧ w1.cell? ⟨w.heap.size, 2, none⟩ = some c ∧ w1.cell? ⟨w.heap.size, 3, none⟩ = some d ∧ w1.cell? ⟨w.heap.size, 4, none⟩ = some e := by
 have h := (Blk.new w t #[a, b, c, d, e]).fr f id
 exact ⟨h.cell 0, h.cell 1, h.cell 2, h.cell 3, h.cell 4⟩
def kCS (h : Ho) (i : Nat) : Bool := match h.acts[i]? with | some a => actB a h.ty.results | none => false
def hoB (h : Ho) : Bool := fnB h.ty && (kAV h.mod && (kAV h.name && (decide (h.acts.length ≠ 0) && kBE (kCS h) h.acts.length)))
theorem kHc {h : Ho} (h1 : fnB h.ty = true) (h2 : kAV h.mod = true) (h3 : kAV h.name = true) (h4 : h.acts.length ≠ 0) (h5 : kBE (kCS h) h.acts.length = true) : hoB h = true := by simp [hoB, h1, h2, h3, h5]; intro e; simp [e] at h4
theorem kHh {h : Ho} (h1 : fnB h.ty = false) : hoB h = false := by simp [hoB, h1]
theorem kHg {h : Ho} (h1 : kAV h.mod = false) : hoB h = false := by simp [hoB, h1]
theorem kHf {h : Ho} (h1 : kAV h.name = false) : hoB h = false := by simp [hoB, h1]
theorem kHe {h : Ho} (h1 : h.acts.length = 0) : hoB h = false := by simp [hoB, h1]
theorem kHd {h : Ho} {k : Nat} (hk : k < h.acts.length) (h1 : kCS h k = false) : hoB h = false := by simp [hoB, kCu hk h1]
abbrev q3x0 (a0 : Ho) (a1 a2 a3 : Option Addr) (a4 a5 a6 : Nat) : Array Value := #[.agg #[.string a0.mod, .string a0.name, .slice a1 a0.ty.params.length a4, .slice a2 a0.ty.results.length a5, .slice a3 a0.acts.length a6]]
abbrev q3x1 (a0 : Ho) (a1 a2 a3 : Option Addr) (a4 a5 a6 : Nat) : Array Value := #[.string a0.mod, .string a0.name, .slice a1 a0.ty.params.length a4, .slice a2 a0.ty.results.length a5, .slice a3 a0.acts.length a6]
theorem kFD (h : Ho) (A1 A2 A3 : OA) (c1 c2 c3 B : Nat) (w : World) (hB : B ≤ w.heap.size) (ok : HoOk w B h A1 A2 A3) (H1 : Hid (fnB h.ty = false)) :
    Calls prog 48 (q3x0 h A1 A2 A3 c1 c2 c3) w fun e w' => e = .returned (.bool (hoB h)) ∧ Fr No w w' := by
 have F0 := hid ((Fr.refl No w).alloc (.cells (q3x1 h A1 A2 A3 c1 c2 c3) 98))
 have OK := hid (ok.frB hB F0.o)
 have HB := hid (Nat.le_trans hB F0.o.size)
 have HX : Hid (∀ X, Fr No (w.alloc (.cells (q3x1 h A1 A2 A3 c1 c2 c3) 98)) X → Ce X w.heap.size 0 (.string h.mod) ∧ Ce X w.heap.size 1 (.string h.name) ∧ Ce X w.heap.size 2 (.slice A1 h.ty.params.length c1) ∧ Ce X w.heap.size 3 (.slice A2 h.ty.results.length c2) ∧ Ce X w.heap.size 4 (.slice A3 h.acts.length c3)) := fun X f => kBP f
 clear ok hB
 go_enter func48, ntmps48
 go_wp2_with fail
 generalize w.alloc (.cells (q3x1 h A1 A2 A3 c1 c2 c3) 98) = W at *
 generalize w.heap.size = g at *
 refine (kAh h.ty _ _ _ _ _ _ HB.o OK.o.p OK.o.r OK.o.lp OK.o.lr).mono ?_
 rintro e w1 ⟨rfl, f1⟩
 rw [H1.o]
 have F1 := hid f1
 clear f1
 obtain ⟨x0, x1, x2, x3, x4⟩ := HX.o _ F1.o
 go_wp2
 go_ret
 exact ⟨kAM (kHh H1.o).symm, F0.o.trans F1.o i3⟩
theorem kFC (h : Ho) (A1 A2 A3 : OA) (c1 c2 c3 B : Nat) (w : World) (hB : B ≤ w.heap.size) (ok : HoOk w B h A1 A2 A3) (H1 : Hid (fnB h.ty = true)) (H2 : Hid (kAV h.mod = false)) :
    Calls prog 48 (q3x0 h A1 A2 A3 c1 c2 c3) w fun e w' => e = .returned (.bool (hoB h)) ∧ Fr No w w' := by
 have F0 := hid ((Fr.refl No w).alloc (.cells (q3x1 h A1 A2 A3 c1 c2 c3) 98))
 have OK := hid (ok.frB hB F0.o)
 have HB := hid (Nat.le_trans hB F0.o.size)
 have HX : Hid (∀ X, Fr No (w.alloc (.cells (q3x1 h A1 A2 A3 c1 c2 c3) 98)) X → Ce X w.heap.size 0 (.string h.mod) ∧ Ce X w.heap.size 1 (.string h.name) ∧ Ce X w.heap.size 2 (.slice A1 h.ty.params.length c1) ∧ Ce X w.heap.size 3 (.slice A2 h.ty.results.length c2) ∧ Ce X w.heap.size 4 (.slice A3 h.acts.length c3)) := fun X f => kBP f
 clear ok hB
 go_enter func48, ntmps48
 go_wp2_with fail
 generalize w.alloc (.cells (q3x1 h A1 A2 A3 c1 c2 c3) 98) = W at *
 generalize w.heap.size = g at *
 refine (kAh h.ty _ _ _ _ _ _ HB.o OK.o.p OK.o.r OK.o.lp OK.o.lr).mono ?_
 rintro e w1 ⟨rfl, f1⟩
 rw [H1.o]
 have F1 := hid f1
 clear f1
 obtain ⟨x0, x1, x2, x3, x4⟩ := HX.o _ F1.o
 go_wp2_with fail
 refine (kAo h.mod _ OK.o.lm).mono ?_
 rintro e w2 ⟨rfl, f2⟩
 rw [H2.o]
 have F2 := ftr F1 f2
 clear f2 x0 x1 x2 x3 x4
 obtain ⟨x0, x1, x2, x3, x4⟩ := HX.o _ F2.o
 go_wp2
 go_ret
 exact ⟨kAM (kHg H2.o).symm, F0.o.trans F2.o i3⟩
theorem kFB (h : Ho) (A1 A2 A3 : OA) (c1 c2 c3 B : Nat) (w : World) (hB : B ≤ w.heap.size) (ok : HoOk w B h A1 A2 A3) (H1 : Hid (fnB h.ty = true)) (H2 : Hid (kAV h.mod = true)) (H3 : Hid (kAV h.name = false)) :
    Calls prog 48 (q3x0 h A1 A2 A3 c1 c2 c3) w fun e w' => e = .returned (.bool (hoB h)) ∧ Fr No w w' := by
 have F0 := hid ((Fr.refl No w).alloc (.cells (q3x1 h A1 A2 A3 c1 c2 c3) 98))
 have OK := hid (ok.frB hB F0.o)
 have HB := hid (Nat.le_trans hB F0.o.size)
 have HX : Hid (∀ X, Fr No (w.alloc (.cells (q3x1 h A1 A2 A3 c1 c2 c3) 98)) X → Ce X w.heap.size 0 (.string h.mod) ∧ Ce X w.heap.size 1 (.string h.name) ∧ Ce X w.heap.size 2 (.slice A1 h.ty.params.length c1) ∧ Ce X w.heap.size 3 (.slice A2 h.ty.results.length c2) ∧ Ce X w.heap.size 4 (.slice A3 h.acts.length c3)) := fun X f => kBP f
 clear ok hB
 go_enter func48, ntmps48
 go_wp2_with fail
 generalize w.alloc (.cells (q3x1 h A1 A2 A3 c1 c2 c3) 98) = W at *
 generalize w.heap.size = g at *
 refine (kAh h.ty _ _ _ _ _ _ HB.o OK.o.p OK.o.r OK.o.lp OK.o.lr).mono ?_
 rintro e w1 ⟨rfl, f1⟩
 rw [H1.o]
 have F1 := hid f1
 clear f1
 obtain ⟨x0, x1, x2, x3, x4⟩ := HX.o _ F1.o
 go_wp2_with fail
 refine (kAo h.mod _ OK.o.lm).mono ?_
 rintro e w2 ⟨rfl, f2⟩
 rw [H2.o]
 have F2 := ftr F1 f2
 clear f2 x0 x1 x2 x3 x4
 obtain ⟨x0, x1, x2, x3, x4⟩ := HX.o _ F2.o
 go_wp2_with fail
 refine (kAo h.name _ OK.o.ln).mono ?_
 rintro e w3 ⟨rfl, f3⟩
 rw [H3.o]
 have F3 := ftr F2 f3
 clear f3 x0 x1 x2 x3 x4
 obtain ⟨x0, x1, x2, x3, x4⟩ := HX.o _ F3.o
 go_wp2
 go_ret
 exact ⟨kAM (kHf H3.o).symm, F0.o.trans F3.o i3⟩
theorem kFA (h : Ho) (A1 A2 A3 : OA) (c1 c2 c3 B : Nat) (w : World) (hB : B ≤ w.heap.size) (ok : HoOk w B h A1 A2 A3) (H1 : Hid (fnB h.ty = true)) (H2 : Hid (kAV h.mod = true)) (H3 : Hid (kAV h.name = true)) (h4 : h.acts.length = 0) :
    Calls prog 48 (q3x0 h A1 A2 A3 c1 c2 c3) w fun e w' => e = .returned (.bool (hoB h)) ∧ Fr No w w' := by
 have H4 := hid h4
 have e4 : (((h.acts.length : Nat) : Int) == 0) = true := by simp [h4]
 clear h4
 have F0 := hid ((Fr.refl No w).alloc (.cells (q3x1 h A1 A2 A3 c1 c2 c3) 98))
 have OK := hid (ok.frB hB F0.o)
 have HB := hid (Nat.le_trans hB F0.o.size)
 have HX : Hid (∀ X, Fr No (w.alloc (.cells (q3x1 h A1 A2 A3 c1 c2 c3) 98)) X → Ce X w.heap.size 0 (.string h.mod) ∧ Ce X w.heap.size 1 (.string h.name) ∧ Ce X w.heap.size 2 (.slice A1 h.ty.params.length c1) ∧ Ce X w.heap.size 3 (.slice A2 h.ty.results.length c2) ∧ Ce X w.heap.size 4 (.slice A3 h.acts.length c3)) := fun X f => kBP f
 clear ok hB
 go_enter func48, ntmps48
 go_wp2_with fail
 generalize w.alloc (.cells (q3x1 h A1 A2 A3 c1 c2 c3) 98) = W at *
 generalize w.heap.size = g at *
 refine (kAh h.ty _ _ _ _ _ _ HB.o OK.o.p OK.o.r OK.o.lp OK.o.lr).mono ?_
 rintro e w1 ⟨rfl, f1⟩
 rw [H1.o]
 have F1 := hid f1
 clear f1
 obtain ⟨x0, x1, x2, x3, x4⟩ := HX.o _ F1.o
 go_wp2_with fail
 refine (kAo h.mod _ OK.o.lm).mono ?_
 rintro e w2 ⟨rfl, f2⟩
 rw [H2.o]
 have F2 := ftr F1 f2
 clear f2 x0 x1 x2 x3 x4
 obtain ⟨x0, x1, x2, x3, x4⟩ := HX.o _ F2.o
 go_wp2_with fail
 refine (kAo h.name _ OK.o.ln).mono ?_
 rintro e w3 ⟨rfl, f3⟩
 rw [H3.o]
 have F3 := ftr F2 f3
 clear f3 x0 x1 x2 x3 x4
 obtain ⟨x0, x1, x2, x3, x4⟩ := HX.o _ F3.o
 go_wp2
 go_ret
 exact ⟨kAM (kHe H4.o).symm, F0.o.trans F3.o i3⟩
theorem kEz (h : Ho) (A1 A2 A3 : OA) (c1 c2 c3 B : Nat) (w : World) (hB : B ≤ w.heap.size) (ok : HoOk w B h A1 A2 A3) (H1 : Hid (fnB h.ty = true)) (H2 : Hid (kAV h.mod = true)) (H3 : Hid (kAV h.name = true)) (h4 : h.acts.length ≠ 0) :
    Calls prog 48 (q3x0 h A1 A2 A3 c1 c2 c3) w fun e w' => e = .returned (.bool (hoB h)) ∧ Fr No w w' := by
 have H4 := hid h4
 have e4 : (((h.acts.length : Nat) : Int) == 0) = false := by simp; intro e; simp [e] at h4
 clear h4
 have F0 := hid ((Fr.refl No w).alloc (.cells (q3x1 h A1 A2 A3 c1 c2 c3) 98))
 have OK := hid (ok.frB hB F0.o)
 have HB := hid (Nat.le_trans hB F0.o.size)
 have HX : Hid (∀ X, Fr No (w.alloc (.cells (q3x1 h A1 A2 A3 c1 c2 c3) 98)) X → Ce X w.heap.size 0 (.string h.mod) ∧ Ce X w.heap.size 1 (.string h.name) ∧ Ce X w.heap.size 2 (.slice A1 h.ty.params.length c1) ∧ Ce X w.heap.size 3 (.slice A2 h.ty.results.length c2) ∧ Ce X w.heap.size 4 (.slice A3 h.acts.length c3)) := fun X f => kBP f
 clear ok hB
 go_enter func48, ntmps48
 go_wp2_with fail
 generalize w.alloc (.cells (q3x1 h A1 A2 A3 c1 c2 c3) 98) = W at *
 generalize w.heap.size = g at *
 refine (kAh h.ty _ _ _ _ _ _ HB.o OK.o.p OK.o.r OK.o.lp OK.o.lr).mono ?_
 rintro e w1 ⟨rfl, f1⟩
 rw [H1.o]
 have F1 := hid f1
 clear f1
 obtain ⟨x0, x1, x2, x3, x4⟩ := HX.o _ F1.o
 go_wp2_with fail
 refine (kAo h.mod _ OK.o.lm).mono ?_
 rintro e w2 ⟨rfl, f2⟩
 rw [H2.o]
 have F2 := ftr F1 f2
 clear f2 x0 x1 x2 x3 x4
 obtain ⟨x0, x1, x2, x3, x4⟩ := HX.o _ F2.o
 go_wp2_with fail
 refine (kAo h.name _ OK.o.ln).mono ?_
 rintro e w3 ⟨rfl, f3⟩
 rw [H3.o]
 have F3 := ftr F2 f3
 clear f3 x0 x1 x2 x3 x4
 obtain ⟨x0, x1, x2, x3, x4⟩ := HX.o _ F3.o
 have hn : h.acts.length ≤ 140737488351232 := OK.o.la
 go_wp2
 go_loopw [29] (fun i wr => ∃ k : Nat, k ≤ h.acts.length ∧ i = .int .i64 k ∧ Hid (Fr No W wr) ∧ Hid (kBE (kCS h) k = true)) (fun i _ => h.acts.length - (intOf i).toNat)
 case atStart => exact ⟨0, by omega, rfl, F3.o, rfl⟩
 obtain ⟨k, hk, rfl, HF, HQ⟩ := hrel
 clear F1 F2 F3 x0 x1 x2 x3 x4 e4
 by_cases hlt : k < h.acts.length
 · obtain ⟨b, o, LA, c, rfl, hb, y0, y1, y2, y3, y4, hc, hcm, hv, j0, j1, j2, j3, j4⟩ := kIh OK.o.a k hlt
   have i0 := nki k
   have i1 : (k : Int) < h.acts.length := om
   have HY : Hid (∀ X, Fr No W X → Ce X b (o + k * 5) (.int .i64 h.acts[k].kind) ∧ Ce X b (o + k * 5 + 1) (.slice LA h.acts[k].vals.length c) ∧ Ce X b (o + k * 5 + 2) (.int .i64 h.acts[k].mem) ∧
       Ce X b (o + k * 5 + 3) (.int .i64 h.acts[k].at_) ∧ Ce X b (o + k * 5 + 4) (.int .u8 h.acts[k].byte) ∧ Ce X g 2 (.slice A1 h.ty.params.length c1) ∧ Ce X g 3 (.slice A2 h.ty.results.length c2) ∧ Ce X g 4 (.slice (some ⟨b, o, none⟩) h.acts.length c3)) := fun X f => by
    obtain ⟨_, _, x2, x3, x4⟩ := HX.o X f
    have hbW : b < W.heap.size := ltl hb HB.o
    exact ⟨(f.cell (p := ⟨b, _, none⟩) hbW id).trans y0, (f.cell (p := ⟨b, _, none⟩) hbW id).trans y1, (f.cell (p := ⟨b, _, none⟩) hbW id).trans y2, (f.cell (p := ⟨b, _, none⟩) hbW id).trans y3, (f.cell (p := ⟨b, _, none⟩) hbW id).trans y4, x2, x3, x4⟩
   have HV := hid hv
   have HL := hid (OK.o.lv _ (List.getElem_mem hlt))
   have HA : Hid (kCS h k = actB h.acts[k] h.ty.results) := by simp [Hid, kCS, hlt]
   clear y0 y1 y2 y3 y4 hv j0 j1 j2 j3 j4 hc hcm
   generalize h.acts[k] = act at *
   obtain ⟨kind, vals, mem, at_, byte⟩ := act
   simp only at HY HV HL
   obtain ⟨s0, s1, s2, s3, s4, s5, s6, s7⟩ := HY.o _ HF.o
   go_wp2
   refine rwO (fun X => Ce X b (o + k * 5) (.int .i64 kind) ∧ Ce X b (o + k * 5 + 1) (.slice LA vals.length c) ∧ Ce X b (o + k * 5 + 2) (.int .i64 mem) ∧
       Ce X b (o + k * 5 + 3) (.int .i64 at_) ∧ Ce X b (o + k * 5 + 4) (.int .u8 byte) ∧ Ce X g 2 (.slice A1 h.ty.params.length c1) ∧ Ce X g 3 (.slice A2 h.ty.results.length c2) ∧ Ce X g 4 (.slice (some ⟨b, o, none⟩) h.acts.length c3)) [] (List.range 9) [7] (HY.o _ HF.o.drew) ?_
   clear s0 s1 s2 s3 s4 s5 s6 s7
   refine rC ?_
   refine wpO_eff rfl rfl fun K hK => sz ?_
   refine (kHX kind mem at_ byte vals h.ty.params.length h.ty.results _ _ _ _ _ _ B _ (Nat.le_trans HB.o HF.o.drew.size) (HV.o.frB HB.o HF.o.drew (fun _ _ x => x)) (OK.o.r.frB HB.o HF.o.drew (fun _ _ x => x)) HL.o OK.o.lr).mono ?_
   rintro e w4 ⟨rfl, f4⟩
   have F4 := hid (HF.o.drew.trans f4 i3)
   clear f4
   refine hK _ _ (fun _ => HY.o _ F4.o) ?_
   clear hK K
   cases hq : actB ⟨kind, vals, mem, at_, byte⟩ h.ty.results with
   | true =>
    have HR := hid (HA.o.trans hq)
    clear hq
    refine rC ?_
    refine wpO_nil ?_
    go_wp2
    go_roundw
    case rel => exact ⟨k + 1, by omega, by go_num, F4.o, kCv HQ.o HR.o⟩
    case measure => simp [intOf]; omega
   | false =>
    have HR := hid (HA.o.trans hq)
    clear hq
    refine rC ?_
    refine wpO_nil ?_
    go_wp2
    go_ret
    exact ⟨kAM (kHd hlt HR.o).symm, F0.o.trans F4.o i3⟩
 go_wp2
 go_ret
 obtain rfl : k = h.acts.length := om
 exact ⟨kAM (kHc H1.o H2.o H3.o H4.o HQ.o).symm, F0.o.trans HF.o i3⟩
theorem kFE (h : Ho) (A1 A2 A3 : OA) (c1 c2 c3 B : Nat) (w : World) (hB : B ≤ w.heap.size) (ok : HoOk w B h A1 A2 A3) :
    Calls prog 48 (q3x0 h A1 A2 A3 c1 c2 c3) w fun e w' => e = .returned (.bool (hoB h)) ∧ Fr No w w' := by
 cases h1 : fnB h.ty with
 | false => exact kFD h A1 A2 A3 c1 c2 c3 B w hB ok h1
 | true =>
  cases h2 : kAV h.mod with
  | false => exact kFC h A1 A2 A3 c1 c2 c3 B w hB ok h1 h2
  | true =>
   cases h3 : kAV h.name with
   | false => exact kFB h A1 A2 A3 c1 c2 c3 B w hB ok h1 h2 h3
   | true =>
    by_cases h4 : h.acts.length = 0
    · exact kFA h A1 A2 A3 c1 c2 c3 B w hB ok h1 h2 h3 h4
    · exact kEz h A1 A2 A3 c1 c2 c3 B w hB ok h1 h2 h3 h4
instance : kAQ tVl := by unfold tVl tVl0; infer_instance
theorem kCU {α : Type} (xs cs : List α) (off : Nat) (h : off + cs.length ≤ xs.length) (i : Nat) :
    (splice xs off cs)[i]? = if i < off then xs[i]? else if i < off + cs.length then cs[i - off]? else xs[i]? := by
 unfold splice
 by_cases h1 : i < off
 · rw [if_pos h1, List.getElem?_append_left (by simp; omega), List.getElem?_take, if_pos h1]
 rw [if_neg h1, List.getElem?_append_right (by simp; omega)]
 have e1 : (xs.take off).length = off := by simp; omega
 rw [e1]
 by_cases h2 : i < off + cs.length
 · rw [if_pos h2, List.getElem?_append_left (by omega)]
 rw [if_neg h2, List.getElem?_append_right (by omega), List.getElem?_drop]
 congr 1; omega
theorem splice_nil {α : Type} (xs : List α) (off : Nat) : splice xs off [] = xs := by simp [splice]
theorem kHp (x : Int) (hx : 0 ≤ x ∧ x < 18446744073709551616) : bits .and .u64 x 4294967295 = x % 4294967296 := by
 obtain ⟨n, rfl⟩ : ∃ n : Nat, x = n := ⟨x.toNat, by omega⟩
 have h := bits_and_u64_nat n 4294967295 om om
 have e : n &&& 4294967295 = n % 4294967296 := Nat.and_two_pow_sub_one_eq_mod n 32
 rw [e] at h
 simpa using h
theorem kHY (x : Int) (w : World) (hx : 0 ≤ x ∧ x < 18446744073709551616) : Calls prog 67 #[.int .u64 x] w fun e w' => e = .returned (.int .u64 (x % 4294967296)) ∧ w = w' := by
 go_enter func67, ntmps67
 go_wp2
 go_ret
 exact ⟨ret_int (kHp x hx), rfl⟩
def Bts (l : List Int) : Prop := ∀ b ∈ l, 0 ≤ b ∧ b ≤ 255
theorem elBs : ElemOk prog 87 5 1 1 (.int .u8 0) := ElemOk.mk' underlying87 kr rfl dc
theorem zeros_bts (n : Nat) : Bts (List.replicate n 0) := fun b hb => by rw [List.mem_replicate] at hb; omega
theorem kDH (p : Nat) (A : OA) (n c : Nat) (w : World) (h3 : w.cell? ⟨p, 3, none⟩ = some (.slice A n c)) (hn : n ≤ 1000000) :
    Calls prog 66 #[.pointer (some ⟨p, 0, none⟩)] w fun e w' => e = .returned (.int .i64 ((n / 256 : Nat) : Int)) ∧ w = w' := by
 go_enter func66, ntmps66
 go_wp2
 go_ret
 exact ⟨ret_int om, rfl⟩
def rmv (l : Lim) (A : OA) (n c : Nat) : Value := .agg #[.int .i64 l.min, .int .i64 l.max, .bool l.has, .slice A n c]
theorem kKb (l : Lim) (A : OA) (n c : Nat) (w : World) (hn : n ≤ 1000000) :
    Calls prog 40 #[rmv l A n c] w fun e w' => e = .returned (.int .i64 ((n / 256 : Nat) : Int)) ∧ Fr No w w' := by
 have F0 := hid ((Fr.refl No w).alloc (.cells #[.int .i64 l.min, .int .i64 l.max, .bool l.has, .slice A n c] 89))
 unfold rmv
 go_enter func40, ntmps40
 go_wp2
 go_ret
 exact ⟨ret_int om, F0.o⟩
theorem Bts.app {l m : List Int} (h : Bts l) (k : Bts m) : Bts (l ++ m) := fun b hb => (List.mem_append.1 hb).elim (h b) (k b)
def lo (x : Int) : Nat := (x % 4294967296).toNat
theorem kIZ (x : Int) : x % 4294967296 = (lo x : Int) := by unfold lo; omega
theorem kIY (x : Int) : lo x < 4294967296 := by unfold lo; omega
structure Mo (w : World) (p q c : Nat) (l : Lim) (B : List Int) : Prop where
 hp : Blk w p 206 #[.int .i64 l.min, .int .i64 l.max, .bool l.has, .slice (some ⟨q, 0, none⟩) B.length c]
 own : Own w q 5 c (Ks .u8 B)
 bts : Bts B
theorem Mo.fr {w w' : World} {p q c : Nat} {l : Lim} {B : List Int} {M : Nat → Prop} (h : Mo w p q c l B) (f : Fr M w w') (hp : ¬ M p) (hq : ¬ M q) : Mo w' p q c l B := ⟨h.hp.fr f hp, h.own.fr f hq, h.bts⟩
theorem Mo.frNo {w w' : World} {p q c : Nat} {l : Lim} {B : List Int} (h : Mo w p q c l B) (f : Fr No w w') : Mo w' p q c l B := h.fr f id id
theorem Mo.ne {w : World} {p q c : Nat} {l : Lim} {B : List Int} (h : Mo w p q c l B) : p ≠ q := by
 obtain ⟨cur, hb, _⟩ := h.own.cur
 exact Blk.ne_ h.hp hb dc
theorem kIE (x : Int) (w : World) (hx : 0 ≤ x ∧ x < 18446744073709551616) : Calls prog 67 #[.int .u64 x] w fun e w' => e = .returned (.int .u64 (lo x)) ∧ w = w' := by
 rw [← kIZ]; exact kHY x w hx
theorem kEM {α : Type} (xs vs : List α) (o : Nat) (v : α) (h : o + vs.length + 1 ≤ xs.length) : splice (xs.set o v) (o + 1) vs = splice xs o (v :: vs) := by
 apply List.ext_getElem?
 intro i
 rw [kCU _ _ _ (by simp; omega), kCU _ _ _ (by simp; omega)]
 simp only [List.length_cons, List.getElem?_set]
 by_cases h1 : i < o
 · rw [if_pos (by omega), if_neg (by omega), if_pos h1]
 by_cases h2 : i = o
 · subst h2
   rw [if_pos (by omega), if_pos rfl, if_pos (by omega), if_neg h1, if_pos (by omega), Nat.sub_self]; rfl
 by_cases h3 : i < o + 1 + vs.length
 · rw [if_neg (by omega), if_pos h3, if_neg h1, if_pos (by omega), show i - o = (i - (o + 1)) + 1 by omega, List.getElem?_cons_succ]
 rw [if_neg (by omega), if_neg h3, if_neg (by omega), if_neg h1, if_neg (by omega)]
theorem kDl {q c : Nat} {e : TypeId} : ∀ (vs : LV) (o : Nat) (w : World) (xs : LV), Own w q e c xs → o + vs.length ≤ xs.length → Own (w.setCells q o vs) q e c (splice xs o vs) := by
 intro vs
 induction vs with
 | nil => intro o w xs h _; rw [splice_nil]; exact h
 | cons v vs ih =>
  intro o w xs h hl
  have := ih (o + 1) _ _ (h.set_ o v) (by simp at hl ⊢; omega)
  rw [kEM _ _ _ _ (by simp at hl; omega)] at this
  exact this
theorem kET {M : Nat → Prop} {q : Nat} : ∀ (vs : LV) (o : Nat) (w0 w : World), Fr M w0 w → (q < w0.heap.size → M q) → Fr M w0 (w.setCells q o vs) := by
 intro vs
 induction vs with
 | nil => intro o w0 w h _; exact h
 | cons v vs ih => intro o w0 w h hq; exact ih _ _ _ (h.setCell ⟨q, o, none⟩ v hq) hq
theorem kEO {P : Program} (w : World) (t tn ty e : TypeId) (i : TypeInfo) (z : Value) (kq kn : IntKind) (ht : P.underlying t = some (.slice e)) (htn : P.underlying tn = some (.int kn)) (hi : P.info? e = some i) (hz : i.zero = some z) (hs : i.size = 1) (hzc : z.cells = #[z]) (h1 : z.oneCell' = true)
    (q sLen sCap k : Nat) (h0 : 0 < k) (hfit : sLen + k ≤ sCap) (h63 : ((sLen + k : Nat) : Int) ≤ 9223372036854775807) (h48 : k * i.bytes ≤ 281474976710656)
    (hc : ∀ j, j < k → (w.cell? ⟨q, sLen + j, none⟩).isSome = true) (hf : ∀ j, j < k → w.frozen? ⟨q, sLen + j, none⟩ = false) :
    (Builtin.append_ #[t, tn] ty #[.slice (some ⟨q, 0, none⟩) sLen sCap, .int kq k]).run P w = .ok (.slice (some ⟨q, 0, none⟩) (sLen + k) sCap) (w.setCells q sLen (List.replicate k z)) := by
 have hk : k ≠ 0 := om
 have hw : IntKind.i64.wrap (k : Int) = k := by rw [IntKind.wrap_i64]; omega
 have h63' : ¬ (9223372036854775807 < ((sLen : Int) + (k : Int))) := om
 have h48i : ¬ (281474976710656 < (k : Int) * (i.bytes : Int)) := by
  rw [← Int.natCast_mul]
  omega
 have hneg : ¬ ((k : Int) < 0) := om
 have hzl : (Builtin.zeroCells z.cells k).toList = List.replicate k z := by
  rw [hzc]
  simp [Builtin.zeroCells]
  apply List.ext_getElem
  · simp
  intro i h1 h2
  simp [Nat.mod_one]
 have hst := run_storeCells_cells (P := P) q sLen (List.replicate k z) 0 w (by simpa using hc) (by simpa using hf) (by intro v hv'; rw [List.eq_of_mem_replicate hv']; exact h1)
 simp only [Nat.add_zero] at hst
 simp [Builtin.append_, run_underlying ht, run_underlying htn, sizeOf, typeInfo, zeroValue, hi, hz, asInt, asIntOf, hw, hfit, hneg, h63', h48i, hs, hk, hzl]
 rw [kCb, Nat.zero_add, hst]; rfl
theorem kDQ {P : Program} (w : World) (t tn ty e : TypeId) (i : TypeInfo) (z : Value) (kq kn : IntKind) (ht : P.underlying t = some (.slice e)) (htn : P.underlying tn = some (.int kn)) (hi : P.info? e = some i) (hz : i.zero = some z)
    (a : OA) (sLen sCap : Nat) (hfit : sLen ≤ sCap) (h63 : (sLen : Int) ≤ 9223372036854775807) :
    (Builtin.append_ #[t, tn] ty #[.slice a sLen sCap, .int kq 0]).run P w = .ok (.slice a sLen sCap) w := by
 have hw : IntKind.i64.wrap (0 : Int) = 0 := by decide
 cases a <;> simp [Builtin.append_, run_underlying ht, run_underlying htn, sizeOf, typeInfo, zeroValue, hi, hz, asInt, asIntOf, hw, hfit, Builtin.zeroCells, storeCells]
theorem kGO {w : World} {q c k : Nat} {e : TypeId} {xs : LV} (h : Own w q e c xs) (hk : xs.length + k ≤ c) : ∃ ys, ys.length = k ∧ Own w q e c (xs ++ ys) := by
 obtain ⟨cur, hb, h1, h2, h3, h4⟩ := h.cur
 refine ⟨(cur.toList.drop xs.length).take k, by simp; omega, Own.mk hb so h2 h3 ?_⟩
 have e1 : (xs ++ (cur.toList.drop xs.length).take k).length = xs.length + k := by simp; omega
 rw [e1, List.take_add, h4]
theorem kFl {P : Program} {t tn e : TypeId} {z : Value} {kn : IntKind} {bytes : Nat} (E : ElemOk P t e 1 bytes z) (htn : P.underlying tn = some (.int kn)) (hzc : z.cells = #[z]) (hz1 : z.oneCell' = true) (w : World) (ty : TypeId) (kq : IntKind) {q c : Nat} {xs : LV} (k : Nat) (hown : Own w q e c xs) (hx : xs.length ≤ 1000000) (hk : k ≤ 1000000) (hb : bytes ≤ 64) :
    ∃ (q' c' : Nat) (w' : World), (Builtin.append_ #[t, tn] ty #[.slice (some ⟨q, 0, none⟩) xs.length c, .int kq (k : Int)]).run P w = .ok (.slice (some ⟨q', 0, none⟩) (xs.length + k) c') w' ∧ Own w' q' e c' (xs ++ List.replicate k z) ∧ Fr (One q) w w' ∧ (q' = q ∨ q' = w.heap.size) := by
 obtain ⟨i, hi, hz0, hs, hbb⟩ := E.info
 obtain ⟨cur, hbk, l1, l2, l3, l4⟩ := hown.cur
 have hkb : k * i.bytes ≤ 281474976710656 := by rw [hbb]; exact Nat.le_trans (Nat.mul_le_mul hk hb) dc
 rcases Nat.eq_zero_or_pos k with h0 | h0
 · subst h0
   exact ⟨q, c, w, kDQ w t tn ty e i z kq kn E.slice htn hi hz0 _ _ _ l1 om, by simpa using hown, Fr.refl _ _, .inl rfl⟩
 by_cases hfit : xs.length + k ≤ c
 · obtain ⟨ys, hy, ho⟩ := kGO hown hfit
   have hlen : (xs ++ ys).length = xs.length + k := by simp [hy]
   have hrun := kEO (P := P) w t tn ty e i z kq kn E.slice htn hi hz0 hs hzc hz1 q xs.length c k h0 hfit om hkb
    (fun j hj => by rw [ho.cell (xs.length + j) (by rw [hlen]; omega)]; rfl) (fun j _ => ho.frozen (xs.length + j))
   have h2 := kDl (List.replicate k z) xs.length w (xs ++ ys) ho (by rw [hlen]; simp)
   have e2 : splice (xs ++ ys) xs.length (List.replicate k z) = xs ++ List.replicate k z := by
    rw [splice, List.take_left, List.length_replicate, List.drop_eq_nil_of_le (by omega), List.append_nil]
   rw [e2] at h2
   exact ⟨q, c, _, hrun, h2, kET _ _ _ _ (Fr.refl _ w) (fun _ => rfl), .inl rfl⟩
 have hcells : ∀ j v, xs[j]? = some v → w.drew.cell? ((⟨q, 0, none⟩ : Addr).add j) = some v := fun j v hv => by
  rw [kCb, Nat.zero_add]
  obtain ⟨hj, rfl⟩ := List.getElem?_eq_some_iff.1 hv
  exact hown.cell j hj
 have hold := run_firstCells_some (P := P) (w := w.drew) i.size xs.length ⟨q, 0, none⟩ xs.length c xs (by rw [hs, Nat.mul_one]) hcells
 have hrun := Go.Lib.run_append_grow_zeros (P := P) w t tn ty e i z kq kn E.slice htn hi hz0 (some ⟨q, 0, none⟩) xs.length c xs hold k h0 (by rw [hs]; omega) (by omega) (by omega) hkb
  (growslice_fits om (by rw [hbb]; exact Nat.le_trans (Nat.mul_le_mul (show xs.length + k ≤ 2000000 by omega) hb) dc))
 have hzl : ∀ m, (Builtin.zeroCells z.cells m) = (List.replicate m z).toArray := fun m => by
  rw [hzc]
  apply Array.ext'
  simp [Builtin.zeroCells]
  apply List.ext_getElem
  · simp
  intro i h1 h2
  simp [Nat.mod_one]
 rw [hzl, hzl] at hrun
 have hge := grownCap_ge w (xs.length + k) c e
 have hle := grownCap_le_maxLen w (xs.length + k) c e (by simp only [maxLen]; omega)
 refine ⟨w.heap.size, _, _, hrun, Own.mk (Blk.new w.drew e _) so hle so ?_, (Fr.refl _ w).drew.alloc _, .inr rfl⟩
 have e3 : (xs ++ List.replicate k z).length = xs.length + k := by simp
 rw [e3]
 simp only [List.append_toArray]
 rw [List.take_append_of_le_length (by simp), List.take_of_length_le (by simp)]
theorem opwp_app0 {P : Program} {t tn e : TypeId} {z : Value} {kn kq : IntKind} {bytes : Nat} {w : World} {o : Oper} {a : Act} {K : Act → World → Prop} {Q : Exit → Act → World → Prop} {s x : Operand} {q c n k : Nat} {xs : LV} (E : ElemOk P t e 1 bytes z) (htn : P.underlying tn = some (.int kn)) (hzc : z.cells = #[z]) (hz1 : z.oneCell' = true)
    (ho : o.op = .call { callee := .builtin .append, args := #[s, x], argTypes := #[t, tn] })
    (hs : a.eval s = .slice (some ⟨q, 0, none⟩) n c) (hx : a.eval x = .int kq (k : Int)) (hown : Own w q e c xs) (hn : xs.length = n) (hl : xs.length ≤ 1000000) (hk : k ≤ 1000000) (hb : bytes ≤ 64)
    (h : ∀ (q' c' : Nat) (w' : World), Own w' q' e c' (xs ++ List.replicate k z) → Fr (One q) w w' → (q' = q ∨ q' = w.heap.size) → K (a.put o.dst (.slice (some ⟨q', 0, none⟩) (xs.length + k) c')) w') : o.wp P a w K Q := by
 subst hn
 obtain ⟨q', c', w', hrun, h2, h3, h4⟩ := kFl E htn hzc hz1 w o.type kq k hown hl hk hb
 unfold Oper.wp execOp
 simp only [ho, resolve, invoke, builtin, Sem.run_bind, Sem.run_pure, Result.andThen_ok, List.map_toArray, List.map_cons, List.map_nil, hs, hx, hrun]
 exact h q' c' w' h2 h3 h4
def most (l : Lim) : Int := if l.has then l.max else 256
def kDW (l : Lim) (B : List Int) (m : Nat) : List Int × Int := if (m : Int) ≤ most l - (B.length / 256 : Nat) then (B ++ List.replicate (m * 256) 0, ((B.length / 256 : Nat) : Int)) else (B, 4294967295)
def MgTo (p q : Nat) (l : Lim) (B : List Int) (r : Int) (w : World) (e : Ending) (w' : World) : Prop :=
 e = .returned (.int .u64 r) ∧ ∃ q' c', Mo w' p q' c' l B ∧ Fr (Two p q) w w' ∧ (q' = q ∨ w.heap.size ≤ q')
theorem kFm (p q c : Nat) (l : Lim) (B : List Int) (xn : Int) (w : World) (hM : Mo w p q c l B) (hn : B.length ≤ 65536) (hw : ((B.length / 256 : Nat) : Int) ≤ most l) (hm : most l ≤ 256) (h3 : 0 ≤ xn ∧ xn < 18446744073709551616) :
    Calls prog 30 #[.pointer (some ⟨p, 0, none⟩), .int .u64 xn] w (MgTo p q l (kDW l B (lo xn)).1 (kDW l B (lo xn)).2 w) := by
 have HN := hid (fun W => kIE xn W h3)
 have b3 := kIY xn
 have HM := hid hM
 have c1 := hM.hp.cell 1
 have c2 := hM.hp.cell 2
 have c3 := hM.hp.cell 3
 have HP := hid (kDH p (some ⟨q, 0, none⟩) B.length c w c3 om)
 generalize lo xn = n at *
 have hb := hM.bts
 unfold kDW
 have HBS := hid (rfl : B.length = B.length)
 generalize hwas : B.length / 256 = s at *
 have hs : s * 256 ≤ B.length := om
 clear hM h3 hwas HBS
 cases hhas : l.has with
 | false =>
  have hmo : most l = 256 := by rw [most, hhas]; rfl
  rw [hmo] at hw ⊢
  rw [hhas] at c2
  by_cases hg : (n : Int) ≤ 256 - s
  · rw [if_pos hg]
    go_enter func30, ntmps30
    go_wp2_with fail
    exact yy2
  · exact yy33
 | true =>
  have hmo : most l = l.max := by rw [most, hhas]; rfl
  rw [hmo] at hw hm ⊢
  rw [hhas] at c2
  generalize hmx : l.max = mx at *
  by_cases hg : (n : Int) ≤ mx - s
  · rw [if_pos hg]
    go_enter func30, ntmps30
    go_wp2_with fail
    exact yy2
  · exact yy33
def kBh (l : Lim) : Bool := decide (0 ≤ l.min ∧ l.min ≤ 256 ∧ (l.has = true → l.min ≤ l.max ∧ l.max ≤ 256) ∧ (l.has = false → l.max = 0))
def NewTo (l : Lim) (w : World) (e : Ending) (w' : World) : Prop :=
 if kBh l = true then ∃ p q c, e = .returned (.pointer (some ⟨p, 0, none⟩)) ∧ Mo w' p q c l (List.replicate (l.min.toNat * 256) 0) ∧ w.heap.size ≤ p ∧ w.heap.size ≤ q ∧ Fr No w w'
 else e = .returned (.pointer none) ∧ Fr No w w'
theorem kEh (l : Lim) (w : World) : Calls prog 53 #[.agg #[.int .i64 l.min, .int .i64 l.max, .bool l.has]] w (NewTo l w) := by
 have F0 := hid ((Fr.refl No w).alloc (.cells #[.int .i64 l.min, .int .i64 l.max, .bool l.has] 37))
 have G0 := hid (Blk.new w 37 #[.int .i64 l.min, .int .i64 l.max, .bool l.has])
 cases hv : kBh l with
 | true =>
  have hV := of_decide_eq_true hv
  obtain ⟨v1, v2, v3, v4⟩ := hV
  obtain ⟨mn, hmn⟩ : ∃ mn : Nat, l.min = mn := ⟨l.min.toNat, by omega⟩
  have hto : l.min.toNat = mn := om
  unfold NewTo
  rw [hv, hto]
  simp only [if_true]
  cases hh : l.has with
  | true =>
   have v3 := v3 hh
   rw [hh] at F0 G0
   rw [hmn] at F0 G0 v1 v2 v3 ⊢
   clear v4 hv
   generalize hmx : l.max = mx at *
   have hmk : ∀ W, (Instr.makeSlice 87 (.int .i64 ((mn : Int) * 256)) (.int .i64 ((mn : Int) * 256))).run prog W = .ok (.slice (some ⟨W.heap.size, 0, none⟩) (mn * 256) (mn * 256)) (W.alloc (.cells (Array.replicate (mn * 256) (.int .u8 0)) 5)) := fun W => by
    have h := kCm elBs rfl W .i64 .i64 (mn * 256) om om
    rw [show ((mn * 256 : Nat) : Int) = (mn : Int) * 256 by omega] at h
    exact h
   have hw1 : IntKind.i64.wrap ((mn : Int) * 256) = (mn : Int) * 256 := by rw [IntKind.wrap_i64]; omega
   go_enter func53, ntmps53
   go_wp2_with fail
   generalize w.alloc (.cells #[.int .i64 mn, .int .i64 mx, .bool true] 37) = W at *
   have HX : Hid (∀ X, Fr No W X → Ce X w.heap.size 0 (.int .i64 mn) ∧ Ce X w.heap.size 1 (.int .i64 mx) ∧ Ce X w.heap.size 2 (.bool true)) := fun X f => ⟨(G0.o.fr f id).cell 0, (G0.o.fr f id).cell 1, (G0.o.fr f id).cell 2⟩
   refine rwO (fun X => Ce X w.heap.size 0 (.int .i64 mn) ∧ Ce X w.heap.size 1 (.int .i64 mx) ∧ Ce X w.heap.size 2 (.bool true)) [] (List.range 8) [4, 6] (HX.o _ (Fr.refl _ _).drew) ?_
   refine rC ?_
   refine wpO_eff rfl rfl fun K hK => sz ?_
   have FB := hid ((Fr.refl No W).alloc (.cells (Array.replicate (mn * 256) (.int .u8 0)) 5)).drew
   have GB : Hid (Own (W.alloc (.cells (Array.replicate (mn * 256) (.int .u8 0)) 5)).drew W.heap.size 5 (mn * 256) (List.replicate (mn * 256) (.int .u8 0))) := kCo W 5 (.int .u8 0) (mn * 256) om
   have hWs := F0.o.size
   clear hmk
   obtain ⟨qb, hqb⟩ : ∃ z, z = W.heap.size := ⟨_, rfl⟩
   have HQB := hid hqb
   rw [← hqb] at GB ⊢
   clear hqb
   generalize (W.alloc (.cells (Array.replicate (mn * 256) (.int .u8 0)) 5)).drew = W2 at *
   refine hK _ _ (fun _ => HX.o _ FB.o) ?_
   clear hK K
   refine rC ?_
   refine wpO_eff rfl rfl fun K hK => sz ?_
   refine hK _ _ (fun _ => HX.o _ (FB.o.alloc _)) ?_
   clear hK K
   refine rC ?_
   refine wpO_nil ?_
   go_wp2
   go_ret
   have hM : Mo (W2.alloc (.cells #[.int .i64 mn, .int .i64 mx, .bool true, .slice (some ⟨qb, 0, none⟩) (mn * 256) (mn * 256)] 206)) W2.heap.size qb (mn * 256) l (List.replicate (mn * 256) 0) := by
    refine ⟨?_, ?_, zeros_bts _⟩
    · rw [hmn, hmx, hh]
      have := Blk.new W2 206 #[.int .i64 mn, .int .i64 mx, .bool true, .slice (some ⟨qb, 0, none⟩) (mn * 256) (mn * 256)]
      simpa using this
    have := GB.o.fr ((Fr.refl No W2).alloc (.cells #[.int .i64 mn, .int .i64 mx, .bool true, .slice (some ⟨qb, 0, none⟩) (mn * 256) (mn * 256)] 206)) id
    rw [show Ks .u8 (List.replicate (mn * 256) 0) = List.replicate (mn * 256) (Value.int .u8 0) by simp [Ks]]
    exact this
   exact ⟨_, _, _, rfl, hM, Nat.le_trans hWs FB.o.size, by rw [HQB.o]; exact hWs, (F0.o.trans FB.o i3).alloc _⟩
  | false =>
   have v4 := v4 hh
   rw [hh, v4] at F0 G0
   rw [hmn] at F0 G0 v1 v2 ⊢
   rw [v4]
   have hmx := v4
   clear v3 hv
   have hmk : ∀ W, (Instr.makeSlice 87 (.int .i64 ((mn : Int) * 256)) (.int .i64 ((mn : Int) * 256))).run prog W = .ok (.slice (some ⟨W.heap.size, 0, none⟩) (mn * 256) (mn * 256)) (W.alloc (.cells (Array.replicate (mn * 256) (.int .u8 0)) 5)) := fun W => by
    have h := kCm elBs rfl W .i64 .i64 (mn * 256) om om
    rw [show ((mn * 256 : Nat) : Int) = (mn : Int) * 256 by omega] at h
    exact h
   have hw1 : IntKind.i64.wrap ((mn : Int) * 256) = (mn : Int) * 256 := by rw [IntKind.wrap_i64]; omega
   go_enter func53, ntmps53
   go_wp2_with fail
   generalize w.alloc (.cells #[.int .i64 mn, .int .i64 0, .bool false] 37) = W at *
   have HX : Hid (∀ X, Fr No W X → Ce X w.heap.size 0 (.int .i64 mn) ∧ Ce X w.heap.size 1 (.int .i64 0) ∧ Ce X w.heap.size 2 (.bool false)) := fun X f => ⟨(G0.o.fr f id).cell 0, (G0.o.fr f id).cell 1, (G0.o.fr f id).cell 2⟩
   refine rwO (fun X => Ce X w.heap.size 0 (.int .i64 mn) ∧ Ce X w.heap.size 1 (.int .i64 0) ∧ Ce X w.heap.size 2 (.bool false)) [] (List.range 8) [4, 6] (HX.o _ (Fr.refl _ _).drew) ?_
   refine rC ?_
   refine wpO_eff rfl rfl fun K hK => sz ?_
   have FB := hid ((Fr.refl No W).alloc (.cells (Array.replicate (mn * 256) (.int .u8 0)) 5)).drew
   have GB : Hid (Own (W.alloc (.cells (Array.replicate (mn * 256) (.int .u8 0)) 5)).drew W.heap.size 5 (mn * 256) (List.replicate (mn * 256) (.int .u8 0))) := kCo W 5 (.int .u8 0) (mn * 256) om
   have hWs := F0.o.size
   clear hmk
   obtain ⟨qb, hqb⟩ : ∃ z, z = W.heap.size := ⟨_, rfl⟩
   have HQB := hid hqb
   rw [← hqb] at GB ⊢
   clear hqb
   generalize (W.alloc (.cells (Array.replicate (mn * 256) (.int .u8 0)) 5)).drew = W2 at *
   refine hK _ _ (fun _ => HX.o _ FB.o) ?_
   clear hK K
   refine rC ?_
   refine wpO_eff rfl rfl fun K hK => sz ?_
   refine hK _ _ (fun _ => HX.o _ (FB.o.alloc _)) ?_
   clear hK K
   refine rC ?_
   refine wpO_nil ?_
   go_wp2
   go_ret
   have hM : Mo (W2.alloc (.cells #[.int .i64 mn, .int .i64 0, .bool false, .slice (some ⟨qb, 0, none⟩) (mn * 256) (mn * 256)] 206)) W2.heap.size qb (mn * 256) l (List.replicate (mn * 256) 0) := by
    refine ⟨?_, ?_, zeros_bts _⟩
    · rw [hmn, hmx, hh]
      have := Blk.new W2 206 #[.int .i64 mn, .int .i64 0, .bool false, .slice (some ⟨qb, 0, none⟩) (mn * 256) (mn * 256)]
      simpa using this
    have := GB.o.fr ((Fr.refl No W2).alloc (.cells #[.int .i64 mn, .int .i64 0, .bool false, .slice (some ⟨qb, 0, none⟩) (mn * 256) (mn * 256)] 206)) id
    rw [show Ks .u8 (List.replicate (mn * 256) 0) = List.replicate (mn * 256) (Value.int .u8 0) by simp [Ks]]
    exact this
   exact ⟨_, _, _, rfl, hM, Nat.le_trans hWs FB.o.size, by rw [HQB.o]; exact hWs, (F0.o.trans FB.o i3).alloc _⟩
 | false =>
  have hV := of_decide_eq_false hv
  unfold NewTo
  rw [hv]
  simp only [Bool.false_eq_true, if_false]
  clear hv G0
  generalize l.min = mn at *
  generalize l.max = mx at *
  by_cases h1 : mn < 0
  · exact yy32
  · by_cases h2 : 256 < mn
    · exact yy32
    cases hh : l.has with
    | true =>
     rw [hh] at F0
     by_cases h3 : mx < mn
     · exact yy32
     · have h4 : 256 < mx := by
        by_cases h5 : 256 < mx
        · exact h5
        exact absurd ⟨by omega, by omega, fun _ => ⟨by omega, by omega⟩, fun h => by rw [hh] at h; cases h⟩ hV
       exact yy32
    | false =>
     rw [hh] at F0
     have h4 : ¬ mx = 0 := fun h5 => hV ⟨by omega, by omega, (fun h => by rw [hh] at h; cases h), (fun _ => h5)⟩
     have h6 : (mx == 0) = false := by simpa using h4
     have h7 : (mx != 0) = true := by simpa using h4
     exact yy32
theorem kEw (p : Nat) (l : Lim) (v : Value) (w : World) (hb : Blk w p 206 #[.int .i64 l.min, .int .i64 l.max, .bool l.has, v]) :
    Calls prog 77 #[.pointer (some ⟨p, 0, none⟩)] w fun e w' => e = .returned (.agg #[.int .i64 l.min, .int .i64 l.max, .bool l.has]) ∧ Fr No w w' := by
 have F0 := hid ((Fr.refl No w).alloc (.cells #[.int .i64 l.min, .int .i64 l.max, .bool l.has] 37))
 have G := hb.alloc (.cells #[.int .i64 0, .int .i64 0, .bool false] 37)
 have y0 := G.cell 0
 have y1 := G.cell 1
 have y2 := G.cell 2
 have hp := hb.lt
 clear hb G
 go_enter func77, ntmps77
 go_wp2
 exact bodyPost_ret (v := .agg #[.int .i64 l.min, .int .i64 l.max, .bool l.has]) (by simp [results, Tryz.results77, go_sem]) rfl ⟨rfl, F0.o⟩
theorem kIg {W w1 : World} (hb : Below W.heap.size W w1) : (∀ b o, b < W.heap.size → w1.cell? ⟨b, o, none⟩ = W.cell? ⟨b, o, none⟩) ∧ (∀ b o, b < W.heap.size → w1.frozen? ⟨b, o, none⟩ = W.frozen? ⟨b, o, none⟩) :=
 ⟨fun b o h => hb.cell (p := ⟨b, o, none⟩) h, fun b o h => hb.frozen (p := ⟨b, o, none⟩) h⟩
theorem kDa (n : Int) (w : World) (_h0 : 0 ≤ n) :
    Calls prog 64 #[.int .u64 n] w fun e w' => e = .returned (.int .u64 (n % 4294967296)) ∧ w = w' := by
 go_enter func64, ntmps64
 go_wp2
 go_ret
 exact ⟨rfl, rfl⟩
theorem kJp (b : Nat) (w : World) (v : Value) (h : w.cell? ⟨b, 4, none⟩ = some v) :
    Calls prog 118 #[.pointer (some ⟨b, 0, none⟩)] w fun e w' => e = .returned v ∧ w = w' := by
 go_enter func118, ntmps118
 go_wp2
 go_ret
 exact ⟨rfl, rfl⟩
def refB (e : Int) : Bool := e == 3 || e == 4
def limB (mn mx : Int) (h : Bool) (most : Int) : Bool :=
 if mn < 0 ∨ most < mn then false else if h then decide (mn ≤ mx) && decide (mx ≤ most) else mx == 0
def tabB (e mn mx : Int) (h : Bool) : Bool := refB e && limB mn mx h 1024
theorem kGJ (e : Int) (w : World) :
    Calls prog 90 #[.int .i64 e] w fun e' w' => e' = .returned (.bool (refB e)) ∧ w = w' := by
 go_enter func90, ntmps90
 go_wp2
 all_goals go_ret
 all_goals simp_all [refB]
theorem kHa (mn mx : Int) (h : Bool) (most : Int) (w : World) :
    Calls prog 91 #[.agg #[.int .i64 mn, .int .i64 mx, .bool h], .int .i64 most] w fun e' w' => e' = .returned (.bool (limB mn mx h most)) ∧ Below w.heap.size w w' := by
 go_enter func91, ntmps91
 go_wp2
 all_goals go_ret
 all_goals (refine ⟨ret_bool ?_, (Below.refl _ _).alloc nr _⟩)
 all_goals (first | (simp [limB, *] <;> omega) | (cases h <;> simp_all [limB] <;> omega))
theorem kDD (e mn mx : Int) (h : Bool) (w : World) :
    Calls prog 60 #[.agg #[.int .i64 e, .int .i64 mn, .int .i64 mx, .bool h]] w fun e' w' => e' = .returned (.bool (tabB e mn mx h)) ∧ Below w.heap.size w w' := by
 cases hr : refB e
 all_goals
  go_enter func60, ntmps60
  go_wp2_with (first
   | (go_at_call 90; refine (kGJ _ _).mono ?_; rintro e w' ⟨rfl, rfl⟩)
   | (go_at_call 91; refine (kHa _ _ _ _ _).mono ?_; rintro e w' ⟨rfl, hb⟩))
  go_ret
 · exact ⟨ret_bool (by simp [tabB, hr]), (Below.refl _ _).alloc nr _⟩
 exact ⟨ret_bool (by simp [tabB, hr]), ((Below.refl _ _).alloc nr _).trans (hb.mono sm)⟩
theorem u64s : ElemOk prog 124 82 1 8 (.int .u64 0) := ElemOk.mk' underlying124 kr rfl om
def Us (xs : List Int) : LV := xs.map (Value.int .u64)
@[simp] theorem kIG (xs : List Int) : (Us xs).length = xs.length := by simp [Us]
theorem kJC (xs : List Int) : ∀ u ∈ Us xs, u.oneCell' = true := by
 intro u hu
 simp only [Us, List.mem_map] at hu
 obtain ⟨a, _, rfl⟩ := hu
 rfl
structure TabAt (w : World) (p q c : Nat) (e mn mx : Int) (h : Bool) (xs : List Int) : Prop where
 ne : p ≠ q
 blk : Blk w p 202 #[.int .i64 e, .int .i64 mn, .int .i64 mx, .bool h, .slice (some ⟨q, 0, none⟩) xs.length c, .bool true]
 own : Own w q 82 c (Us xs)
 len : xs.length ≤ 1024
 lim : h = true → 0 ≤ mx ∧ mx ≤ 1024
section
variable {M : Nat → Prop} {w w' : World} {p q c : Nat} {e mn mx : Int} {h : Bool} {xs : List Int}
theorem TabAt.fr (t : TabAt w p q c e mn mx h xs) (f : Fr M w w') (h1 : ¬ M p) (h2 : ¬ M q) : TabAt w' p q c e mn mx h xs :=
 ⟨t.ne, t.blk.fr f h1, t.own.fr f h2, t.len, t.lim⟩
theorem TabAt.c0 (t : TabAt w p q c e mn mx h xs) : w.cell? ⟨p, 0, none⟩ = some (.int .i64 e) := by rw [t.blk.cell]; rfl
theorem TabAt.c1 (t : TabAt w p q c e mn mx h xs) : w.cell? ⟨p, 1, none⟩ = some (.int .i64 mn) := by rw [t.blk.cell]; rfl
theorem TabAt.c2 (t : TabAt w p q c e mn mx h xs) : w.cell? ⟨p, 2, none⟩ = some (.int .i64 mx) := by rw [t.blk.cell]; rfl
theorem TabAt.c3 (t : TabAt w p q c e mn mx h xs) : w.cell? ⟨p, 3, none⟩ = some (.bool h) := by rw [t.blk.cell]; rfl
theorem TabAt.c4 (t : TabAt w p q c e mn mx h xs) : w.cell? ⟨p, 4, none⟩ = some (.slice (some ⟨q, 0, none⟩) xs.length c) := by rw [t.blk.cell]; rfl
theorem TabAt.c5 (t : TabAt w p q c e mn mx h xs) : w.cell? ⟨p, 5, none⟩ = some (.bool true) := by rw [t.blk.cell]; rfl
theorem TabAt.fz (t : TabAt w p q c e mn mx h xs) : w.frozen? ⟨p, 4, none⟩ = false := t.blk.frozen 4
end
theorem kDb {e mn mx : Int} {h : Bool} (hk : tabB e mn mx h = true) : 0 ≤ mn ∧ mn ≤ 1024 ∧ (h = true → mn ≤ mx ∧ mx ≤ 1024) := by
 simp only [tabB, limB, Bool.and_eq_true] at hk
 obtain ⟨_, hk⟩ := hk
 split at hk
 · cases hk
 refine ⟨by omega, by omega, fun hh => ?_⟩
 subst hh
 simpa using hk
def kIR (e mn mx : Int) (h : Bool) (w : World) (e' : Ending) (w' : World) : Prop :=
 ∃ p q, e' = .returned (.pointer (some ⟨p, 0, none⟩)) ∧ TabAt w' p q mn.toNat e mn mx h (List.replicate mn.toNat 0) ∧ w.heap.size ≤ p ∧ w.heap.size ≤ q ∧ Fr No w w'
theorem kHU (e mn mx : Int) (h : Bool) (w : World) (hk : tabB e mn mx h = true) :
    Calls prog 62 #[.agg #[.int .i64 e, .int .i64 mn, .int .i64 mx, .bool h]] w (kIR e mn mx h w) := by
 obtain ⟨h0, h1, h2⟩ := kDb hk
 obtain ⟨n, rfl⟩ := Int.eq_ofNat_of_zero_le h0
 have hmk := fun (W : World) => kCm u64s rfl W .i64 .i64 n om om
 have hh : Hid (h = true → (n : Int) ≤ mx ∧ mx ≤ 1024) := h2
 clear h2
 go_enter func62, ntmps62
 go_wp2_with (first
  | (go_at_call 60; refine (kDD _ _ _ _ _).mono ?_; rintro e w' ⟨rfl, hb⟩; obtain ⟨hc, hf⟩ := kIg hb))
 have c0 : w'.cell? ⟨w.heap.size, 0, none⟩ = some (.int .i64 e) := by rw [hc _ _ (by simp)]; go_simp
 have c1 : w'.cell? ⟨w.heap.size, 1, none⟩ = some (.int .i64 n) := by rw [hc _ _ (by simp)]; go_simp
 have c2 : w'.cell? ⟨w.heap.size, 2, none⟩ = some (.int .i64 mx) := by rw [hc _ _ (by simp)]; go_simp
 have c3 : w'.cell? ⟨w.heap.size, 3, none⟩ = some (.bool h) := by rw [hc _ _ (by simp)]; go_simp
 clear hc hf
 go_region_held3 (fun W => W.cell? ⟨w.heap.size, 0, none⟩ = some (.int .i64 e) ∧ W.cell? ⟨w.heap.size, 1, none⟩ = some (.int .i64 n) ∧ W.cell? ⟨w.heap.size, 2, none⟩ = some (.int .i64 mx) ∧ W.cell? ⟨w.heap.size, 3, none⟩ = some (.bool h)) (go_keep) (fail)
 go_wp2
 go_ret
 refine ⟨w'.heap.size + 1, w'.heap.size, rfl, ⟨by omega, ?_, ?_, by simp; omega, fun hh' => ?_⟩, ?_, ?_, ?_⟩
 · have := (Blk.new1 w' (Obj.cells (Array.replicate n (Value.int IntKind.u64 0)) 82) 202 #[Value.int IntKind.i64 e, Value.int IntKind.i64 ↑n, Value.int IntKind.i64 mx, Value.bool h, Value.slice (some { block := w'.heap.size, off := 0 }) n n, Value.bool true]).drew
   simpa using this
 · have := (kCo w' 82 (.int .u64 0) n om).fr (((Fr.refl No _).alloc (Obj.cells
           #[Value.int IntKind.i64 e, Value.int IntKind.i64 ↑n, Value.int IntKind.i64 mx, Value.bool h,
            Value.slice (some { block := w'.heap.size, off := 0 }) n n, Value.bool true]
           202)).drew) id
   simpa [Us] using this
 · have := hh.o hh'; omega
 · have := hb.size; simp at this; omega
 · have := hb.size; simp at this; omega
 exact ((((Fr.refl No w).alloc _).trans (Fr.of_below (M := No) hb) (fun _ _ x => x)).alloc _).alloc _ |>.drew
section
variable {w : World} {p q c : Nat} {e mn mx : Int} {h : Bool} {xs : List Int}
theorem kJZ (t : TabAt w p q c e mn mx h xs) :
    Calls prog 76 #[.pointer (some ⟨p, 0, none⟩)] w fun e' w' => e' = .returned (.int .i64 xs.length) ∧ w = w' := by
 go_enter func76, ntmps76
 go_wp2_with (go_at_call 118; refine (kJp _ _ _ t.c4).mono ?_; rintro e w' ⟨rfl, rfl⟩)
 go_ret
 exact ⟨rfl, rfl⟩
end
section
variable {w : World} {p q c : Nat} {e mn mx : Int} {h : Bool} {xs : List Int}
def kBt (mx : Int) (h : Bool) : Int := if h then mx else 1024
def kEC (p q : Nat) (e mn mx : Int) (h : Bool) (xs : List Int) (w w' : World) : Prop :=
 ∃ q' c', TabAt w' p q' c' e mn mx h xs ∧ Fr (Two p q) w w' ∧ (q' = q ∨ w.heap.size ≤ q')
theorem kHj (t : TabAt w p q c e mn mx h xs) (n x : Int) (h0 : 0 ≤ n) (hi : kBt mx h < xs.length + n % 4294967296) :
    Calls prog 28 #[.pointer (some ⟨p, 0, none⟩), .int .u64 n, .int .u64 x] w fun e' w' => e' = .returned (.int .u64 4294967295) ∧ w = w' := by
 have hl := t.len
 have h2 := t.c2
 have h3 := t.c3
 have h4 := t.c4
 have h5 := t.c5
 have hm := t.lim
 cases h
 all_goals
  simp [kBt] at hi
  simp at hm
  go_enter func28, ntmps28
  go_wp2_with (first
   | (go_at_call 64; refine (kDa _ _ om).mono ?_; rintro e w' ⟨rfl, rfl⟩))
  go_ret
  exact ⟨rfl, rfl⟩
theorem kGn (t : TabAt w p q c e mn mx h xs) (n x : Int) (N : Nat) (h0 : 0 ≤ n) (eN : n % 4294967296 = N) (hi : xs.length + N ≤ kBt mx h) :
    Calls prog 28 #[.pointer (some ⟨p, 0, none⟩), .int .u64 n, .int .u64 x] w fun e' w' => e' = .returned (.int .u64 xs.length) ∧ kEC p q e mn mx h (xs ++ List.replicate N x) w w' := by
 have hl := t.len
 have h2 := t.c2
 have h3 := t.c3
 have h4 := t.c4
 have h5 := t.c5
 have hm := t.lim
 have hi' : xs.length + N ≤ 1024 := by
  unfold kBt at hi
  cases h
  · simp at hi; omega
  simp at hi hm; omega
 have HI := hid hi
 clear hi
 cases h
 all_goals
  simp at hm
  have hi := HI.o
  simp [kBt] at hi
  have hd : decide ((1024 : Int) < (xs.length : Int) + (N : Int)) = false := by simp; omega
  have hd2 : decide (mx < (xs.length : Int) + (N : Int)) = false ∨ True := by right; trivial
  first | (have hd' : decide (mx < (xs.length : Int) + (N : Int)) = false := by simp; omega) | skip
  clear hd2
  go_enter func28, ntmps28
  go_wp2_with (first
   | (go_at_call 64; refine (kDa _ _ om).mono ?_; rintro e w' ⟨rfl, rfl⟩))
  go_loopw [45] (fun i wr => ∃ k : Nat, k ≤ N ∧ i = .int .u64 k ∧ kEC p q e mn mx _ (xs ++ List.replicate k x) w wr) (fun i _ => N - (intOf i).toNat)
  case atStart => exact ⟨0, by omega, rfl, q, c, by simpa using t, Fr.refl _ _, .inl rfl⟩
  case round =>
   obtain ⟨k, hk, rfl, q', c', t', hf, hq⟩ := hrel
   clear h2 h3 h4 h5 hd HI
   by_cases hlt : k < N
   · have hln : (xs ++ List.replicate k x).length < 1024 := by simp; omega
     have hys : ∀ ys, ys = xs ++ List.replicate k x → Hid (ys ++ [x] = xs ++ List.replicate (k + 1) x) := by
      rintro _ rfl; simp [Hid, List.replicate_succ']
     generalize xs ++ List.replicate k x = ys at t' hln hys
     have hy := hys _ rfl
     clear hys
     have h4 := t'.c4
     have hz := t'.fz
     have hne : q' ≠ p := fun h => t'.ne h.symm
     go_wp2_with (at_builtin; refine kEI u64s rfl rfl rfl rfl t'.own (kIG _) rfl om om ?_; intro q2 c2 w2 ho2 hf2 hq2; have hz2 := (hf2.frozen (p := ⟨p, 4, none⟩) t'.blk.lt (fun h => hne h.symm)).trans hz; have h42 := (hf2.cell (p := ⟨p, 4, none⟩) t'.blk.lt (fun h => hne h.symm)).trans h4)
     go_roundw
     case rel =>
      have hb2 := t'.blk.fr hf2 (fun h => hne h.symm)
      have hp2 : q2 ≠ p := by have := t'.blk.lt; rcases hq2 with rfl | h <;> omega
      refine ⟨k + 1, by omega, by go_num, q2, c2, ⟨fun h => hp2 h.symm, ?_, ?_, by rw [← hy.o]; simp; omega, t.lim⟩, ?_, ?_⟩
      · have := hb2.set_ 4 (.slice (some ⟨q2, 0, none⟩) (ys.length + 1) c2)
        rw [← hy.o]; simpa using this
      · have := ho2.fr ((Fr.refl (One p) _).setCell ⟨p, 4, none⟩ (.slice (some ⟨q2, 0, none⟩) (ys.length + 1) c2) (fun _ => rfl)) hp2
        rw [← hy.o]; simpa [Us] using this
      · refine (hf.trans hf2 ?_).setCell _ _ (fun _ => .inl rfl)
        intro i hi h
        have h : i = q' := h
        rcases hq with rfl | hq
        · exact .inr h
        omega
      have := hf.size
      rcases hq2 with rfl | h2
      · exact hq
      exact .inr om
     simp [intOf]; omega
   go_wp2
   go_ret
   obtain rfl : k = N := om
   exact ⟨rfl, q', c', t', hf, hq⟩
end
section
variable {w : World} {p q c : Nat} {e mn mx : Int} {h : Bool} {xs : List Int}
theorem kFs (t : TabAt w p q c e mn mx h xs) :
    Calls prog 74 #[.pointer (some ⟨p, 0, none⟩)] w fun e' w' => e' = .returned (.agg #[.int .i64 e, .int .i64 mn, .int .i64 mx, .bool h]) ∧ Fr No w w' := by
 have h0 := t.c0
 have h1 := t.c1
 have h2 := t.c2
 have h3 := t.c3
 have hlt := t.blk.lt
 go_enter func74, ntmps74
 go_wp2
 exact bodyPost_ret (v := .agg #[.int .i64 e, .int .i64 mn, .int .i64 mx, .bool h]) (by simp [results, Tryz.results74, go_sem]) rfl ⟨rfl, (Fr.refl No w).alloc _⟩
end
end Go.Proofs.YthggdemiddjlgaaGreat
