/- For every input SplitRight returns true, part 3: what the proof rests on. Condition: the arguments are of bulk at most 1048576. -/
import Derived.Test.YtiafkakkbbclhaaGreatR2
import Derived.Test.YtiafkakkbbclhaaGreatR1
import Derived.Deep.DeepCutAuto
import Derived.WalkSpells
set_option maxRecDepth 100000
set_option maxHeartbeats 12800000
set_option linter.unusedVariables false
set_option linter.unusedSimpArgs false
set_option linter.unusedSectionVars false
namespace Go.Proofs.YtiafkakkbbclhaaGreat
open Go.RowKit
abbrev tI : Ty Int := Ty.int .i64
def Emp : Nat → Prop := fun _ => False
def lenF (b : Sb) : Nat := b.ins.length + b.end_.to.length
def sumF (l : List Sb) : Nat := (l.map lenF).sum
theorem sumF_succ {l : List Sb} {k : Nat} (h : k < l.length) : sumF (l.take (k + 1)) = sumF (l.take k) + (l[k].ins.length + l[k].end_.to.length) := by
  unfold sumF
  rw [List.take_succ_eq_append_getElem h, List.map_append, List.sum_append]
  simp [lenF]
structure Small (x : Sf) : Prop where
  nb : x.blocks.length ≤ 80
  sum : sumF x.blocks ≤ 1500
  vals : x.vals.length ≤ 2000
def FewT (x : Sf) (w : World) (e : Ending) (w' : World) : Prop := (∃ b, e = .returned (.bool b) ∧ (b = true → Small x)) ∧ Fr No w w'
theorem few_any (P R V B : Option Addr) (np nr nv nb pc rc vc bc : Nat) (x : Sf) (S : Nat → Prop) (w : World) (h : tSb.els w S B x.blocks) (hS : ∀ k, S k → k < w.heap.size) (hl : ∀ b ∈ x.blocks, b.ins.length ≤ 140737488351232 ∧ b.end_.to.length ≤ 140737488351232) (eb : Hid (x.blocks.length = nb)) (ev : Hid (x.vals.length = nv)) :
    Calls Tryz.prog 4 #[.agg #[.slice P np pc, .slice R nr rc, .slice V nv vc, .slice B nb bc]] w (FewT x w) := by
  have F := hid ((Fr.refl No w).alloc (.cells #[.slice P np pc, .slice R nr rc, .slice V nv vc, .slice B nb bc] 39))
  have G := hid (Blk.new w 39 #[.slice P np pc, .slice R nr rc, .slice V nv vc, .slice B nb bc])
  have HL := hid hl
  have HH := hid (h.fr F.out (fun k hk => ⟨hS k hk, fun x => x⟩))
  have hbl := hid (fun b (hb : S b) => Nat.lt_of_lt_of_le (hS b hb) F.out.size)
  clear h hS hl
  have HX : Hid (∀ X, Fr No (w.alloc (.cells #[.slice P np pc, .slice R nr rc, .slice V nv vc, .slice B nb bc] 39)) X → X.cell? ⟨w.heap.size, 3, none⟩ = some (.slice B nb bc) ∧ X.cell? ⟨w.heap.size, 2, none⟩ = some (.slice V nv vc)) := hid fun X f => by
    have g := G.out.fr f (fun x => x)
    exact ⟨g.cell 3, g.cell 2⟩
  go_enter Tryz.func4, Tryz.ntmps4
  go_wp2
  generalize w.alloc (.cells #[.slice P np pc, .slice R nr rc, .slice V nv vc, .slice B nb bc] 39) = W at *
  go_loopw [3, 4] (fun n i wr => ∃ k : Nat, k ≤ nb ∧ n = .int .i64 (sumF (x.blocks.take k) : Nat) ∧ i = .int .i64 k ∧ sumF (x.blocks.take k) ≤ 281474976704004 ∧ Hid (Fr No W wr)) (fun _ i _ => nb - (intOf i).toNat)
  case atStart => exact ⟨0, by omega, rfl, rfl, by simp [sumF], hid (Fr.refl No W)⟩
  case round =>
    obtain ⟨k, hk, rfl, rfl, hs, FR⟩ := hrel
    obtain ⟨x3, x2⟩ := HX.out wr FR.out
    by_cases hgo : k < nb ∧ k < 100 ∧ sumF (x.blocks.take k) ≤ 1500
    · obtain ⟨g0, g1, g2⟩ := hgo
      have hlk : k < x.blocks.length := by have := eb.out; omega
      have hsu := sumF_succ hlk
      obtain ⟨hl1, hl2⟩ := HL.out _ (List.getElem_mem hlk)
      obtain ⟨b, o, A0, c0, A1, c1, A2, c2, A3, c3, rfl, hb, _, y1, _, _, _, y5, _⟩ := Sb_at HH.out k hlk
      have hbb := hbl.out b hb
      have HC : Hid (∀ X, Fr No wr X → X.cell? ⟨w.heap.size, 3, none⟩ = some (.slice (some ⟨b, o, none⟩) nb bc) ∧ X.cell? ⟨b, o + k * 7 + 1, none⟩ = some (.slice A1 x.blocks[k].ins.length c1) ∧ X.cell? ⟨b, o + k * 7 + 5, none⟩ = some (.slice A3 x.blocks[k].end_.to.length c3)) := hid fun X f => by
        have f' := FR.out.trans f (fun _ _ h => h)
        exact ⟨(HX.out X f').1, (f'.cell (p := ⟨b, o + k * 7 + 1, none⟩) hbb (fun x => x)).trans y1, (f'.cell (p := ⟨b, o + k * 7 + 5, none⟩) hbb (fun x => x)).trans y5⟩
      generalize x.blocks[k].ins.length = n1 at *
      generalize x.blocks[k].end_.to.length = n2 at *
      generalize sumF (x.blocks.take k) = s at *
      have i0 : (0 : Int) ≤ k := by omega
      have i1 : (k : Int) < nb := by omega
      clear y1 y5 x2
      have d1 : decide ((k : Int) < nb) = true := decide_eq_true (by omega)
      have d2 : decide ((k : Int) < 100) = true := decide_eq_true (by omega)
      have d3 : decide ((s : Int) ≤ 1500) = true := decide_eq_true (by omega)
      have hw1 : IntKind.i64.wrap ((s : Int) + n1) = s + n1 := by rw [IntKind.wrap_i64]; omega
      have hw2 : IntKind.i64.wrap ((s : Int) + n1 + n2) = s + n1 + n2 := by rw [IntKind.wrap_i64]; omega
      go_wp2_with fail
      refine wp_region_ort (Fr No wr) (.rd 0 (.rd 1 (.rd 2 (.rd 3 (.rd 4 (.rd 5 (.rd 6 (.rd 7 (.rd 8 (.rd 9 (.rd 10 (.rd 11 (.rd 12 (.rd 13 (.rd 14 (.rd 15 (.rd 16 (.rd 17 (.rd 18 .nil))))))))))))))))))) (by kernel_rfl) (by kernel_rfl) (by kernel_rfl) rfl (Fr.refl _ wr).drew ?_
      repeat (first | refine tS ?_ | refine tX HC.out ?_)
      refine wpT_nil ?_
      have FD := hid (FR.out.trans (Fr.refl No wr).drew (fun _ _ h => h))
      clear x3 HC
      generalize wr.drew = wz at *
      go_wp2
      go_round
      case rel => exact ⟨k + 1, by omega, by rw [hsu]; congr 1; omega, by go_num, by rw [hsu]; omega, FD⟩
      case measure => simp [intOf]; omega
    · generalize hse : sumF (x.blocks.take k) = s at *
      have HS := hid hse
      clear hse
      by_cases g0 : k < nb
      · have d1 : decide ((k : Int) < nb) = true := decide_eq_true (by omega)
        by_cases g1 : k < 100
        · have d2 : decide ((k : Int) < 100) = true := decide_eq_true (by omega)
          have d3 : decide ((s : Int) ≤ 1500) = false := decide_eq_false (by omega)
          clear hgo
          by_cases h80 : nb ≤ 80
          · have d4 : decide ((nb : Int) ≤ 80) = true := decide_eq_true (by omega)
            go_wp2
            go_ret
            exact ⟨⟨false, rfl, fun h => by cases h⟩, F.out.trans FR.out (fun _ _ h => h)⟩
          · have d4 : decide ((nb : Int) ≤ 80) = false := decide_eq_false (by omega)
            go_wp2
            go_ret
            exact ⟨⟨false, rfl, fun h => by cases h⟩, F.out.trans FR.out (fun _ _ h => h)⟩
        · have d2 : decide ((k : Int) < 100) = false := decide_eq_false (by omega)
          have d4 : decide ((nb : Int) ≤ 80) = false := decide_eq_false (by omega)
          clear hgo
          go_wp2
          go_ret
          exact ⟨⟨false, rfl, fun h => by cases h⟩, F.out.trans FR.out (fun _ _ h => h)⟩
      · have hkn : k = nb := by omega
        subst hkn
        have htk : x.blocks.take k = x.blocks := List.take_of_length_le (by rw [eb.out]; exact Nat.le_refl _)
        rw [htk] at HS
        have d1 : decide ((k : Int) < k) = false := decide_eq_false (by omega)
        clear hgo
        by_cases h80 : k ≤ 80
        · have d4 : decide ((k : Int) ≤ 80) = true := decide_eq_true (by omega)
          by_cases h15 : s ≤ 1500
          · have d5 : decide ((s : Int) ≤ 1500) = true := decide_eq_true (by omega)
            go_wp2
            go_ret
            exact ⟨⟨_, rfl, fun h => ⟨by rw [eb.out]; exact h80, by rw [HS.out]; exact h15, by rw [ev.out]; have := of_decide_eq_true h; omega⟩⟩, F.out.trans FR.out (fun _ _ h => h)⟩
          · have d5 : decide ((s : Int) ≤ 1500) = false := decide_eq_false (by omega)
            go_wp2
            go_ret
            exact ⟨⟨false, rfl, fun h => by cases h⟩, F.out.trans FR.out (fun _ _ h => h)⟩
        · have d4 : decide ((k : Int) ≤ 80) = false := decide_eq_false (by omega)
          go_wp2
          go_ret
          exact ⟨⟨false, rfl, fun h => by cases h⟩, F.out.trans FR.out (fun _ _ h => h)⟩
end Go.Proofs.YtiafkakkbbclhaaGreat
namespace Go.Proofs.YtiafkakkbbclhaaGreat
open Go.RowKit
theorem elInts : ElemOk Tryz.prog 50 3 1 8 (.int .i64 0) := ElemOk.mk' Tryz.underlying50 (by kernel_rfl) rfl (by decide)
theorem elVals : ElemOk Tryz.prog 34 59 1 8 (.int .i64 0) := ElemOk.mk' Tryz.underlying34 (by kernel_rfl) rfl (by decide)
theorem own_frame {w w' w0 : World} {base : Nat} {e : TypeId} {α : Type} {t : Ty α} {S : Nat → Prop} {v : Value} {l : List α} (h : t.row w base S e v l) (F : Fr No w0 w) (f : Fr (fun k => some k = v.ownBlock) w w') (hb : w0.heap.size ≤ base) : Fr No w0 w' :=
  F.trans f (fun i hi hh => by have := (h.own hh.symm).1; omega)
def CloneTo (el : TypeId) (l : List Int) (w : World) (e : Ending) (w' : World) : Prop :=
  ∃ (A : Option Addr) (c : Nat), e = .returned (.slice A l.length c) ∧ tI.row w' w.heap.size Emp el (.slice A l.length c) l ∧ Fr No w w'
theorem CloneTo.els {el : TypeId} {l : List Int} {w w' : World} {A : Option Addr} {c : Nat} (h : tI.row w' w.heap.size Emp el (.slice A l.length c) l) : l.length ≤ c ∧ c ≤ maxLen ∧ tI.els w' (fun k => w.heap.size ≤ k ∧ k < w'.heap.size) A l := by
  obtain ⟨A', c', e, h1, h2, h3⟩ := h.els (S' := fun k => w.heap.size ≤ k ∧ k < w'.heap.size) (fun _ h => h.elim) (fun g hg => by obtain ⟨h0, _, hb⟩ := h.own hg; exact ⟨h0, hb.lt⟩)
  injection e with e1 _ e3
  subst e1 e3
  exact ⟨h1, h2, h3⟩
theorem cloneV_any (A : Option Addr) (c : Nat) (l : List Int) (S : Nat → Prop) (w : World) (h : tI.els w S A l) (hS : ∀ k, S k → k < w.heap.size) (hl : l.length * 8 ≤ 140737488351232) :
    Calls Tryz.prog 32 #[.slice A l.length c] w (CloneTo 59 l w) := by
  cases A with
  | none =>
    have hn : l = [] := by
      rcases h with h | ⟨b, o, e, _⟩
      · exact h
      · cases e
    subst hn
    have he := fun W => Lib.run_eql_slice_nil (P := Tryz.prog) W 34 _ none 0 c 0 0 Tryz.underlying34
    go_enter Tryz.func32, Tryz.ntmps32
    go_wp2
    go_ret
    exact ⟨none, 0, rfl, Ty.row.nil _ _ _ _, Fr.refl No w⟩
  | some ad =>
    obtain ⟨css, hcs, hrd⟩ := els_flat h hS
    have F0 := hid ((Fr.refl No w).alloc (.cells #[] 59))
    have R0 := hid (Ty.row.lit (t := tI) (S := Emp) (base := w.heap.size) (css := []) (xs := []) (Blk.new w 59 #[]) (Nat.le_refl _) Css.nil (by decide))
    have HC := hid hcs
    have HR := hid (hrd.fr F0.out (fun _ _ x => x))
    clear h hcs hrd
    obtain ⟨n, hn⟩ : ∃ n, l.length = n := ⟨_, rfl⟩
    have HN := hid hn
    rw [hn] at hl ⊢
    clear hn
    have he := fun W => Lib.run_eql_slice_nil (P := Tryz.prog) W 34 _ (some ad) n c 0 0 Tryz.underlying34
    go_enter Tryz.func32, Tryz.ntmps32
    go_wp2_with (at_builtin; refine wpList_appC (t := tI) (base := w.heap.size) (S := Emp) (xs := []) (ys := l) (dss := css) (B2 := w.heap.size) elVals rfl rfl rfl rfl R0.out (HC.out _ _) HR.out HN.out (by simp; omega) (by simp; omega) (fun _ h => h.elim) F0.out.size ?_; intro v1 w2 hr1 fr1 hv1; have F2 := hid (own_frame R0.out F0.out fr1 (Nat.le_refl _)); have R1 := hid hr1; clear hr1 fr1 hv1)
    obtain ⟨A1, k1, e1, _, _, _⟩ := R1.out.els (S' := fun _ => True) (fun _ _ => trivial) (fun _ _ => trivial)
    subst e1
    go_ret
    exact ⟨A1, k1, rfl, R1.out, F2.out⟩
theorem cloneI_any (A : Option Addr) (c : Nat) (l : List Int) (S : Nat → Prop) (w : World) (h : tI.els w S A l) (hS : ∀ k, S k → k < w.heap.size) (hl : l.length * 8 ≤ 140737488351232) :
    Calls Tryz.prog 33 #[.slice A l.length c] w (CloneTo 3 l w) := by
  cases A with
  | none =>
    have hn : l = [] := by
      rcases h with h | ⟨b, o, e, _⟩
      · exact h
      · cases e
    subst hn
    have he := fun W => Lib.run_eql_slice_nil (P := Tryz.prog) W 50 _ none 0 c 0 0 Tryz.underlying50
    go_enter Tryz.func33, Tryz.ntmps33
    go_wp2
    go_ret
    exact ⟨none, 0, rfl, Ty.row.nil _ _ _ _, Fr.refl No w⟩
  | some ad =>
    obtain ⟨css, hcs, hrd⟩ := els_flat h hS
    have F0 := hid ((Fr.refl No w).alloc (.cells #[] 3))
    have R0 := hid (Ty.row.lit (t := tI) (S := Emp) (base := w.heap.size) (css := []) (xs := []) (Blk.new w 3 #[]) (Nat.le_refl _) Css.nil (by decide))
    have HC := hid hcs
    have HR := hid (hrd.fr F0.out (fun _ _ x => x))
    clear h hcs hrd
    obtain ⟨n, hn⟩ : ∃ n, l.length = n := ⟨_, rfl⟩
    have HN := hid hn
    rw [hn] at hl ⊢
    clear hn
    have he := fun W => Lib.run_eql_slice_nil (P := Tryz.prog) W 50 _ (some ad) n c 0 0 Tryz.underlying50
    go_enter Tryz.func33, Tryz.ntmps33
    go_wp2_with (at_builtin; refine wpList_appC (t := tI) (base := w.heap.size) (S := Emp) (xs := []) (ys := l) (dss := css) (B2 := w.heap.size) elInts rfl rfl rfl rfl R0.out (HC.out _ _) HR.out HN.out (by simp; omega) (by simp; omega) (fun _ h => h.elim) F0.out.size ?_; intro v1 w2 hr1 fr1 hv1; have F2 := hid (own_frame R0.out F0.out fr1 (Nat.le_refl _)); have R1 := hid hr1; clear hr1 fr1 hv1)
    obtain ⟨A1, k1, e1, _, _, _⟩ := R1.out.els (S' := fun _ => True) (fun _ _ => trivial) (fun _ _ => trivial)
    subst e1
    go_ret
    exact ⟨A1, k1, rfl, R1.out, F2.out⟩
end Go.Proofs.YtiafkakkbbclhaaGreat
namespace Go.Proofs.YtiafkakkbbclhaaGreat
open Go.RowKit
def vi (l : List Int) : List Value := l.map (Value.int .i64)
theorem vi_len (l : List Int) : (vi l).length = l.length := by simp [vi]
def cntP (T : List (List Int)) (i k : Nat) (t : Int) : Nat := cntT (T.take i) t + ((T.getD i []).take k).count t
def cl (T : List (List Int)) (n i k : Nat) : List Int := (List.range n).map fun (t : Nat) => (cntP T i k (t : Int) : Int)
def tot (T : List (List Int)) : Nat := (T.map List.length).sum
theorem cl_len (T : List (List Int)) (n i k : Nat) : (cl T n i k).length = n := by simp [cl]
theorem cl_get (T : List (List Int)) (n i k t : Nat) (h : t < n) : (cl T n i k)[t]'(by rw [cl_len]; exact h) = (cntP T i k (t : Int) : Int) := by simp [cl]
theorem cntP_succ {T : List (List Int)} {i k : Nat} (t : Int) (hk : k < (T.getD i []).length) : cntP T i (k + 1) t = cntP T i k t + if (T.getD i []).getD k 0 = t then 1 else 0 := by
  unfold cntP
  rw [List.take_succ_eq_append_getElem hk, List.count_append, getD_el 0 hk]
  simp only [List.count_cons, List.count_nil, beq_iff_eq]
  omega
theorem cl_yes {T : List (List Int)} {n i k t : Nat} (hk : k < (T.getD i []).length) (he : (T.getD i []).getD k 0 = (t : Int)) (ht : t < n) : (cl T n i k).set t ((cntP T i k (t : Int) : Int) + 1) = cl T n i (k + 1) := by
  apply List.ext_getElem
  · simp [cl_len]
  · intro j h1 h2
    rw [cl_len] at h2
    rw [List.getElem_set, cl_get _ _ _ _ _ h2, cl_get _ _ _ _ _ h2, cntP_succ _ hk, he]
    by_cases hj : t = j
    · subst hj; rw [if_pos rfl, if_pos rfl]; omega
    · rw [if_neg hj, if_neg (by omega)]; omega
theorem cl_no {T : List (List Int)} {n i k : Nat} (hk : k < (T.getD i []).length) (he : (T.getD i []).getD k 0 < 0 ∨ (n : Int) ≤ (T.getD i []).getD k 0) : cl T n i (k + 1) = cl T n i k := by
  apply List.ext_getElem
  · simp [cl_len]
  · intro j h1 h2
    rw [cl_len] at h2
    rw [cl_get _ _ _ _ _ h2, cl_get _ _ _ _ _ h2, cntP_succ _ hk, if_neg (by omega)]; omega
theorem cl_row {T : List (List Int)} {n i : Nat} (hi : i < T.length) : cl T n i (T.getD i []).length = cl T n (i + 1) 0 := by
  unfold cl
  congr 1
  funext t
  unfold cntP
  rw [List.take_length, List.take_succ_eq_append_getElem hi, cntT_append, getD_el _ hi]
  simp [cntT]
theorem cl_zero (T : List (List Int)) (n : Nat) : cl T n 0 0 = List.replicate n 0 := by
  unfold cl cntP cntT
  apply List.ext_getElem
  · simp
  · intro j h1 h2; simp
theorem sum_take_le : ∀ (l : List Nat) (i : Nat), (l.take i).sum ≤ l.sum
  | [], i => by simp
  | a :: l, 0 => by simp
  | a :: l, i + 1 => by simp only [List.take_succ_cons, List.sum_cons]; have := sum_take_le l i; omega
theorem cntT_le (T : List (List Int)) (t : Int) : cntT T t ≤ tot T := by
  induction T with
  | nil => simp [cntT, tot]
  | cons a T ih =>
    simp only [cntT, tot, List.map_cons, List.sum_cons] at *
    have := List.count_le_length (a := t) (l := a)
    omega
theorem tot_take (T : List (List Int)) (i : Nat) : tot (T.take i) ≤ tot T := by
  unfold tot; rw [List.map_take]; exact sum_take_le _ _
theorem le_sum : ∀ {l : List Nat} {x : Nat}, x ∈ l → x ≤ l.sum
  | a :: l, x, h => by
    rw [List.sum_cons]
    rcases List.mem_cons.1 h with rfl | h
    · omega
    · have := le_sum h; omega
theorem tot_row (T : List (List Int)) (i : Nat) : (T.getD i []).length ≤ tot T := by
  by_cases h : i < T.length
  · rw [getD_el _ h]
    exact le_sum (List.mem_map_of_mem (List.getElem_mem h))
  · rw [List.getD_eq_getElem?_getD, List.getElem?_eq_none (by omega)]; simp
theorem cntP_le (T : List (List Int)) (i k : Nat) (t : Int) : cntP T i k t ≤ tot T + tot T := by
  unfold cntP
  have h1 := cntT_le (T.take i) t
  have h2 := tot_take T i
  have h3 := List.count_le_length (a := t) (l := (T.getD i []).take k)
  have h4 := tot_row T i
  rw [List.length_take] at h3
  omega
theorem toOf_el {bs : List Sb} {i : Nat} (h : i < bs.length) : toOf bs i = bs[i].end_.to := by unfold toOf; rw [getD_el _ h]
def ToTo (T : List (List Int)) (w : World) (e : Ending) (w' : World) : Prop :=
  ∃ q, e = .returned (.slice (some ⟨q, 0, none⟩) T.length T.length) ∧ w.heap.size ≤ q ∧ Own w' q 3 T.length (vi (cl T T.length T.length 0)) ∧ Fr No w w'
theorem to_any (P R V B : Option Addr) (np nr nv nb pc rc vc bc : Nat) (bs : List Sb) (S : Nat → Prop) (w : World) (h : tSb.els w S B bs) (hS : ∀ k, S k → k < w.heap.size) (eb : Hid (bs.length = nb)) (hn : nb ≤ 100000) (ht : tot (tosOf bs) ≤ 100000) :
    Calls Tryz.prog 19 #[.agg #[.slice P np pc, .slice R nr rc, .slice V nv vc, .slice B nb bc]] w (ToTo (tosOf bs) w) := by
  have F0 := hid ((Fr.refl No w).alloc (.cells #[.slice P np pc, .slice R nr rc, .slice V nv vc, .slice B nb bc] 39))
  have G := hid (Blk.new w 39 #[.slice P np pc, .slice R nr rc, .slice V nv vc, .slice B nb bc])
  have HH := hid h
  have hbl := hid hS
  clear h hS
  have hmk := fun W => run_mk elInts rfl W .i64 .i64 nb (by omega) (by omega)
  have F1 := hid (F0.out.alloc (.cells (Array.replicate nb (.int .i64 0)) 3))
  have HO := hid (own_mk (w.alloc (.cells #[.slice P np pc, .slice R nr rc, .slice V nv vc, .slice B nb bc] 39)) 3 (.int .i64 0) nb (by omega))
  have y3 := (G.out.alloc (.cells (Array.replicate nb (.int .i64 0)) 3)).cell 3
  have hsz : Hid ((w.alloc (.cells #[.slice P np pc, .slice R nr rc, .slice V nv vc, .slice B nb bc] 39)).heap.size = w.heap.size + 1) := by rw [Hid]; simp
  go_enter Tryz.func19, Tryz.ntmps19
  go_wp2_with fail
  have HQ : Hid (Own ((w.alloc (.cells #[.slice P np pc, .slice R nr rc, .slice V nv vc, .slice B nb bc] 39)).alloc (.cells (Array.replicate nb (.int .i64 0)) 3)) (w.heap.size + 1) 3 nb (vi (cl (tosOf bs) nb 0 0))) := by
    have h := HO.out
    rw [hsz.out] at h
    rw [cl_zero, vi, List.map_replicate]
    exact h
  clear HO G F0 hmk y3 hsz
  generalize (w.alloc (.cells #[.slice P np pc, .slice R nr rc, .slice V nv vc, .slice B nb bc] 39)).alloc (.cells (Array.replicate nb (.int .i64 0)) 3) = W at *
  obtain ⟨q, hq⟩ : ∃ q, w.heap.size + 1 = q := ⟨_, rfl⟩
  rw [hq] at HQ ⊢
  have hqw := hid (show w.heap.size ≤ q by omega)
  clear hq
  go_loopw [15] (fun i wr => ∃ k : Nat, k ≤ nb ∧ i = .int .i64 k ∧ Hid (Own wr q 3 nb (vi (cl (tosOf bs) nb k 0))) ∧ Hid (Fr No w wr)) (fun i _ => nb - (intOf i).toNat)
  case atStart => exact ⟨0, by omega, rfl, HQ, F1⟩
  case round =>
    clear HQ F1
    obtain ⟨k, hk, rfl, HQ, FR⟩ := hrel
    by_cases hgo : k < nb
    · have hlk : k < bs.length := by have := eb.out; omega
      obtain ⟨b, o, A0, c0, A1, c1, A2, c2, A3, c3, rfl, hb, y0, y1, y2, y3, y4, y5, y6, _, _, _, _, _, _, _, _, _, _, _, _, _, he, _⟩ := Sb_at HH.out k hlk
      have hbb := hbl.out b hb
      replace y0 := (FR.out.cell (p := ⟨b, o + k * 7, none⟩) hbb (fun x => x)).trans y0
      replace y1 := (FR.out.cell (p := ⟨b, o + k * 7 + 1, none⟩) hbb (fun x => x)).trans y1
      replace y2 := (FR.out.cell (p := ⟨b, o + k * 7 + 2, none⟩) hbb (fun x => x)).trans y2
      replace y3 := (FR.out.cell (p := ⟨b, o + k * 7 + 3, none⟩) hbb (fun x => x)).trans y3
      replace y4 := (FR.out.cell (p := ⟨b, o + k * 7 + 4, none⟩) hbb (fun x => x)).trans y4
      replace y5 := (FR.out.cell (p := ⟨b, o + k * 7 + 5, none⟩) hbb (fun x => x)).trans y5
      replace y6 := (FR.out.cell (p := ⟨b, o + k * 7 + 6, none⟩) hbb (fun x => x)).trans y6
      have hto : Hid ((tosOf bs).getD k [] = bs[k].end_.to.map (·.to)) := hid (by rw [tosOf_getD, toOf_el hlk])
      have HE := hid he
      clear he
      have FA := hid (FR.out.alloc (.cells #[.slice A0 bs[k].params.length c0, .slice A1 bs[k].ins.length c1, .int .i64 bs[k].end_.kind, .int .i64 bs[k].end_.cond, .slice A2 bs[k].end_.args.length c2, .slice A3 bs[k].end_.to.length c3, .int .i64 bs[k].end_.trap] 57))
      have HQA := hid (HQ.out.fr ((Fr.refl No wr).alloc (.cells #[.slice A0 bs[k].params.length c0, .slice A1 bs[k].ins.length c1, .int .i64 bs[k].end_.kind, .int .i64 bs[k].end_.cond, .slice A2 bs[k].end_.args.length c2, .slice A3 bs[k].end_.to.length c3, .int .i64 bs[k].end_.trap] 57)) (fun x => x))
      have i0 : (0 : Int) ≤ k := by omega
      have i1 : (k : Int) < nb := by omega
      obtain ⟨m, hm⟩ : ∃ m, bs[k].end_.to.length = m := ⟨_, rfl⟩
      have HM := hid hm
      rw [hm] at y5 FA HQA
      go_wp2_with fail
      generalize wr.alloc (.cells #[.slice A0 bs[k].params.length c0, .slice A1 bs[k].ins.length c1, .int .i64 bs[k].end_.kind, .int .i64 bs[k].end_.cond, .slice A2 bs[k].end_.args.length c2, .slice A3 m c3, .int .i64 bs[k].end_.trap] 57) = W1 at *
      have HT0 := hid (tot_row (tosOf bs) k)
      rw [hto.out, List.length_map, hm] at HT0
      have hm5 : m ≤ 100000 := Nat.le_trans HT0.out ht
      generalize bs[k].end_.to = es at *
      clear y0 y1 y2 y3 y4 y5 y6 HQ FR
      go_loopw [23] (fun i wr => ∃ j : Nat, j ≤ m ∧ i = .int .i64 j ∧ Hid (Own wr q 3 nb (vi (cl (tosOf bs) nb k j))) ∧ Hid (Fr No w wr)) (fun i _ => m - (intOf i).toNat)
      case atStart => exact ⟨0, by omega, rfl, HQA, FA⟩
      case round =>
        clear HQA FA
        obtain ⟨j, hj, rfl, HQ, FR⟩ := hrel
        by_cases hgj : j < m
        · have hlj : j < es.length := by omega
          obtain ⟨b', o', A', c', rfl, hb', z0, z1, hwf, _⟩ := Ed_at HE.out j hlj
          have hbb' := hbl.out b' hb'
          replace z0 := (FR.out.cell (p := ⟨b', o' + j * 2, none⟩) hbb' (fun x => x)).trans z0
          replace z1 := (FR.out.cell (p := ⟨b', o' + j * 2 + 1, none⟩) hbb' (fun x => x)).trans z1
          have hkT : Hid (j < ((tosOf bs).getD k []).length) := hid (by rw [hto.out, List.length_map]; exact hlj)
          have heT : Hid (((tosOf bs).getD k []).getD j 0 = es[j].to) := hid (by rw [hto.out, to_getD, getD_el _ hlj])
          have hwb := hid (wf_i64 hwf)
          generalize es[j].args.length = n2 at *
          generalize es[j].to = e at *
          have j0 : (0 : Int) ≤ j := by omega
          have j1 : (j : Int) < m := by omega
          by_cases he0 : 0 ≤ e
          · by_cases he1 : e < nb
            · obtain ⟨t, rfl⟩ : ∃ t : Nat, e = t := ⟨e.toNat, by omega⟩
              have htn : t < nb := by omega
              have HS := hid (cl_yes hkT.out heT.out htn)
              have hcl := hid (cl_get (tosOf bs) nb k j t htn)
              have hcb := cntP_le (tosOf bs) k j t
              have HQ1 := hid (HQ.out.fr ((Fr.refl No wr).alloc (.cells #[.int .i64 t, .slice A' n2 c'] 65)) (fun x => x))
              have u0 := HQ1.out.cell t (by rw [vi_len, cl_len]; exact htn)
              have u1 := HQ1.out.frozen t
              have u2 : (vi (cl (tosOf bs) nb k j))[t]'(by rw [vi_len, cl_len]; exact htn) = .int .i64 (cntP (tosOf bs) k j t : Nat) := by
                simp only [vi, List.getElem_map]
                rw [hcl.out]
              rw [u2] at u0
              clear u2 hcl
              have d0 : decide ((0 : Int) ≤ t) = true := decide_eq_true he0
              have d1 : decide ((t : Int) < nb) = true := decide_eq_true he1
              have hlq := HQ1.out.lt
              have hw1 : IntKind.i64.wrap ((cntP (tosOf bs) k j (t : Int) : Int) + 1) = (cntP (tosOf bs) k j (t : Int) : Int) + 1 := by rw [IntKind.wrap_i64]; omega
              have hw2 : wrap64 ((cntP (tosOf bs) k j (t : Int) : Int) + 1) = (cntP (tosOf bs) k j (t : Int) : Int) + 1 := by unfold wrap64; omega
              generalize cntP (tosOf bs) k j (t : Int) = c at *
              go_wp2_with fail
              have FZ := hid ((FR.out.alloc (.cells #[.int .i64 t, .slice A' n2 c'] 65)).setCell ⟨q, t, none⟩ (.int .i64 ((c : Int) + 1)) (fun hh => absurd hh (Nat.not_lt.2 hqw.out)))
              have HZ := hid (HQ1.out.set_ t (.int .i64 ((c : Int) + 1)))
              go_round
              case rel =>
                refine ⟨j + 1, by omega, by go_num, ?_, FZ⟩
                have h := HZ.out
                rw [← HS.out, vi, List.map_set]
                exact h
              case measure => simp [intOf]; omega
            · have HS := hid (cl_no (n := nb) hkT.out (by rw [heT.out]; omega))
              have d0 : decide ((0 : Int) ≤ e) = true := decide_eq_true he0
              have d1 : decide (e < (nb : Int)) = false := decide_eq_false he1
              have FZ := hid (FR.out.alloc (.cells #[.int .i64 e, .slice A' n2 c'] 65))
              have HQ1 := hid (HQ.out.fr ((Fr.refl No wr).alloc (.cells #[.int .i64 e, .slice A' n2 c'] 65)) (fun x => x))
              clear he0 he1
              go_wp2_with fail
              go_round
              case rel => exact ⟨j + 1, by omega, by go_num, by rw [HS.out]; exact HQ1, FZ⟩
              case measure => simp [intOf]; omega
          · have HS := hid (cl_no (n := nb) hkT.out (by rw [heT.out]; omega))
            have d0 : decide ((0 : Int) ≤ e) = false := decide_eq_false he0
            have FZ := hid (FR.out.alloc (.cells #[.int .i64 e, .slice A' n2 c'] 65))
            have HQ1 := hid (HQ.out.fr ((Fr.refl No wr).alloc (.cells #[.int .i64 e, .slice A' n2 c'] 65)) (fun x => x))
            clear he0
            go_wp2_with fail
            go_round
            case rel => exact ⟨j + 1, by omega, by go_num, by rw [HS.out]; exact HQ1, FZ⟩
            case measure => simp [intOf]; omega
        · have hjm : j = m := by omega
          subst hjm
          clear hgj
          have hrow := cl_row (T := tosOf bs) (n := nb) (i := k) (by rw [tosOf_len]; exact hlk)
          rw [hto.out, List.length_map, HM.out] at hrow
          rw [hrow] at HQ
          clear hrow
          go_wp2_with fail
          go_round
          case rel => exact ⟨k + 1, by omega, by go_num, HQ, FR⟩
          case measure => simp [intOf]; omega
    · have hkn : nb = k := by omega
      subst hkn
      clear hgo
      go_wp2
      go_ret
      have hl : (tosOf bs).length = nb := by rw [tosOf_len]; exact eb.out
      refine ⟨q, ?_, hqw.out, by rw [hl]; exact HQ.out, FR.out⟩
      rw [hl]
      first | done | rfl | trace_state
end Go.Proofs.YtiafkakkbbclhaaGreat
namespace Go.Proofs.YtiafkakkbbclhaaGreat
open Go.RowKit
theorem isReal_yes {n : Nat} {t : Int} (h0 : 0 ≤ t) (h1 : t < n) : isReal n t = true := isReal_iff.2 ⟨h0, h1⟩
theorem isReal_no0 {n : Nat} {t : Int} (h0 : ¬ 0 ≤ t) : isReal n t = false := by
  cases h : isReal n t with
  | false => rfl
  | true => exact absurd (isReal_iff.1 h).1 h0
theorem isReal_no1 {n : Nat} {t : Int} (h1 : ¬ t < n) : isReal n t = false := by
  cases h : isReal n t with
  | false => rfl
  | true => exact absurd (isReal_iff.1 h).2 h1
theorem edge_any (k m nb q qb qm c3 : Nat) (A3 : Option Addr) (es : List Ed) (S : Nat → Prop) (w : World) (y : w.cell? ⟨qb, 5, none⟩ = some (.slice A3 m c3)) (z : w.cell? ⟨qm, 0, none⟩ = some (.slice (some ⟨q, 0, none⟩) nb nb))
    (h : tEd.els w S A3 es) (hS : ∀ k, S k → k < w.heap.size) (hm : Hid (es.length = m)) (hk : k < m) (hlk : k < es.length) (hm2 : m ≤ 100000) :
    Calls Tryz.prog 20 #[.int .i64 k, .pointer (some ⟨qb, 0, none⟩), .pointer (some ⟨qm, 0, none⟩)] w fun e w' => e = .returned (.bool (isReal nb es[k].to)) ∧ Fr No w w' := by
  obtain ⟨b, o, A', c', rfl, hb, z0, _, hwf, _⟩ := Ed_at h k hlk
  have hbb := hS b hb
  have hqb := World.block_lt_of_cell? w _ y
  have hqm := World.block_lt_of_cell? w _ z
  have HX : Hid (∀ X, Fr No w X → X.cell? ⟨qb, 5, none⟩ = some (.slice (some ⟨b, o, none⟩) m c3) ∧ X.cell? ⟨qm, 0, none⟩ = some (.slice (some ⟨q, 0, none⟩) nb nb) ∧ X.cell? ⟨b, o + k * 2, none⟩ = some (.int .i64 es[k].to)) := hid fun X f =>
    ⟨(f.cell (p := ⟨qb, 5, none⟩) hqb (fun x => x)).trans y, (f.cell (p := ⟨qm, 0, none⟩) hqm (fun x => x)).trans z, (f.cell (p := ⟨b, o + k * 2, none⟩) hbb (fun x => x)).trans z0⟩
  have hwb := hid (wf_i64 hwf)
  generalize es[k].to = e at *
  clear y z h z0 hwf
  have i0 : (0 : Int) ≤ k := by omega
  have i1 : (k : Int) < m := by omega
  by_cases he0 : 0 ≤ e
  · have d0 : decide ((0 : Int) ≤ e) = true := decide_eq_true he0
    by_cases he1 : e < nb
    · have d1 : decide (e < (nb : Int)) = true := decide_eq_true he1
      rw [isReal_yes he0 he1]
      clear he0 he1
      go_enter Tryz.func20, Tryz.ntmps20
      go_wp2_with fail
      refine wp_region_ort (Fr No w) (.rd 0 (.rd 1 (.rd 2 (.rd 3 (.rd 4 (.rd 5 (.rd 6 (.rd 7 (.rd 8 (.rd 9 (.rd 10 (.rd 11 (.rd 12 (.rd 13 (.rd 14 (.rd 15 (.rd 16 (.rd 17 (.rd 18 (.rd 19 (.rd 20 .nil))))))))))))))))))))) (by kernel_rfl) (by kernel_rfl) (by kernel_rfl) rfl (Fr.refl _ w).drew ?_
      repeat (first | refine tS ?_ | refine tX HX.out ?_)
      refine wpT_nil ?_
      go_wp2
      go_ret
      exact ⟨rfl, (Fr.refl No w).drew⟩
    · have d1 : decide (e < (nb : Int)) = false := decide_eq_false he1
      rw [isReal_no1 he1]
      clear he0 he1
      go_enter Tryz.func20, Tryz.ntmps20
      go_wp2_with fail
      refine wp_region_ort (Fr No w) (.rd 0 (.rd 1 (.rd 2 (.rd 3 (.rd 4 (.rd 5 (.rd 6 (.rd 7 (.rd 8 (.rd 9 (.rd 10 (.rd 11 (.rd 12 (.rd 13 (.rd 14 (.rd 15 (.rd 16 (.rd 17 (.rd 18 (.rd 19 (.rd 20 .nil))))))))))))))))))))) (by kernel_rfl) (by kernel_rfl) (by kernel_rfl) rfl (Fr.refl _ w).drew ?_
      repeat (first | refine tS ?_ | refine tX HX.out ?_)
      refine wpT_nil ?_
      go_wp2
      go_ret
      exact ⟨rfl, (Fr.refl No w).drew⟩
  · have d0 : decide ((0 : Int) ≤ e) = false := decide_eq_false he0
    rw [isReal_no0 he0]
    clear he0
    go_enter Tryz.func20, Tryz.ntmps20
    go_wp2_with fail
    refine wp_region_ort (Fr No w) (.rd 0 (.rd 1 (.rd 2 (.rd 3 (.rd 4 (.rd 5 (.rd 6 (.rd 7 (.rd 8 (.rd 9 (.rd 10 (.rd 11 (.rd 12 (.rd 13 (.rd 14 (.rd 15 (.rd 16 (.rd 17 (.rd 18 (.rd 19 (.rd 20 .nil))))))))))))))))))))) (by kernel_rfl) (by kernel_rfl) (by kernel_rfl) rfl (Fr.refl _ w).drew ?_
    repeat (first | refine tS ?_ | refine tX HX.out ?_)
    refine wpT_nil ?_
    go_wp2
    go_ret
    exact ⟨rfl, (Fr.refl No w).drew⟩
end Go.Proofs.YtiafkakkbbclhaaGreat
namespace Go.Proofs.YtiafkakkbbclhaaGreat
open Go.RowKit
def tPr : Ty (Nat × Nat) := (tI.pair tI).iso fun p => ((p.1 : Int), (p.2 : Int))
instance : TyOk tPr := by unfold tPr; infer_instance
instance : TyMore tPr := by unfold tPr; infer_instance
instance : TyOne tPr := by unfold tPr; infer_instance
theorem tPr_rd {w : World} {S : Nat → Prop} {a b : Nat} (h1 : a ≤ 1000000) (h2 : b ≤ 1000000) : tPr.rd w S [.int .i64 a, .int .i64 b] (a, b) :=
  ⟨[.int .i64 a], [.int .i64 b], rfl, ⟨rfl, wf_bool64 (by simp only; omega)⟩, ⟨rfl, wf_bool64 (by simp only; omega)⟩⟩
theorem elPrs : ElemOk Tryz.prog 47 75 2 16 (.agg #[.int .i64 0, .int .i64 0]) := ElemOk.mk' Tryz.underlying47 (by kernel_rfl) rfl (by decide)
def CritTo (T : List (List Int)) (w : World) (e : Ending) (w' : World) : Prop :=
  ∃ (A : Option Addr) (c : Nat), e = .returned (.slice A (crit T).length c) ∧ tPr.row w' w.heap.size Emp 75 (.slice A (crit T).length c) (crit T) ∧ Fr No w w'
theorem rowC_len (T : List (List Int)) (b : Nat) (l : List Int) (k : Nat) : (rowC T b l k).length ≤ k := by
  unfold rowC
  rw [List.length_map]
  exact Nat.le_trans (List.length_filter_le ..) (by simp)
theorem outsR_succ {n : Nat} {l : List Int} {k : Nat} (hk : k < l.length) : outsR n (l.take (k + 1)) = outsR n (l.take k) + if isReal n l[k] = true then 1 else 0 := by
  unfold outsR
  rw [List.take_succ_eq_append_getElem hk, List.countP_append]
  simp [List.countP_cons]
theorem outsR_le (n : Nat) (l : List Int) (k : Nat) : outsR n (l.take k) ≤ k := by
  unfold outsR
  have := List.countP_le_length (p := isReal n) (l := l.take k)
  rw [List.length_take] at this
  omega
theorem critR_tot (T : List (List Int)) (b : Nat) : (critR T b).length ≤ tot T := Nat.le_trans (critR_len T b) (by unfold tot; rw [List.map_take]; exact sum_take_le _ _)
theorem crit_any (P R V B : Option Addr) (np nr nv nb pc rc vc bc : Nat) (bs : List Sb) (S : Nat → Prop) (w : World) (h : tSb.els w S B bs) (hS : ∀ k, S k → k < w.heap.size) (eb : Hid (bs.length = nb)) (hn : nb ≤ 100000) (ht : tot (tosOf bs) ≤ 100000) :
    Calls Tryz.prog 9 #[.agg #[.slice P np pc, .slice R nr rc, .slice V nv vc, .slice B nb bc]] w (CritTo (tosOf bs) w) := by
  have F0 := hid ((Fr.refl No w).alloc (.cells #[.slice P np pc, .slice R nr rc, .slice V nv vc, .slice B nb bc] 39))
  have G := hid (Blk.new w 39 #[.slice P np pc, .slice R nr rc, .slice V nv vc, .slice B nb bc])
  have HH := hid h
  have hbl := hid hS
  have HTO := hid (to_any P R V B np nr nv nb pc rc vc bc bs S (w.alloc (.cells #[.slice P np pc, .slice R nr rc, .slice V nv vc, .slice B nb bc] 39)) (h.fr F0.out (fun k hk => ⟨hS k hk, fun x => x⟩)) (fun k hk => Nat.lt_of_lt_of_le (hS k hk) F0.out.size) eb hn ht)
  clear h hS
  generalize hTe : tosOf bs = T at *
  have HTe := hid hTe
  clear hTe
  go_enter Tryz.func9, Tryz.ntmps9
  go_wp2_with fail
  refine HTO.out.mono ?_
  clear HTO
  rintro e w1 ⟨q, rfl, hq, hown, f⟩
  have hlT : T.length = nb := by rw [← HTe.out, tosOf_len]; exact eb.out
  rw [hlT] at hown ⊢
  have HQ := hid (hown.fr ((Fr.refl No w1).alloc (.cells #[.slice (some ⟨q, 0, none⟩) nb nb] 50)) (fun x => x))
  have HV := hid (Blk.new w1 50 #[.slice (some ⟨q, 0, none⟩) nb nb])
  have F1 := hid ((F0.out.trans f (fun _ _ h => h)).alloc (.cells #[.slice (some ⟨q, 0, none⟩) nb nb] 50))
  have y3 := ((G.out.fr f (fun x => x)).alloc (.cells #[.slice (some ⟨q, 0, none⟩) nb nb] 50)).cell 3
  have hqm := hid (show w.heap.size ≤ w1.heap.size from Nat.le_trans F0.out.size f.size)
  clear f hown G hq
  go_wp2_with fail
  generalize w1.alloc (.cells #[.slice (some ⟨q, 0, none⟩) nb nb] 50) = W at *
  generalize w1.heap.size = qm at *
  clear y3
  go_loopw [4, 16] (fun v i wr => ∃ (k : Nat) (A : Option Addr) (c : Nat), k ≤ nb ∧ i = .int .i64 k ∧ v = .slice A (critR T k).length c ∧ Hid (tPr.row wr w.heap.size Emp 75 (.slice A (critR T k).length c) (critR T k)) ∧ Hid (Own wr q 3 nb (vi (cl T nb nb 0))) ∧ Hid (Blk wr qm 50 #[.slice (some ⟨q, 0, none⟩) nb nb]) ∧ Hid (Fr No w wr)) (fun _ i _ => nb - (intOf i).toNat)
  case atStart => exact ⟨0, none, 0, by omega, rfl, rfl, hid (Ty.row.nil _ _ _ _), HQ, HV, F1⟩
  case round =>
    clear HQ HV F1 F0
    obtain ⟨k, A, c, hk, rfl, rfl, HR, HQ, HV, FR⟩ := hrel
    by_cases hgo : k < nb
    · have hlk : k < bs.length := by have := eb.out; omega
      obtain ⟨b, o, A0, c0, A1, c1, A2, c2, A3, c3, rfl, hb, y0, y1, y2, y3, y4, y5, y6, _, _, _, _, _, _, _, _, _, _, _, _, _, he, _⟩ := Sb_at HH.out k hlk
      have hbb := hbl.out b hb
      replace y0 := (FR.out.cell (p := ⟨b, o + k * 7, none⟩) hbb (fun x => x)).trans y0
      replace y1 := (FR.out.cell (p := ⟨b, o + k * 7 + 1, none⟩) hbb (fun x => x)).trans y1
      replace y2 := (FR.out.cell (p := ⟨b, o + k * 7 + 2, none⟩) hbb (fun x => x)).trans y2
      replace y3 := (FR.out.cell (p := ⟨b, o + k * 7 + 3, none⟩) hbb (fun x => x)).trans y3
      replace y4 := (FR.out.cell (p := ⟨b, o + k * 7 + 4, none⟩) hbb (fun x => x)).trans y4
      replace y5 := (FR.out.cell (p := ⟨b, o + k * 7 + 5, none⟩) hbb (fun x => x)).trans y5
      replace y6 := (FR.out.cell (p := ⟨b, o + k * 7 + 6, none⟩) hbb (fun x => x)).trans y6
      have hto : Hid (T.getD k [] = bs[k].end_.to.map (·.to)) := hid (by rw [← HTe.out, tosOf_getD, toOf_el hlk])
      obtain ⟨m, hm⟩ : ∃ m, bs[k].end_.to.length = m := ⟨_, rfl⟩
      have HM := hid hm
      have HT0 := hid (tot_row T k)
      rw [hto.out, List.length_map, hm] at HT0
      have hm5 : m ≤ 100000 := Nat.le_trans HT0.out ht
      rw [hm] at y5
      have FB := (Fr.refl No wr).alloc (.cells #[.slice A0 bs[k].params.length c0, .slice A1 bs[k].ins.length c1, .int .i64 bs[k].end_.kind, .int .i64 bs[k].end_.cond, .slice A2 bs[k].end_.args.length c2, .slice A3 m c3, .int .i64 bs[k].end_.trap] 57)
      have FA := hid (FR.out.trans FB (fun _ _ h => h))
      have HQA := hid (HQ.out.fr FB (fun x => x))
      have HVA := hid (HV.out.fr FB (fun x => x))
      have HRA := hid (HR.out.fr FB (fun _ h => h.elim) (fun _ _ h => h))
      have HBV := hid (Blk.new wr 57 #[.slice A0 bs[k].params.length c0, .slice A1 bs[k].ins.length c1, .int .i64 bs[k].end_.kind, .int .i64 bs[k].end_.cond, .slice A2 bs[k].end_.args.length c2, .slice A3 m c3, .int .i64 bs[k].end_.trap])
      have HE := hid (he.fr FR.out (fun k hk => ⟨hbl.out k hk, fun x => x⟩))
      have HE := hid (HE.out.fr FB (fun k hk => ⟨Nat.lt_of_lt_of_le (hbl.out k hk) FR.out.size, fun x => x⟩))
      have i0 : (0 : Int) ≤ k := by omega
      have i1 : (k : Int) < nb := by omega
      clear he FB
      go_wp2_with fail
      have hbz : Hid (w.heap.size ≤ wr.heap.size) := hid FR.out.size
      generalize wr.alloc (.cells #[.slice A0 bs[k].params.length c0, .slice A1 bs[k].ins.length c1, .int .i64 bs[k].end_.kind, .int .i64 bs[k].end_.cond, .slice A2 bs[k].end_.args.length c2, .slice A3 m c3, .int .i64 bs[k].end_.trap] 57) = W1 at *
      obtain ⟨qb, hqb⟩ : ∃ qb, wr.heap.size = qb := ⟨_, rfl⟩
      rw [hqb] at HBV ⊢
      clear hqb hbz
      generalize bs[k].end_.to = es at *
      clear y0 y1 y2 y3 y4 y5 y6 HQ FR HV HR
      have hl1 : T.length = nb := hlT
      have htk := hid hto.out
      have hW1 : Hid (w.heap.size ≤ W1.heap.size) := hid FA.out.size
      go_loopw [7, 9, 26] (fun v cn i wr => ∃ (j : Nat) (A7 : Option Addr) (c7 : Nat), j ≤ m ∧ i = .int .i64 j ∧ cn = .int .i64 (outsR nb ((es.map (·.to)).take j) : Nat) ∧ v = .slice A7 (rowC T k (es.map (·.to)) j).length c7 ∧ Hid (tPr.row wr W1.heap.size Emp 75 (.slice A7 (rowC T k (es.map (·.to)) j).length c7) (rowC T k (es.map (·.to)) j)) ∧ Hid (Fr No W1 wr)) (fun _ _ i _ => m - (intOf i).toNat)
      case atStart => exact ⟨0, none, 0, by omega, rfl, rfl, rfl, hid (Ty.row.nil _ _ _ _), hid (Fr.refl No W1)⟩
      case round =>
        obtain ⟨j, A7, c7, hj, rfl, rfl, rfl, HR7, FR⟩ := hrel
        by_cases hgj : j < m
        · have hlj : j < es.length := by have := HM.out; omega
          have hbb1 := fun k (hk : S k) => Nat.lt_of_lt_of_le (hbl.out k hk) hW1.out
          have ybv := (HBV.out.fr FR.out (fun x => x)).cell 5
          have yvm := (HVA.out.fr FR.out (fun x => x)).cell 0
          have hes := HE.out.fr FR.out (fun k hk => ⟨hbb1 k hk, fun x => x⟩)
          have HEG := hid (edge_any j m nb q qb qm c3 A3 es S wr ybv yvm hes (fun k hk => Nat.lt_of_lt_of_le (hbb1 k hk) FR.out.size) HM (by omega) hlj hm5)
          have hlt : j < (es.map (·.to)).length := by rw [List.length_map]; exact hlj
          have hget : (es.map (·.to))[j] = es[j].to := List.getElem_map ..
          have HOU := hid (outsR_succ (n := nb) hlt)
          have hole := outsR_le nb (es.map (·.to)) j
          have hrle := rowC_len T k (es.map (·.to)) j
          have HRC := hid (rowC_succ T k (es.map (·.to)) j)
          have hpk : Hid (pk T (es.map (·.to)) j = (isReal nb es[j].to && decide (2 ≤ cntT T es[j].to))) := hid (by unfold pk; rw [to_getD, getD_el _ hlj, hl1])
          rw [hget] at HOU
          obtain ⟨b', o', A', c', hA3, hb', z0, _, hwf, _⟩ := Ed_at hes j hlj
          have hb5 := Nat.lt_of_lt_of_le (hbb1 b' hb') FR.out.size
          subst hA3
          generalize es[j].to = e at *
          generalize outsR nb ((es.map (·.to)).take j) = oc at *
          generalize rowC T k (es.map (·.to)) j = rw0 at *
          have j0 : (0 : Int) ≤ j := by omega
          have j1 : (j : Int) < m := by omega
          clear hget hlt hbb1
          go_wp2_with fail
          refine HEG.out.mono ?_
          clear HEG
          rintro e1 w5 ⟨rfl, f⟩
          have FR5 := hid (FR.out.trans f (fun _ _ h => h))
          have HR75 := hid (HR7.out.fr f (fun _ h => h.elim) (fun _ _ h => h))
          cases hre : isReal nb e with
          | false =>
            rw [hre] at HOU hpk
            simp only [Bool.false_eq_true, if_false, Bool.false_and] at HOU hpk
            rw [hpk.out] at HRC
            simp only [Bool.false_eq_true, if_false, List.append_nil] at HRC
            clear f ybv yvm hes z0 hre
            go_wp2_with fail
            go_round
            case rel => exact ⟨j + 1, A7, c7, by omega, by go_num, by rw [HOU.out]; rfl, by rw [HRC.out], by rw [HRC.out]; exact HR75, FR5⟩
            case measure => simp [intOf]; omega
          | true =>
            obtain ⟨hr0, hr1⟩ := isReal_iff.1 hre
            obtain ⟨t, rfl⟩ : ∃ t : Nat, e = t := ⟨e.toNat, by omega⟩
            have htn : t < nb := by omega
            rw [hre] at HOU hpk
            simp only [if_true, Bool.true_and] at HOU hpk
            have hclv : Hid ((vi (cl T nb nb 0))[t]'(by rw [vi_len, cl_len]; exact htn) = .int .i64 (cntT T (t : Int) : Nat)) := hid (by
              simp only [vi, List.getElem_map]
              rw [cl_get _ _ _ _ _ htn]
              have : cntP T nb 0 (t : Int) = cntT T (t : Int) := by unfold cntP; rw [← hl1, List.take_length]; simp
              rw [this])
            have hcle := cntT_le T (t : Int)
            have HXR : Hid (∀ X, Fr No w5 X → X.cell? ⟨qm, 0, none⟩ = some (.slice (some ⟨q, 0, none⟩) nb nb) ∧ X.cell? ⟨qb, 5, none⟩ = some (.slice (some ⟨b', o', none⟩) m c3) ∧ X.cell? ⟨b', o' + j * 2, none⟩ = some (.int .i64 t) ∧ X.cell? ⟨q, t, none⟩ = some (.int .i64 (cntT T (t : Int) : Nat))) := hid fun X g => by
              have g1 := FR5.out.trans g (fun _ _ h => h)
              have g2 := f.trans g (fun _ _ h => h)
              refine ⟨(HVA.out.fr g1 (fun x => x)).cell 0, (HBV.out.fr g1 (fun x => x)).cell 5, (g2.cell (p := ⟨b', o' + j * 2, none⟩) hb5 (fun x => x)).trans z0, ?_⟩
              have := (HQA.out.fr g1 (fun x => x)).cell t (by rw [vi_len, cl_len]; exact htn)
              rw [this, hclv.out]
            clear hclv ybv yvm hes z0 f hre
            generalize cntT T (t : Int) = cc at *
            have hcw : IntKind.i64.wrap ((oc : Int) + 1) = oc + 1 := by rw [IntKind.wrap_i64]; omega
            have t0 : (0 : Int) ≤ t := by omega
            have t1 : (t : Int) < nb := by omega
            by_cases hcc : 2 ≤ cc
            · have dc : decide ((1 : Int) < cc) = true := decide_eq_true (by omega)
              rw [decide_eq_true hcc] at hpk
              rw [hpk.out] at HRC
              simp only [if_true] at HRC
              clear hcc
              go_wp2_with fail
              refine wp_region_ort (Fr No w5) (.rd 0 (.rd 1 (.rd 2 (.rd 3 (.rd 4 (.rd 5 (.rd 6 (.rd 7 (.rd 8 (.rd 9 (.rd 10 .nil))))))))))) (by kernel_rfl) (by kernel_rfl) (by kernel_rfl) rfl (Fr.refl _ w5).drew ?_
              repeat (first | refine tS ?_ | refine tX HXR.out ?_)
              refine wpT_nil ?_
              have FD := (Fr.refl No w5).drew
              have FRD := hid (FR5.out.trans FD (fun _ _ h => h))
              have HRD := hid (HR75.out.fr FD (fun _ h => h.elim) (fun _ _ h => h))
              generalize w5.drew = wz at *
              have FL := (Fr.refl No wz).alloc (.cells #[.int .i64 k, .int .i64 j] 75)
              have FRL := hid (FRD.out.trans FL (fun _ _ h => h))
              have RL := hid (HRD.out.fr FL (fun _ h => h.elim) (fun _ _ h => h))
              have BL := hid (Blk.new wz 75 #[.int .i64 k, .int .i64 j])
              clear FD FL HXR
              go_wp2_with (at_builtin; refine wpList_appC (t := tPr) (base := W1.heap.size) (S := Emp) (xs := rw0) (ys := [(k, j)]) (dss := [[.int .i64 k, .int .i64 j]]) (B2 := (wz.alloc (.cells #[.int .i64 k, .int .i64 j] 75)).heap.size) elPrs rfl rfl rfl rfl RL.out (Css.one (tPr_rd (by omega) (by omega))) (by simpa using Rd.blk BL.out BL.out.lt 0 (xs := [.int .i64 k, .int .i64 j]) (fun i u h => by rw [Nat.zero_add]; simpa using h)) rfl (by omega) (by omega) (fun _ h => h.elim) FRL.out.size ?_; intro v8 wy hr fr1 hv; have FY := hid (own_frame RL.out FRL.out fr1 (Nat.le_refl _)); have RY := hid hr; clear hr fr1 hv)
              obtain ⟨A8, c8, e8, _, _, _⟩ := RY.out.els (S' := fun _ => True) (fun _ _ => trivial) (fun _ _ => trivial)
              subst e8
              clear RL BL FRL HRD FRD
              go_wp2_with fail
              go_round
              case rel => exact ⟨j + 1, A8, c8, by omega, by go_num, by rw [HOU.out]; rfl, by rw [HRC.out], by rw [HRC.out]; exact RY, FY⟩
              case measure => simp [intOf]; omega
            · have dc : decide ((1 : Int) < cc) = false := decide_eq_false (by omega)
              rw [decide_eq_false hcc] at hpk
              rw [hpk.out] at HRC
              simp only [Bool.false_eq_true, if_false, List.append_nil] at HRC
              clear hcc
              go_wp2_with fail
              refine wp_region_ort (Fr No w5) (.rd 0 (.rd 1 (.rd 2 (.rd 3 (.rd 4 (.rd 5 (.rd 6 (.rd 7 (.rd 8 (.rd 9 (.rd 10 .nil))))))))))) (by kernel_rfl) (by kernel_rfl) (by kernel_rfl) rfl (Fr.refl _ w5).drew ?_
              repeat (first | refine tS ?_ | refine tX HXR.out ?_)
              refine wpT_nil ?_
              have FD := (Fr.refl No w5).drew
              have FRD := hid (FR5.out.trans FD (fun _ _ h => h))
              have HRD := hid (HR75.out.fr FD (fun _ h => h.elim) (fun _ _ h => h))
              generalize w5.drew = wz at *
              clear FD HXR
              go_wp2_with fail
              go_round
              case rel => exact ⟨j + 1, A7, c7, by omega, by go_num, by rw [HOU.out]; rfl, by rw [HRC.out], by rw [HRC.out]; exact HRD, FRD⟩
              case measure => simp [intOf]; omega
        · have hjm : m = j := by omega
          subst hjm
          clear hgj
          have hD : Hid (critR T (k + 1) = critR T k ++ if 2 ≤ outsR nb ((es.map (·.to)).take m) then rowC T k (es.map (·.to)) m else []) := hid (by
            show critR T k ++ rowD T k (T.getD k []).length = _
            unfold rowD
            rw [htk.out, hl1, List.length_map, HM.out, List.take_of_length_le (by rw [List.length_map, HM.out]; exact Nat.le_refl _)])
          have hrle := rowC_len T k (es.map (·.to)) m
          have hcle : (critR T k).length ≤ 100000 := Nat.le_trans (critR_tot T k) ht
          have HR4 := hid (HRA.out.fr FR.out (fun _ h => h.elim) (fun _ _ h => h))
          have HQ4 := hid (HQA.out.fr FR.out (fun x => x))
          have HV4 := hid (HVA.out.fr FR.out (fun x => x))
          have FW := hid (FA.out.trans FR.out (fun _ _ h => h))
          have hole := outsR_le nb (es.map (·.to)) m
          clear HRA HQA HVA FA
          generalize outsR nb ((es.map (·.to)).take m) = oc at *
          generalize rowC T k (es.map (·.to)) m = rw0 at *
          by_cases h2 : 2 ≤ oc
          · have dc : decide ((1 : Int) < oc) = true := decide_eq_true (by omega)
            rw [if_pos h2] at hD
            obtain ⟨css, hcs, hrd⟩ := HR7.out.rd
            have HCS := hid hcs
            have HRD := hid hrd
            clear h2 hcs hrd
            go_wp2_with (at_builtin; refine wpList_appC (t := tPr) (base := w.heap.size) (S := Emp) (xs := critR T k) (ys := rw0) (dss := css) (B2 := wr.heap.size) elPrs rfl rfl rfl rfl HR4.out HCS.out HRD.out rfl (by omega) (by omega) (fun _ h => h.elim) FW.out.size ?_; intro v8 wy hr fr1 hv; have FY := hid (own_frame HR4.out FW.out fr1 (Nat.le_refl _)); have RY := hid hr; have FR1 := hid fr1; clear hr fr1 hv)
            have hq1 : ¬ some q = (Value.slice A (critR T k).length c).ownBlock := fun e => by
              obtain ⟨_, cs, hb⟩ := HR4.out.own e.symm
              obtain ⟨cs', hb', _⟩ := HQ4.out.cur
              exact Blk.ne_ hb hb' (by decide) rfl
            have hq2 : ¬ some qm = (Value.slice A (critR T k).length c).ownBlock := fun e => by
              obtain ⟨_, cs, hb⟩ := HR4.out.own e.symm
              exact Blk.ne_ hb HV4.out (by decide) rfl
            have HQ5 := hid (HQ4.out.fr FR1.out hq1)
            have HV5 := hid (HV4.out.fr FR1.out hq2)
            obtain ⟨A8, c8, e8, _, _, _⟩ := RY.out.els (S' := fun _ => True) (fun _ _ => trivial) (fun _ _ => trivial)
            subst e8
            rw [← hD.out] at RY ⊢
            clear FR1 hq1 hq2 HQ4 HV4
            go_wp2_with fail
            go_round
            case rel => exact ⟨k + 1, A8, c8, by omega, by go_num, rfl, RY, HQ5, HV5, FY⟩
            case measure => simp [intOf]; omega
          · have dc : decide ((1 : Int) < oc) = false := decide_eq_false (by omega)
            rw [if_neg h2, List.append_nil] at hD
            clear h2
            go_wp2_with fail
            go_round
            case rel => exact ⟨k + 1, A, c, by omega, by go_num, by rw [hD.out], by rw [hD.out]; exact HR4, HQ4, HV4, FW⟩
            case measure => simp [intOf]; omega
    · have hkn : nb = k := by omega
      subst hkn
      clear hgo
      go_wp2
      go_ret
      refine ⟨A, c, ?_, ?_, FR.out⟩
      · unfold crit
        rw [hlT]
        first | done | rfl
      · unfold crit
        rw [hlT]
        exact HR.out
end Go.Proofs.YtiafkakkbbclhaaGreat
namespace Go.Proofs.YtiafkakkbbclhaaGreat
open Go.RowKit
def Sn (base : Nat) (w : World) : Nat → Prop := fun j => base ≤ j ∧ ∃ cs, Blk w j 3 cs
theorem Sn.lt {base : Nat} {w : World} {j : Nat} (h : Sn base w j) : j < w.heap.size := by
  obtain ⟨_, cs, hb⟩ := h
  exact hb.lt
theorem Sn.fr {base : Nat} {w w' : World} {M : Nat → Prop} (f : Fr M w w') (hM : ∀ j cs, M j → ¬ Blk w j 3 cs) : ∀ j, Sn base w j → Sn base w' j := fun j ⟨h1, cs, hb⟩ => ⟨h1, cs, hb.fr f (fun hm => hM j cs hm hb)⟩
theorem Sn.frNo {base : Nat} {w w' : World} (f : Fr No w w') : ∀ j, Sn base w j → Sn base w' j := Sn.fr f (fun _ _ h => h.elim)
theorem Sn.base {base base' : Nat} {w : World} (h : base' ≤ base) : ∀ j, Sn base w j → Sn base' w j := fun _ ⟨h1, h2⟩ => ⟨Nat.le_trans h h1, h2⟩
theorem rowSi_fr {α : Type} {t : Ty α} [TyOk t] [TyMore t] {base base2 : Nat} {w w' : World} {M : Nat → Prop} {e : TypeId} {v : Value} {l : List α} (h : t.row w base2 (Sn base w) e v l) (f : Fr M w w') (hM : ∀ j cs, M j → ¬ Blk w j 3 cs) (hv : ∀ k, v.ownBlock = some k → ¬ M k) : t.row w' base2 (Sn base w') e v l :=
  (h.fr f (fun k hk => ⟨hk.lt, fun hm => by obtain ⟨_, cs, hb⟩ := hk; exact hM k cs hm hb⟩) hv).more (Nat.le_refl _) (Sn.fr f hM)
theorem rowSi_frNo {α : Type} {t : Ty α} [TyOk t] [TyMore t] {base base2 : Nat} {w w' : World} {e : TypeId} {v : Value} {l : List α} (h : t.row w base2 (Sn base w) e v l) (f : Fr No w w') : t.row w' base2 (Sn base w') e v l := rowSi_fr h f (fun _ _ h => h.elim) (fun _ _ h => h)
theorem row_els {base : Nat} {w : World} {A : Option Addr} {c : Nat} {l : List Int} (h : tI.row w base Emp 3 (.slice A l.length c) l) : l.length ≤ c ∧ c ≤ maxLen ∧ tI.els w (Sn base w) A l := by
  obtain ⟨A', c', e, h1, h2, h3⟩ := h.els (S' := Sn base w) (fun _ h => h.elim) (fun g hg => by obtain ⟨h0, cs, hb⟩ := h.own hg; exact ⟨h0, cs, hb⟩)
  injection e with e1 _ e3
  subst e1 e3
  exact ⟨h1, h2, h3⟩
theorem row_els2 {base : Nat} {w : World} {A : Option Addr} {n c : Nat} {l : List Int} (h : tI.row w base Emp 3 (.slice A n c) l) (hn : l.length = n) : l.length ≤ c ∧ c ≤ maxLen ∧ tI.els w (Sn base w) A l := by
  subst hn
  exact row_els h
theorem elEds : ElemOk Tryz.prog 52 65 2 32 (.agg #[.int .i64 0, .slice none 0 0]) := ElemOk.mk' Tryz.underlying52 (by kernel_rfl) rfl (by decide)
def EdTo (es : List Ed) (w : World) (e : Ending) (w' : World) : Prop :=
  ∃ (A : Option Addr) (c : Nat), e = .returned (.slice A es.length c) ∧ tEd.row w' w.heap.size (Sn w.heap.size w') 65 (.slice A es.length c) es ∧ Fr No w w'
theorem edges_any (A0 : Option Addr) (c0 : Nat) (es : List Ed) (S : Nat → Prop) (w : World) (h : tEd.els w S A0 es) (hS : ∀ k, S k → k < w.heap.size) (hl : es.length ≤ 100000) (hla : ∀ e ∈ es, e.args.length * 8 ≤ 140737488351232) :
    Calls Tryz.prog 34 #[.slice A0 es.length c0] w (EdTo es w) := by
  have HE := hid h
  have hbl := hid hS
  have HLA := hid hla
  clear h hS hla
  obtain ⟨m, hm⟩ : ∃ m, es.length = m := ⟨_, rfl⟩
  have HM := hid hm
  rw [hm] at hl ⊢
  go_enter Tryz.func34, Tryz.ntmps34
  go_wp2_with fail
  go_loopw [3, 8] (fun v i wr => ∃ (k : Nat) (A : Option Addr) (c : Nat), k ≤ m ∧ i = .int .i64 k ∧ v = .slice A k c ∧ Hid (tEd.row wr w.heap.size (Sn w.heap.size wr) 65 (.slice A k c) (es.take k)) ∧ Hid (Fr No w wr)) (fun _ i _ => m - (intOf i).toNat)
  case atStart => exact ⟨0, none, 0, by omega, rfl, rfl, hid (by rw [List.take_zero]; exact Ty.row.nil _ _ _ _), hid (Fr.refl No w)⟩
  case round =>
    obtain ⟨k, A, c, hk, rfl, rfl, HR, FR⟩ := hrel
    by_cases hgo : k < m
    · have hlk : k < es.length := by have := HM.out; omega
      obtain ⟨b, o, A', c', rfl, hb, z0, z1, hwf, _, _, ha⟩ := Ed_at HE.out k hlk
      have hbb := hbl.out b hb
      replace z0 := (FR.out.cell (p := ⟨b, o + k * 2, none⟩) hbb (fun x => x)).trans z0
      replace z1 := (FR.out.cell (p := ⟨b, o + k * 2 + 1, none⟩) hbb (fun x => x)).trans z1
      have hla := HLA.out _ (List.getElem_mem hlk)
      have htk : es.take (k + 1) = es.take k ++ [es[k]] := List.take_succ_eq_append_getElem hlk
      have HTK := hid htk
      have HAR := hid (ha.fr FR.out (fun k hk => ⟨hbl.out k hk, fun x => x⟩))
      have FB := (Fr.refl No wr).alloc (.cells #[.int .i64 es[k].to, .slice A' es[k].args.length c'] 65)
      have HCL := hid (fun X (f : Fr No wr X) => cloneI_any A' c' es[k].args S X (HAR.out.fr f (fun k hk => ⟨Nat.lt_of_lt_of_le (hbl.out k hk) FR.out.size, fun x => x⟩)) (fun k hk => Nat.lt_of_lt_of_le (hbl.out k hk) (Nat.le_trans FR.out.size f.size)) hla)
      unfold CloneTo at HCL
      have G := hid (Blk.new wr 65 #[.int .i64 es[k].to, .slice A' es[k].args.length c'])
      have HWF := hid hwf
      generalize hx : es[k] = x at *
      obtain ⟨n2, hn2⟩ : ∃ n, x.args.length = n := ⟨_, rfl⟩
      have HN2 := hid hn2
      rw [hn2] at z1 HCL FB G
      have FA := hid FB
      have HXR : Hid (∀ X, Fr (fun j => some j = (Value.slice A k c).ownBlock) (wr.alloc (.cells #[.int .i64 x.to, .slice A' n2 c'] 65)) X → X.cell? ⟨wr.heap.size, 0, none⟩ = some (.int .i64 x.to) ∧ X.cell? ⟨wr.heap.size, 1, none⟩ = some (.slice A' n2 c')) := hid fun X f => by
        have hng : ¬ some wr.heap.size = (Value.slice A k c).ownBlock := fun e => by
          obtain ⟨_, cs, hb⟩ := HR.out.own e.symm
          exact Nat.lt_irrefl _ hb.lt
        have g := G.out.fr f hng
        exact ⟨g.cell 0, g.cell 1⟩
      have i0 : (0 : Int) ≤ k := by omega
      have i1 : (k : Int) < m := by omega
      clear ha FB htk hwf hx hn2 hlk hla
      go_upto_region 5 with fail
      clear z0 z1
      generalize wr.alloc (.cells #[.int .i64 x.to, .slice A' n2 c'] 65) = W1 at *
      refine wp_region_ort (Fr (fun j => some j = (Value.slice A k c).ownBlock) W1) (.rd 0 (.rd 1 (.rd 2 (.rd 3 (.rd 4 (.eff 5 (.rd 6 (.eff 7 (.eff 8 (.rd 9 .nil)))))))))) (by kernel_rfl) (by kernel_rfl) (by kernel_rfl) rfl (Fr.refl _ W1).drew ?_
      repeat (first | refine tS ?_ | refine tX HXR.out ?_)
      refine wpT_eff rfl rfl (fun K hK => ?_)
      simp only [zA]
      go_simp
      refine (HCL.out _ FA.out.drew).mono ?_
      rintro e w5 ⟨A2, c2, rfl, hrow, f⟩
      have F5 := hid ((Fr.refl No W1).drew.trans f (fun _ _ h => h))
      have FX := hid (FA.out.trans F5.out (fun _ _ h => h))
      have HR5 := hid (rowSi_frNo HR.out FX.out)
      have HA5 := hid (hrow.more (base' := w.heap.size) (by have h1 := FR.out.size; have h2 := FA.out.size; simp only [World.drew] at *; omega) (fun _ h => h))
      clear hrow f HCL
      refine hK _ _ (F5.out.mono (fun _ _ h => h.elim)) ?_
      clear hK K
      repeat (first | refine tS ?_ | refine tX HXR.out ?_)
      refine wpT_eff rfl rfl (fun K hK => ?_)
      simp only [zA]
      go_simp
      have FL := (Fr.refl No w5).alloc (.cells #[.int .i64 x.to, .slice A2 n2 c2] 65)
      have F6 := hid (F5.out.trans FL (fun _ _ h => h))
      have FX6 := hid (FX.out.trans FL (fun _ _ h => h))
      have HR6 := hid (rowSi_frNo HR5.out FL)
      have HA6 := hid (HA5.out.fr FL (fun _ h => h.elim) (fun _ _ h => h))
      have BL := hid (Blk.new w5 65 #[.int .i64 x.to, .slice A2 n2 c2])
      clear FL F5 FX HR5 HA5
      generalize w5.alloc (.cells #[.int .i64 x.to, .slice A2 n2 c2] 65) = w6 at *
      generalize w5.heap.size = ql at *
      refine hK _ _ (F6.out.mono (fun _ _ h => h.elim)) ?_
      clear hK K
      repeat (first | refine tS ?_ | refine tX HXR.out ?_)
      obtain ⟨hc1, hc2, hael⟩ := row_els (by have h := HA6.out; rw [← HN2.out] at h; exact h)
      have hcs : Css tEd w6 (Sn w.heap.size w6) [[.int .i64 x.to, .slice A2 n2 c2]] [x] := Css.one (by have := Ed_mk (w := w6) (S := Sn w.heap.size w6) (a := x) HWF.out hc1 hc2 hael; rw [HN2.out] at this; exact this)
      have HCS := hid hcs
      have htl : (es.take k).length = k := by rw [List.length_take, HM.out]; omega
      have HTL := hid htl
      have hnt : Hid (∀ j, Sn w.heap.size w6 j → j < w6.heap.size ∧ ¬ some j = (Value.slice A k c).ownBlock) := hid fun j hj => ⟨hj.lt, fun e => by
        obtain ⟨_, cs, hb⟩ := HR6.out.own e.symm
        obtain ⟨_, cs', hb'⟩ := hj
        exact Blk.ne_ hb hb' (by decide) rfl⟩
      clear hcs htl hael hc1 hc2 HA6
      refine wpT_eff rfl rfl (fun K hK => ?_)
      simp only [List.getElem_toArray, List.getElem_cons_succ, List.getElem_cons_zero]
      refine opwp_appC (t := tEd) (P := Tryz.prog) (base := w.heap.size) (S := Sn w.heap.size w6) (v := .slice A k c) (xs := es.take k) (ys := [x]) (B2 := w6.heap.size) (m := 1) (dss := [[.int .i64 x.to, .slice A2 n2 c2]]) elEds rfl rfl rfl HR6.out HCS.out (by simpa using Rd.blk BL.out BL.out.lt 0 (xs := [.int .i64 x.to, .slice A2 n2 c2]) (fun i u h => by rw [Nat.zero_add]; simpa using h)) rfl (by rw [HTL.out]; omega) (by rw [HTL.out]; omega) hnt.out (by have h1 := FR.out.size; have h2 := FX6.out.size; omega) ?_
      intro v7 w7 hr fr1 hv
      have HSV := hid ((F6.out.mono (M := fun j => some j = (Value.slice A k c).ownBlock) (fun _ _ h => h.elim)).trans fr1 (fun _ _ h => h))
      have F7 := hid (own_frame HR6.out (FR.out.trans FX6.out (fun _ _ h => h)) fr1 (Nat.le_refl _))
      rw [← HTK.out] at hr
      have HR7 := hid (hr.more (Nat.le_refl _) (Sn.fr fr1 (fun j cs hm hb => by
        obtain ⟨_, cs', hb'⟩ := HR6.out.own hm.symm
        exact Blk.ne_ hb' hb (by decide) rfl)))
      refine hK _ _ HSV.out ?_
      clear hK K hr fr1 hv HSV HR6 HCS
      simp only [Act.put, List.setIfInBounds_toArray, List.set_cons_zero, List.set_cons_succ]
      repeat (first | refine tS ?_ | refine tX HXR.out ?_)
      refine wpT_nil ?_
      obtain ⟨A8, c8, e8, _, _, _⟩ := HR7.out.els (S' := fun _ => True) (fun _ _ => trivial) (fun _ _ => trivial)
      have htl1 : (es.take (k + 1)).length = k + 1 := by rw [List.length_take, HM.out]; omega
      rw [htl1] at e8
      subst e8
      clear HXR htl1
      go_wp2
      go_round
      case rel => exact ⟨k + 1, A8, c8, by omega, by go_num, rfl, HR7, F7⟩
      case measure => simp [intOf]; omega
    · have hkm : m = k := by omega
      subst hkm
      clear hgo
      have htk : es.take m = es := List.take_of_length_le (by rw [HM.out]; exact Nat.le_refl _)
      rw [htk] at HR
      go_wp2
      go_ret
      refine ⟨A, c, ?_, ?_, FR.out⟩
      · rw [HM.out]
        first | done | rfl
      · rw [HM.out]; exact HR.out
end Go.Proofs.YtiafkakkbbclhaaGreat
namespace Go.Proofs.YtiafkakkbbclhaaGreat
open Go.RowKit
def Sg (base : Nat) (w : World) : Nat → Prop := fun j => base ≤ j ∧ ((∃ cs, Blk w j 3 cs) ∨ ∃ cs, Blk w j 82 cs)
theorem Sg.lt {base : Nat} {w : World} {j : Nat} (h : Sg base w j) : j < w.heap.size := by
  obtain ⟨_, ⟨cs, hb⟩ | ⟨cs, hb⟩⟩ := h <;> exact hb.lt
theorem Sn.g {base : Nat} {w : World} : ∀ j, Sn base w j → Sg base w j := fun _ ⟨h1, h2⟩ => ⟨h1, .inl h2⟩
def Ng (M : Nat → Prop) (w : World) : Prop := ∀ j cs, M j → ¬ Blk w j 3 cs ∧ ¬ Blk w j 82 cs
theorem Ng.no (w : World) : Ng No w := fun _ _ h => h.elim
theorem Ng.own {α : Type} {t : Ty α} {base : Nat} {S : Nat → Prop} {w : World} {e : TypeId} {v : Value} {l : List α} (h : t.row w base S e v l) (h1 : e ≠ 3) (h2 : e ≠ 82) : Ng (fun k => some k = v.ownBlock) w := fun j cs hj => by
  obtain ⟨_, cs', hb⟩ := h.own hj.symm
  exact ⟨fun hb' => Blk.ne_ hb hb' h1 rfl, fun hb' => Blk.ne_ hb hb' h2 rfl⟩
theorem Ng.one {w : World} {q : Nat} {e : TypeId} {cs : Array Value} (h : Blk w q e cs) (h1 : e ≠ 3) (h2 : e ≠ 82) : Ng (One q) w := fun j cs' hj => by
  have : j = q := hj
  subst this
  exact ⟨fun hb' => Blk.ne_ h hb' h1 rfl, fun hb' => Blk.ne_ h hb' h2 rfl⟩
theorem Sg.fr {base : Nat} {w w' : World} {M : Nat → Prop} (f : Fr M w w') (hM : Ng M w) : ∀ j, Sg base w j → Sg base w' j := fun j ⟨h1, h⟩ => ⟨h1, by
  rcases h with ⟨cs, hb⟩ | ⟨cs, hb⟩
  · exact .inl ⟨cs, hb.fr f (fun hm => (hM j cs hm).1 hb)⟩
  · exact .inr ⟨cs, hb.fr f (fun hm => (hM j cs hm).2 hb)⟩⟩
theorem Sn.frN {base : Nat} {w w' : World} {M : Nat → Prop} (f : Fr M w w') (hM : Ng M w) : ∀ j, Sn base w j → Sn base w' j := Sn.fr f (fun j cs hm => (hM j cs hm).1)
theorem Sg.keep {base : Nat} {w : World} {M : Nat → Prop} (hM : Ng M w) : ∀ k, Sg base w k → k < w.heap.size ∧ ¬ M k := fun k hk => ⟨hk.lt, fun hm => by
  obtain ⟨_, ⟨cs, hb⟩ | ⟨cs, hb⟩⟩ := hk
  · exact (hM k cs hm).1 hb
  · exact (hM k cs hm).2 hb⟩
theorem rowSg_fr {α : Type} {t : Ty α} [TyOk t] [TyMore t] {base : Nat} {w w' : World} {M : Nat → Prop} {e : TypeId} {v : Value} {l : List α} (h : t.row w base (Sg base w) e v l) (f : Fr M w w') (hM : Ng M w) (hv : ∀ k, v.ownBlock = some k → ¬ M k) : t.row w' base (Sg base w') e v l :=
  (h.fr f (Sg.keep hM) hv).more (Nat.le_refl _) (Sg.fr f hM)
theorem rowSn_fr {α : Type} {t : Ty α} [TyOk t] [TyMore t] {base base2 : Nat} {w w' : World} {M : Nat → Prop} {e : TypeId} {v : Value} {l : List α} (h : t.row w base2 (Sn base w) e v l) (f : Fr M w w') (hM : Ng M w) (hv : ∀ k, v.ownBlock = some k → ¬ M k) : t.row w' base2 (Sn base w') e v l :=
  (h.fr f (fun k hk => Sg.keep hM k (Sn.g k hk)) hv).more (Nat.le_refl _) (Sn.frN f hM)
def rD : Rw := ⟨none, 0, 0⟩
def Rw.v (r : Rw) : Value := .slice r.A r.n r.c
def srOf (x : Sb) (r : Rw) : Sr := ⟨x.params, x.ins, ⟨x.end_.kind, x.end_.cond, x.end_.args, r, x.end_.trap⟩⟩
def srs (bs : List Sb) (rs : List Rw) : List Sr := List.zipWith srOf bs rs
theorem srs_len {bs : List Sb} {rs : List Rw} (h : rs.length = bs.length) : (srs bs rs).length = bs.length := by simp [srs, h]
theorem srs_get {bs : List Sb} {rs : List Rw} (h : rs.length = bs.length) (i : Nat) (hi : i < bs.length) : (srs bs rs)[i]'(by rw [srs_len h]; exact hi) = srOf bs[i] (rs.getD i rD) := by
  simp only [srs, List.getElem_zipWith]
  rw [getD_el _ (by omega)]
theorem srs_push {bs : List Sb} {rs : List Rw} (h : rs.length = bs.length) (x : Sb) (r : Rw) : srs (bs ++ [x]) (rs ++ [r]) = srs bs rs ++ [srOf x r] := by
  unfold srs
  rw [List.zipWith_append (by rw [h])]
  rfl
structure Cb (base : Nat) (w : World) (v : Value) (bs : List Sb) (rs : List Rw) : Prop where
  len : rs.length = bs.length
  row : tSr.row w base (Sg base w) 57 v (srs bs rs)
  num : ∀ i, i < bs.length → (rs.getD i rD).n = (toOf bs i).length
  tor : ∀ i, i < bs.length → tEd.row w base (Sn base w) 65 (rs.getD i rD).v (toOf bs i)
  dis : ∀ i j, i < bs.length → j < bs.length → i ≠ j → ∀ g, (rs.getD i rD).v.ownBlock = some g → (rs.getD j rD).v.ownBlock ≠ some g
theorem Cb.nil (base : Nat) (w : World) : Cb base w (.slice none 0 0) [] [] :=
  ⟨rfl, Ty.row.nil _ _ _ _, fun i h => by simp at h, fun i h => by simp at h, fun i j h => by simp at h⟩
theorem Cb.fr {base : Nat} {w w' : World} {M : Nat → Prop} {v : Value} {bs : List Sb} {rs : List Rw} (h : Cb base w v bs rs) (f : Fr M w w') (hM : Ng M w) (hv : ∀ k, v.ownBlock = some k → ¬ M k) (hr : ∀ i, i < bs.length → ∀ k, (rs.getD i rD).v.ownBlock = some k → ¬ M k) : Cb base w' v bs rs :=
  ⟨h.len, rowSg_fr h.row f hM hv, h.num, fun i hi => rowSn_fr (h.tor i hi) f hM (hr i hi), h.dis⟩
theorem Cb.frNo {base : Nat} {w w' : World} {v : Value} {bs : List Sb} {rs : List Rw} (h : Cb base w v bs rs) (f : Fr No w w') : Cb base w' v bs rs := h.fr f (Ng.no w) (fun _ _ h => h) (fun _ _ _ _ h => h)
theorem Sg.base {base base' : Nat} {w : World} (h : base' ≤ base) : ∀ j, Sg base w j → Sg base' w j := fun _ ⟨h1, h2⟩ => ⟨Nat.le_trans h h1, h2⟩
theorem Cb.base {base base' : Nat} {w : World} {v : Value} {bs : List Sb} {rs : List Rw} (h : Cb base w v bs rs) (hb : base' ≤ base) : Cb base' w v bs rs :=
  ⟨h.len, h.row.more hb (Sg.base hb), h.num, fun i hi => (h.tor i hi).more hb (Sn.base hb), h.dis⟩
theorem Cb.apart {base : Nat} {w : World} {v : Value} {bs : List Sb} {rs : List Rw} (h : Cb base w v bs rs) {i : Nat} (hi : i < bs.length) {g : Nat} (hg : (rs.getD i rD).v.ownBlock = some g) : v.ownBlock ≠ some g := fun e => by
  obtain ⟨_, cs, hb⟩ := (h.tor i hi).own hg
  obtain ⟨_, cs', hb'⟩ := h.row.own e
  exact Blk.ne_ hb hb' (by decide) rfl
theorem toOf_app (bs : List Sb) (x : Sb) (i : Nat) : toOf (bs ++ [x]) i = if i < bs.length then toOf bs i else if i = bs.length then x.end_.to else toOf [] 0 := by
  unfold toOf
  rw [getD_app]
  split
  · rfl
  · split
    · rename_i h1 h2; subst h2; simp
    · rename_i h1 h2
      rw [List.getD_eq_getElem?_getD, List.getElem?_eq_none (by simp; omega)]; rfl
theorem Cb.push {base : Nat} {w w2 : World} {v v2 : Value} {bs : List Sb} {rs : List Rw} (H : Cb base w v bs rs) (x : Sb) (r : Rw) (hn : r.n = x.end_.to.length) (hr : tEd.row w base (Sn base w) 65 r.v x.end_.to) (hf : ∀ g, r.v.ownBlock = some g → ∀ i, i < bs.length → (rs.getD i rD).v.ownBlock ≠ some g)
    (hnew : tSr.row w2 base (Sg base w) 57 v2 (srs bs rs ++ [srOf x r])) (f : Fr (fun k => some k = v.ownBlock) w w2) : Cb base w2 v2 (bs ++ [x]) (rs ++ [r]) := by
  have hM := Ng.own H.row (by decide) (by decide)
  have hap : ∀ k, r.v.ownBlock = some k → ¬ some k = v.ownBlock := fun k hk e => by
    obtain ⟨_, cs, hb⟩ := hr.own hk
    obtain ⟨_, cs', hb'⟩ := H.row.own e.symm
    exact Blk.ne_ hb hb' (by decide) rfl
  have hg : ∀ i, i < (bs ++ [x]).length → (i < bs.length ∧ (rs ++ [r]).getD i rD = rs.getD i rD ∧ toOf (bs ++ [x]) i = toOf bs i) ∨ (i = bs.length ∧ (rs ++ [r]).getD i rD = r ∧ toOf (bs ++ [x]) i = x.end_.to) := fun i hi => by
    simp at hi
    rw [getD_app, toOf_app, H.len]
    by_cases h : i < bs.length
    · exact .inl ⟨h, by rw [if_pos h], by rw [if_pos h]⟩
    · have : i = bs.length := by omega
      subst this
      exact .inr ⟨rfl, by simp, by simp⟩
  refine ⟨by simp [H.len], ?_, fun i hi => ?_, fun i hi => ?_, fun i j hi hj hij g h1 h2 => ?_⟩
  · rw [srs_push H.len]
    exact hnew.more (Nat.le_refl _) (Sg.fr f hM)
  · rcases hg i hi with ⟨h, e1, e2⟩ | ⟨h, e1, e2⟩
    · rw [e1, e2]; exact H.num i h
    · rw [e1, e2]; exact hn
  · rcases hg i hi with ⟨h, e1, e2⟩ | ⟨h, e1, e2⟩
    · rw [e1, e2]; exact rowSn_fr (H.tor i h) f hM (fun k hk e => H.apart h hk e.symm)
    · rw [e1, e2]; exact rowSn_fr hr f hM hap
  · rcases hg i hi with ⟨h, e1, _⟩ | ⟨h, e1, _⟩ <;> rcases hg j hj with ⟨k, e3, _⟩ | ⟨k, e3, _⟩
    · rw [e1] at h1; rw [e3] at h2; exact H.dis i j h k hij g h1 h2
    · rw [e1] at h1; rw [e3] at h2; exact hf g h2 i h h1
    · rw [e1] at h1; rw [e3] at h2; exact hf g h1 j k h2
    · omega
structure FL (x : Sf) : Prop where
  p : x.type.params.length * 8 ≤ 140737488351232
  r : x.type.results.length * 8 ≤ 140737488351232
  v : x.vals.length * 8 ≤ 140737488351232
  nb : x.blocks.length ≤ 100000
  t : tot (tosOf x.blocks) ≤ 100000
  bp : ∀ b ∈ x.blocks, b.params.length * 8 ≤ 140737488351232
  bi : ∀ b ∈ x.blocks, b.ins.length ≤ 100000
  ba : ∀ b ∈ x.blocks, b.end_.args.length * 8 ≤ 140737488351232
  ia : ∀ b ∈ x.blocks, ∀ i ∈ b.ins, i.args.length * 8 ≤ 140737488351232 ∧ i.outs.length * 8 ≤ 140737488351232
  ea : ∀ b ∈ x.blocks, ∀ e ∈ b.end_.to, e.args.length * 8 ≤ 140737488351232
theorem to_le {bs : List Sb} (h : tot (tosOf bs) ≤ 100000) (i : Nat) : (toOf bs i).length ≤ 100000 := by
  have := tot_row (tosOf bs) i
  rw [tosOf_getD, List.length_map] at this
  omega
end Go.Proofs.YtiafkakkbbclhaaGreat
