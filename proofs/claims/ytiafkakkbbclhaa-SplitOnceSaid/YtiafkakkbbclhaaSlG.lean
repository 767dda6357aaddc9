/- Chapter 46: to, the number of edges to each block. -/
import Derived.Test.YtiafkakkbbclhaaSlF
namespace Go.Proofs.Ytiafkakkbbclhaa
open Go.RowKit

def vi (l : List Int) : List Value := l.map (Value.int .i64)
theorem vi_len (l : List Int) : (vi l).length = l.length := by simp [vi]
def cntP (T : List (List Int)) (i k : Nat) (t : Int) : Nat := cntT (T.take i) t + ((T.getD i []).take k).count t
def cl (T : List (List Int)) (n i k : Nat) : List Int := (List.range n).map fun (t : Nat) => (cntP T i k (t : Int) : Int)
def tot (T : List (List Int)) : Nat := (T.map List.length).sum
theorem cl_len (T : List (List Int)) (n i k : Nat) : (cl T n i k).length = n := by simp [cl]
theorem cl_get (T : List (List Int)) (n i k t : Nat) (h : t < n) : (cl T n i k)[t]'(by rw [cl_len]; exact h) = (cntP T i k (t : Int) : Int) := by simp [cl]
theorem cntP_succ {T : List (List Int)} {i k : Nat} (t : Int) (hk : k < (T.getD i []).length) : cntP T i (k + 1) t = cntP T i k t + if (T.getD i []).getD k 0 = t then 1 else 0 := by
  unfold cntP
  rw [List.take_succ_eq_append_getElem hk, List.count_append, getD_el 0 hk]
  simp only [List.count_cons, List.count_nil, beq_iff_eq]
  omega
theorem cl_yes {T : List (List Int)} {n i k t : Nat} (hk : k < (T.getD i []).length) (he : (T.getD i []).getD k 0 = (t : Int)) (ht : t < n) : (cl T n i k).set t ((cntP T i k (t : Int) : Int) + 1) = cl T n i (k + 1) := by
  apply List.ext_getElem
  · simp [cl_len]
  · intro j h1 h2
    rw [cl_len] at h2
    rw [List.getElem_set, cl_get _ _ _ _ _ h2, cl_get _ _ _ _ _ h2, cntP_succ _ hk, he]
    by_cases hj : t = j
    · subst hj; rw [if_pos rfl, if_pos rfl]; omega
    · rw [if_neg hj, if_neg (by omega)]; omega
theorem cl_no {T : List (List Int)} {n i k : Nat} (hk : k < (T.getD i []).length) (he : (T.getD i []).getD k 0 < 0 ∨ (n : Int) ≤ (T.getD i []).getD k 0) : cl T n i (k + 1) = cl T n i k := by
  apply List.ext_getElem
  · simp [cl_len]
  · intro j h1 h2
    rw [cl_len] at h2
    rw [cl_get _ _ _ _ _ h2, cl_get _ _ _ _ _ h2, cntP_succ _ hk, if_neg (by omega)]; omega
theorem cl_row {T : List (List Int)} {n i : Nat} (hi : i < T.length) : cl T n i (T.getD i []).length = cl T n (i + 1) 0 := by
  unfold cl
  congr 1
  funext t
  unfold cntP
  rw [List.take_length, List.take_succ_eq_append_getElem hi, cntT_append, getD_el _ hi]
  simp [cntT]
theorem cl_zero (T : List (List Int)) (n : Nat) : cl T n 0 0 = List.replicate n 0 := by
  unfold cl cntP cntT
  apply List.ext_getElem
  · simp
  · intro j h1 h2; simp
theorem cl_all (T : List (List Int)) : cl T T.length T.length 0 = (List.range T.length).map fun (t : Nat) => (cntT T (t : Int) : Int) := by
  unfold cl cntP
  rw [List.take_length]
  simp
theorem sum_take_le : ∀ (l : List Nat) (i : Nat), (l.take i).sum ≤ l.sum
  | [], i => by simp
  | a :: l, 0 => by simp
  | a :: l, i + 1 => by simp only [List.take_succ_cons, List.sum_cons]; have := sum_take_le l i; omega
theorem cntT_le (T : List (List Int)) (t : Int) : cntT T t ≤ tot T := by
  induction T with
  | nil => simp [cntT, tot]
  | cons a T ih =>
    simp only [cntT, tot, List.map_cons, List.sum_cons] at *
    have := List.count_le_length (a := t) (l := a)
    omega
theorem tot_take (T : List (List Int)) (i : Nat) : tot (T.take i) ≤ tot T := by
  unfold tot; rw [List.map_take]; exact sum_take_le _ _
theorem le_sum : ∀ {l : List Nat} {x : Nat}, x ∈ l → x ≤ l.sum
  | a :: l, x, h => by
    rw [List.sum_cons]
    rcases List.mem_cons.1 h with rfl | h
    · omega
    · have := le_sum h; omega
theorem tot_row (T : List (List Int)) (i : Nat) : (T.getD i []).length ≤ tot T := by
  by_cases h : i < T.length
  · rw [getD_el _ h]
    exact le_sum (List.mem_map_of_mem (List.getElem_mem h))
  · rw [List.getD_eq_getElem?_getD, List.getElem?_eq_none (by omega)]; simp
theorem cntP_le (T : List (List Int)) (i k : Nat) (t : Int) : cntP T i k t ≤ tot T + tot T := by
  unfold cntP
  have h1 := cntT_le (T.take i) t
  have h2 := tot_take T i
  have h3 := List.count_le_length (a := t) (l := (T.getD i []).take k)
  have h4 := tot_row T i
  rw [List.length_take] at h3
  omega
theorem toOf_el {bs : List Sb} {i : Nat} (h : i < bs.length) : toOf bs i = bs[i].end_.to := by unfold toOf; rw [getD_el _ h]
def ToTo (T : List (List Int)) (w : World) (e : Ending) (w' : World) : Prop :=
  ∃ q, e = .returned (.slice (some ⟨q, 0, none⟩) T.length T.length) ∧ w.heap.size ≤ q ∧ Own w' q 3 T.length (vi (cl T T.length T.length 0)) ∧ Fr No w w'
set_option maxRecDepth 100000 in
set_option maxHeartbeats 3200000 in
theorem to_any (P R V B : Option Addr) (np nr nv nb pc rc vc bc : Nat) (bs : List Sb) (S : Nat → Prop) (w : World) (h : tSb.els w S B bs) (hS : ∀ k, S k → k < w.heap.size) (eb : Hid (bs.length = nb)) (hn : nb ≤ 100000) (ht : tot (tosOf bs) ≤ 100000) :
    Calls Try.prog 16 #[.agg #[.slice P np pc, .slice R nr rc, .slice V nv vc, .slice B nb bc]] w (ToTo (tosOf bs) w) := by
  have F0 := hid ((Fr.refl No w).alloc (.cells #[.slice P np pc, .slice R nr rc, .slice V nv vc, .slice B nb bc] 27))
  have G := hid (Blk.new w 27 #[.slice P np pc, .slice R nr rc, .slice V nv vc, .slice B nb bc])
  have HH := hid h
  have hbl := hid hS
  clear h hS
  have hmk := fun W => run_mk elInts rfl W .i64 .i64 nb (by omega) (by omega)
  have F1 := hid (F0.out.alloc (.cells (Array.replicate nb (.int .i64 0)) 3))
  have HO := hid (own_mk (w.alloc (.cells #[.slice P np pc, .slice R nr rc, .slice V nv vc, .slice B nb bc] 27)) 3 (.int .i64 0) nb (by omega))
  have y3 := (G.out.alloc (.cells (Array.replicate nb (.int .i64 0)) 3)).cell 3
  have hsz : Hid ((w.alloc (.cells #[.slice P np pc, .slice R nr rc, .slice V nv vc, .slice B nb bc] 27)).heap.size = w.heap.size + 1) := by rw [Hid]; simp
  go_enter Try.func16, Try.ntmps16
  go_wp2_with fail
  have HQ : Hid (Own ((w.alloc (.cells #[.slice P np pc, .slice R nr rc, .slice V nv vc, .slice B nb bc] 27)).alloc (.cells (Array.replicate nb (.int .i64 0)) 3)) (w.heap.size + 1) 3 nb (vi (cl (tosOf bs) nb 0 0))) := by
    have h := HO.out
    rw [hsz.out] at h
    rw [cl_zero, vi, List.map_replicate]
    exact h
  clear HO G F0 hmk y3 hsz
  generalize (w.alloc (.cells #[.slice P np pc, .slice R nr rc, .slice V nv vc, .slice B nb bc] 27)).alloc (.cells (Array.replicate nb (.int .i64 0)) 3) = W at *
  obtain ⟨q, hq⟩ : ∃ q, w.heap.size + 1 = q := ⟨_, rfl⟩
  rw [hq] at HQ ⊢
  have hqw := hid (show w.heap.size ≤ q by omega)
  clear hq
  go_loopw [15] (fun i wr => ∃ k : Nat, k ≤ nb ∧ i = .int .i64 k ∧ Hid (Own wr q 3 nb (vi (cl (tosOf bs) nb k 0))) ∧ Hid (Fr No w wr)) (fun i _ => nb - (intOf i).toNat)
  case atStart => exact ⟨0, by omega, rfl, HQ, F1⟩
  case round =>
    clear HQ F1
    obtain ⟨k, hk, rfl, HQ, FR⟩ := hrel
    by_cases hgo : k < nb
    · have hlk : k < bs.length := by have := eb.out; omega
      obtain ⟨b, o, A0, c0, A1, c1, A2, c2, A3, c3, rfl, hb, y0, y1, y2, y3, y4, y5, y6, _, _, _, _, _, _, _, _, _, _, _, _, _, he, _⟩ := Sb_at HH.out k hlk
      have hbb := hbl.out b hb
      replace y0 := (FR.out.cell (p := ⟨b, o + k * 7, none⟩) hbb (fun x => x)).trans y0
      replace y1 := (FR.out.cell (p := ⟨b, o + k * 7 + 1, none⟩) hbb (fun x => x)).trans y1
      replace y2 := (FR.out.cell (p := ⟨b, o + k * 7 + 2, none⟩) hbb (fun x => x)).trans y2
      replace y3 := (FR.out.cell (p := ⟨b, o + k * 7 + 3, none⟩) hbb (fun x => x)).trans y3
      replace y4 := (FR.out.cell (p := ⟨b, o + k * 7 + 4, none⟩) hbb (fun x => x)).trans y4
      replace y5 := (FR.out.cell (p := ⟨b, o + k * 7 + 5, none⟩) hbb (fun x => x)).trans y5
      replace y6 := (FR.out.cell (p := ⟨b, o + k * 7 + 6, none⟩) hbb (fun x => x)).trans y6
      have hto : Hid ((tosOf bs).getD k [] = bs[k].end_.to.map (·.to)) := hid (by rw [tosOf_getD, toOf_el hlk])
      have HE := hid he
      clear he
      have FA := hid (FR.out.alloc (.cells #[.slice A0 bs[k].params.length c0, .slice A1 bs[k].ins.length c1, .int .i64 bs[k].end_.kind, .int .i64 bs[k].end_.cond, .slice A2 bs[k].end_.args.length c2, .slice A3 bs[k].end_.to.length c3, .int .i64 bs[k].end_.trap] 42))
      have HQA := hid (HQ.out.fr ((Fr.refl No wr).alloc (.cells #[.slice A0 bs[k].params.length c0, .slice A1 bs[k].ins.length c1, .int .i64 bs[k].end_.kind, .int .i64 bs[k].end_.cond, .slice A2 bs[k].end_.args.length c2, .slice A3 bs[k].end_.to.length c3, .int .i64 bs[k].end_.trap] 42)) (fun x => x))
      have i0 : (0 : Int) ≤ k := by omega
      have i1 : (k : Int) < nb := by omega
      obtain ⟨m, hm⟩ : ∃ m, bs[k].end_.to.length = m := ⟨_, rfl⟩
      have HM := hid hm
      rw [hm] at y5 FA HQA
      go_wp2_with fail
      generalize wr.alloc (.cells #[.slice A0 bs[k].params.length c0, .slice A1 bs[k].ins.length c1, .int .i64 bs[k].end_.kind, .int .i64 bs[k].end_.cond, .slice A2 bs[k].end_.args.length c2, .slice A3 m c3, .int .i64 bs[k].end_.trap] 42) = W1 at *
      have HT0 := hid (tot_row (tosOf bs) k)
      rw [hto.out, List.length_map, hm] at HT0
      have hm5 : m ≤ 100000 := Nat.le_trans HT0.out ht
      generalize bs[k].end_.to = es at *
      clear y0 y1 y2 y3 y4 y5 y6 HQ FR
      go_loopw [23] (fun i wr => ∃ j : Nat, j ≤ m ∧ i = .int .i64 j ∧ Hid (Own wr q 3 nb (vi (cl (tosOf bs) nb k j))) ∧ Hid (Fr No w wr)) (fun i _ => m - (intOf i).toNat)
      case atStart => exact ⟨0, by omega, rfl, HQA, FA⟩
      case round =>
        clear HQA FA
        obtain ⟨j, hj, rfl, HQ, FR⟩ := hrel
        by_cases hgj : j < m
        · have hlj : j < es.length := by omega
          obtain ⟨b', o', A', c', rfl, hb', z0, z1, hwf, _⟩ := Ed_at HE.out j hlj
          have hbb' := hbl.out b' hb'
          replace z0 := (FR.out.cell (p := ⟨b', o' + j * 2, none⟩) hbb' (fun x => x)).trans z0
          replace z1 := (FR.out.cell (p := ⟨b', o' + j * 2 + 1, none⟩) hbb' (fun x => x)).trans z1
          have hkT : Hid (j < ((tosOf bs).getD k []).length) := hid (by rw [hto.out, List.length_map]; exact hlj)
          have heT : Hid (((tosOf bs).getD k []).getD j 0 = es[j].to) := hid (by rw [hto.out, to_getD, getD_el _ hlj])
          have hwb := hid (wf_i64 hwf)
          generalize es[j].args.length = n2 at *
          generalize es[j].to = e at *
          have j0 : (0 : Int) ≤ j := by omega
          have j1 : (j : Int) < m := by omega
          by_cases he0 : 0 ≤ e
          · by_cases he1 : e < nb
            · obtain ⟨t, rfl⟩ : ∃ t : Nat, e = t := ⟨e.toNat, by omega⟩
              have htn : t < nb := by omega
              have HS := hid (cl_yes hkT.out heT.out htn)
              have hcl := hid (cl_get (tosOf bs) nb k j t htn)
              have hcb := cntP_le (tosOf bs) k j t
              have HQ1 := hid (HQ.out.fr ((Fr.refl No wr).alloc (.cells #[.int .i64 t, .slice A' n2 c'] 44)) (fun x => x))
              have u0 := HQ1.out.cell t (by rw [vi_len, cl_len]; exact htn)
              have u1 := HQ1.out.frozen t
              have u2 : (vi (cl (tosOf bs) nb k j))[t]'(by rw [vi_len, cl_len]; exact htn) = .int .i64 (cntP (tosOf bs) k j t : Nat) := by
                simp only [vi, List.getElem_map]
                rw [hcl.out]
              rw [u2] at u0
              clear u2 hcl
              have d0 : decide ((0 : Int) ≤ t) = true := decide_eq_true he0
              have d1 : decide ((t : Int) < nb) = true := decide_eq_true he1
              have hlq := HQ1.out.lt
              have hw1 : IntKind.i64.wrap ((cntP (tosOf bs) k j (t : Int) : Int) + 1) = (cntP (tosOf bs) k j (t : Int) : Int) + 1 := by rw [IntKind.wrap_i64]; omega
              have hw2 : wrap64 ((cntP (tosOf bs) k j (t : Int) : Int) + 1) = (cntP (tosOf bs) k j (t : Int) : Int) + 1 := by unfold wrap64; omega
              generalize cntP (tosOf bs) k j (t : Int) = c at *
              go_wp2_with fail
              have FZ := hid ((FR.out.alloc (.cells #[.int .i64 t, .slice A' n2 c'] 44)).setCell ⟨q, t, none⟩ (.int .i64 ((c : Int) + 1)) (fun hh => absurd hh (Nat.not_lt.2 hqw.out)))
              have HZ := hid (HQ1.out.set_ t (.int .i64 ((c : Int) + 1)))
              go_round
              case rel =>
                refine ⟨j + 1, by omega, by go_num, ?_, FZ⟩
                have h := HZ.out
                rw [← HS.out, vi, List.map_set]
                exact h
              case measure => simp [intOf]; omega
            · have HS := hid (cl_no (n := nb) hkT.out (by rw [heT.out]; omega))
              have d0 : decide ((0 : Int) ≤ e) = true := decide_eq_true he0
              have d1 : decide (e < (nb : Int)) = false := decide_eq_false he1
              have FZ := hid (FR.out.alloc (.cells #[.int .i64 e, .slice A' n2 c'] 44))
              have HQ1 := hid (HQ.out.fr ((Fr.refl No wr).alloc (.cells #[.int .i64 e, .slice A' n2 c'] 44)) (fun x => x))
              clear he0 he1
              go_wp2_with fail
              go_round
              case rel => exact ⟨j + 1, by omega, by go_num, by rw [HS.out]; exact HQ1, FZ⟩
              case measure => simp [intOf]; omega
          · have HS := hid (cl_no (n := nb) hkT.out (by rw [heT.out]; omega))
            have d0 : decide ((0 : Int) ≤ e) = false := decide_eq_false he0
            have FZ := hid (FR.out.alloc (.cells #[.int .i64 e, .slice A' n2 c'] 44))
            have HQ1 := hid (HQ.out.fr ((Fr.refl No wr).alloc (.cells #[.int .i64 e, .slice A' n2 c'] 44)) (fun x => x))
            clear he0
            go_wp2_with fail
            go_round
            case rel => exact ⟨j + 1, by omega, by go_num, by rw [HS.out]; exact HQ1, FZ⟩
            case measure => simp [intOf]; omega
        · have hjm : j = m := by omega
          subst hjm
          clear hgj
          have hrow := cl_row (T := tosOf bs) (n := nb) (i := k) (by rw [tosOf_len]; exact hlk)
          rw [hto.out, List.length_map, HM.out] at hrow
          rw [hrow] at HQ
          clear hrow
          go_wp2_with fail
          go_round
          case rel => exact ⟨k + 1, by omega, by go_num, HQ, FR⟩
          case measure => simp [intOf]; omega
    · have hkn : nb = k := by omega
      subst hkn
      clear hgo
      go_wp2
      go_ret
      have hl : (tosOf bs).length = nb := by rw [tosOf_len]; exact eb.out
      refine ⟨q, ?_, hqw.out, by rw [hl]; exact HQ.out, FR.out⟩
      rw [hl]
      first | done | rfl | trace_state
end Go.Proofs.Ytiafkakkbbclhaa
