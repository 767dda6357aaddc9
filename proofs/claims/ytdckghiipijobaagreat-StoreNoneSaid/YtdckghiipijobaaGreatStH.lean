/- Contracts: copyCalls. -/
import Derived.Test.YtdckghiipijobaaGreatStG
namespace Go.Proofs.YtdckghiipijobaaGreat
open Go.RowKit

/-- Elements below k rest on X, the others on Y. -/
def Sk (k : Nat) (X Y : Nat → Prop) (i b : Nat) : Prop := (i < k ∧ X b) ∨ (k ≤ i ∧ Y b)
def Nx (w w' : World) (g b : Nat) : Prop := Nw w w' b ∧ b ≠ g
def CopiedTo {α : Type} (t : Ty α) (el : TypeId) (l : List α) (w : World) (e : Ending) (w' : World) : Prop :=
  ∃ (A : Option Addr) (c : Nat), e = .returned (.slice A l.length c) ∧ t.row w' w.heap.size (fun b => Nw w w' b ∧ (Value.slice A l.length c).ownBlock ≠ some b) el (.slice A l.length c) l ∧ Fr No w w'

set_option maxRecDepth 100000 in
set_option maxHeartbeats 3200000 in
theorem copyCalls_any (A : Option Addr) (c : Nat) (l : List Ca) (S : Nat → Prop) (w : World) (h : tCa.els w S A l) (hS : ∀ k, S k → k < w.heap.size) (hl : l.length * 32 ≤ 140737488351232) (ha : ∀ x ∈ l, x.args.length * 16 ≤ 140737488351232) :
    Calls Tryz.prog 69 #[.slice A l.length c] w (CopiedTo tCa 113 l w) := by
  have HCL := hid (cloneCa_any A c l S w h hS hl)
  have HA := hid ha
  have HS := hid hS
  clear h ha hS
  have hl2 : l.length ≤ 140737488351232 := by omega
  go_enter Tryz.func69, Tryz.ntmps69
  go_wp2_with fail
  refine HCL.out.mono ?_
  clear HCL
  rintro e w1 ⟨A1, k1, rfl, hr1, f1⟩
  have F1 := hid f1
  obtain ⟨css, hcss, hown⟩ := hr1
  have hlen := hcss.len
  rcases hown.2 with ⟨hv, h0⟩ | ⟨g, cap, cur, hv, hb, hg, -⟩
  · injection hv with e1 e2 e3
    subst e1 e3
    have hnil : l = [] := List.eq_nil_of_length_eq_zero e2
    subst hnil
    clear hown hcss f1
    go_wp2_with fail
    go_loopw [9] (fun i wr => i = .int .i64 0 ∧ wr = w1) (fun _ _ => 0)
    case atStart => exact ⟨rfl, rfl⟩
    case round =>
      obtain ⟨rfl, rfl⟩ := hrel
      go_wp2
      go_ret
      exact ⟨none, 0, rfl, Ty.row.nil _ _ _ _, F1.out⟩
  · injection hv with e1 e2 e3
    subst e1 e3
    have hgl : g < w1.heap.size := Blk.lt (t := 113) (cs := cur) hg
    have HG := hid hb
    have HC0 := hid hcss
    have HO0 := hid hown
    clear hown hcss f1 hg hb hlen
    obtain ⟨n, hn⟩ : ∃ n, l.length = n := ⟨_, rfl⟩
    have HN := hid hn
    rw [hn] at HO0 hl2 ⊢
    clear hn hl
    go_wp2_with fail
    go_loopw [9] (fun i wr => ∃ (k : Nat) (css : List (List Value)), k ≤ n ∧ i = .int .i64 k ∧ Hid (Fr (One g) w1 wr) ∧ Hid (CssF tCa wr (Sk k (Nx w wr g) S) css l) ∧ Hid (wr.ownsRow w.heap.size 113 2 (.slice (some ⟨g, 0, none⟩) n k1) n css.flatten)) (fun i _ => n - (intOf i).toNat)
    case atStart =>
      refine ⟨0, css, by omega, rfl, Fr.refl _ _, ?_, HO0.out⟩
      exact (CssF.of HC0.out).keep (fun i p _ _ => rfl) (fun i k _ hk => .inr ⟨Nat.zero_le _, hk⟩)
    case round =>
      clear HO0 HC0 css
      obtain ⟨k, css, hk, rfl, HF, HC, HO⟩ := hrel
      by_cases hlt : k < n
      · have hkl : k < l.length := by rw [HN.out]; exact hlt
        obtain ⟨d, hd⟩ : ∃ d, css[k]? = some d := ⟨_, List.getElem?_eq_getElem (by rw [HC.out.1]; exact hkl)⟩
        have hx : l[k]? = some l[k] := List.getElem?_eq_getElem hkl
        have hrd := HC.out.2 k d _ hd hx
        have hrd : tCa.rd wr S d l[k] := TyMore.more _ _ _ _ _ hrd (fun b hb => by
          rcases hb with ⟨h, _⟩ | ⟨_, h⟩
          · omega
          · exact h)
        have HX := hid hx
        have HAK := hid (HA.out _ (List.getElem_mem hkl))
        obtain ⟨B0, d0, rfl, w0, q1, q2, q3⟩ := Ca_cells hrd
        clear hrd
        generalize l[k] = x at *
        have y0 := own_get HO.out HC.out.lens hd (j := 1) rfl
        have i0 : (0 : Int) ≤ k := by omega
        have i1 : (k : Int) < n := by omega
        have HY := hid (fr_els (w' := wr) q3 (Fr.refl No wr) (fun b hb => Nat.lt_of_lt_of_le (Nat.lt_of_lt_of_le (HS.out b hb) F1.out.size) HF.out.size))
        have HS2 : Hid (∀ b, S b → b < wr.heap.size) := fun b hb => Nat.lt_of_lt_of_le (Nat.lt_of_lt_of_le (HS.out b hb) F1.out.size) HF.out.size
        have z1 := own_frozen HO.out (k * 2 + 1)
        have HD := hid hd
        have HW0 := hid w0
        clear q3 hd w0 hkl hx
        go_wp2_with (go_at_call 90; refine (cloneVl_any B0 d0 x.args S _ HY.out HS2.out HAK.out).mono ?_; rintro e w2 ⟨B1, d1, rfl, hr2, f2⟩; have F2 := hid f2; have R2 := hid hr2; clear f2 hr2; have y1 := (F2.out.frozen (p := ⟨g, k * 2 + 1, none⟩) (own_blk HO.out).2 (fun x => x)).trans z1; have y2 := (F2.out.cell (p := ⟨g, k * 2 + 1, none⟩) (own_blk HO.out).2 (fun x => x)).trans y0)
        go_roundw
        case rel =>
          have hgw := (own_blk HO.out).2
          have hwg := (own_blk HO.out).1
          have HO2 := own_set (own_fr HO.out F2.out (fun x => x)) HC.out.lens HD.out (m := 1) (by decide) (.slice B1 x.args.length d1)
          have f3 := (Fr.refl (One g) w2).setCell ⟨g, k * 2 + 1, none⟩ (.slice B1 x.args.length d1) (fun _ => rfl)
          have s1 := F1.out.size
          have s2 := HF.out.size
          have s3 := F2.out.size
          have hfr := HF.out.trans (F2.out.mono (M := One g) (fun _ _ h => h.elim)) (fun _ _ h => h)
          obtain ⟨p1, p2, p3⟩ := fresh_els (w := wr) R2.out (Nat.le_refl _) f3 (fun b h1 _ h => by have h : b = g := h; omega)
          refine ⟨k + 1, _, by omega, by go_num, hfr.trans f3 (fun _ _ h => h), ?_, HO2⟩
          have hf4 := F2.out.trans (Fr.refl No w2) (fun _ _ h => h)
          have s4 := f3.size
          refine HC.out.upd HX.out (Ca_mk HW0.out p1 p2 (p3.more (S' := Sk (k + 1) (Nx w (w2.setCell ⟨g, k * 2 + 1, none⟩ (.slice B1 x.args.length d1)) g) S k) (fun b hb => .inl ⟨by omega, ⟨by have := hb.1; omega, hb.2⟩, fun e => by have := hb.1; omega⟩))) (fun j p hj hjk hp => ?_) (fun j b hj hjk hb => ?_)
          · have hpb : p.block < wr.heap.size ∧ p.block ≠ g := by
              rcases hp with ⟨_, hp, hne⟩ | ⟨_, hp⟩
              · exact ⟨hp.2, hne⟩
              · have := HS.out _ hp; exact ⟨by omega, by omega⟩
            exact (f3.cell (by omega) hpb.2).trans (F2.out.cell hpb.1 (fun x => x))
          · rcases hb with ⟨h1, h2, hne⟩ | ⟨h1, h2⟩
            · exact .inl ⟨by omega, h2.up (Nat.le_refl _) (by omega), hne⟩
            · exact .inr ⟨by omega, h2⟩
        case measure => simp [intOf]; omega
      · go_wp2
        go_ret
        obtain rfl : k = n := by omega
        have hnl := HN.out
        rw [← hnl] at HO ⊢
        refine ⟨some ⟨g, 0, none⟩, k1, rfl, ⟨css, HC.out.toCss (fun i b hi hb => ?_), HO.out⟩, ?_⟩
        · rcases hb with ⟨_, h2, hne⟩ | ⟨h1, _⟩
          · exact ⟨h2, fun e => hne (Option.some.inj e).symm⟩
          · omega
        · exact F1.out.trans HF.out (fun i hi h => by have h : i = g := h; have := (own_blk HO.out).1; omega)
end Go.Proofs.YtdckghiipijobaaGreat
