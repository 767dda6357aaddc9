/- Chapter 28: the reference's Copy, Fill. -/
import Derived.Test.YtpmnijjfadhocaaMmL
namespace Go.Proofs.Ytpmnijjfadhocaa
open Go.RowKit

set_option maxRecDepth 100000 in
set_option maxHeartbeats 1600000 in
theorem rmcopy_any (l l' : Lim) (A D : Option Addr) (c d : Nat) (B bs : List Int) (xt xa xn : Int) (w : World) (hI : RmIn w A c B) (hD : RmIn w D d bs) (hn : B.length ≤ 100000) (hn2 : bs.length ≤ 1000000) (h1 : 0 ≤ xt ∧ xt < 18446744073709551616) (h2 : 0 ≤ xa ∧ xa < 18446744073709551616) (h3 : 0 ≤ xn ∧ xn < 18446744073709551616) :
    Calls Try.prog 34 #[rmv l A B.length c, rmv l' D bs.length d, .int .u64 xt, .int .u64 xa, .int .u64 xn] w (RmTo l A B (initR B bs (lo xt) (lo xa) (lo xn)).1 (initR B bs (lo xt) (lo xa) (lo xn)).2 w) := by
  have F := hid ((((Fr.refl No w).alloc (.cells #[.int .i64 l.min, .int .i64 l.max, .bool l.has, .slice A B.length c] 28)).alloc (.cells #[.int .i64 l'.min, .int .i64 l'.max, .bool l'.has, .slice D bs.length d] 28)).alloc (.cells #[.int .i64 0, .int .i64 0, .bool false, .slice none 0 0] 28))
  have GR := hid (Blk.new ((w.alloc (.cells #[.int .i64 l.min, .int .i64 l.max, .bool l.has, .slice A B.length c] 28)).alloc (.cells #[.int .i64 l'.min, .int .i64 l'.max, .bool l'.has, .slice D bs.length d] 28)) 28 #[.int .i64 0, .int .i64 0, .bool false, .slice none 0 0])
  have hsz : ((w.alloc (.cells #[.int .i64 l.min, .int .i64 l.max, .bool l.has, .slice A B.length c] 28)).alloc (.cells #[.int .i64 l'.min, .int .i64 l'.max, .bool l'.has, .slice D bs.length d] 28)).heap.size = w.heap.size + 1 + 1 := by simp
  rw [hsz] at GR
  have HC := hid (rminit_any l A D c d B bs xt xa xn _ (hI.fr F.out) (hD.fr F.out).src hn hn2 h1 h2 h3)
  have HI0 := hid hI
  clear hI hD hsz
  generalize initR B bs (lo xt) (lo xa) (lo xn) = q at *
  obtain ⟨B', tr⟩ := q
  unfold rmv at HC ⊢
  go_enter Try.func34, Try.ntmps34
  go_wp2_with fail
  generalize ((w.alloc (.cells #[.int .i64 l.min, .int .i64 l.max, .bool l.has, .slice A B.length c] 28)).alloc (.cells #[.int .i64 l'.min, .int .i64 l'.max, .bool l'.has, .slice D bs.length d] 28)).alloc (.cells #[.int .i64 0, .int .i64 0, .bool false, .slice none 0 0] 28) = W at *
  refine HC.out.mono ?_
  clear HC
  rintro e w2 ⟨E, ec, rfl, hr, hold, f⟩
  have HOLD := hid hold
  clear hold
  have GR2 := hid (GR.out.fr f (fun x => x))
  have F2 := hid (F.out.trans f (fun _ _ h => h))
  have HR := hid hr
  have hlt : w.heap.size + 1 + 1 < w2.heap.size := GR2.out.lt
  have z0 : w2.cell? ⟨w.heap.size + 1 + 1, 0, none⟩ = some (.int .i64 0) := GR2.out.cell 0
  have z1 : w2.cell? ⟨w.heap.size + 1 + 1, 1, none⟩ = some (.int .i64 0) := GR2.out.cell 1
  have z2 : w2.cell? ⟨w.heap.size + 1 + 1, 2, none⟩ = some (.bool false) := GR2.out.cell 2
  have z3 : w2.cell? ⟨w.heap.size + 1 + 1, 3, none⟩ = some (.slice none 0 0) := GR2.out.cell 3
  have q0 : w2.frozen? ⟨w.heap.size + 1 + 1, 0, none⟩ = false := GR2.out.frozen 0
  have q1 : w2.frozen? ⟨w.heap.size + 1 + 1, 1, none⟩ = false := GR2.out.frozen 1
  have q2 : w2.frozen? ⟨w.heap.size + 1 + 1, 2, none⟩ = false := GR2.out.frozen 2
  have q3 : w2.frozen? ⟨w.heap.size + 1 + 1, 3, none⟩ = false := GR2.out.frozen 3
  clear hr f
  go_wp2
  have FZ := (((((Fr.refl (One (w.heap.size + 1 + 1)) w2).setCell ⟨w.heap.size + 1 + 1, 0, none⟩ (.int .i64 l.min) (fun _ => rfl)).setCell ⟨w.heap.size + 1 + 1, 1, none⟩ (.int .i64 l.max) (fun _ => rfl)).setCell ⟨w.heap.size + 1 + 1, 2, none⟩ (.bool l.has) (fun _ => rfl)).setCell ⟨w.heap.size + 1 + 1, 3, none⟩ (.slice E B'.length ec) (fun _ => rfl))
  have FF := F2.out.trans FZ (fun i hi h => by simp only [One] at h; omega)
  have hW : w.heap.size + 1 + 1 < W.heap.size := GR.out.lt
  refine bodyPost_ret (v := .tuple #[.agg #[.int .i64 l.min, .int .i64 l.max, .bool l.has, .slice E B'.length ec], .int .i64 tr]) (by simp [results, Try.results34, go_sem, z0, z1, z2, z3]) rfl ⟨E, ec, rfl, HR.out.frM FZ (fun hne q o he h => ?_), ?_, FF⟩
  · simp only [One] at h
    rcases HOLD.out with ⟨rfl, rfl⟩ | ho
    · have := HI0.out.blk hne he; omega
    · have := ho q o he; omega
  · rcases HOLD.out with h | ho
    · exact .inl h
    · exact .inr (fun q o he => Nat.le_trans F.out.size (ho q o he))
def fillR (B : List Int) (t : Nat) (x : Int) (n : Nat) : List Int × Int := if t + n ≤ B.length then (splice B t (List.replicate n (x % 256)), 0) else (B, 2)
set_option maxRecDepth 100000 in
set_option maxHeartbeats 3200000 in
theorem rmfill_any (l : Lim) (A : Option Addr) (c : Nat) (B : List Int) (xt x xn : Int) (w : World) (hI : RmIn w A c B) (hn : B.length ≤ 100000) (h1 : 0 ≤ xt ∧ xt < 18446744073709551616) (h2 : 0 ≤ x ∧ x < 18446744073709551616) (h3 : 0 ≤ xn ∧ xn < 18446744073709551616) :
    Calls Try.prog 33 #[rmv l A B.length c, .int .u64 xt, .int .u64 x, .int .u64 xn] w (RmTo l A B (fillR B (lo xt) x (lo xn)).1 (fillR B (lo xt) x (lo xn)).2 w) := by
  have F := hid (((Fr.refl No w).alloc (.cells #[.int .i64 l.min, .int .i64 l.max, .bool l.has, .slice A B.length c] 28)).alloc (.cells #[.int .i64 0, .int .i64 0, .bool false, .slice none 0 0] 28))
  have G := hid ((Blk.new w 28 #[.int .i64 l.min, .int .i64 l.max, .bool l.has, .slice A B.length c]).alloc (.cells #[.int .i64 0, .int .i64 0, .bool false, .slice none 0 0] 28))
  have GR := hid (Blk.new1 w (.cells #[.int .i64 l.min, .int .i64 l.max, .bool l.has, .slice A B.length c] 28) 28 #[.int .i64 0, .int .i64 0, .bool false, .slice none 0 0])
  have HT := hid (fun W => rlo_any xt W h1)
  have HN := hid (fun W => rlo_any xn W h3)
  have HI := hid hI
  have b1 := lo_lt xt
  have b3 := lo_lt xn
  generalize lo xt = t at *
  generalize lo xn = n at *
  have HR := hid (fun W => rfit_any B.length t n W (by omega) b1 b3)
  clear hI h1 h3
  unfold rmv fillR
  by_cases e2 : t + n ≤ B.length
  · rw [if_pos e2]
    rw [decide_eq_true e2] at HR
    have hv : 0 ≤ x % 256 ∧ x % 256 ≤ 255 := by omega
    generalize hxv : x % 256 = v at *
    go_enter Try.func33, Try.ntmps33
    go_wp2
    generalize (w.alloc (.cells #[.int .i64 l.min, .int .i64 l.max, .bool l.has, .slice A B.length c] 28)).alloc (.cells #[.int .i64 0, .int .i64 0, .bool false, .slice none 0 0] 28) = W at *
    have hc1 : w.heap.size + 1 < W.heap.size := GR.out.lt
    have HX : Hid (∀ X, Fr (One (w.heap.size + 1)) W X → X.cell? ⟨w.heap.size, 0, none⟩ = some (.int .i64 l.min) ∧ X.cell? ⟨w.heap.size, 1, none⟩ = some (.int .i64 l.max) ∧ X.cell? ⟨w.heap.size, 2, none⟩ = some (.bool l.has) ∧ X.cell? ⟨w.heap.size, 3, none⟩ = some (.slice A B.length c)) := fun X f => by
      have h := G.out.fr f (fun x => by simp only [One] at x; omega)
      exact ⟨h.cell 0, h.cell 1, h.cell 2, h.cell 3⟩
    refine wp_region_ord (fun X => X.cell? ⟨w.heap.size, 0, none⟩ = some (.int .i64 l.min) ∧ X.cell? ⟨w.heap.size, 1, none⟩ = some (.int .i64 l.max) ∧ X.cell? ⟨w.heap.size, 2, none⟩ = some (.bool l.has) ∧ X.cell? ⟨w.heap.size, 3, none⟩ = some (.slice A B.length c)) [] [(0, true), (1, true), (2, true), (3, true), (5, true), (4, false), (6, false), (7, false), (8, true)] (by kernel_rfl) (by kernel_rfl) (by kernel_rfl) rfl (HX.out _ (Fr.refl _ _).drew) ?_
    repeat (first
      | (refine wpO_skip rfl rfl ?_; simp only [List.getElem_toArray, List.getElem_cons_succ, List.getElem_cons_zero, Act.put, List.setIfInBounds_toArray, List.set_cons_zero, List.set_cons_succ])
      | (refine wpO_call rfl rfl ?_; simp only [List.getElem_toArray, List.getElem_cons_succ, List.getElem_cons_zero]; apply Exists.intro; refine ⟨fun X hX => ?_, ?_⟩
         · (have s0 := hX.1; have s1 := hX.2.1; have s2 := hX.2.2.1; have s3 := hX.2.2.2; go_simp; exact stillUpon_value)
         simp only [Act.put, List.setIfInBounds_toArray, List.set_cons_zero, List.set_cons_succ]))
    refine wpO_eff rfl rfl (fun K hK => ?_)
    simp only [List.getElem_toArray, List.getElem_cons_succ, List.getElem_cons_zero]
    go_simp
    refine (HT.out _).mono ?_
    rintro e w' ⟨rfl, rfl⟩
    refine hK _ _ (fun _ => HX.out _ (Fr.refl _ _).drew) ?_
    clear hK K
    repeat (first
      | (refine wpO_skip rfl rfl ?_; simp only [List.getElem_toArray, List.getElem_cons_succ, List.getElem_cons_zero, Act.put, List.setIfInBounds_toArray, List.set_cons_zero, List.set_cons_succ])
      | (refine wpO_call rfl rfl ?_; simp only [List.getElem_toArray, List.getElem_cons_succ, List.getElem_cons_zero]; apply Exists.intro; refine ⟨fun X hX => ?_, ?_⟩
         · (have s0 := hX.1; have s1 := hX.2.1; have s2 := hX.2.2.1; have s3 := hX.2.2.2; go_simp; exact stillUpon_value)
         simp only [Act.put, List.setIfInBounds_toArray, List.set_cons_zero, List.set_cons_succ]))
    refine wpO_eff rfl rfl (fun K hK => ?_)
    simp only [List.getElem_toArray, List.getElem_cons_succ, List.getElem_cons_zero]
    go_simp
    refine (HN.out _).mono ?_
    rintro e w' ⟨rfl, rfl⟩
    refine hK _ _ (fun _ => HX.out _ (Fr.refl _ _).drew) ?_
    clear hK K
    repeat (first
      | (refine wpO_skip rfl rfl ?_; simp only [List.getElem_toArray, List.getElem_cons_succ, List.getElem_cons_zero, Act.put, List.setIfInBounds_toArray, List.set_cons_zero, List.set_cons_succ])
      | (refine wpO_call rfl rfl ?_; simp only [List.getElem_toArray, List.getElem_cons_succ, List.getElem_cons_zero]; apply Exists.intro; refine ⟨fun X hX => ?_, ?_⟩
         · (have s0 := hX.1; have s1 := hX.2.1; have s2 := hX.2.2.1; have s3 := hX.2.2.2; go_simp; exact stillUpon_value)
         simp only [Act.put, List.setIfInBounds_toArray, List.set_cons_zero, List.set_cons_succ]))
    refine wpO_eff rfl rfl (fun K hK => ?_)
    simp only [List.getElem_toArray, List.getElem_cons_succ, List.getElem_cons_zero]
    go_simp
    refine (HR.out _).mono ?_
    rintro e w' ⟨rfl, rfl⟩
    refine hK _ _ (fun _ => HX.out _ (Fr.refl _ _).drew) ?_
    clear hK K
    repeat (first
      | (refine wpO_skip rfl rfl ?_; simp only [List.getElem_toArray, List.getElem_cons_succ, List.getElem_cons_zero, Act.put, List.setIfInBounds_toArray, List.set_cons_zero, List.set_cons_succ])
      | (refine wpO_call rfl rfl ?_; simp only [List.getElem_toArray, List.getElem_cons_succ, List.getElem_cons_zero]; apply Exists.intro; refine ⟨fun X hX => ?_, ?_⟩
         · (have s0 := hX.1; have s1 := hX.2.1; have s2 := hX.2.2.1; have s3 := hX.2.2.2; go_simp; exact stillUpon_value)
         simp only [Act.put, List.setIfInBounds_toArray, List.set_cons_zero, List.set_cons_succ]))
    refine wpO_nil ?_
    have hmk := fun W => run_mk elBs rfl W .i64 .i64 n (by omega) (by omega)
    have GB : Hid (Blk (W.alloc (.cells (Array.replicate n (.int .u8 0)) 5)).drew W.heap.size 5 (Ks .u8 ((List.replicate n v).take 0 ++ List.replicate (n - 0) 0)).toArray) := by
      have := (Blk.new W 5 (Array.replicate n (.int .u8 0))).drew
      have e : Array.replicate n (Value.int .u8 0) = (Ks .u8 ((List.replicate n v).take 0 ++ List.replicate (n - 0) 0)).toArray := by simp [Ks]
      rw [← e]
      exact this
    have FB := hid ((Fr.refl No W).alloc (.cells (Array.replicate n (.int .u8 0)) 5)).drew
    go_wp2_with fail
    refine (HN.out _).mono ?_
    rintro e w' ⟨rfl, rfl⟩
    go_wp2
    clear hmk
    generalize (W.alloc (.cells (Array.replicate n (.int .u8 0)) 5)).drew = W2 at *
    go_loopw [11] (fun j wr => ∃ k : Nat, k ≤ n ∧ j = .int .i64 k ∧ Hid (Blk wr W.heap.size 5 (Ks .u8 ((List.replicate n v).take k ++ List.replicate (n - k) 0)).toArray) ∧ Hid (Fr No W wr)) (fun j _ => n - (intOf j).toNat)
    case atStart => exact ⟨0, by omega, rfl, GB, FB⟩
    case round =>
      obtain ⟨k, hk, rfl, GK, FK⟩ := hrel
      clear GB FB
      by_cases hkn : k < n
      · have i0 : (0 : Int) ≤ k := by omega
        have i1 : (k : Int) < n := by omega
        have y0 := GK.out.cell k
        have yv : ((Ks .u8 ((List.replicate n v).take k ++ List.replicate (n - k) 0)).toArray)[k]? = some (.int .u8 0) := by
          rw [List.getElem?_toArray, Ks, List.getElem?_map, List.getElem?_append_right (by rw [List.length_take]; exact Nat.min_le_left _ _), List.getElem?_replicate]
          simp [Nat.min_eq_left (Nat.le_of_lt hkn)]
          omega
        rw [yv] at y0
        have q0 := GK.out.frozen k
        clear yv
        go_wp2
        refine ⟨⟨k + 1, by omega, by go_num, ?_, ?_⟩, by simp [intOf]; omega⟩
        · have := GK.out.set_ k (.int .u8 v)
          rw [fill_set (List.replicate n v) n k hkn (by simp) v (by rw [List.getElem?_replicate, if_pos hkn])] at this
          exact this
        · exact FK.out.setCell _ _ (fun h => absurd h (Nat.lt_irrefl _))
      · have hke : k = n := by omega
        subst hke
        have hi1 : ¬ ((k : Int) < k) := by omega
        have hG := GK.out
        rw [List.take_of_length_le (by simp), Nat.sub_self, List.replicate_zero, List.append_nil] at hG
        have HG := hid hG
        clear hG GK
        have HXK : Hid (∀ X, Fr (One (w.heap.size + 1)) wr X → X.cell? ⟨w.heap.size, 0, none⟩ = some (.int .i64 l.min) ∧ X.cell? ⟨w.heap.size, 1, none⟩ = some (.int .i64 l.max) ∧ X.cell? ⟨w.heap.size, 2, none⟩ = some (.bool l.has) ∧ X.cell? ⟨w.heap.size, 3, none⟩ = some (.slice A B.length c)) := fun X f => HX.out X ((FK.out.mono (fun _ _ h => h.elim)).trans f (fun _ _ h => h))
        go_wp2_with fail
        refine wp_region_ord (fun X => X.cell? ⟨w.heap.size, 0, none⟩ = some (.int .i64 l.min) ∧ X.cell? ⟨w.heap.size, 1, none⟩ = some (.int .i64 l.max) ∧ X.cell? ⟨w.heap.size, 2, none⟩ = some (.bool l.has) ∧ X.cell? ⟨w.heap.size, 3, none⟩ = some (.slice A B.length c)) [] [(0, true), (1, true), (2, true), (3, true), (4, true), (6, true), (5, false), (7, false), (8, true), (9, false), (10, true)] (by kernel_rfl) (by kernel_rfl) (by kernel_rfl) rfl (HXK.out _ (Fr.refl _ _).drew) ?_
        repeat (first
          | (refine wpO_skip rfl rfl ?_; simp only [List.getElem_toArray, List.getElem_cons_succ, List.getElem_cons_zero, Act.put, List.setIfInBounds_toArray, List.set_cons_zero, List.set_cons_succ])
          | (refine wpO_call rfl rfl ?_; simp only [List.getElem_toArray, List.getElem_cons_succ, List.getElem_cons_zero]; apply Exists.intro; refine ⟨fun X hX => ?_, ?_⟩
             · (have s0 := hX.1; have s1 := hX.2.1; have s2 := hX.2.2.1; have s3 := hX.2.2.2; go_simp; exact stillUpon_value)
             simp only [Act.put, List.setIfInBounds_toArray, List.set_cons_zero, List.set_cons_succ]))
        refine wpO_eff rfl rfl (fun K hK => ?_)
        simp only [List.getElem_toArray, List.getElem_cons_succ, List.getElem_cons_zero]
        go_simp
        refine (HT.out _).mono ?_
        rintro e w' ⟨rfl, rfl⟩
        refine hK _ _ (fun _ => HXK.out _ (Fr.refl _ _).drew) ?_
        clear hK K
        repeat (first
          | (refine wpO_skip rfl rfl ?_; simp only [List.getElem_toArray, List.getElem_cons_succ, List.getElem_cons_zero, Act.put, List.setIfInBounds_toArray, List.set_cons_zero, List.set_cons_succ])
          | (refine wpO_call rfl rfl ?_; simp only [List.getElem_toArray, List.getElem_cons_succ, List.getElem_cons_zero]; apply Exists.intro; refine ⟨fun X hX => ?_, ?_⟩
             · (have s0 := hX.1; have s1 := hX.2.1; have s2 := hX.2.2.1; have s3 := hX.2.2.2; go_simp; exact stillUpon_value)
             simp only [Act.put, List.setIfInBounds_toArray, List.set_cons_zero, List.set_cons_succ]))
        refine wpO_eff rfl rfl (fun K hK => ?_)
        simp only [List.getElem_toArray, List.getElem_cons_succ, List.getElem_cons_zero]
        go_simp
        have FW := hid ((F.out.trans FK.out (fun _ _ h => h)).drew)
        have HI2 := hid (HI.out.fr FW.out)
        have HW := written_any A (some ⟨W.heap.size, 0, none⟩) c k t B (List.replicate k v) wr.drew HI2.out.rd HI2.out.nil (Rd.blk HG.out HG.out.lt 0 (fun j u hu => by rw [Nat.zero_add]; simpa using hu)) HI2.out.bts (fun b hb => by rw [List.mem_replicate] at hb; rw [hb.2]; exact hv) (by simp; exact e2) HI2.out.cap hn HI2.out.spot
        rw [List.length_replicate] at HW
        refine HW.mono ?_
        clear HW
        rintro e w3 ⟨E, ec, rfl, hrow, f⟩
        have F3 := hid ((FK.out.drew).trans f (fun _ _ h => h))
        have F3k := hid ((Fr.refl No wr).drew.trans f (fun _ _ h => h))
        have HR := hid hrow
        have GR3 := hid (GR.out.fr F3.out (fun x => x))
        clear hrow f
        refine hK _ _ (fun _ => HXK.out _ (F3k.out.mono (fun _ _ h => h.elim))) ?_
        clear hK K
        repeat (first
          | (refine wpO_skip rfl rfl ?_; simp only [List.getElem_toArray, List.getElem_cons_succ, List.getElem_cons_zero, Act.put, List.setIfInBounds_toArray, List.set_cons_zero, List.set_cons_succ])
          | (refine wpO_call rfl rfl ?_; simp only [List.getElem_toArray, List.getElem_cons_succ, List.getElem_cons_zero]; apply Exists.intro; refine ⟨fun X hX => ?_, ?_⟩
             · (have s0 := hX.1; have s1 := hX.2.1; have s2 := hX.2.2.1; have s3 := hX.2.2.2; go_simp; exact stillUpon_value)
             simp only [Act.put, List.setIfInBounds_toArray, List.set_cons_zero, List.set_cons_succ]))
        have q0 := GR3.out.frozen 0
        have q1 := GR3.out.frozen 1
        have q2 := GR3.out.frozen 2
        have q3 := GR3.out.frozen 3
        have z0 := GR3.out.cell 0
        have z1 := GR3.out.cell 1
        have z2 := GR3.out.cell 2
        have z3 := GR3.out.cell 3
        have FZ := hid ((((((Fr.refl (One (w.heap.size + 1)) w3).setCell ⟨w.heap.size + 1, 0, none⟩ (.int .i64 l.min) (fun _ => rfl)).setCell ⟨w.heap.size + 1, 1, none⟩ (.int .i64 l.max) (fun _ => rfl)).setCell ⟨w.heap.size + 1, 2, none⟩ (.bool l.has) (fun _ => rfl)).setCell ⟨w.heap.size + 1, 3, none⟩ (.slice E (splice B t (List.replicate k v)).length ec) (fun _ => rfl)))
        refine wpO_eff rfl rfl (fun K hK => ?_)
        simp only [List.getElem_toArray, List.getElem_cons_succ, List.getElem_cons_zero]
        go_simp
        refine hK _ _ (fun _ => HXK.out _ ((F3k.out.mono (fun _ _ h => h.elim)).trans FZ.out (fun _ _ h => h))) ?_
        clear hK K
        repeat (first
          | (refine wpO_skip rfl rfl ?_; simp only [List.getElem_toArray, List.getElem_cons_succ, List.getElem_cons_zero, Act.put, List.setIfInBounds_toArray, List.set_cons_zero, List.set_cons_succ])
          | (refine wpO_call rfl rfl ?_; simp only [List.getElem_toArray, List.getElem_cons_succ, List.getElem_cons_zero]; apply Exists.intro; refine ⟨fun X hX => ?_, ?_⟩
             · (have s0 := hX.1; have s1 := hX.2.1; have s2 := hX.2.2.1; have s3 := hX.2.2.2; go_simp; exact stillUpon_value)
             simp only [Act.put, List.setIfInBounds_toArray, List.set_cons_zero, List.set_cons_succ]))
        refine wpO_nil ?_
        go_wp2
        have FF := (F.out.trans F3.out (fun _ _ h => h)).trans FZ.out (fun i hi h => by simp only [One] at h; omega)
        have hRm := rmIn_of_row (HR.out.fr FZ.out (fun _ h => h.elim) (fun k hk h => by have h1 := (HR.out.own hk).1; have h2 : wr.drew.heap.size = wr.heap.size := rfl; have h3 := FK.out.size; simp only [One] at h; omega))
        exact bodyPost_ret (v := .tuple #[.agg #[.int .i64 l.min, .int .i64 l.max, .bool l.has, .slice E (splice B t (List.replicate k v)).length ec], .int .i64 0]) (by simp [results, Try.results33, go_sem, z0, z1, z2, z3]) rfl ⟨E, ec, rfl, hRm, (.inr (fun q o he => by subst he; have h1 := (HR.out.own (g := q) (by simp [Value.ownBlock])).1; exact Nat.le_trans (F.out.trans FK.out (fun _ _ h => h)).size h1)), FF⟩
  · rw [if_neg e2]
    rw [decide_eq_false e2] at HR
    go_enter Try.func33, Try.ntmps33
    go_wp2
    generalize (w.alloc (.cells #[.int .i64 l.min, .int .i64 l.max, .bool l.has, .slice A B.length c] 28)).alloc (.cells #[.int .i64 0, .int .i64 0, .bool false, .slice none 0 0] 28) = W at *
    have hc1 : w.heap.size + 1 < W.heap.size := GR.out.lt
    have HX : Hid (∀ X, Fr (One (w.heap.size + 1)) W X → X.cell? ⟨w.heap.size, 0, none⟩ = some (.int .i64 l.min) ∧ X.cell? ⟨w.heap.size, 1, none⟩ = some (.int .i64 l.max) ∧ X.cell? ⟨w.heap.size, 2, none⟩ = some (.bool l.has) ∧ X.cell? ⟨w.heap.size, 3, none⟩ = some (.slice A B.length c)) := fun X f => by
      have h := G.out.fr f (fun x => by simp only [One] at x; omega)
      exact ⟨h.cell 0, h.cell 1, h.cell 2, h.cell 3⟩
    refine wp_region_ord (fun X => X.cell? ⟨w.heap.size, 0, none⟩ = some (.int .i64 l.min) ∧ X.cell? ⟨w.heap.size, 1, none⟩ = some (.int .i64 l.max) ∧ X.cell? ⟨w.heap.size, 2, none⟩ = some (.bool l.has) ∧ X.cell? ⟨w.heap.size, 3, none⟩ = some (.slice A B.length c)) [] [(0, true), (1, true), (2, true), (3, true), (5, true), (4, false), (6, false), (7, false), (8, true)] (by kernel_rfl) (by kernel_rfl) (by kernel_rfl) rfl (HX.out _ (Fr.refl _ _).drew) ?_
    repeat (first
      | (refine wpO_skip rfl rfl ?_; simp only [List.getElem_toArray, List.getElem_cons_succ, List.getElem_cons_zero, Act.put, List.setIfInBounds_toArray, List.set_cons_zero, List.set_cons_succ])
      | (refine wpO_call rfl rfl ?_; simp only [List.getElem_toArray, List.getElem_cons_succ, List.getElem_cons_zero]; apply Exists.intro; refine ⟨fun X hX => ?_, ?_⟩
         · (have s0 := hX.1; have s1 := hX.2.1; have s2 := hX.2.2.1; have s3 := hX.2.2.2; go_simp; exact stillUpon_value)
         simp only [Act.put, List.setIfInBounds_toArray, List.set_cons_zero, List.set_cons_succ]))
    refine wpO_eff rfl rfl (fun K hK => ?_)
    simp only [List.getElem_toArray, List.getElem_cons_succ, List.getElem_cons_zero]
    go_simp
    refine (HT.out _).mono ?_
    rintro e w' ⟨rfl, rfl⟩
    refine hK _ _ (fun _ => HX.out _ (Fr.refl _ _).drew) ?_
    clear hK K
    repeat (first
      | (refine wpO_skip rfl rfl ?_; simp only [List.getElem_toArray, List.getElem_cons_succ, List.getElem_cons_zero, Act.put, List.setIfInBounds_toArray, List.set_cons_zero, List.set_cons_succ])
      | (refine wpO_call rfl rfl ?_; simp only [List.getElem_toArray, List.getElem_cons_succ, List.getElem_cons_zero]; apply Exists.intro; refine ⟨fun X hX => ?_, ?_⟩
         · (have s0 := hX.1; have s1 := hX.2.1; have s2 := hX.2.2.1; have s3 := hX.2.2.2; go_simp; exact stillUpon_value)
         simp only [Act.put, List.setIfInBounds_toArray, List.set_cons_zero, List.set_cons_succ]))
    refine wpO_eff rfl rfl (fun K hK => ?_)
    simp only [List.getElem_toArray, List.getElem_cons_succ, List.getElem_cons_zero]
    go_simp
    refine (HN.out _).mono ?_
    rintro e w' ⟨rfl, rfl⟩
    refine hK _ _ (fun _ => HX.out _ (Fr.refl _ _).drew) ?_
    clear hK K
    repeat (first
      | (refine wpO_skip rfl rfl ?_; simp only [List.getElem_toArray, List.getElem_cons_succ, List.getElem_cons_zero, Act.put, List.setIfInBounds_toArray, List.set_cons_zero, List.set_cons_succ])
      | (refine wpO_call rfl rfl ?_; simp only [List.getElem_toArray, List.getElem_cons_succ, List.getElem_cons_zero]; apply Exists.intro; refine ⟨fun X hX => ?_, ?_⟩
         · (have s0 := hX.1; have s1 := hX.2.1; have s2 := hX.2.2.1; have s3 := hX.2.2.2; go_simp; exact stillUpon_value)
         simp only [Act.put, List.setIfInBounds_toArray, List.set_cons_zero, List.set_cons_succ]))
    refine wpO_eff rfl rfl (fun K hK => ?_)
    simp only [List.getElem_toArray, List.getElem_cons_succ, List.getElem_cons_zero]
    go_simp
    refine (HR.out _).mono ?_
    rintro e w' ⟨rfl, rfl⟩
    refine hK _ _ (fun _ => HX.out _ (Fr.refl _ _).drew) ?_
    clear hK K
    repeat (first
      | (refine wpO_skip rfl rfl ?_; simp only [List.getElem_toArray, List.getElem_cons_succ, List.getElem_cons_zero, Act.put, List.setIfInBounds_toArray, List.set_cons_zero, List.set_cons_succ])
      | (refine wpO_call rfl rfl ?_; simp only [List.getElem_toArray, List.getElem_cons_succ, List.getElem_cons_zero]; apply Exists.intro; refine ⟨fun X hX => ?_, ?_⟩
         · (have s0 := hX.1; have s1 := hX.2.1; have s2 := hX.2.2.1; have s3 := hX.2.2.2; go_simp; exact stillUpon_value)
         simp only [Act.put, List.setIfInBounds_toArray, List.set_cons_zero, List.set_cons_succ]))
    refine wpO_nil ?_
    have y0 : W.cell? ⟨w.heap.size, 0, none⟩ = some (.int .i64 l.min) := G.out.cell 0
    have y1 : W.cell? ⟨w.heap.size, 1, none⟩ = some (.int .i64 l.max) := G.out.cell 1
    have y2 : W.cell? ⟨w.heap.size, 2, none⟩ = some (.bool l.has) := G.out.cell 2
    have y3 : W.cell? ⟨w.heap.size, 3, none⟩ = some (.slice A B.length c) := G.out.cell 3
    have z0 : W.cell? ⟨w.heap.size + 1, 0, none⟩ = some (.int .i64 0) := GR.out.cell 0
    have z1 : W.cell? ⟨w.heap.size + 1, 1, none⟩ = some (.int .i64 0) := GR.out.cell 1
    have z2 : W.cell? ⟨w.heap.size + 1, 2, none⟩ = some (.bool false) := GR.out.cell 2
    have z3 : W.cell? ⟨w.heap.size + 1, 3, none⟩ = some (.slice none 0 0) := GR.out.cell 3
    have q0 : W.frozen? ⟨w.heap.size + 1, 0, none⟩ = false := GR.out.frozen 0
    have q1 : W.frozen? ⟨w.heap.size + 1, 1, none⟩ = false := GR.out.frozen 1
    have q2 : W.frozen? ⟨w.heap.size + 1, 2, none⟩ = false := GR.out.frozen 2
    have q3 : W.frozen? ⟨w.heap.size + 1, 3, none⟩ = false := GR.out.frozen 3
    go_wp2
    have FZ := (((((Fr.refl (One (w.heap.size + 1)) W).setCell ⟨w.heap.size + 1, 0, none⟩ (.int .i64 l.min) (fun _ => rfl)).setCell ⟨w.heap.size + 1, 1, none⟩ (.int .i64 l.max) (fun _ => rfl)).setCell ⟨w.heap.size + 1, 2, none⟩ (.bool l.has) (fun _ => rfl)).setCell ⟨w.heap.size + 1, 3, none⟩ (.slice A B.length c) (fun _ => rfl))
    have FF := F.out.trans FZ.drew (fun i hi h => by simp only [One] at h; omega)
    exact bodyPost_ret (v := .tuple #[.agg #[.int .i64 l.min, .int .i64 l.max, .bool l.has, .slice A B.length c], .int .i64 2]) (by simp [results, Try.results33, go_sem, z0, z1, z2, z3]) rfl ⟨A, c, rfl, HI.out.fr FF, .inl ⟨rfl, rfl⟩, FF⟩
end Go.Proofs.Ytpmnijjfadhocaa
