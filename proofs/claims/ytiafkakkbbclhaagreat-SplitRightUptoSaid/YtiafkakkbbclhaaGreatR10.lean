/- For every input SplitRight returns true, part 10: what the proof rests on. Condition: the arguments are of bulk at most 1048576. -/
import Derived.Test.YtiafkakkbbclhaaGreatR9
set_option maxRecDepth 100000
set_option maxHeartbeats 12800000
set_option linter.unusedVariables false
set_option linter.unusedSimpArgs false
set_option linter.unusedSectionVars false
namespace Go.Proofs.YtiafkakkbbclhaaGreat
open Go.RowKit
def rfB (t : Int) : Bool := t == 3 || t == 4
theorem ref06_any (t : Int) (w : World) : Calls Tryz.prog 52 #[.int .i64 t] w fun e w' => e = .returned (.bool (rfB t)) ∧ w = w' := by
  unfold rfB
  by_cases h : t = 3
  · subst h
    go_enter Tryz.func52, Tryz.ntmps52
    go_wp2
    go_ret
    exact ⟨rfl, rfl⟩
  · have d : (t == 3) = false := beq_eq_false_iff_ne.2 h
    clear h
    go_enter Tryz.func52, Tryz.ntmps52
    go_wp2
    go_ret
    exact ⟨rt_bool (by simp [d]), rfl⟩
theorem VW.wf {w : World} {S : Nat → Prop} {A : Option Addr} {vals : List Int} (h : VW w S A vals) (n : Nat) : (Lit.int .i64 (vals.getD n 0)).wf = true := by
  by_cases hn : n < vals.length
  · obtain ⟨_, _, _, _, _, hw⟩ := ints_at h.els n hn
    rw [getD_el 0 hn]; exact hw
  · have e : vals.getD n 0 = 0 := by rw [List.getD_eq_getElem?_getD, List.getElem?_eq_none (by omega)]; rfl
    rw [e]; rfl
theorem allT_wf {w : World} {S : Nat → Prop} {A : Option Addr} {vals l ts : List Int} (h : VW w S A vals) (e : allT vals l = some ts) : ∀ t ∈ ts, (Lit.int .i64 t).wf = true := by
  unfold allT at e
  split at e
  · rw [← Option.some.inj e]
    intro t ht
    obtain ⟨v, _, rfl⟩ := List.mem_map.1 ht
    exact h.wf _
  · cases e
theorem own_wf {w : World} {S : Nat → Prop} {A : Option Addr} {vals : List Int} {x : Si} {t : Int} (h : VW w S A vals) (e : ownO vals x = some t) : (Lit.int .i64 t).wf = true := by
  unfold ownO at e
  split at e
  · next u hu =>
    have := allT_wf h hu u (by simp)
    rwa [Option.some.inj e] at this
  · cases e
theorem first_wf {w : World} {S : Nat → Prop} {A : Option Addr} {vals : List Int} {x : Si} {t : Int} (h : VW w S A vals) (e : firstO vals x = some t) : (Lit.int .i64 t).wf = true := by
  unfold firstO at e
  split at e
  · cases e
  · split at e
    · next l hl =>
      rw [← Option.some.inj e]
      match l, hl with
      | [], _ => rfl
      | u :: r, hl => exact allT_wf h hl u (by simp)
    · cases e
def plainO (vals : List Int) (x : Si) : Option Fn :=
  if x.kind = 0 then (match ownO vals x with | none => none | some t => if zeroB x true false false false = false then none else if 0 ≤ x.a then some ⟨[], [t]⟩ else none)
  else if x.kind = 1 then (match ownO vals x with | none => none | some t => if zeroB x false false true false = false then none else if t = 2 then some ⟨[], [t]⟩ else if t = 1 then (if x.n < 4294967296 then some ⟨[], [t]⟩ else none) else none)
  else if x.kind = 2 then (match ownO vals x with | none => none | some t => if zeroB x false false false false = false then none else if rfB t = true then some ⟨[], [t]⟩ else none)
  else if x.kind = 5 then (match firstO vals x with | none => none | some t => if zeroB x false false false false = false then none else some ⟨[t, t, 1], [t]⟩)
  else (match firstO vals x with | none => none | some t => if zeroB x false false false false = false then none else if rfB t = true then some ⟨[t], [1]⟩ else none)
theorem plain39_any {w : World} {S : Nat → Prop} {xc : List Value} {x : Si} {A : Option Addr} {vals : List Int} (h : XW w S xc x) (hvs : VW w S A vals) (hx : XB x) (cv : Nat) (hk : x.kind = 0 ∨ x.kind = 1 ∨ x.kind = 2 ∨ x.kind = 5 ∨ x.kind = 16) : Calls Tryz.prog 40 #[.agg xc.toArray, .slice A vals.length cv] w (SigTo S (plainO vals x) w) := by
  have HOW := hid (fun W (k : XW W S xc x) (v : VW W S A vals) => own_any k v hx cv)
  have HFI := hid (fun W (k : XW W S xc x) (v : VW W S A vals) => first_any k v cv)
  have HZ := hid (fun (a b n op : Bool) W (k : XW W S xc x) => zero_any k a b n op)
  have HOF : Hid (∀ t, ownO vals x = some t → (Lit.int .i64 t).wf = true) := hid fun t h => own_wf hvs h
  have HFF : Hid (∀ t, firstO vals x = some t → (Lit.int .i64 t).wf = true) := hid fun t h => first_wf hvs h
  unfold IntTo at HOW HFI
  generalize hP : plainO vals x = P
  rw [plainO] at hP
  have HP := hid hP
  clear hP
  obtain ⟨⟨F0v⟩⟩ : Nonempty Unit := ⟨()⟩
  have HV := hid hvs
  clear hvs hx
  generalize ownO vals x = ow at *
  generalize firstO vals x = fi at *
  generalize vals.length = nv at *
  obtain ⟨F0, GX0, GW0⟩ := bxX w xc
  obtain ⟨e0, e1, e2, e3, e4⟩ := h.ints
  have E0 := hid e0
  have E1 := hid e1
  have E2 := hid e2
  have E3 := hid e3
  have E4 := hid e4
  have XX0 := hid (h.fr F0.out)
  have HIX : Hid ((Tryz.prog.info? 82).map (·.size) = some 7) := by unfold Hid; kernel_rfl
  have HLX := hid h.len
  have HS := hid h.lt
  clear e0 e1 e2 e3 e4 h  
  go_enter Tryz.func40, Tryz.ntmps40
  go_upto_region 1 with fail
  generalize ((w.alloc (.cells xc.toArray 82)).alloc (.cells #[.slice none 0 0, .slice none 0 0] 36)) = W0 at *
  have VV0 := hid (HV.out.fr F0.out)
  clear HV
  go_wp2_with (first | refine ldG Tryz.underlying82 HIX.out (rangeL GX0.out) HLX.out ?_ | refine ldW Tryz.underlying82 HIX.out (rangeL GX0.out) HLX.out ?_)
  refine (HOW.out _ XX0.out VV0.out).mono ?_
  rintro e W1 ⟨rfl, f⟩
  have F1 := hid (F0.out.trans f (fun _ _ h => h))
  have GX1 := hid (GX0.out.fr f (fun x => x))
  have GW1 := hid (GW0.out.fr f (fun x => x))
  have XX1 := hid ((XX0.out).fr f)
  have VV1 := hid ((VV0.out).fr f)
  clear f F0 GX0 GW0 XX0 VV0 HOW
  have hxl := GX1.out.lt
  have x0 := GX1.out.at_ E0.out
  rcases hk with h0 | h0 | h0 | h0 | h0
  · have hp := HP.out
    rw [if_pos h0] at hp
    replace HP := hid hp
    rw [h0] at x0
    clear hp h0
    cases ow with
    | none =>
      simp only [Option.getD_none, Option.isSome_none]
      have hp := HP.out
      dsimp only at hp
      subst hp
      go_wp2_with (first | refine ldG Tryz.underlying82 HIX.out (rangeL GX1.out) HLX.out ?_ | refine ldW Tryz.underlying82 HIX.out (rangeL GX1.out) HLX.out ?_)
      refine (none39_any _).mono ?_
      rintro e W2 ⟨rfl, f⟩
      have F2 := hid (F1.out.trans f (fun _ _ h => h))
      have GX2 := hid (GX1.out.fr f (fun x => x))
      have GW2 := hid (GW1.out.fr f (fun x => x))
      have XX2 := hid ((XX1.out).fr f)
      have VV2 := hid ((VV1.out).fr f)
      have q0 := GW2.out.cell 0
      have q1 := GW2.out.cell 1
      have f0 := GW2.out.frozen 0
      have f1 := GW2.out.frozen 1
      clear f
      go_wp2
      refine fn_ret (x := .bool false) rfl rfl rfl ((GW2.out.set_ 0 _).set_ 1 _) rfl ?_
      exact sig_fin (o := none) (c1 := 0) (c2 := 0) _ _ HS.out (by omega) ⟨.inl rfl, .inl rfl⟩ F2.out rfl rfl
    | some t =>
      simp only [Option.getD_some, Option.isSome_some]
      have hv := hid (HOF.out t rfl)
      have hp := HP.out
      dsimp only at hp
      replace HP := hid hp
      clear hp
      have HZ1 := hid (HZ.out true false false false)
      generalize zeroB x true false false false = z at *
      clear HZ
      go_wp2_with (first | refine ldG Tryz.underlying82 HIX.out (rangeL GX1.out) HLX.out ?_ | refine ldW Tryz.underlying82 HIX.out (rangeL GX1.out) HLX.out ?_)
      refine (HZ1.out _ XX1.out).mono ?_
      rintro e W2 ⟨rfl, f⟩
      have F2 := hid (F1.out.trans f (fun _ _ h => h))
      have GX2 := hid (GX1.out.fr f (fun x => x))
      have GW2 := hid (GW1.out.fr f (fun x => x))
      have XX2 := hid ((XX1.out).fr f)
      have VV2 := hid ((VV1.out).fr f)
      clear f F1 GX1 GW1 XX1 VV1 HZ1 x0 hxl
      cases z with
      | false =>
        have hp := HP.out
        rw [if_pos rfl] at hp
        subst hp
        go_wp2_with (first | refine ldG Tryz.underlying82 HIX.out (rangeL GX2.out) HLX.out ?_ | refine ldW Tryz.underlying82 HIX.out (rangeL GX2.out) HLX.out ?_)
        refine (none39_any _).mono ?_
        rintro e W3 ⟨rfl, f⟩
        have F3 := hid (F2.out.trans f (fun _ _ h => h))
        have GX3 := hid (GX2.out.fr f (fun x => x))
        have GW3 := hid (GW2.out.fr f (fun x => x))
        have XX3 := hid ((XX2.out).fr f)
        have VV3 := hid ((VV2.out).fr f)
        have q0 := GW3.out.cell 0
        have q1 := GW3.out.cell 1
        have f0 := GW3.out.frozen 0
        have f1 := GW3.out.frozen 1
        clear f
        go_wp2
        refine fn_ret (x := .bool false) rfl rfl rfl ((GW3.out.set_ 0 _).set_ 1 _) rfl ?_
        exact sig_fin (o := none) (c1 := 0) (c2 := 0) _ _ HS.out (by omega) ⟨.inl rfl, .inl rfl⟩ F3.out rfl rfl
      | true =>
        have hp := HP.out
        rw [if_neg (by decide)] at hp
        replace HP := hid hp
        clear hp
        have hxl := GX2.out.lt
        have x2 := GX2.out.at_ E2.out
        generalize x.a = xa at *
        by_cases ha : 0 ≤ xa
        · have hp := HP.out
          rw [if_pos ha] at hp
          subst hp
          have da : decide (0 ≤ xa) = true := decide_eq_true ha
          have hq := GW2.out.lt
          go_wp2_with (first | refine ldG Tryz.underlying82 HIX.out (rangeL GX2.out) HLX.out ?_ | refine ldW Tryz.underlying82 HIX.out (rangeL GX2.out) HLX.out ?_)
          refine (fn39_any _ _ _ _ _ _ _).mono ?_
          rintro e W3 ⟨rfl, f⟩
          have F3 := hid ((F2.out.alloc _).trans f (fun _ _ h => h))
          have GX3 := hid ((GX2.out.alloc _).fr f (fun x => x))
          have GW3 := hid ((GW2.out.alloc _).fr f (fun x => x))
          have XX3 := hid ((XX2.out.fr (((Fr.refl No W2).alloc _))).fr f)
          have VV3 := hid ((VV2.out.fr (((Fr.refl No W2).alloc _))).fr f)
          have q0 := GW3.out.cell 0
          have q1 := GW3.out.cell 1
          have f0 := GW3.out.frozen 0
          have f1 := GW3.out.frozen 1
          have FT : FnAt S ((w.heap.size + 1) + 1) W3 none _ (fnD (some ⟨[], [t]⟩)) := ⟨.inl rfl, lits_els (l := [t]) ((Blk.new _ 59 #[.int .i64 t]).fr f (fun x => x)) (by omega) (by intro y hy; simp only [List.mem_cons, List.not_mem_nil, or_false] at hy; rcases hy with rfl <;> first | decide | exact hv.out)⟩
          clear f
          go_wp2
          refine fn_ret (x := .bool true) rfl rfl rfl ((GW3.out.set_ 0 _).set_ 1 _) rfl ?_
          exact sig_fin (o := some ⟨[], [t]⟩) _ _ HS.out (by omega) FT F3.out rfl rfl
        · have da : decide (0 ≤ xa) = false := decide_eq_false ha
          have hp := HP.out
          rw [if_neg ha] at hp
          subst hp
          go_wp2_with (first | refine ldG Tryz.underlying82 HIX.out (rangeL GX2.out) HLX.out ?_ | refine ldW Tryz.underlying82 HIX.out (rangeL GX2.out) HLX.out ?_)
          refine (none39_any _).mono ?_
          rintro e W3 ⟨rfl, f⟩
          have F3 := hid (F2.out.trans f (fun _ _ h => h))
          have GX3 := hid (GX2.out.fr f (fun x => x))
          have GW3 := hid (GW2.out.fr f (fun x => x))
          have XX3 := hid ((XX2.out).fr f)
          have VV3 := hid ((VV2.out).fr f)
          have q0 := GW3.out.cell 0
          have q1 := GW3.out.cell 1
          have f0 := GW3.out.frozen 0
          have f1 := GW3.out.frozen 1
          clear f
          go_wp2
          refine fn_ret (x := .bool false) rfl rfl rfl ((GW3.out.set_ 0 _).set_ 1 _) rfl ?_
          exact sig_fin (o := none) (c1 := 0) (c2 := 0) _ _ HS.out (by omega) ⟨.inl rfl, .inl rfl⟩ F3.out rfl rfl
  · have hp := HP.out
    rw [if_neg (by omega), if_pos h0] at hp
    replace HP := hid hp
    rw [h0] at x0
    clear hp h0
    cases ow with
    | none =>
      simp only [Option.getD_none, Option.isSome_none]
      have hp := HP.out
      dsimp only at hp
      subst hp
      go_wp2_with (first | refine ldG Tryz.underlying82 HIX.out (rangeL GX1.out) HLX.out ?_ | refine ldW Tryz.underlying82 HIX.out (rangeL GX1.out) HLX.out ?_)
      refine (none39_any _).mono ?_
      rintro e W2 ⟨rfl, f⟩
      have F2 := hid (F1.out.trans f (fun _ _ h => h))
      have GX2 := hid (GX1.out.fr f (fun x => x))
      have GW2 := hid (GW1.out.fr f (fun x => x))
      have XX2 := hid ((XX1.out).fr f)
      have VV2 := hid ((VV1.out).fr f)
      have q0 := GW2.out.cell 0
      have q1 := GW2.out.cell 1
      have f0 := GW2.out.frozen 0
      have f1 := GW2.out.frozen 1
      clear f
      go_wp2
      refine fn_ret (x := .bool false) rfl rfl rfl ((GW2.out.set_ 0 _).set_ 1 _) rfl ?_
      exact sig_fin (o := none) (c1 := 0) (c2 := 0) _ _ HS.out (by omega) ⟨.inl rfl, .inl rfl⟩ F2.out rfl rfl
    | some t =>
      simp only [Option.getD_some, Option.isSome_some]
      have hv := hid (HOF.out t rfl)
      have hp := HP.out
      dsimp only at hp
      replace HP := hid hp
      clear hp
      have HZ1 := hid (HZ.out false false true false)
      generalize zeroB x false false true false = z at *
      clear HZ
      go_wp2_with (first | refine ldG Tryz.underlying82 HIX.out (rangeL GX1.out) HLX.out ?_ | refine ldW Tryz.underlying82 HIX.out (rangeL GX1.out) HLX.out ?_)
      refine (HZ1.out _ XX1.out).mono ?_
      rintro e W2 ⟨rfl, f⟩
      have F2 := hid (F1.out.trans f (fun _ _ h => h))
      have GX2 := hid (GX1.out.fr f (fun x => x))
      have GW2 := hid (GW1.out.fr f (fun x => x))
      have XX2 := hid ((XX1.out).fr f)
      have VV2 := hid ((VV1.out).fr f)
      clear f F1 GX1 GW1 XX1 VV1 HZ1 x0 hxl
      cases z with
      | false =>
        have hp := HP.out
        rw [if_pos rfl] at hp
        subst hp
        go_wp2_with (first | refine ldG Tryz.underlying82 HIX.out (rangeL GX2.out) HLX.out ?_ | refine ldW Tryz.underlying82 HIX.out (rangeL GX2.out) HLX.out ?_)
        refine (none39_any _).mono ?_
        rintro e W3 ⟨rfl, f⟩
        have F3 := hid (F2.out.trans f (fun _ _ h => h))
        have GX3 := hid (GX2.out.fr f (fun x => x))
        have GW3 := hid (GW2.out.fr f (fun x => x))
        have XX3 := hid ((XX2.out).fr f)
        have VV3 := hid ((VV2.out).fr f)
        have q0 := GW3.out.cell 0
        have q1 := GW3.out.cell 1
        have f0 := GW3.out.frozen 0
        have f1 := GW3.out.frozen 1
        clear f
        go_wp2
        refine fn_ret (x := .bool false) rfl rfl rfl ((GW3.out.set_ 0 _).set_ 1 _) rfl ?_
        exact sig_fin (o := none) (c1 := 0) (c2 := 0) _ _ HS.out (by omega) ⟨.inl rfl, .inl rfl⟩ F3.out rfl rfl
      | true =>
        have hp := HP.out
        rw [if_neg (by decide)] at hp
        replace HP := hid hp
        clear hp
        have hxl := GX2.out.lt
        have x4 := GX2.out.at_ E4.out
        generalize x.n = xn at *
        by_cases h2 : t = 2
        · subst h2
          have hp := HP.out
          rw [if_pos rfl] at hp
          subst hp
          have hq := GW2.out.lt
          go_wp2_with (first | refine ldG Tryz.underlying82 HIX.out (rangeL GX2.out) HLX.out ?_ | refine ldW Tryz.underlying82 HIX.out (rangeL GX2.out) HLX.out ?_)
          refine (fn39_any _ _ _ _ _ _ _).mono ?_
          rintro e W3 ⟨rfl, f⟩
          have F3 := hid ((F2.out.alloc _).trans f (fun _ _ h => h))
          have GX3 := hid ((GX2.out.alloc _).fr f (fun x => x))
          have GW3 := hid ((GW2.out.alloc _).fr f (fun x => x))
          have XX3 := hid ((XX2.out.fr (((Fr.refl No W2).alloc _))).fr f)
          have VV3 := hid ((VV2.out.fr (((Fr.refl No W2).alloc _))).fr f)
          have q0 := GW3.out.cell 0
          have q1 := GW3.out.cell 1
          have f0 := GW3.out.frozen 0
          have f1 := GW3.out.frozen 1
          have FT : FnAt S ((w.heap.size + 1) + 1) W3 none _ (fnD (some ⟨[], [2]⟩)) := ⟨.inl rfl, lits_els (l := [2]) ((Blk.new _ 59 #[.int .i64 2]).fr f (fun x => x)) (by omega) (by intro y hy; simp only [List.mem_cons, List.not_mem_nil, or_false] at hy; rcases hy with rfl <;> first | decide | exact hv.out)⟩
          clear f
          go_wp2
          refine fn_ret (x := .bool true) rfl rfl rfl ((GW3.out.set_ 0 _).set_ 1 _) rfl ?_
          exact sig_fin (o := some ⟨[], [2]⟩) _ _ HS.out (by omega) FT F3.out rfl rfl
        · have d2 : (t == 2) = false := beq_eq_false_iff_ne.2 h2
          have hp := HP.out
          rw [if_neg h2] at hp
          replace HP := hid hp
          clear hp
          by_cases h1 : t = 1
          · subst h1
            have hp := HP.out
            rw [if_pos rfl] at hp
            replace HP := hid hp
            clear hp
            by_cases hn : xn < 4294967296
            · have dn : decide (xn < 4294967296) = true := decide_eq_true hn
              have hp := HP.out
              rw [if_pos hn] at hp
              subst hp
              clear hn
              have hq := GW2.out.lt
              go_wp2_with (first | refine ldG Tryz.underlying82 HIX.out (rangeL GX2.out) HLX.out ?_ | refine ldW Tryz.underlying82 HIX.out (rangeL GX2.out) HLX.out ?_)
              refine (fn39_any _ _ _ _ _ _ _).mono ?_
              rintro e W3 ⟨rfl, f⟩
              have F3 := hid ((F2.out.alloc _).trans f (fun _ _ h => h))
              have GX3 := hid ((GX2.out.alloc _).fr f (fun x => x))
              have GW3 := hid ((GW2.out.alloc _).fr f (fun x => x))
              have XX3 := hid ((XX2.out.fr (((Fr.refl No W2).alloc _))).fr f)
              have VV3 := hid ((VV2.out.fr (((Fr.refl No W2).alloc _))).fr f)
              have q0 := GW3.out.cell 0
              have q1 := GW3.out.cell 1
              have f0 := GW3.out.frozen 0
              have f1 := GW3.out.frozen 1
              have FT : FnAt S ((w.heap.size + 1) + 1) W3 none _ (fnD (some ⟨[], [1]⟩)) := ⟨.inl rfl, lits_els (l := [1]) ((Blk.new _ 59 #[.int .i64 1]).fr f (fun x => x)) (by omega) (by intro y hy; simp only [List.mem_cons, List.not_mem_nil, or_false] at hy; rcases hy with rfl <;> first | decide | exact hv.out)⟩
              clear f
              go_wp2
              refine fn_ret (x := .bool true) rfl rfl rfl ((GW3.out.set_ 0 _).set_ 1 _) rfl ?_
              exact sig_fin (o := some ⟨[], [1]⟩) _ _ HS.out (by omega) FT F3.out rfl rfl
            · have dn : decide (xn < 4294967296) = false := decide_eq_false hn
              have hp := HP.out
              rw [if_neg hn] at hp
              clear hn
              subst hp
              go_wp2_with (first | refine ldG Tryz.underlying82 HIX.out (rangeL GX2.out) HLX.out ?_ | refine ldW Tryz.underlying82 HIX.out (rangeL GX2.out) HLX.out ?_)
              refine (none39_any _).mono ?_
              rintro e W3 ⟨rfl, f⟩
              have F3 := hid (F2.out.trans f (fun _ _ h => h))
              have GX3 := hid (GX2.out.fr f (fun x => x))
              have GW3 := hid (GW2.out.fr f (fun x => x))
              have XX3 := hid ((XX2.out).fr f)
              have VV3 := hid ((VV2.out).fr f)
              have q0 := GW3.out.cell 0
              have q1 := GW3.out.cell 1
              have f0 := GW3.out.frozen 0
              have f1 := GW3.out.frozen 1
              clear f
              go_wp2
              refine fn_ret (x := .bool false) rfl rfl rfl ((GW3.out.set_ 0 _).set_ 1 _) rfl ?_
              exact sig_fin (o := none) (c1 := 0) (c2 := 0) _ _ HS.out (by omega) ⟨.inl rfl, .inl rfl⟩ F3.out rfl rfl
          · have d1 : (t == 1) = false := beq_eq_false_iff_ne.2 h1
            have hp := HP.out
            rw [if_neg h1] at hp
            subst hp
            go_wp2_with (first | refine ldG Tryz.underlying82 HIX.out (rangeL GX2.out) HLX.out ?_ | refine ldW Tryz.underlying82 HIX.out (rangeL GX2.out) HLX.out ?_)
            refine (none39_any _).mono ?_
            rintro e W3 ⟨rfl, f⟩
            have F3 := hid (F2.out.trans f (fun _ _ h => h))
            have GX3 := hid (GX2.out.fr f (fun x => x))
            have GW3 := hid (GW2.out.fr f (fun x => x))
            have XX3 := hid ((XX2.out).fr f)
            have VV3 := hid ((VV2.out).fr f)
            have q0 := GW3.out.cell 0
            have q1 := GW3.out.cell 1
            have f0 := GW3.out.frozen 0
            have f1 := GW3.out.frozen 1
            clear f
            go_wp2
            refine fn_ret (x := .bool false) rfl rfl rfl ((GW3.out.set_ 0 _).set_ 1 _) rfl ?_
            exact sig_fin (o := none) (c1 := 0) (c2 := 0) _ _ HS.out (by omega) ⟨.inl rfl, .inl rfl⟩ F3.out rfl rfl
  · have hp := HP.out
    rw [if_neg (by omega), if_neg (by omega), if_pos h0] at hp
    replace HP := hid hp
    rw [h0] at x0
    clear hp h0
    cases ow with
    | none =>
      simp only [Option.getD_none, Option.isSome_none]
      have hp := HP.out
      dsimp only at hp
      subst hp
      go_wp2_with (first | refine ldG Tryz.underlying82 HIX.out (rangeL GX1.out) HLX.out ?_ | refine ldW Tryz.underlying82 HIX.out (rangeL GX1.out) HLX.out ?_)
      refine (none39_any _).mono ?_
      rintro e W2 ⟨rfl, f⟩
      have F2 := hid (F1.out.trans f (fun _ _ h => h))
      have GX2 := hid (GX1.out.fr f (fun x => x))
      have GW2 := hid (GW1.out.fr f (fun x => x))
      have XX2 := hid ((XX1.out).fr f)
      have VV2 := hid ((VV1.out).fr f)
      have q0 := GW2.out.cell 0
      have q1 := GW2.out.cell 1
      have f0 := GW2.out.frozen 0
      have f1 := GW2.out.frozen 1
      clear f
      go_wp2
      refine fn_ret (x := .bool false) rfl rfl rfl ((GW2.out.set_ 0 _).set_ 1 _) rfl ?_
      exact sig_fin (o := none) (c1 := 0) (c2 := 0) _ _ HS.out (by omega) ⟨.inl rfl, .inl rfl⟩ F2.out rfl rfl
    | some t =>
      simp only [Option.getD_some, Option.isSome_some]
      have hv := hid (HOF.out t rfl)
      have hp := HP.out
      dsimp only at hp
      replace HP := hid hp
      clear hp
      have HZ1 := hid (HZ.out false false false false)
      generalize zeroB x false false false false = z at *
      clear HZ
      go_wp2_with (first | refine ldG Tryz.underlying82 HIX.out (rangeL GX1.out) HLX.out ?_ | refine ldW Tryz.underlying82 HIX.out (rangeL GX1.out) HLX.out ?_)
      refine (HZ1.out _ XX1.out).mono ?_
      rintro e W2 ⟨rfl, f⟩
      have F2 := hid (F1.out.trans f (fun _ _ h => h))
      have GX2 := hid (GX1.out.fr f (fun x => x))
      have GW2 := hid (GW1.out.fr f (fun x => x))
      have XX2 := hid ((XX1.out).fr f)
      have VV2 := hid ((VV1.out).fr f)
      clear f F1 GX1 GW1 XX1 VV1 HZ1 x0 hxl
      cases z with
      | false =>
        have hp := HP.out
        rw [if_pos rfl] at hp
        subst hp
        go_wp2_with (first | refine ldG Tryz.underlying82 HIX.out (rangeL GX2.out) HLX.out ?_ | refine ldW Tryz.underlying82 HIX.out (rangeL GX2.out) HLX.out ?_)
        refine (none39_any _).mono ?_
        rintro e W3 ⟨rfl, f⟩
        have F3 := hid (F2.out.trans f (fun _ _ h => h))
        have GX3 := hid (GX2.out.fr f (fun x => x))
        have GW3 := hid (GW2.out.fr f (fun x => x))
        have XX3 := hid ((XX2.out).fr f)
        have VV3 := hid ((VV2.out).fr f)
        have q0 := GW3.out.cell 0
        have q1 := GW3.out.cell 1
        have f0 := GW3.out.frozen 0
        have f1 := GW3.out.frozen 1
        clear f
        go_wp2
        refine fn_ret (x := .bool false) rfl rfl rfl ((GW3.out.set_ 0 _).set_ 1 _) rfl ?_
        exact sig_fin (o := none) (c1 := 0) (c2 := 0) _ _ HS.out (by omega) ⟨.inl rfl, .inl rfl⟩ F3.out rfl rfl
      | true =>
        have hp := HP.out
        rw [if_neg (by decide)] at hp
        replace HP := hid hp
        clear hp
        have HR := hid (fun W => ref06_any t W)
        generalize rfB t = rb at *
        go_wp2_with (first | refine ldG Tryz.underlying82 HIX.out (rangeL GX2.out) HLX.out ?_ | refine ldW Tryz.underlying82 HIX.out (rangeL GX2.out) HLX.out ?_)
        refine (HR.out _).mono ?_
        rintro e w' ⟨rfl, rfl⟩
        clear HR
        cases rb with
        | false =>
          have hp := HP.out
          rw [if_neg (by decide)] at hp
          subst hp
          go_wp2_with (first | refine ldG Tryz.underlying82 HIX.out (rangeL GX2.out) HLX.out ?_ | refine ldW Tryz.underlying82 HIX.out (rangeL GX2.out) HLX.out ?_)
          refine (none39_any _).mono ?_
          rintro e W3 ⟨rfl, f⟩
          have F3 := hid (F2.out.trans f (fun _ _ h => h))
          have GX3 := hid (GX2.out.fr f (fun x => x))
          have GW3 := hid (GW2.out.fr f (fun x => x))
          have XX3 := hid ((XX2.out).fr f)
          have VV3 := hid ((VV2.out).fr f)
          have q0 := GW3.out.cell 0
          have q1 := GW3.out.cell 1
          have f0 := GW3.out.frozen 0
          have f1 := GW3.out.frozen 1
          clear f
          go_wp2
          refine fn_ret (x := .bool false) rfl rfl rfl ((GW3.out.set_ 0 _).set_ 1 _) rfl ?_
          exact sig_fin (o := none) (c1 := 0) (c2 := 0) _ _ HS.out (by omega) ⟨.inl rfl, .inl rfl⟩ F3.out rfl rfl
        | true =>
          have hp := HP.out
          rw [if_pos rfl] at hp
          subst hp
          have hq := GW2.out.lt
          go_wp2_with (first | refine ldG Tryz.underlying82 HIX.out (rangeL GX2.out) HLX.out ?_ | refine ldW Tryz.underlying82 HIX.out (rangeL GX2.out) HLX.out ?_)
          refine (fn39_any _ _ _ _ _ _ _).mono ?_
          rintro e W3 ⟨rfl, f⟩
          have F3 := hid ((F2.out.alloc _).trans f (fun _ _ h => h))
          have GX3 := hid ((GX2.out.alloc _).fr f (fun x => x))
          have GW3 := hid ((GW2.out.alloc _).fr f (fun x => x))
          have XX3 := hid ((XX2.out.fr (((Fr.refl No W2).alloc _))).fr f)
          have VV3 := hid ((VV2.out.fr (((Fr.refl No W2).alloc _))).fr f)
          have q0 := GW3.out.cell 0
          have q1 := GW3.out.cell 1
          have f0 := GW3.out.frozen 0
          have f1 := GW3.out.frozen 1
          have FT : FnAt S ((w.heap.size + 1) + 1) W3 none _ (fnD (some ⟨[], [t]⟩)) := ⟨.inl rfl, lits_els (l := [t]) ((Blk.new _ 59 #[.int .i64 t]).fr f (fun x => x)) (by omega) (by intro y hy; simp only [List.mem_cons, List.not_mem_nil, or_false] at hy; rcases hy with rfl <;> first | decide | exact hv.out)⟩
          clear f
          go_wp2
          refine fn_ret (x := .bool true) rfl rfl rfl ((GW3.out.set_ 0 _).set_ 1 _) rfl ?_
          exact sig_fin (o := some ⟨[], [t]⟩) _ _ HS.out (by omega) FT F3.out rfl rfl
  · have hp := HP.out
    rw [if_neg (by omega), if_neg (by omega), if_neg (by omega), if_pos h0] at hp
    replace HP := hid hp
    rw [h0] at x0
    clear hp h0
    go_wp2_with (first | refine ldG Tryz.underlying82 HIX.out (rangeL GX1.out) HLX.out ?_ | refine ldW Tryz.underlying82 HIX.out (rangeL GX1.out) HLX.out ?_)
    refine (HFI.out _ XX1.out VV1.out).mono ?_
    rintro e W2 ⟨rfl, f⟩
    have F2 := hid (F1.out.trans f (fun _ _ h => h))
    have GX2 := hid (GX1.out.fr f (fun x => x))
    have GW2 := hid (GW1.out.fr f (fun x => x))
    have XX2 := hid ((XX1.out).fr f)
    have VV2 := hid ((VV1.out).fr f)
    clear f F1 GX1 GW1 XX1 VV1 HFI x0 hxl
    cases fi with
    | none =>
      simp only [Option.getD_none, Option.isSome_none]
      have hp := HP.out
      dsimp only at hp
      subst hp
      go_wp2_with (first | refine ldG Tryz.underlying82 HIX.out (rangeL GX2.out) HLX.out ?_ | refine ldW Tryz.underlying82 HIX.out (rangeL GX2.out) HLX.out ?_)
      refine (none39_any _).mono ?_
      rintro e W3 ⟨rfl, f⟩
      have F3 := hid (F2.out.trans f (fun _ _ h => h))
      have GX3 := hid (GX2.out.fr f (fun x => x))
      have GW3 := hid (GW2.out.fr f (fun x => x))
      have XX3 := hid ((XX2.out).fr f)
      have VV3 := hid ((VV2.out).fr f)
      have q0 := GW3.out.cell 0
      have q1 := GW3.out.cell 1
      have f0 := GW3.out.frozen 0
      have f1 := GW3.out.frozen 1
      clear f
      go_wp2
      refine fn_ret (x := .bool false) rfl rfl rfl ((GW3.out.set_ 0 _).set_ 1 _) rfl ?_
      exact sig_fin (o := none) (c1 := 0) (c2 := 0) _ _ HS.out (by omega) ⟨.inl rfl, .inl rfl⟩ F3.out rfl rfl
    | some t =>
      simp only [Option.getD_some, Option.isSome_some]
      have hv := hid (HFF.out t rfl)
      have hp := HP.out
      dsimp only at hp
      replace HP := hid hp
      clear hp
      have HZ1 := hid (HZ.out false false false false)
      generalize zeroB x false false false false = z at *
      clear HZ
      go_wp2_with (first | refine ldG Tryz.underlying82 HIX.out (rangeL GX2.out) HLX.out ?_ | refine ldW Tryz.underlying82 HIX.out (rangeL GX2.out) HLX.out ?_)
      refine (HZ1.out _ XX2.out).mono ?_
      rintro e W3 ⟨rfl, f⟩
      have F3 := hid (F2.out.trans f (fun _ _ h => h))
      have GX3 := hid (GX2.out.fr f (fun x => x))
      have GW3 := hid (GW2.out.fr f (fun x => x))
      have XX3 := hid ((XX2.out).fr f)
      have VV3 := hid ((VV2.out).fr f)
      clear f F2 GX2 GW2 XX2 VV2 HZ1
      cases z with
      | false =>
        have hp := HP.out
        rw [if_pos rfl] at hp
        subst hp
        go_wp2_with (first | refine ldG Tryz.underlying82 HIX.out (rangeL GX3.out) HLX.out ?_ | refine ldW Tryz.underlying82 HIX.out (rangeL GX3.out) HLX.out ?_)
        refine (none39_any _).mono ?_
        rintro e W4 ⟨rfl, f⟩
        have F4 := hid (F3.out.trans f (fun _ _ h => h))
        have GX4 := hid (GX3.out.fr f (fun x => x))
        have GW4 := hid (GW3.out.fr f (fun x => x))
        have XX4 := hid ((XX3.out).fr f)
        have VV4 := hid ((VV3.out).fr f)
        have q0 := GW4.out.cell 0
        have q1 := GW4.out.cell 1
        have f0 := GW4.out.frozen 0
        have f1 := GW4.out.frozen 1
        clear f
        go_wp2
        refine fn_ret (x := .bool false) rfl rfl rfl ((GW4.out.set_ 0 _).set_ 1 _) rfl ?_
        exact sig_fin (o := none) (c1 := 0) (c2 := 0) _ _ HS.out (by omega) ⟨.inl rfl, .inl rfl⟩ F4.out rfl rfl
      | true =>
        have hp := HP.out
        rw [if_neg (by decide)] at hp
        replace HP := hid hp
        clear hp
        have hp := HP.out
        subst hp
        have hq := GW3.out.lt
        go_wp2_with (first | refine ldG Tryz.underlying82 HIX.out (rangeL GX3.out) HLX.out ?_ | refine ldW Tryz.underlying82 HIX.out (rangeL GX3.out) HLX.out ?_)
        refine (fn39_any _ _ _ _ _ _ _).mono ?_
        rintro e W4 ⟨rfl, f⟩
        have F4 := hid (((F3.out.alloc _).alloc _).trans f (fun _ _ h => h))
        have GX4 := hid (((GX3.out.alloc _).alloc _).fr f (fun x => x))
        have GW4 := hid (((GW3.out.alloc _).alloc _).fr f (fun x => x))
        have XX4 := hid ((XX3.out.fr ((((Fr.refl No W3).alloc _).alloc _))).fr f)
        have VV4 := hid ((VV3.out.fr ((((Fr.refl No W3).alloc _).alloc _))).fr f)
        have q0 := GW4.out.cell 0
        have q1 := GW4.out.cell 1
        have f0 := GW4.out.frozen 0
        have f1 := GW4.out.frozen 1
        have FT : FnAt S ((w.heap.size + 1) + 1) W4 _ _ (fnD (some ⟨[t, t, 1], [t]⟩)) := ⟨lits_els (l := [t, t, 1]) (((Blk.new _ 59 #[.int .i64 t, .int .i64 t, .int .i64 1]).alloc _).fr f (fun x => x)) (by omega) (by intro y hy; simp only [List.mem_cons, List.not_mem_nil, or_false] at hy; rcases hy with rfl | rfl | rfl <;> first | decide | exact hv.out), lits_els (l := [t]) ((Blk.new1 _ _ 59 #[.int .i64 t]).fr f (fun x => x)) (by omega) (by intro y hy; simp only [List.mem_cons, List.not_mem_nil, or_false] at hy; rcases hy with rfl <;> first | decide | exact hv.out)⟩
        clear f
        go_wp2
        refine fn_ret (x := .bool true) rfl rfl rfl ((GW4.out.set_ 0 _).set_ 1 _) rfl ?_
        exact sig_fin (o := some ⟨[t, t, 1], [t]⟩) _ _ HS.out (by omega) FT F4.out rfl rfl
  · have hp := HP.out
    rw [if_neg (by omega), if_neg (by omega), if_neg (by omega), if_neg (by omega)] at hp
    replace HP := hid hp
    rw [h0] at x0
    clear hp h0
    go_wp2_with (first | refine ldG Tryz.underlying82 HIX.out (rangeL GX1.out) HLX.out ?_ | refine ldW Tryz.underlying82 HIX.out (rangeL GX1.out) HLX.out ?_)
    refine (HFI.out _ XX1.out VV1.out).mono ?_
    rintro e W2 ⟨rfl, f⟩
    have F2 := hid (F1.out.trans f (fun _ _ h => h))
    have GX2 := hid (GX1.out.fr f (fun x => x))
    have GW2 := hid (GW1.out.fr f (fun x => x))
    have XX2 := hid ((XX1.out).fr f)
    have VV2 := hid ((VV1.out).fr f)
    clear f F1 GX1 GW1 XX1 VV1 HFI x0 hxl
    cases fi with
    | none =>
      simp only [Option.getD_none, Option.isSome_none]
      have hp := HP.out
      dsimp only at hp
      subst hp
      go_wp2_with (first | refine ldG Tryz.underlying82 HIX.out (rangeL GX2.out) HLX.out ?_ | refine ldW Tryz.underlying82 HIX.out (rangeL GX2.out) HLX.out ?_)
      refine (none39_any _).mono ?_
      rintro e W3 ⟨rfl, f⟩
      have F3 := hid (F2.out.trans f (fun _ _ h => h))
      have GX3 := hid (GX2.out.fr f (fun x => x))
      have GW3 := hid (GW2.out.fr f (fun x => x))
      have XX3 := hid ((XX2.out).fr f)
      have VV3 := hid ((VV2.out).fr f)
      have q0 := GW3.out.cell 0
      have q1 := GW3.out.cell 1
      have f0 := GW3.out.frozen 0
      have f1 := GW3.out.frozen 1
      clear f
      go_wp2
      refine fn_ret (x := .bool false) rfl rfl rfl ((GW3.out.set_ 0 _).set_ 1 _) rfl ?_
      exact sig_fin (o := none) (c1 := 0) (c2 := 0) _ _ HS.out (by omega) ⟨.inl rfl, .inl rfl⟩ F3.out rfl rfl
    | some t =>
      simp only [Option.getD_some, Option.isSome_some]
      have hv := hid (HFF.out t rfl)
      have hp := HP.out
      dsimp only at hp
      replace HP := hid hp
      clear hp
      have HZ1 := hid (HZ.out false false false false)
      generalize zeroB x false false false false = z at *
      clear HZ
      go_wp2_with (first | refine ldG Tryz.underlying82 HIX.out (rangeL GX2.out) HLX.out ?_ | refine ldW Tryz.underlying82 HIX.out (rangeL GX2.out) HLX.out ?_)
      refine (HZ1.out _ XX2.out).mono ?_
      rintro e W3 ⟨rfl, f⟩
      have F3 := hid (F2.out.trans f (fun _ _ h => h))
      have GX3 := hid (GX2.out.fr f (fun x => x))
      have GW3 := hid (GW2.out.fr f (fun x => x))
      have XX3 := hid ((XX2.out).fr f)
      have VV3 := hid ((VV2.out).fr f)
      clear f F2 GX2 GW2 XX2 VV2 HZ1
      cases z with
      | false =>
        have hp := HP.out
        rw [if_pos rfl] at hp
        subst hp
        go_wp2_with (first | refine ldG Tryz.underlying82 HIX.out (rangeL GX3.out) HLX.out ?_ | refine ldW Tryz.underlying82 HIX.out (rangeL GX3.out) HLX.out ?_)
        refine (none39_any _).mono ?_
        rintro e W4 ⟨rfl, f⟩
        have F4 := hid (F3.out.trans f (fun _ _ h => h))
        have GX4 := hid (GX3.out.fr f (fun x => x))
        have GW4 := hid (GW3.out.fr f (fun x => x))
        have XX4 := hid ((XX3.out).fr f)
        have VV4 := hid ((VV3.out).fr f)
        have q0 := GW4.out.cell 0
        have q1 := GW4.out.cell 1
        have f0 := GW4.out.frozen 0
        have f1 := GW4.out.frozen 1
        clear f
        go_wp2
        refine fn_ret (x := .bool false) rfl rfl rfl ((GW4.out.set_ 0 _).set_ 1 _) rfl ?_
        exact sig_fin (o := none) (c1 := 0) (c2 := 0) _ _ HS.out (by omega) ⟨.inl rfl, .inl rfl⟩ F4.out rfl rfl
      | true =>
        have hp := HP.out
        rw [if_neg (by decide)] at hp
        replace HP := hid hp
        clear hp
        have HR := hid (fun W => ref06_any t W)
        generalize rfB t = rb at *
        go_wp2_with (first | refine ldG Tryz.underlying82 HIX.out (rangeL GX3.out) HLX.out ?_ | refine ldW Tryz.underlying82 HIX.out (rangeL GX3.out) HLX.out ?_)
        refine (HR.out _).mono ?_
        rintro e w' ⟨rfl, rfl⟩
        clear HR
        cases rb with
        | false =>
          have hp := HP.out
          rw [if_neg (by decide)] at hp
          subst hp
          go_wp2_with (first | refine ldG Tryz.underlying82 HIX.out (rangeL GX3.out) HLX.out ?_ | refine ldW Tryz.underlying82 HIX.out (rangeL GX3.out) HLX.out ?_)
          refine (none39_any _).mono ?_
          rintro e W4 ⟨rfl, f⟩
          have F4 := hid (F3.out.trans f (fun _ _ h => h))
          have GX4 := hid (GX3.out.fr f (fun x => x))
          have GW4 := hid (GW3.out.fr f (fun x => x))
          have XX4 := hid ((XX3.out).fr f)
          have VV4 := hid ((VV3.out).fr f)
          have q0 := GW4.out.cell 0
          have q1 := GW4.out.cell 1
          have f0 := GW4.out.frozen 0
          have f1 := GW4.out.frozen 1
          clear f
          go_wp2
          refine fn_ret (x := .bool false) rfl rfl rfl ((GW4.out.set_ 0 _).set_ 1 _) rfl ?_
          exact sig_fin (o := none) (c1 := 0) (c2 := 0) _ _ HS.out (by omega) ⟨.inl rfl, .inl rfl⟩ F4.out rfl rfl
        | true =>
          have hp := HP.out
          rw [if_pos rfl] at hp
          subst hp
          have hq := GW3.out.lt
          go_wp2_with (first | refine ldG Tryz.underlying82 HIX.out (rangeL GX3.out) HLX.out ?_ | refine ldW Tryz.underlying82 HIX.out (rangeL GX3.out) HLX.out ?_)
          refine (fn39_any _ _ _ _ _ _ _).mono ?_
          rintro e W4 ⟨rfl, f⟩
          have F4 := hid (((F3.out.alloc _).alloc _).trans f (fun _ _ h => h))
          have GX4 := hid (((GX3.out.alloc _).alloc _).fr f (fun x => x))
          have GW4 := hid (((GW3.out.alloc _).alloc _).fr f (fun x => x))
          have XX4 := hid ((XX3.out.fr ((((Fr.refl No W3).alloc _).alloc _))).fr f)
          have VV4 := hid ((VV3.out.fr ((((Fr.refl No W3).alloc _).alloc _))).fr f)
          have q0 := GW4.out.cell 0
          have q1 := GW4.out.cell 1
          have f0 := GW4.out.frozen 0
          have f1 := GW4.out.frozen 1
          have FT : FnAt S ((w.heap.size + 1) + 1) W4 _ _ (fnD (some ⟨[t], [1]⟩)) := ⟨lits_els (l := [t]) (((Blk.new _ 59 #[.int .i64 t]).alloc _).fr f (fun x => x)) (by omega) (by intro y hy; simp only [List.mem_cons, List.not_mem_nil, or_false] at hy; rcases hy with rfl <;> first | decide | exact hv.out), lits_els (l := [1]) ((Blk.new1 _ _ 59 #[.int .i64 1]).fr f (fun x => x)) (by omega) (by intro y hy; simp only [List.mem_cons, List.not_mem_nil, or_false] at hy; rcases hy with rfl <;> first | decide | exact hv.out)⟩
          clear f
          go_wp2
          refine fn_ret (x := .bool true) rfl rfl rfl ((GW4.out.set_ 0 _).set_ 1 _) rfl ?_
          exact sig_fin (o := some ⟨[t], [1]⟩) _ _ HS.out (by omega) FT F4.out rfl rfl
end Go.Proofs.YtiafkakkbbclhaaGreat
namespace Go.Proofs.YtiafkakkbbclhaaGreat
open Go.RowKit
def mem39O (m : Md) (x : Si) : Option Fn :=
  if x.kind = 8 then (if (memD m x.b).2 = false then none else if zeroB x true true true false = false then none else if x.a < 1 then none else if 8 < x.a then none else if 4294967296 ≤ x.n then none else some ⟨[1], []⟩)
  else if x.kind = 9 then (if zeroB x false true false false = true then wantsO m 63 0 x.b 0 else none)
  else if x.kind = 10 then (if zeroB x false true false false = true then wantsO m 64 0 x.b 0 else none)
  else if zeroB x false true true true = false then none else if ofR x.op = 17 then (if loadB x.op = (x.kind == 6) then wantsO m x.op 0 x.b x.n else none) else none
theorem mem39_any {w : World} {S : Nat → Prop} {xc : List Value} {x : Si} {mc : List Value} {m : Md} (h : XW w S xc x) (hm : MW w S mc m) (B : MdB m) (hd : m.datas ≤ 1000000000000) (hk : x.kind = 6 ∨ x.kind = 7 ∨ x.kind = 8 ∨ x.kind = 9 ∨ x.kind = 10) : Calls Tryz.prog 42 #[.agg mc.toArray, .agg xc.toArray] w (SigTo S (mem39O m x) w) := by
  have HZ := hid (fun (a b n op : Bool) W (k : XW W S xc x) => zero_any k a b n op)
  have HMM := hid (fun W (k : MW W S mc m) => oMem k B x.b h.rng.2)
  have HWN : Hid (∀ (op a b n : Int) (W : World), MW W S mc m → OpOk op a → Calls Tryz.prog 58 #[.agg mc.toArray, .int .i64 op, .int .i64 a, .int .i64 b, .int .u64 n] W (SigTo S (wantsO m op a b n) W)) := hid fun op a b n W k ho => wants39_any k B op a b n hd ho
  have HO := hid (fun W => of_any x.op W)
  have HL := hid (fun W => load39_any x.op W)
  have HOP : Hid (ofR x.op = 17 → OpOk x.op 0) := hid fun h => .inl ⟨h, rfl⟩
  generalize hP : mem39O m x = P
  rw [mem39O] at hP
  have HP := hid hP
  clear hP hd B
  generalize wantsO m = wo at *
  obtain ⟨F0, GM0, GX0, GW0⟩ := bxMX w mc xc
  obtain ⟨e0, e1, e2, e3, e4⟩ := h.ints
  have E0 := hid e0
  have E1 := hid e1
  have E2 := hid e2
  have E3 := hid e3
  have E4 := hid e4
  have XX0 := hid (h.fr F0.out)
  have HIX : Hid ((Tryz.prog.info? 82).map (·.size) = some 7) := by unfold Hid; kernel_rfl
  have HLX := hid h.len
  have HS := hid h.lt
  have HW0 := hid (hm.fr F0.out)
  have HIM : Hid ((Tryz.prog.info? 33).map (·.size) = some 12) := by unfold Hid; kernel_rfl
  have HLM := hid hm.len
  clear e0 e1 e2 e3 e4 h hm 
  go_enter Tryz.func42, Tryz.ntmps42
  go_upto_region 1 with fail
  generalize (((w.alloc (.cells mc.toArray 33)).alloc (.cells xc.toArray 82)).alloc (.cells #[.slice none 0 0, .slice none 0 0] 36)) = W0 at *
  have hxl := GX0.out.lt
  have x0 := GX0.out.at_ E0.out
  rcases hk with h0 | h0 | h0 | h0 | h0
  · have hp := HP.out
    rw [if_neg (by omega), if_neg (by omega), if_neg (by omega)] at hp
    rw [h0] at hp x0 E0
    replace HP := hid hp
    have HZ1 := hid (HZ.out false true true true)
    generalize zeroB x false true true true = z at *
    generalize ofR x.op = k at *
    generalize loadB x.op = lb at *
    clear hp HZ HMM h0
    go_upto_region 4 with fail
    have HX : Hid (∀ X, Fr No W0 X → X.cell? ⟨w.heap.size + 1, 0, none⟩ = some (.int .i64 6) ∧ X.cell? ⟨w.heap.size + 1, 1, none⟩ = some (.int .i64 x.op)) := hid fun X f => by
      have h := GX0.out.fr f (fun x => x)
      exact ⟨h.at_ E0.out, h.at_ E1.out⟩
    have HR : Hid (∀ X, Fr No W0 X → X.rangeAt (w.heap.size + 1) 0 xc) := hid fun X f => rangeL (GX0.out.fr f (fun x => x))
    refine wp_region_ord (Fr No W0) [] [(0, true), (1, false), (2, true), (3, true), (4, true), (5, true), (6, false), (7, true), (8, true), (9, true), (10, true), (11, true), (13, true), (14, true), (15, true), (12, false), (16, true), (17, true)] (by kernel_rfl) (by kernel_rfl) (by kernel_rfl) rfl ((Fr.refl _ W0).drew) ?_
    have FD := hid (Fr.refl No W0).drew
    generalize W0.drew = wd at *
    clear x0 hxl
    refine wpO_load rfl rfl 82 _ rfl (w.heap.size + 1) 0 rfl xc _ HR.out Tryz.underlying82 rfl (by rw [HLX.out]; exact HIX.out) ?_
    simp only [List.getElem_toArray, List.getElem_cons_succ, List.getElem_cons_zero, Act.put, List.setIfInBounds_toArray, List.set_cons_zero, List.set_cons_succ]
    refine wpO_eff rfl rfl (fun K hK => ?_)
    simp only [zA]
    go_simp
    refine (HZ1.out _ (XX0.out.fr FD.out)).mono ?_
    rintro e wa ⟨rfl, f⟩
    have FA := hid (FD.out.trans f (fun _ _ h => h))
    clear f HZ1
    refine hK _ _ (fun _ => FA.out) ?_
    clear hK K
    cases z with
    | false =>
      repeat (first | refine oS ?_ | refine oX HX.out ?_)
      refine wpO_skipE rfl rfl FA.out ?_
      simp only [List.getElem_toArray, List.getElem_cons_succ, List.getElem_cons_zero, Act.put, List.setIfInBounds_toArray, List.set_cons_zero, List.set_cons_succ]
      repeat (first | refine oS ?_ | refine oX HX.out ?_)
      refine wpO_skipE rfl rfl FA.out ?_
      simp only [List.getElem_toArray, List.getElem_cons_succ, List.getElem_cons_zero, Act.put, List.setIfInBounds_toArray, List.set_cons_zero, List.set_cons_succ]
      repeat (first | refine oS ?_ | refine oX HX.out ?_)
      refine wpO_nil ?_
      have F1 := hid (F0.out.trans FA.out (fun _ _ h => h))
      have GX1 := hid (GX0.out.fr FA.out (fun x => x))
      have GW1 := hid (GW0.out.fr FA.out (fun x => x))
      have XX1 := hid (XX0.out.fr FA.out)
      have GM1 := hid (GM0.out.fr FA.out (fun x => x))
      have HW1 := hid (HW0.out.fr FA.out)
      clear HX HR FD F0 GX0 GW0 XX0 GM0 HW0
      generalize wa = W1 at *
      have hp := HP.out
      rw [if_pos rfl] at hp
      subst hp
      go_wp2_with (first | refine ldG Tryz.underlying82 HIX.out (rangeL GX1.out) HLX.out ?_ | refine ldG Tryz.underlying33 HIM.out (rangeL GM1.out) HLM.out ?_ | refine ldW Tryz.underlying82 HIX.out (rangeL GX1.out) HLX.out ?_)
      refine (none39_any _).mono ?_
      rintro e W2 ⟨rfl, f⟩
      have F2 := hid (F1.out.trans f (fun _ _ h => h))
      have GX2 := hid (GX1.out.fr f (fun x => x))
      have GW2 := hid (GW1.out.fr f (fun x => x))
      have XX2 := hid ((XX1.out).fr f)
      have GM2 := hid (GM1.out.fr f (fun x => x))
      have HW2 := hid ((HW1.out).fr f)
      have q0 := GW2.out.cell 0
      have q1 := GW2.out.cell 1
      have f0 := GW2.out.frozen 0
      have f1 := GW2.out.frozen 1
      clear f
      go_wp2
      refine fn_ret (x := .bool false) rfl rfl rfl ((GW2.out.set_ 0 _).set_ 1 _) rfl ?_
      exact sig_fin (o := none) (c1 := 0) (c2 := 0) _ _ HS.out (by omega) ⟨.inl rfl, .inl rfl⟩ F2.out rfl rfl
    | true =>
      have hp := HP.out
      rw [if_neg (by decide)] at hp
      replace HP := hid hp
      clear hp
      repeat (first | refine oS ?_ | refine oX HX.out ?_)
      refine wpO_eff rfl rfl (fun K hK => ?_)
      simp only [zA]
      go_simp
      refine (HO.out _).mono ?_
      rintro e wb ⟨rfl, f⟩
      have FB := hid (FA.out.trans f (fun _ _ h => h))
      clear f
      refine hK _ _ (fun _ => FB.out) ?_
      clear hK K
      by_cases hk : k = 17
      · subst hk
        have hp := HP.out
        rw [if_pos rfl] at hp
        replace HP := hid hp
        clear hp
        repeat (first | refine oS ?_ | refine oX HX.out ?_)
        refine wpO_eff rfl rfl (fun K hK => ?_)
        simp only [zA]
        go_simp
        refine (HL.out _).mono ?_
        rintro e wc ⟨rfl, f⟩
        have FC := hid (FB.out.trans f (fun _ _ h => h))
        clear f
        refine hK _ _ (fun _ => FC.out) ?_
        clear hK K
        cases lb with
        | false =>
          repeat (first | refine oS ?_ | refine oX HX.out ?_)
          refine wpO_nil ?_
          have F1 := hid (F0.out.trans FC.out (fun _ _ h => h))
          have GX1 := hid (GX0.out.fr FC.out (fun x => x))
          have GW1 := hid (GW0.out.fr FC.out (fun x => x))
          have XX1 := hid (XX0.out.fr FC.out)
          have GM1 := hid (GM0.out.fr FC.out (fun x => x))
          have HW1 := hid (HW0.out.fr FC.out)
          clear HX HR FD F0 GX0 GW0 XX0 GM0 HW0
          generalize wc = W1 at *
          have hp := HP.out
          rw [if_neg (by decide)] at hp
          subst hp
          go_wp2_with (first | refine ldG Tryz.underlying82 HIX.out (rangeL GX1.out) HLX.out ?_ | refine ldG Tryz.underlying33 HIM.out (rangeL GM1.out) HLM.out ?_ | refine ldW Tryz.underlying82 HIX.out (rangeL GX1.out) HLX.out ?_)
          refine (none39_any _).mono ?_
          rintro e W2 ⟨rfl, f⟩
          have F2 := hid (F1.out.trans f (fun _ _ h => h))
          have GX2 := hid (GX1.out.fr f (fun x => x))
          have GW2 := hid (GW1.out.fr f (fun x => x))
          have XX2 := hid ((XX1.out).fr f)
          have GM2 := hid (GM1.out.fr f (fun x => x))
          have HW2 := hid ((HW1.out).fr f)
          have q0 := GW2.out.cell 0
          have q1 := GW2.out.cell 1
          have f0 := GW2.out.frozen 0
          have f1 := GW2.out.frozen 1
          clear f
          go_wp2
          refine fn_ret (x := .bool false) rfl rfl rfl ((GW2.out.set_ 0 _).set_ 1 _) rfl ?_
          exact sig_fin (o := none) (c1 := 0) (c2 := 0) _ _ HS.out (by omega) ⟨.inl rfl, .inl rfl⟩ F2.out rfl rfl
        | true =>
          repeat (first | refine oS ?_ | refine oX HX.out ?_)
          refine wpO_nil ?_
          have F1 := hid (F0.out.trans FC.out (fun _ _ h => h))
          have GX1 := hid (GX0.out.fr FC.out (fun x => x))
          have GW1 := hid (GW0.out.fr FC.out (fun x => x))
          have XX1 := hid (XX0.out.fr FC.out)
          have GM1 := hid (GM0.out.fr FC.out (fun x => x))
          have HW1 := hid (HW0.out.fr FC.out)
          clear HX HR FD F0 GX0 GW0 XX0 GM0 HW0
          generalize wc = W1 at *
          have hp := HP.out
          rw [if_pos (by decide)] at hp
          replace HP := hid hp
          clear hp
          have hp := HP.out
          subst hp
          have hxl := GX1.out.lt
          have x1 := GX1.out.at_ E1.out
          have x3 := GX1.out.at_ E3.out
          have x4 := GX1.out.at_ E4.out
          have HW9 := hid (HWN.out x.op 0 x.b x.n)
          clear HWN HO HL
          have hq := GW1.out.lt
          go_wp2_with (first | refine ldG Tryz.underlying82 HIX.out (rangeL GX1.out) HLX.out ?_ | refine ldG Tryz.underlying33 HIM.out (rangeL GM1.out) HLM.out ?_ | refine ldW Tryz.underlying82 HIX.out (rangeL GX1.out) HLX.out ?_)
          refine (HW9.out _ HW1.out (HOP.out (by first | rfl | trivial))).mono ?_
          rintro e W2 ⟨A1, c1, A2, c2, rfl, ft, f⟩
          have F2 := hid (F1.out.trans f (fun _ _ h => h))
          have GX2 := hid (GX1.out.fr f (fun x => x))
          have GW2 := hid (GW1.out.fr f (fun x => x))
          have XX2 := hid ((XX1.out).fr f)
          have GM2 := hid (GM1.out.fr f (fun x => x))
          have HW2 := hid ((HW1.out).fr f)
          have q0 := GW2.out.cell 0
          have q1 := GW2.out.cell 1
          have f0 := GW2.out.frozen 0
          have f1 := GW2.out.frozen 1
          have FT := hid (ft.more (S' := S) (B' := (w.heap.size + 1 + 1) + 1) (fun _ h => h) hq)
          clear f ft
          go_wp2
          refine fn_ret rfl rfl rfl ((GW2.out.set_ 0 _).set_ 1 _) rfl ?_
          exact sig_fin (o := _) _ _ HS.out (by omega) FT.out F2.out rfl rfl
      · have d17 : (k == 17) = false := beq_eq_false_iff_ne.2 hk
        have d17b : (!(k == 17)) = true := by rw [d17]; rfl
        have d17c : (k != 17) = true := by rw [bne, d17]; rfl
        have hp := HP.out
        rw [if_neg hk] at hp
        replace HP := hid hp
        clear hp
        clear hk HOP
        repeat (first | refine oS ?_ | refine oX HX.out ?_)
        refine wpO_skipE rfl rfl FB.out ?_
        simp only [List.getElem_toArray, List.getElem_cons_succ, List.getElem_cons_zero, Act.put, List.setIfInBounds_toArray, List.set_cons_zero, List.set_cons_succ]
        repeat (first | refine oS ?_ | refine oX HX.out ?_)
        refine wpO_nil ?_
        have F1 := hid (F0.out.trans FB.out (fun _ _ h => h))
        have GX1 := hid (GX0.out.fr FB.out (fun x => x))
        have GW1 := hid (GW0.out.fr FB.out (fun x => x))
        have XX1 := hid (XX0.out.fr FB.out)
        have GM1 := hid (GM0.out.fr FB.out (fun x => x))
        have HW1 := hid (HW0.out.fr FB.out)
        clear HX HR FD F0 GX0 GW0 XX0 GM0 HW0
        generalize wb = W1 at *
        have hp := HP.out
        subst hp
        go_wp2_with (first | refine ldG Tryz.underlying82 HIX.out (rangeL GX1.out) HLX.out ?_ | refine ldG Tryz.underlying33 HIM.out (rangeL GM1.out) HLM.out ?_ | refine ldW Tryz.underlying82 HIX.out (rangeL GX1.out) HLX.out ?_)
        refine (none39_any _).mono ?_
        rintro e W2 ⟨rfl, f⟩
        have F2 := hid (F1.out.trans f (fun _ _ h => h))
        have GX2 := hid (GX1.out.fr f (fun x => x))
        have GW2 := hid (GW1.out.fr f (fun x => x))
        have XX2 := hid ((XX1.out).fr f)
        have GM2 := hid (GM1.out.fr f (fun x => x))
        have HW2 := hid ((HW1.out).fr f)
        have q0 := GW2.out.cell 0
        have q1 := GW2.out.cell 1
        have f0 := GW2.out.frozen 0
        have f1 := GW2.out.frozen 1
        clear f
        go_wp2
        refine fn_ret (x := .bool false) rfl rfl rfl ((GW2.out.set_ 0 _).set_ 1 _) rfl ?_
        exact sig_fin (o := none) (c1 := 0) (c2 := 0) _ _ HS.out (by omega) ⟨.inl rfl, .inl rfl⟩ F2.out rfl rfl
  · have hp := HP.out
    rw [if_neg (by omega), if_neg (by omega), if_neg (by omega)] at hp
    rw [h0] at hp x0 E0
    replace HP := hid hp
    have HZ1 := hid (HZ.out false true true true)
    generalize zeroB x false true true true = z at *
    generalize ofR x.op = k at *
    generalize loadB x.op = lb at *
    clear hp HZ HMM h0
    go_upto_region 4 with fail
    have HX : Hid (∀ X, Fr No W0 X → X.cell? ⟨w.heap.size + 1, 0, none⟩ = some (.int .i64 7) ∧ X.cell? ⟨w.heap.size + 1, 1, none⟩ = some (.int .i64 x.op)) := hid fun X f => by
      have h := GX0.out.fr f (fun x => x)
      exact ⟨h.at_ E0.out, h.at_ E1.out⟩
    have HR : Hid (∀ X, Fr No W0 X → X.rangeAt (w.heap.size + 1) 0 xc) := hid fun X f => rangeL (GX0.out.fr f (fun x => x))
    refine wp_region_ord (Fr No W0) [] [(0, true), (1, false), (2, true), (3, true), (4, true), (5, true), (6, false), (7, true), (8, true), (9, true), (10, true), (11, true), (13, true), (14, true), (15, true), (12, false), (16, true), (17, true)] (by kernel_rfl) (by kernel_rfl) (by kernel_rfl) rfl ((Fr.refl _ W0).drew) ?_
    have FD := hid (Fr.refl No W0).drew
    generalize W0.drew = wd at *
    clear x0 hxl
    refine wpO_load rfl rfl 82 _ rfl (w.heap.size + 1) 0 rfl xc _ HR.out Tryz.underlying82 rfl (by rw [HLX.out]; exact HIX.out) ?_
    simp only [List.getElem_toArray, List.getElem_cons_succ, List.getElem_cons_zero, Act.put, List.setIfInBounds_toArray, List.set_cons_zero, List.set_cons_succ]
    refine wpO_eff rfl rfl (fun K hK => ?_)
    simp only [zA]
    go_simp
    refine (HZ1.out _ (XX0.out.fr FD.out)).mono ?_
    rintro e wa ⟨rfl, f⟩
    have FA := hid (FD.out.trans f (fun _ _ h => h))
    clear f HZ1
    refine hK _ _ (fun _ => FA.out) ?_
    clear hK K
    cases z with
    | false =>
      repeat (first | refine oS ?_ | refine oX HX.out ?_)
      refine wpO_skipE rfl rfl FA.out ?_
      simp only [List.getElem_toArray, List.getElem_cons_succ, List.getElem_cons_zero, Act.put, List.setIfInBounds_toArray, List.set_cons_zero, List.set_cons_succ]
      repeat (first | refine oS ?_ | refine oX HX.out ?_)
      refine wpO_skipE rfl rfl FA.out ?_
      simp only [List.getElem_toArray, List.getElem_cons_succ, List.getElem_cons_zero, Act.put, List.setIfInBounds_toArray, List.set_cons_zero, List.set_cons_succ]
      repeat (first | refine oS ?_ | refine oX HX.out ?_)
      refine wpO_nil ?_
      have F1 := hid (F0.out.trans FA.out (fun _ _ h => h))
      have GX1 := hid (GX0.out.fr FA.out (fun x => x))
      have GW1 := hid (GW0.out.fr FA.out (fun x => x))
      have XX1 := hid (XX0.out.fr FA.out)
      have GM1 := hid (GM0.out.fr FA.out (fun x => x))
      have HW1 := hid (HW0.out.fr FA.out)
      clear HX HR FD F0 GX0 GW0 XX0 GM0 HW0
      generalize wa = W1 at *
      have hp := HP.out
      rw [if_pos rfl] at hp
      subst hp
      go_wp2_with (first | refine ldG Tryz.underlying82 HIX.out (rangeL GX1.out) HLX.out ?_ | refine ldG Tryz.underlying33 HIM.out (rangeL GM1.out) HLM.out ?_ | refine ldW Tryz.underlying82 HIX.out (rangeL GX1.out) HLX.out ?_)
      refine (none39_any _).mono ?_
      rintro e W2 ⟨rfl, f⟩
      have F2 := hid (F1.out.trans f (fun _ _ h => h))
      have GX2 := hid (GX1.out.fr f (fun x => x))
      have GW2 := hid (GW1.out.fr f (fun x => x))
      have XX2 := hid ((XX1.out).fr f)
      have GM2 := hid (GM1.out.fr f (fun x => x))
      have HW2 := hid ((HW1.out).fr f)
      have q0 := GW2.out.cell 0
      have q1 := GW2.out.cell 1
      have f0 := GW2.out.frozen 0
      have f1 := GW2.out.frozen 1
      clear f
      go_wp2
      refine fn_ret (x := .bool false) rfl rfl rfl ((GW2.out.set_ 0 _).set_ 1 _) rfl ?_
      exact sig_fin (o := none) (c1 := 0) (c2 := 0) _ _ HS.out (by omega) ⟨.inl rfl, .inl rfl⟩ F2.out rfl rfl
    | true =>
      have hp := HP.out
      rw [if_neg (by decide)] at hp
      replace HP := hid hp
      clear hp
      repeat (first | refine oS ?_ | refine oX HX.out ?_)
      refine wpO_eff rfl rfl (fun K hK => ?_)
      simp only [zA]
      go_simp
      refine (HO.out _).mono ?_
      rintro e wb ⟨rfl, f⟩
      have FB := hid (FA.out.trans f (fun _ _ h => h))
      clear f
      refine hK _ _ (fun _ => FB.out) ?_
      clear hK K
      by_cases hk : k = 17
      · subst hk
        have hp := HP.out
        rw [if_pos rfl] at hp
        replace HP := hid hp
        clear hp
        repeat (first | refine oS ?_ | refine oX HX.out ?_)
        refine wpO_eff rfl rfl (fun K hK => ?_)
        simp only [zA]
        go_simp
        refine (HL.out _).mono ?_
        rintro e wc ⟨rfl, f⟩
        have FC := hid (FB.out.trans f (fun _ _ h => h))
        clear f
        refine hK _ _ (fun _ => FC.out) ?_
        clear hK K
        cases lb with
        | false =>
          repeat (first | refine oS ?_ | refine oX HX.out ?_)
          refine wpO_nil ?_
          have F1 := hid (F0.out.trans FC.out (fun _ _ h => h))
          have GX1 := hid (GX0.out.fr FC.out (fun x => x))
          have GW1 := hid (GW0.out.fr FC.out (fun x => x))
          have XX1 := hid (XX0.out.fr FC.out)
          have GM1 := hid (GM0.out.fr FC.out (fun x => x))
          have HW1 := hid (HW0.out.fr FC.out)
          clear HX HR FD F0 GX0 GW0 XX0 GM0 HW0
          generalize wc = W1 at *
          have hp := HP.out
          rw [if_pos (by decide)] at hp
          replace HP := hid hp
          clear hp
          have hp := HP.out
          subst hp
          have hxl := GX1.out.lt
          have x1 := GX1.out.at_ E1.out
          have x3 := GX1.out.at_ E3.out
          have x4 := GX1.out.at_ E4.out
          have HW9 := hid (HWN.out x.op 0 x.b x.n)
          clear HWN HO HL
          have hq := GW1.out.lt
          go_wp2_with (first | refine ldG Tryz.underlying82 HIX.out (rangeL GX1.out) HLX.out ?_ | refine ldG Tryz.underlying33 HIM.out (rangeL GM1.out) HLM.out ?_ | refine ldW Tryz.underlying82 HIX.out (rangeL GX1.out) HLX.out ?_)
          refine (HW9.out _ HW1.out (HOP.out (by first | rfl | trivial))).mono ?_
          rintro e W2 ⟨A1, c1, A2, c2, rfl, ft, f⟩
          have F2 := hid (F1.out.trans f (fun _ _ h => h))
          have GX2 := hid (GX1.out.fr f (fun x => x))
          have GW2 := hid (GW1.out.fr f (fun x => x))
          have XX2 := hid ((XX1.out).fr f)
          have GM2 := hid (GM1.out.fr f (fun x => x))
          have HW2 := hid ((HW1.out).fr f)
          have q0 := GW2.out.cell 0
          have q1 := GW2.out.cell 1
          have f0 := GW2.out.frozen 0
          have f1 := GW2.out.frozen 1
          have FT := hid (ft.more (S' := S) (B' := (w.heap.size + 1 + 1) + 1) (fun _ h => h) hq)
          clear f ft
          go_wp2
          refine fn_ret rfl rfl rfl ((GW2.out.set_ 0 _).set_ 1 _) rfl ?_
          exact sig_fin (o := _) _ _ HS.out (by omega) FT.out F2.out rfl rfl
        | true =>
          repeat (first | refine oS ?_ | refine oX HX.out ?_)
          refine wpO_nil ?_
          have F1 := hid (F0.out.trans FC.out (fun _ _ h => h))
          have GX1 := hid (GX0.out.fr FC.out (fun x => x))
          have GW1 := hid (GW0.out.fr FC.out (fun x => x))
          have XX1 := hid (XX0.out.fr FC.out)
          have GM1 := hid (GM0.out.fr FC.out (fun x => x))
          have HW1 := hid (HW0.out.fr FC.out)
          clear HX HR FD F0 GX0 GW0 XX0 GM0 HW0
          generalize wc = W1 at *
          have hp := HP.out
          rw [if_neg (by decide)] at hp
          subst hp
          go_wp2_with (first | refine ldG Tryz.underlying82 HIX.out (rangeL GX1.out) HLX.out ?_ | refine ldG Tryz.underlying33 HIM.out (rangeL GM1.out) HLM.out ?_ | refine ldW Tryz.underlying82 HIX.out (rangeL GX1.out) HLX.out ?_)
          refine (none39_any _).mono ?_
          rintro e W2 ⟨rfl, f⟩
          have F2 := hid (F1.out.trans f (fun _ _ h => h))
          have GX2 := hid (GX1.out.fr f (fun x => x))
          have GW2 := hid (GW1.out.fr f (fun x => x))
          have XX2 := hid ((XX1.out).fr f)
          have GM2 := hid (GM1.out.fr f (fun x => x))
          have HW2 := hid ((HW1.out).fr f)
          have q0 := GW2.out.cell 0
          have q1 := GW2.out.cell 1
          have f0 := GW2.out.frozen 0
          have f1 := GW2.out.frozen 1
          clear f
          go_wp2
          refine fn_ret (x := .bool false) rfl rfl rfl ((GW2.out.set_ 0 _).set_ 1 _) rfl ?_
          exact sig_fin (o := none) (c1 := 0) (c2 := 0) _ _ HS.out (by omega) ⟨.inl rfl, .inl rfl⟩ F2.out rfl rfl
      · have d17 : (k == 17) = false := beq_eq_false_iff_ne.2 hk
        have d17b : (!(k == 17)) = true := by rw [d17]; rfl
        have d17c : (k != 17) = true := by rw [bne, d17]; rfl
        have hp := HP.out
        rw [if_neg hk] at hp
        replace HP := hid hp
        clear hp
        clear hk HOP
        repeat (first | refine oS ?_ | refine oX HX.out ?_)
        refine wpO_skipE rfl rfl FB.out ?_
        simp only [List.getElem_toArray, List.getElem_cons_succ, List.getElem_cons_zero, Act.put, List.setIfInBounds_toArray, List.set_cons_zero, List.set_cons_succ]
        repeat (first | refine oS ?_ | refine oX HX.out ?_)
        refine wpO_nil ?_
        have F1 := hid (F0.out.trans FB.out (fun _ _ h => h))
        have GX1 := hid (GX0.out.fr FB.out (fun x => x))
        have GW1 := hid (GW0.out.fr FB.out (fun x => x))
        have XX1 := hid (XX0.out.fr FB.out)
        have GM1 := hid (GM0.out.fr FB.out (fun x => x))
        have HW1 := hid (HW0.out.fr FB.out)
        clear HX HR FD F0 GX0 GW0 XX0 GM0 HW0
        generalize wb = W1 at *
        have hp := HP.out
        subst hp
        go_wp2_with (first | refine ldG Tryz.underlying82 HIX.out (rangeL GX1.out) HLX.out ?_ | refine ldG Tryz.underlying33 HIM.out (rangeL GM1.out) HLM.out ?_ | refine ldW Tryz.underlying82 HIX.out (rangeL GX1.out) HLX.out ?_)
        refine (none39_any _).mono ?_
        rintro e W2 ⟨rfl, f⟩
        have F2 := hid (F1.out.trans f (fun _ _ h => h))
        have GX2 := hid (GX1.out.fr f (fun x => x))
        have GW2 := hid (GW1.out.fr f (fun x => x))
        have XX2 := hid ((XX1.out).fr f)
        have GM2 := hid (GM1.out.fr f (fun x => x))
        have HW2 := hid ((HW1.out).fr f)
        have q0 := GW2.out.cell 0
        have q1 := GW2.out.cell 1
        have f0 := GW2.out.frozen 0
        have f1 := GW2.out.frozen 1
        clear f
        go_wp2
        refine fn_ret (x := .bool false) rfl rfl rfl ((GW2.out.set_ 0 _).set_ 1 _) rfl ?_
        exact sig_fin (o := none) (c1 := 0) (c2 := 0) _ _ HS.out (by omega) ⟨.inl rfl, .inl rfl⟩ F2.out rfl rfl
  · have hp := HP.out
    rw [if_pos h0] at hp
    rw [h0] at x0
    replace HP := hid hp
    have HZ1 := hid (HZ.out true true true false)
    generalize zeroB x true true true false = z at *
    generalize memD m x.b = g at *
    obtain ⟨⟨l1, l2, l3⟩, ok⟩ := g
    dsimp only [cLim] at HMM HP
    have hv : Hid True := hid trivial
    clear hp HZ h0
    have hxl := GX0.out.lt
    have x3 := GX0.out.at_ E3.out
    go_wp2_with (first | refine ldG Tryz.underlying82 HIX.out (rangeL GX0.out) HLX.out ?_ | refine ldG Tryz.underlying33 HIM.out (rangeL GM0.out) HLM.out ?_ | refine ldW Tryz.underlying82 HIX.out (rangeL GX0.out) HLX.out ?_)
    refine (HMM.out _ HW0.out).mono ?_
    rintro e W1 ⟨rfl, f⟩
    have F1 := hid (F0.out.trans f (fun _ _ h => h))
    have GX1 := hid (GX0.out.fr f (fun x => x))
    have GW1 := hid (GW0.out.fr f (fun x => x))
    have XX1 := hid ((XX0.out).fr f)
    have GM1 := hid (GM0.out.fr f (fun x => x))
    have HW1 := hid ((HW0.out).fr f)
    clear f F0 GX0 GW0 XX0 GM0 HW0 HMM x0 x3
    cases ok with
    | false =>
      have hp := HP.out
      rw [if_pos rfl] at hp
      subst hp
      go_wp2_with (first | refine ldG Tryz.underlying82 HIX.out (rangeL GX1.out) HLX.out ?_ | refine ldG Tryz.underlying33 HIM.out (rangeL GM1.out) HLM.out ?_ | refine ldW Tryz.underlying82 HIX.out (rangeL GX1.out) HLX.out ?_)
      refine (none39_any _).mono ?_
      rintro e W2 ⟨rfl, f⟩
      have F2 := hid ((F1.out.alloc _).trans f (fun _ _ h => h))
      have GX2 := hid ((GX1.out.alloc _).fr f (fun x => x))
      have GW2 := hid ((GW1.out.alloc _).fr f (fun x => x))
      have XX2 := hid ((XX1.out.fr (((Fr.refl No W1).alloc _))).fr f)
      have GM2 := hid ((GM1.out.alloc _).fr f (fun x => x))
      have HW2 := hid ((HW1.out.fr (((Fr.refl No W1).alloc _))).fr f)
      have q0 := GW2.out.cell 0
      have q1 := GW2.out.cell 1
      have f0 := GW2.out.frozen 0
      have f1 := GW2.out.frozen 1
      clear f
      go_wp2
      refine fn_ret (x := .bool false) rfl rfl rfl ((GW2.out.set_ 0 _).set_ 1 _) rfl ?_
      exact sig_fin (o := none) (c1 := 0) (c2 := 0) _ _ HS.out (by omega) ⟨.inl rfl, .inl rfl⟩ F2.out rfl rfl
    | true =>
      have hp := HP.out
      rw [if_neg (by decide)] at hp
      replace HP := hid hp
      clear hp
      go_upto_region 9 with fail
      have f := (Fr.refl No W1).alloc (.cells #[.int .i64 l1, .int .i64 l2, .bool l3] 121)
      have F2 := hid (F1.out.alloc (.cells #[.int .i64 l1, .int .i64 l2, .bool l3] 121))
      have GX2 := hid (GX1.out.alloc (.cells #[.int .i64 l1, .int .i64 l2, .bool l3] 121))
      have GW2 := hid (GW1.out.alloc (.cells #[.int .i64 l1, .int .i64 l2, .bool l3] 121))
      have XX2 := hid (XX1.out.fr f)
      have GM2 := hid (GM1.out.alloc (.cells #[.int .i64 l1, .int .i64 l2, .bool l3] 121))
      have HW2 := hid (HW1.out.fr f)
      clear f F1 GX1 GW1 XX1 GM1 HW1 
      generalize W1.alloc (.cells #[.int .i64 l1, .int .i64 l2, .bool l3] 121) = W2 at *
      go_wp2_with (first | refine ldG Tryz.underlying82 HIX.out (rangeL GX2.out) HLX.out ?_ | refine ldG Tryz.underlying33 HIM.out (rangeL GM2.out) HLM.out ?_ | refine ldW Tryz.underlying82 HIX.out (rangeL GX2.out) HLX.out ?_)
      refine (HZ1.out _ XX2.out).mono ?_
      rintro e W3 ⟨rfl, f⟩
      have F3 := hid (F2.out.trans f (fun _ _ h => h))
      have GX3 := hid (GX2.out.fr f (fun x => x))
      have GW3 := hid (GW2.out.fr f (fun x => x))
      have XX3 := hid ((XX2.out).fr f)
      have GM3 := hid (GM2.out.fr f (fun x => x))
      have HW3 := hid ((HW2.out).fr f)
      clear f F2 GX2 GW2 XX2 GM2 HW2 HZ1
      cases z with
      | false =>
        have hp := HP.out
        rw [if_pos rfl] at hp
        subst hp
        go_wp2_with (first | refine ldG Tryz.underlying82 HIX.out (rangeL GX3.out) HLX.out ?_ | refine ldG Tryz.underlying33 HIM.out (rangeL GM3.out) HLM.out ?_ | refine ldW Tryz.underlying82 HIX.out (rangeL GX3.out) HLX.out ?_)
        refine (none39_any _).mono ?_
        rintro e W4 ⟨rfl, f⟩
        have F4 := hid (F3.out.trans f (fun _ _ h => h))
        have GX4 := hid (GX3.out.fr f (fun x => x))
        have GW4 := hid (GW3.out.fr f (fun x => x))
        have XX4 := hid ((XX3.out).fr f)
        have GM4 := hid (GM3.out.fr f (fun x => x))
        have HW4 := hid ((HW3.out).fr f)
        have q0 := GW4.out.cell 0
        have q1 := GW4.out.cell 1
        have f0 := GW4.out.frozen 0
        have f1 := GW4.out.frozen 1
        clear f
        go_wp2
        refine fn_ret (x := .bool false) rfl rfl rfl ((GW4.out.set_ 0 _).set_ 1 _) rfl ?_
        exact sig_fin (o := none) (c1 := 0) (c2 := 0) _ _ HS.out (by omega) ⟨.inl rfl, .inl rfl⟩ F4.out rfl rfl
      | true =>
        have hp := HP.out
        rw [if_neg (by decide)] at hp
        replace HP := hid hp
        clear hp
        have hxl := GX3.out.lt
        have x2 := GX3.out.at_ E2.out
        have x4 := GX3.out.at_ E4.out
        generalize x.a = xa at *
        generalize x.n = xn at *
        by_cases h1 : xa < 1
        · have d1 : decide (xa < 1) = true := decide_eq_true h1
          have hp := HP.out
          rw [if_pos h1] at hp
          subst hp
          go_wp2_with (first | refine ldG Tryz.underlying82 HIX.out (rangeL GX3.out) HLX.out ?_ | refine ldG Tryz.underlying33 HIM.out (rangeL GM3.out) HLM.out ?_ | refine ldW Tryz.underlying82 HIX.out (rangeL GX3.out) HLX.out ?_)
          refine (none39_any _).mono ?_
          rintro e W4 ⟨rfl, f⟩
          have F4 := hid (F3.out.trans f (fun _ _ h => h))
          have GX4 := hid (GX3.out.fr f (fun x => x))
          have GW4 := hid (GW3.out.fr f (fun x => x))
          have XX4 := hid ((XX3.out).fr f)
          have GM4 := hid (GM3.out.fr f (fun x => x))
          have HW4 := hid ((HW3.out).fr f)
          have q0 := GW4.out.cell 0
          have q1 := GW4.out.cell 1
          have f0 := GW4.out.frozen 0
          have f1 := GW4.out.frozen 1
          clear f
          go_wp2
          refine fn_ret (x := .bool false) rfl rfl rfl ((GW4.out.set_ 0 _).set_ 1 _) rfl ?_
          exact sig_fin (o := none) (c1 := 0) (c2 := 0) _ _ HS.out (by omega) ⟨.inl rfl, .inl rfl⟩ F4.out rfl rfl
        · have d1 : decide (xa < 1) = false := decide_eq_false h1
          have hp := HP.out
          rw [if_neg h1] at hp
          replace HP := hid hp
          clear hp
          by_cases h8 : 8 < xa
          · have d8 : decide (8 < xa) = true := decide_eq_true h8
            have hp := HP.out
            rw [if_pos h8] at hp
            subst hp
            go_wp2_with (first | refine ldG Tryz.underlying82 HIX.out (rangeL GX3.out) HLX.out ?_ | refine ldG Tryz.underlying33 HIM.out (rangeL GM3.out) HLM.out ?_ | refine ldW Tryz.underlying82 HIX.out (rangeL GX3.out) HLX.out ?_)
            refine (none39_any _).mono ?_
            rintro e W4 ⟨rfl, f⟩
            have F4 := hid (F3.out.trans f (fun _ _ h => h))
            have GX4 := hid (GX3.out.fr f (fun x => x))
            have GW4 := hid (GW3.out.fr f (fun x => x))
            have XX4 := hid ((XX3.out).fr f)
            have GM4 := hid (GM3.out.fr f (fun x => x))
            have HW4 := hid ((HW3.out).fr f)
            have q0 := GW4.out.cell 0
            have q1 := GW4.out.cell 1
            have f0 := GW4.out.frozen 0
            have f1 := GW4.out.frozen 1
            clear f
            go_wp2
            refine fn_ret (x := .bool false) rfl rfl rfl ((GW4.out.set_ 0 _).set_ 1 _) rfl ?_
            exact sig_fin (o := none) (c1 := 0) (c2 := 0) _ _ HS.out (by omega) ⟨.inl rfl, .inl rfl⟩ F4.out rfl rfl
          · have d8 : decide (8 < xa) = false := decide_eq_false h8
            have hp := HP.out
            rw [if_neg h8] at hp
            replace HP := hid hp
            clear hp
            by_cases hn : 4294967296 ≤ xn
            · have dn : decide (4294967296 ≤ xn) = true := decide_eq_true hn
              have hp := HP.out
              rw [if_pos hn] at hp
              clear hn
              subst hp
              go_wp2_with (first | refine ldG Tryz.underlying82 HIX.out (rangeL GX3.out) HLX.out ?_ | refine ldG Tryz.underlying33 HIM.out (rangeL GM3.out) HLM.out ?_ | refine ldW Tryz.underlying82 HIX.out (rangeL GX3.out) HLX.out ?_)
              refine (none39_any _).mono ?_
              rintro e W4 ⟨rfl, f⟩
              have F4 := hid (F3.out.trans f (fun _ _ h => h))
              have GX4 := hid (GX3.out.fr f (fun x => x))
              have GW4 := hid (GW3.out.fr f (fun x => x))
              have XX4 := hid ((XX3.out).fr f)
              have GM4 := hid (GM3.out.fr f (fun x => x))
              have HW4 := hid ((HW3.out).fr f)
              have q0 := GW4.out.cell 0
              have q1 := GW4.out.cell 1
              have f0 := GW4.out.frozen 0
              have f1 := GW4.out.frozen 1
              clear f
              go_wp2
              refine fn_ret (x := .bool false) rfl rfl rfl ((GW4.out.set_ 0 _).set_ 1 _) rfl ?_
              exact sig_fin (o := none) (c1 := 0) (c2 := 0) _ _ HS.out (by omega) ⟨.inl rfl, .inl rfl⟩ F4.out rfl rfl
            · have dn : decide (4294967296 ≤ xn) = false := decide_eq_false hn
              have hp := HP.out
              rw [if_neg hn] at hp
              subst hp
              clear hn
              have hq := GW3.out.lt
              go_wp2_with (first | refine ldG Tryz.underlying82 HIX.out (rangeL GX3.out) HLX.out ?_ | refine ldG Tryz.underlying33 HIM.out (rangeL GM3.out) HLM.out ?_ | refine ldW Tryz.underlying82 HIX.out (rangeL GX3.out) HLX.out ?_)
              refine (fn39_any _ _ _ _ _ _ _).mono ?_
              rintro e W4 ⟨rfl, f⟩
              have F4 := hid ((F3.out.alloc _).trans f (fun _ _ h => h))
              have GX4 := hid ((GX3.out.alloc _).fr f (fun x => x))
              have GW4 := hid ((GW3.out.alloc _).fr f (fun x => x))
              have XX4 := hid ((XX3.out.fr (((Fr.refl No W3).alloc _))).fr f)
              have GM4 := hid ((GM3.out.alloc _).fr f (fun x => x))
              have HW4 := hid ((HW3.out.fr (((Fr.refl No W3).alloc _))).fr f)
              have q0 := GW4.out.cell 0
              have q1 := GW4.out.cell 1
              have f0 := GW4.out.frozen 0
              have f1 := GW4.out.frozen 1
              have FT : FnAt S ((w.heap.size + 1 + 1) + 1) W4 _ none (fnD (some ⟨[1], []⟩)) := ⟨lits_els (l := [1]) ((Blk.new _ 59 #[.int .i64 1]).fr f (fun x => x)) (by omega) (by intro y hy; simp only [List.mem_cons, List.not_mem_nil, or_false] at hy; rcases hy with rfl <;> first | decide | exact hv.out), .inl rfl⟩
              clear f
              go_wp2
              refine fn_ret (x := .bool true) rfl rfl rfl ((GW4.out.set_ 0 _).set_ 1 _) rfl ?_
              exact sig_fin (o := some ⟨[1], []⟩) _ _ HS.out (by omega) FT F4.out rfl rfl
  · have hp := HP.out
    rw [if_neg (by omega), if_pos h0] at hp
    rw [h0] at x0
    replace HP := hid hp
    have HZ1 := hid (HZ.out false true false false)
    generalize zeroB x false true false false = z at *
    clear hp HZ h0 HMM
    go_wp2_with (first | refine ldG Tryz.underlying82 HIX.out (rangeL GX0.out) HLX.out ?_ | refine ldG Tryz.underlying33 HIM.out (rangeL GM0.out) HLM.out ?_ | refine ldW Tryz.underlying82 HIX.out (rangeL GX0.out) HLX.out ?_)
    refine (HZ1.out _ XX0.out).mono ?_
    rintro e W1 ⟨rfl, f⟩
    have F1 := hid (F0.out.trans f (fun _ _ h => h))
    have GX1 := hid (GX0.out.fr f (fun x => x))
    have GW1 := hid (GW0.out.fr f (fun x => x))
    have XX1 := hid ((XX0.out).fr f)
    have GM1 := hid (GM0.out.fr f (fun x => x))
    have HW1 := hid ((HW0.out).fr f)
    clear f F0 GX0 GW0 XX0 GM0 HW0 HZ1 x0 hxl
    cases z with
    | false =>
      have hp := HP.out
      rw [if_neg (by decide)] at hp
      subst hp
      go_wp2_with (first | refine ldG Tryz.underlying82 HIX.out (rangeL GX1.out) HLX.out ?_ | refine ldG Tryz.underlying33 HIM.out (rangeL GM1.out) HLM.out ?_ | refine ldW Tryz.underlying82 HIX.out (rangeL GX1.out) HLX.out ?_)
      refine (none39_any _).mono ?_
      rintro e W2 ⟨rfl, f⟩
      have F2 := hid (F1.out.trans f (fun _ _ h => h))
      have GX2 := hid (GX1.out.fr f (fun x => x))
      have GW2 := hid (GW1.out.fr f (fun x => x))
      have XX2 := hid ((XX1.out).fr f)
      have GM2 := hid (GM1.out.fr f (fun x => x))
      have HW2 := hid ((HW1.out).fr f)
      have q0 := GW2.out.cell 0
      have q1 := GW2.out.cell 1
      have f0 := GW2.out.frozen 0
      have f1 := GW2.out.frozen 1
      clear f
      go_wp2
      refine fn_ret (x := .bool false) rfl rfl rfl ((GW2.out.set_ 0 _).set_ 1 _) rfl ?_
      exact sig_fin (o := none) (c1 := 0) (c2 := 0) _ _ HS.out (by omega) ⟨.inl rfl, .inl rfl⟩ F2.out rfl rfl
    | true =>
      have hp := HP.out
      rw [if_pos rfl] at hp
      subst hp
      have hxl := GX1.out.lt
      have x3 := GX1.out.at_ E3.out
      have HW9 := hid (HWN.out 63 0 x.b 0)
      clear HWN HO HL HOP
      have hq := GW1.out.lt
      go_wp2_with (first | refine ldG Tryz.underlying82 HIX.out (rangeL GX1.out) HLX.out ?_ | refine ldG Tryz.underlying33 HIM.out (rangeL GM1.out) HLM.out ?_ | refine ldW Tryz.underlying82 HIX.out (rangeL GX1.out) HLX.out ?_)
      refine (HW9.out _ HW1.out (by unfold OpOk; simp)).mono ?_
      rintro e W2 ⟨A1, c1, A2, c2, rfl, ft, f⟩
      have F2 := hid (F1.out.trans f (fun _ _ h => h))
      have GX2 := hid (GX1.out.fr f (fun x => x))
      have GW2 := hid (GW1.out.fr f (fun x => x))
      have XX2 := hid ((XX1.out).fr f)
      have GM2 := hid (GM1.out.fr f (fun x => x))
      have HW2 := hid ((HW1.out).fr f)
      have q0 := GW2.out.cell 0
      have q1 := GW2.out.cell 1
      have f0 := GW2.out.frozen 0
      have f1 := GW2.out.frozen 1
      have FT := hid (ft.more (S' := S) (B' := (w.heap.size + 1 + 1) + 1) (fun _ h => h) hq)
      clear f ft
      go_wp2
      refine fn_ret rfl rfl rfl ((GW2.out.set_ 0 _).set_ 1 _) rfl ?_
      exact sig_fin (o := _) _ _ HS.out (by omega) FT.out F2.out rfl rfl
  · have hp := HP.out
    rw [if_neg (by omega), if_neg (by omega), if_pos h0] at hp
    rw [h0] at x0
    replace HP := hid hp
    have HZ1 := hid (HZ.out false true false false)
    generalize zeroB x false true false false = z at *
    clear hp HZ h0 HMM
    go_wp2_with (first | refine ldG Tryz.underlying82 HIX.out (rangeL GX0.out) HLX.out ?_ | refine ldG Tryz.underlying33 HIM.out (rangeL GM0.out) HLM.out ?_ | refine ldW Tryz.underlying82 HIX.out (rangeL GX0.out) HLX.out ?_)
    refine (HZ1.out _ XX0.out).mono ?_
    rintro e W1 ⟨rfl, f⟩
    have F1 := hid (F0.out.trans f (fun _ _ h => h))
    have GX1 := hid (GX0.out.fr f (fun x => x))
    have GW1 := hid (GW0.out.fr f (fun x => x))
    have XX1 := hid ((XX0.out).fr f)
    have GM1 := hid (GM0.out.fr f (fun x => x))
    have HW1 := hid ((HW0.out).fr f)
    clear f F0 GX0 GW0 XX0 GM0 HW0 HZ1 x0 hxl
    cases z with
    | false =>
      have hp := HP.out
      rw [if_neg (by decide)] at hp
      subst hp
      go_wp2_with (first | refine ldG Tryz.underlying82 HIX.out (rangeL GX1.out) HLX.out ?_ | refine ldG Tryz.underlying33 HIM.out (rangeL GM1.out) HLM.out ?_ | refine ldW Tryz.underlying82 HIX.out (rangeL GX1.out) HLX.out ?_)
      refine (none39_any _).mono ?_
      rintro e W2 ⟨rfl, f⟩
      have F2 := hid (F1.out.trans f (fun _ _ h => h))
      have GX2 := hid (GX1.out.fr f (fun x => x))
      have GW2 := hid (GW1.out.fr f (fun x => x))
      have XX2 := hid ((XX1.out).fr f)
      have GM2 := hid (GM1.out.fr f (fun x => x))
      have HW2 := hid ((HW1.out).fr f)
      have q0 := GW2.out.cell 0
      have q1 := GW2.out.cell 1
      have f0 := GW2.out.frozen 0
      have f1 := GW2.out.frozen 1
      clear f
      go_wp2
      refine fn_ret (x := .bool false) rfl rfl rfl ((GW2.out.set_ 0 _).set_ 1 _) rfl ?_
      exact sig_fin (o := none) (c1 := 0) (c2 := 0) _ _ HS.out (by omega) ⟨.inl rfl, .inl rfl⟩ F2.out rfl rfl
    | true =>
      have hp := HP.out
      rw [if_pos rfl] at hp
      subst hp
      have hxl := GX1.out.lt
      have x3 := GX1.out.at_ E3.out
      have HW9 := hid (HWN.out 64 0 x.b 0)
      clear HWN HO HL HOP
      have hq := GW1.out.lt
      go_wp2_with (first | refine ldG Tryz.underlying82 HIX.out (rangeL GX1.out) HLX.out ?_ | refine ldG Tryz.underlying33 HIM.out (rangeL GM1.out) HLM.out ?_ | refine ldW Tryz.underlying82 HIX.out (rangeL GX1.out) HLX.out ?_)
      refine (HW9.out _ HW1.out (by unfold OpOk; simp)).mono ?_
      rintro e W2 ⟨A1, c1, A2, c2, rfl, ft, f⟩
      have F2 := hid (F1.out.trans f (fun _ _ h => h))
      have GX2 := hid (GX1.out.fr f (fun x => x))
      have GW2 := hid (GW1.out.fr f (fun x => x))
      have XX2 := hid ((XX1.out).fr f)
      have GM2 := hid (GM1.out.fr f (fun x => x))
      have HW2 := hid ((HW1.out).fr f)
      have q0 := GW2.out.cell 0
      have q1 := GW2.out.cell 1
      have f0 := GW2.out.frozen 0
      have f1 := GW2.out.frozen 1
      have FT := hid (ft.more (S' := S) (B' := (w.heap.size + 1 + 1) + 1) (fun _ h => h) hq)
      clear f ft
      go_wp2
      refine fn_ret rfl rfl rfl ((GW2.out.set_ 0 _).set_ 1 _) rfl ?_
      exact sig_fin (o := _) _ _ HS.out (by omega) FT.out F2.out rfl rfl
end Go.Proofs.YtiafkakkbbclhaaGreat
