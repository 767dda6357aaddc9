/- A region that draws its order, walked in one order: operations that only read may come up at any time. No condition. -/
import Derived.OrdersHeld
import Derived.Deep.RegionHeld3
namespace Go.Proofs.Ythggdemiddjlgaa
open Go

section
variable {P : Program} {ops : Array Oper} {Q : Exit → Act → World → Prop} {md : Region.Mode} {S : World → Prop}

/-- What an operation that only reads comes to: a value in the same world, or a call that returns the value and leaves the world as it was. -/
def stillUpon (P : Program) (w : World) (v : Value) : Result Next → Prop
  | .ok (.value u) w' => w' = w ∧ u = v
  | .ok (.enter f args) w' => w' = w ∧ Calls P f args w (fun e w'' => e = .returned v ∧ w'' = w)
  | _ => False

def YieldsQ (P : Program) (ops : Array Oper) (S : World → Prop) (o : Oper) (v : Value) (a : Act) : Prop :=
  (Region.wanted o (yielded ops a.tmps) = true ∧ ∀ w, S w → stillUpon P w v ((execOp a.eval o).run P w)) ∨
  (Region.wanted o (yielded ops a.tmps) = false ∧ v = undef)

theorem YieldsQ.wpOp {i : Nat} {o : Oper} {v : Value} {a : Act} (hi : ops[i]? = some o) (hy : YieldsQ P ops S o v a)
    {K : Act → World → Prop} {w : World} (hS : S w) (h : K (a.put o.dst v) w) : wpOp P ops Q i K a w := by
  unfold Go.wpOp
  simp only [hi]
  rcases hy with ⟨hw, hv⟩ | ⟨hw, rfl⟩
  · simp only [hw, if_true]
    refine .inl ?_
    have h1 := hv w hS
    unfold Oper.wp
    generalize (execOp a.eval o).run P w = r at *
    cases r with
    | ok n w' =>
      cases n <;> simp only [stillUpon] at h1 <;> simp only [Oper.upon]
      case value u => obtain ⟨rfl, rfl⟩ := h1; exact h
      case enter f args =>
        obtain ⟨rfl, h2⟩ := h1
        exact h2.mono fun e w'' ⟨he, hw''⟩ => by subst he; subst hw''; exact h
    | halt x w' => simp only [stillUpon] at h1
  · simp only [hw, Bool.false_eq_true, if_false]; exact h

theorem YieldsQ.of_same {o : Oper} {v : Value} {a a' : Act} (hy : YieldsQ P ops S o v a) (he : execOp a'.eval o = execOp a.eval o)
    (hw : Region.wanted o (yielded ops a'.tmps) = Region.wanted o (yielded ops a.tmps)) : YieldsQ P ops S o v a' := by
  unfold YieldsQ at *
  rw [he, hw]
  exact hy

theorem wpOp_putQ {j : Nat} {oi oj : Oper} {v : Value} (hj : ops[j]? = some oj) (hap : oi.apart ops oj = true)
    (hsi : ∀ cs b, oi.op ≠ .select cs b) (hsj : ∀ cs b, oj.op ≠ .select cs b)
    (hQ : ∀ c a w, Q (.panic c) (a.put oi.dst v) w → Q (.panic c) a w) {K : Act → World → Prop} {a : Act} {w : World}
    (hy : YieldsQ P ops S oi v a) (h : wpOp P ops Q j K (a.put oi.dst v) w) :
    wpOp P ops Q j (fun a' w' => YieldsQ P ops S oi v a' ∧ K (a'.put oi.dst v) w') a w := by
  obtain ⟨h1, h2, h3⟩ := Oper.apart_spec hap
  have keep : ∀ (a : Act), YieldsQ P ops S oi v a → ∀ u, YieldsQ P ops S oi v (a.put oj.dst u) := fun a hy u =>
    hy.of_same (execOp_put oi hsi a oj.dst u h3) (wanted_put oi a oj.dst u h3)
  have keepD : ∀ d, YieldsQ P ops S oi v { a with defers := d :: a.defers } := fun d => hy.of_same rfl rfl
  unfold wpOp at *
  simp only [hj] at *
  rw [wanted_put oj a oi.dst v h1] at h
  split
  · rename_i hw
    simp only [hw, if_true] at h
    rcases h with h | ⟨hasks, hlets⟩
    case inr => exact .inr ⟨by unfold Oper.asks at *; rw [execOp_put oj hsj a oi.dst v h1] at hasks; exact hasks, hlets⟩
    refine .inl ?_
    unfold Oper.wp at *
    rw [execOp_put oj hsj a oi.dst v h1] at h
    generalize (execOp a.eval oj).run P w = r at *
    cases r with
    | ok n w' =>
      cases n <;> simp only [Oper.upon] at h ⊢
      case value u => exact ⟨keep a hy u, by rw [← Act.put_comm a v u h2]; exact h⟩
      case skip => exact ⟨keep a hy _, by rw [← Act.put_comm a v undef h2]; exact h⟩
      case defer d =>
        refine ⟨keep _ (keepD d) _, ?_⟩
        rw [← Act.put_comm _ v undef h2, ← Act.put_defers]
        exact h
      case enter f args =>
        refine Calls.mono h fun e w'' he => ?_
        cases e with
        | returned u => exact ⟨keep a hy u, by rw [← Act.put_comm a v u h2]; exact he⟩
        | panicked c => exact hQ _ _ _ he
        | outgrown => exact he
      case row row args => exact Rows.mono h fun u w'' he => ⟨keep a hy u, by rw [← Act.put_comm a v u h2]; exact he⟩
    | halt x w' =>
      cases x <;> simp only [Oper.upon] at h ⊢
      case panic u => exact hQ _ _ _ h
  · rename_i hw
    simp only [hw] at h
    exact ⟨keep a hy _, by rw [← Act.put_comm a v undef h2]; exact h⟩

def clo (md : Region.Mode) (ops : Array Oper) (L : Array Bool) : Prop :=
  ∀ (j : Nat) (oj : Oper), ops[j]? = some oj → L.getD j false = true → ∀ e ∈ oj.after, Region.binds md e = true → L.getD e.on false = true

theorem clo_set {L : Array Bool} {i : Nat} (h : clo md ops L) (hi : i ∈ Region.ready md ops L) : clo md ops (L.setIfInBounds i true) := by
  obtain ⟨_, oi, hoi, hall⟩ := mem_ready.1 hi
  intro j oj hj hl e he hb
  by_cases hij : i = j
  · subst hij
    have : oj = oi := Option.some.inj (hj.symm.trans hoi)
    subst this
    exact getD_set_true (hall e he hb)
  · rw [getD_set_ne false hij] at hl
    exact getD_set_true (h j oj hj hl e he hb)

/-- S, as long as none of 'fins' has come up. -/
def SL (S : World → Prop) (fins : List Nat) (L : Array Bool) (w : World) : Prop := (∀ f ∈ fins, L.getD f false = false) → S w

def wpAnyL (P : Program) (md : Region.Mode) (ops : Array Oper) (Q : Exit → Act → World → Prop) (S : World → Prop) (fins : List Nat) : Nat → Array Bool → Act → World → Prop
  | 0, L, a, w => Region.ready md ops L = [] ∧ Q .normal a w
  | fuel + 1, L, a, w =>
    (Region.ready md ops L = [] → Q .normal a w) ∧
    ∀ i ∈ Region.ready md ops L, wpOp P ops Q i (fun a' w' => SL S fins (L.setIfInBounds i true) w' ∧ wpAnyL P md ops Q S fins fuel (L.setIfInBounds i true) a' w') a w

theorem wpAny_of_L {fins : List Nat} : ∀ (fuel : Nat) (L : Array Bool) (a : Act) (w : World), wpAnyL P md ops Q S fins fuel L a w → wpAny P md ops Q fuel L a w
  | 0, _, _, _, h => h
  | fuel + 1, _, _, _, h => ⟨h.1, fun i hi => wpOp_mono (fun a' w' h' => wpAny_of_L fuel _ a' w' h'.2) (h.2 i hi)⟩

theorem SL_set {fins : List Nat} {L : Array Bool} {w : World} (i : Nat) (h : SL S fins L w) : SL S fins (L.setIfInBounds i true) w := by
  intro hf
  refine h fun f hfm => ?_
  have h1 := hf f hfm
  cases h2 : L.getD f false with
  | false => rfl
  | true => rw [getD_set_true h2] at h1; cases h1

theorem SL_unset {fins : List Nat} {L : Array Bool} {w : World} {i : Nat} (hi : i ∉ fins) (h : SL S fins (L.setIfInBounds i true) w) : SL S fins L w := by
  intro hf
  refine h fun f hfm => ?_
  rw [getD_set_ne false (show i ≠ f from fun e => hi (by rw [e]; exact hfm))]
  exact hf f hfm

theorem wpAnyL_first {fins : List Nat} {i : Nat} {oi : Oper} {v : Value} (hi : ops[i]? = some oi) (hsel : ∀ (j : Nat) (o : Oper) cs b, ops[j]? = some o → o.op ≠ .select cs b)
    (hQ : ∀ c a w, Q (.panic c) (a.put oi.dst v) w → Q (.panic c) a w) (hif : i ∉ fins) (hwait : ∀ f ∈ fins, ∀ L, clo md ops L → L.getD f false = true → L.getD i false = true) :
    ∀ (fuel : Nat) (L : Array Bool) (a : Act) (w : World), clo md ops L →
      (∀ j oj, ops[j]? = some oj → j ≠ i → L.getD j true = false → (∀ e ∈ oj.after, Region.binds md e = true → e.on ≠ i) → oi.apart ops oj = true) →
      i ∈ Region.ready md ops L → YieldsQ P ops S oi v a → SL S fins L w →
      wpAnyL P md ops Q S fins fuel (L.setIfInBounds i true) (a.put oi.dst v) w → wpAnyL P md ops Q S fins (fuel + 1) L a w := by
  have key : ∀ L w, clo md ops L → i ∈ Region.ready md ops L → SL S fins L w → S w := by
    intro L w hc hr h
    refine h fun f hf => ?_
    cases h2 : L.getD f false with
    | false => rfl
    | true =>
      have h3 := hwait f hf L hc h2
      have h4 := (mem_ready.1 hr).1
      rcases Nat.lt_or_ge i L.size with h' | h'
      · simp [h'] at h3 h4; rw [h4] at h3; cases h3
      · simp [Array.getElem?_eq_none h'] at h3
  intro fuel
  induction fuel with
  | zero =>
    intro L a w hc _ hr hy hS H
    refine ⟨fun h => (by rw [h] at hr; cases hr), fun j hj => ?_⟩
    by_cases hji : j = i
    · subst hji; exact hy.wpOp hi (key L w hc hr hS) ⟨SL_set _ hS, H⟩
    · have := ready_mono hj hji
      rw [H.1] at this
      cases this
  | succ fuel ih =>
    intro L a w hc hfree hr hy hS H
    refine ⟨fun h => (by rw [h] at hr; cases hr), fun j hj => ?_⟩
    by_cases hji : j = i
    · subst hji; exact hy.wpOp hi (key L w hc hr hS) ⟨SL_set _ hS, H⟩
    · have h1 := H.2 j (ready_mono hj hji)
      obtain ⟨hjun, oj, hoj, hall⟩ := mem_ready.1 hj
      have hnot : ∀ e ∈ oj.after, Region.binds md e = true → e.on ≠ i := fun e he hb heq => by
        have h1 := hall e he hb
        have h0 := (mem_ready.1 hr).1
        rw [heq] at h1
        rcases Nat.lt_or_ge i L.size with h' | h'
        · simp [h'] at h0 h1; rw [h0] at h1; cases h1
        · simp [Array.getElem?_eq_none h'] at h1
      have h2 := wpOp_putQ hoj (hfree j oj hoj hji hjun hnot) (fun cs b => hsel i oi cs b hi) (fun cs b => hsel j oj cs b hoj) hQ hy h1
      have hfree' : ∀ k ok, ops[k]? = some ok → k ≠ i → (L.setIfInBounds j true).getD k true = false →
          (∀ e ∈ ok.after, Region.binds md e = true → e.on ≠ i) → oi.apart ops ok = true := fun k ok hk hki hun hno => by
        refine hfree k ok hk hki ?_ hno
        by_cases hjk : j = k
        · subst hjk; exact hjun
        · rw [getD_set_ne true hjk] at hun; exact hun
      refine wpOp_mono (fun a' w' h3 => ?_) h2
      have h4 : SL S fins (L.setIfInBounds j true) w' := by
        refine SL_unset (i := i) hif ?_
        rw [← Array.setIfInBounds_comm _ _ (Ne.symm hji)]
        exact h3.2.1
      refine ⟨h4, ih (L.setIfInBounds j true) a' w' (clo_set hc hj) hfree' (ready_mono hr (Ne.symm hji)) h3.1 h4 ?_⟩
      rw [Array.setIfInBounds_comm _ _ hji]
      exact h3.2.2

/-- Which operations come before f, in whatever order. -/
def ancs (md : Region.Mode) (ops : Array Oper) (f : Nat) : Array Bool :=
  (List.range (f + 1)).reverse.foldl (fun m j => if m.getD j false then (match ops[j]? with
    | some o => o.after.toList.foldl (fun m e => if Region.binds md e then m.setIfInBounds e.on true else m) m
    | none => m) else m) ((Array.replicate ops.size false).setIfInBounds f true)

theorem set_true_only {m : Array Bool} {i k : Nat} (h : (m.setIfInBounds i true).getD k false = true) : k = i ∨ m.getD k false = true := by
  by_cases e : i = k
  · exact .inl e.symm
  · rw [getD_set_ne false e] at h; exact .inr h

theorem ancs_spec {f : Nat} {L : Array Bool} (hc : clo md ops L) (hf : L.getD f false = true) : ∀ k, (ancs md ops f).getD k false = true → L.getD k false = true := by
  have inner : ∀ (l : List Edge) (m : Array Bool), (∀ e ∈ l, Region.binds md e = true → L.getD e.on false = true) → (∀ k, m.getD k false = true → L.getD k false = true) →
      ∀ k, (l.foldl (fun m e => if Region.binds md e then m.setIfInBounds e.on true else m) m).getD k false = true → L.getD k false = true := by
    intro l
    induction l with
    | nil => intro m _ hm k hk; exact hm k hk
    | cons e l ih =>
      intro m he hm k hk
      simp only [List.foldl_cons] at hk
      refine ih _ (fun e' he' hb => he e' (by simp [he']) hb) ?_ k hk
      intro k' hk'
      split at hk'
      · rename_i hb
        rcases set_true_only hk' with rfl | h
        · exact he e (by simp) hb
        · exact hm k' h
      · exact hm k' hk'
  have outer : ∀ (l : List Nat) (m : Array Bool), (∀ k, m.getD k false = true → L.getD k false = true) →
      ∀ k, (l.foldl (fun m j => if m.getD j false then (match ops[j]? with
        | some o => o.after.toList.foldl (fun m e => if Region.binds md e then m.setIfInBounds e.on true else m) m
        | none => m) else m) m).getD k false = true → L.getD k false = true := by
    intro l
    induction l with
    | nil => intro m hm k hk; exact hm k hk
    | cons j l ih =>
      intro m hm k hk
      simp only [List.foldl_cons] at hk
      refine ih _ ?_ k hk
      intro k' hk'
      split at hk'
      · rename_i hj
        split at hk'
        · rename_i o ho
          exact inner _ m (fun e he hb => hc j o ho (hm j hj) e (by simpa using he) hb) hm k' hk'
        · exact hm k' hk'
      · exact hm k' hk'
  intro k hk
  refine outer _ _ ?_ k hk
  intro k' hk'
  rcases set_true_only hk' with rfl | h
  · exact hf
  · rw [Array.getD_eq_getD_getElem?] at h
    rcases Nat.lt_or_ge k' ops.size with h' | h'
    · simp [h'] at h
    · simp [h'] at h

def ordOk (md : Region.Mode) (ops : Array Oper) (fins : List Nat) : List (Nat × Bool) → Array Bool → Bool
  | [], L => (Region.ready md ops L).isEmpty
  | (i, true) :: r, L => Region.free md ops L i && (Region.ready md ops L).contains i && !fins.contains i && fins.all (fun f => (ancs md ops f).getD i false) && ordOk md ops fins r (L.setIfInBounds i true)
  | (i, false) :: r, L => (Region.ready md ops L == [i]) && ordOk md ops fins r (L.setIfInBounds i true)

/-- The walk: number and kind (true: it only reads). -/
def wpO (P : Program) (ops : Array Oper) (Q : Exit → Act → World → Prop) (S : World → Prop) (fins : List Nat) : Bool → List (Nat × Bool) → Act → World → Prop
  | _, [], a, w => Q .normal a w
  | d, (i, true) :: r, a, w => ∃ o, ops[i]? = some o ∧ ∃ v, YieldsQ P ops S o v a ∧ wpO P ops Q S fins d r (a.put o.dst v) w
  | d, (i, false) :: r, a, w => wpOp P ops Q i (fun a' w' => ((d || fins.contains i) = false → S w') ∧ wpO P ops Q S fins (d || fins.contains i) r a' w') a w

theorem wpAnyL_of_O {fins : List Nat} (hsel : Region.noSelect ops = true) (hQ : ∀ c a a' w, Q (.panic c) a w → Q (.panic c) a' w) : ∀ (ord : List (Nat × Bool)) (d : Bool) (L : Array Bool) (a : Act) (w : World),
    clo md ops L → ordOk md ops fins ord L = true → (d = true → ∃ f ∈ fins, L.getD f false = true) → SL S fins L w → wpO P ops Q S fins d ord a w → wpAnyL P md ops Q S fins ord.length L a w
  | [], d, L, a, w, _, ho, _, _, h => ⟨by simpa [ordOk] using ho, h⟩
  | (i, true) :: r, d, L, a, w, hc, ho, hd, hS, h => by
    obtain ⟨o, hi, v, hy, hn⟩ := h
    simp only [ordOk, Bool.and_eq_true] at ho
    obtain ⟨⟨⟨⟨h1, h2⟩, h3⟩, h4⟩, h5⟩ := ho
    have hr : i ∈ Region.ready md ops L := by simpa using h2
    have hif : i ∉ fins := by simpa using h3
    refine wpAnyL_first hi (Region.noSelect_spec hsel) (fun c a w hq => hQ c _ _ _ hq) hif ?_ r.length L a w hc (Region.free_spec hi h1) hr hy hS ?_
    · intro f hf L' hc' hl'
      exact ancs_spec hc' hl' i (List.all_eq_true.1 h4 f hf)
    · exact wpAnyL_of_O hsel hQ r d _ _ w (clo_set hc hr) h5 (fun hdt => by obtain ⟨f, hf, hl⟩ := hd hdt; exact ⟨f, hf, getD_set_true hl⟩) (SL_set _ hS) hn
  | (i, false) :: r, d, L, a, w, hc, ho, hd, hS, h => by
    simp only [ordOk, Bool.and_eq_true, beq_iff_eq] at ho
    obtain ⟨h1, h2⟩ := ho
    have hr : i ∈ Region.ready md ops L := by rw [h1]; simp
    refine ⟨fun h0 => (by rw [h0] at h1; cases h1), fun j hj => ?_⟩
    rw [h1] at hj
    have hji : j = i := by simpa using hj
    subst hji
    refine wpOp_mono (fun a' w' ⟨k1, k2⟩ => ?_) h
    have hin : (L.setIfInBounds j true).getD j false = true := by
      obtain ⟨h0, _⟩ := mem_ready.1 hr
      rcases Nat.lt_or_ge j L.size with h' | h'
      · simp [h']
      · simp [Array.getElem?_eq_none h'] at h0
    have hSL : SL S fins (L.setIfInBounds j true) w' := by
      intro hf
      refine k1 ?_
      cases hd' : d with
      | true =>
        obtain ⟨f, hfm, hl⟩ := hd hd'
        have := hf f hfm
        rw [getD_set_true hl] at this; cases this
      | false =>
        cases hcj : fins.contains j with
        | false => rfl
        | true =>
          have := hf j (by simpa using hcj)
          rw [hin] at this; cases this
    refine ⟨hSL, wpAnyL_of_O hsel hQ r _ _ a' w' (clo_set hc hr) h2 ?_ hSL k2⟩
    intro hdt
    cases hd' : d with
    | true => obtain ⟨f, hfm, hl⟩ := hd hd'; exact ⟨f, hfm, getD_set_true hl⟩
    | false => rw [hd'] at hdt; exact ⟨j, by simpa using hdt, hin⟩

theorem wp_region_ord {id : Nat} {a : Act} {w : World} {l : List Oper} (S : World → Prop) (fins : List Nat) (ord : List (Nat × Bool)) (hm : P.follows .mixedOrders = true) (hs : Region.noSelect l.toArray = true)
    (ho : ordOk .any l.toArray fins ord (Array.replicate l.toArray.size false) = true) (hl : ord.length = l.length) (hS : S w.drew) (h : wpO P l.toArray (NoPanic Q) S fins false ord a w.drew) :
    (Code.region id l.toArray true).wp P Q a w := by
  refine wp_region_noPanic (wp_region_any hm ?_)
  have hc : clo .any l.toArray (Array.replicate l.toArray.size false) := by
    intro j oj _ hl
    rw [Array.getD_eq_getD_getElem?] at hl
    rcases Nat.lt_or_ge j l.toArray.size with h' | h'
    · simp at h'; simp [h'] at hl
    · simp at h'; simp [h'] at hl
  have := wpAnyL_of_O (Q := NoPanic Q) (S := S) hs (fun _ _ _ _ h => h) ord false _ a w.drew hc ho (fun h => by cases h) (fun _ => hS) h
  rw [hl] at this
  have h2 := wpAny_of_L _ _ _ _ this
  simpa using h2

theorem wpO_nil {d : Bool} {fins : List Nat} {a : Act} {w : World} (h : Q .normal a w) : wpO P ops (NoPanic Q) S fins d [] a w := h
theorem wpO_skip {d : Bool} {fins : List Nat} {i : Nat} {o : Oper} {r : List (Nat × Bool)} {a : Act} {w : World} (ho : ops[i]? = some o) (hw : Region.wanted o (yielded ops a.tmps) = false)
    (h : wpO P ops Q S fins d r (a.put o.dst undef) w) : wpO P ops Q S fins d ((i, true) :: r) a w := ⟨o, ho, undef, .inr ⟨hw, rfl⟩, h⟩
theorem wpO_call {d : Bool} {fins : List Nat} {i : Nat} {o : Oper} {r : List (Nat × Bool)} {a : Act} {w : World} (ho : ops[i]? = some o) (hw : Region.wanted o (yielded ops a.tmps) = true)
    (h : ∃ v, (∀ X, S X → stillUpon P X v ((execOp a.eval o).run P X)) ∧ wpO P ops Q S fins d r (a.put o.dst v) w) : wpO P ops Q S fins d ((i, true) :: r) a w := by
  obtain ⟨v, h1, h2⟩ := h
  exact ⟨o, ho, v, .inl ⟨hw, h1⟩, h2⟩
theorem stillUpon_value {w : World} {v : Value} : stillUpon P w v (.ok (.value v) w) := ⟨rfl, rfl⟩
theorem stillUpon_enter {w : World} {v : Value} {f : FuncId} {args : Array Value} (h : Calls P f args w (fun e w'' => e = .returned v ∧ w = w'')) : stillUpon P w v (.ok (.enter f args) w) :=
  ⟨rfl, h.mono fun _ _ ⟨h1, h2⟩ => ⟨h1, h2.symm⟩⟩
theorem wpO_still {d : Bool} {fins : List Nat} {i : Nat} {o : Oper} {r : List (Nat × Bool)} {a : Act} {w : World} {v : Value} (ho : ops[i]? = some o) (hw : Region.wanted o (yielded ops a.tmps) = true)
    (hy : ∀ X, S X → (execOp a.eval o).run P X = .ok (.value v) X) (h : wpO P ops Q S fins d r (a.put o.dst v) w) : wpO P ops Q S fins d ((i, true) :: r) a w := ⟨o, ho, v, .inl ⟨hw, fun X hX => by rw [hy X hX]; exact ⟨rfl, rfl⟩⟩, h⟩
theorem wpO_read {d : Bool} {fins : List Nat} {i : Nat} {o : Oper} {r : List (Nat × Bool)} {a : Act} {w : World} (ho : ops[i]? = some o) (hw : Region.wanted o (yielded ops a.tmps) = true)
    (h : ∃ v, (∀ X, S X → (execOp a.eval o).run P X = .ok (.value v) X) ∧ wpO P ops Q S fins d r (a.put o.dst v) w) : wpO P ops Q S fins d ((i, true) :: r) a w := by
  obtain ⟨v, h1, h2⟩ := h
  exact wpO_still ho hw h1 h2
theorem wpO_skipE {d : Bool} {fins : List Nat} {i : Nat} {o : Oper} {r : List (Nat × Bool)} {a : Act} {w : World} (ho : ops[i]? = some o) (hw : Region.wanted o (yielded ops a.tmps) = false) (hS : S w)
    (h : wpO P ops Q S fins (d || fins.contains i) r (a.put o.dst undef) w) : wpO P ops Q S fins d ((i, false) :: r) a w := by
  show wpOp P ops Q i _ a w
  unfold wpOp
  simp only [ho, hw]
  exact ⟨fun _ => hS, h⟩
theorem wpO_eff {d : Bool} {fins : List Nat} {i : Nat} {o : Oper} {r : List (Nat × Bool)} {a : Act} {w : World} (ho : ops[i]? = some o) (hw : Region.wanted o (yielded ops a.tmps) = true)
    (h : ∀ K : Act → World → Prop, (∀ a' w', ((d || fins.contains i) = false → S w') → wpO P ops Q S fins (d || fins.contains i) r a' w' → K a' w') → o.wp P a w K Q) : wpO P ops Q S fins d ((i, false) :: r) a w := by
  show wpOp P ops Q i _ a w
  unfold wpOp
  simp only [ho, hw, if_true]
  exact .inl (h _ fun a' w' h1 h2 => ⟨h1, h2⟩)
end
end Go.Proofs.Ythggdemiddjlgaa
